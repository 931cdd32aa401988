import Derived.Test.YtcgajpdhbanhaaaGreatEvSr
import Derived.Test.YtcgajpdhbanhaaaGreatEvT
import Derived.Test.YtcgajpdhbanhaaaGreatWideA
namespace Go.Ev
open Go.Proofs
set_option linter.unusedVariables false
set_option linter.unusedSimpArgs false
set_option maxRecDepth 100000
noncomputable def ch_f_wide_half : CH := CH.none
theorem ch_f_wide_half_ok : CHOk Tryz.prog ch_f_wide_half := CH.none_ok
noncomputable def f_wide_half (a0 : Int) (a1 : Int) (a2 : Int) (a3 : Int) (a4 : Int) (a5 : Int) (a6 : Int) (a7 : Int) : Option (Int × Int × Int × Int × Int × Int × Int × Int) :=
  (some ((ior .u64 (ishr .u64 a0 1) (ishl .u64 a1 63)), (ior .u64 (ishr .u64 a1 1) (ishl .u64 a2 63)), (ior .u64 (ishr .u64 a2 1) (ishl .u64 a3 63)), (ior .u64 (ishr .u64 a3 1) (ishl .u64 a4 63)), (ior .u64 (ishr .u64 a4 1) (ishl .u64 a5 63)), (ior .u64 (ishr .u64 a5 1) (ishl .u64 a6 63)), (ior .u64 (ishr .u64 a6 1) (ishl .u64 a7 63)), (ishr .u64 a7 1)))
def f_wide_half_d : FD where
  X := Int × Int × Int × Int × Int × Int × Int × Int
  k := 0
  pre := []
  F := fun s => []
  M := .agg [.int .u64, .int .u64, .int .u64, .int .u64, .int .u64, .int .u64, .int .u64, .int .u64]
  B := []
  toL := fun x => [.I x.1, .I x.2.1, .I x.2.2.1, .I x.2.2.2.1, .I x.2.2.2.2.1, .I x.2.2.2.2.2.1, .I x.2.2.2.2.2.2.1, .I x.2.2.2.2.2.2.2]
  ofL := fun ls => match ls with
    | [.I x0, .I x1, .I x2, .I x3, .I x4, .I x5, .I x6, .I x7] => some (x0, x1, x2, x3, x4, x5, x6, x7)
    | _ => none
  ofL_ok := fun ls x h => by
    split at h
    · cases h; rfl
    · cases h
theorem f_wide_half_sem (a0 : Int) (a1 : Int) (a2 : Int) (a3 : Int) (a4 : Int) (a5 : Int) (a6 : Int) (a7 : Int) (x : Int × Int × Int × Int × Int × Int × Int × Int) (h : f_wide_half a0 a1 a2 a3 a4 a5 a6 a7 = some x) : IsFn Tryz.prog 361 ∧ SemCall Tryz.prog 361 [.agg [.int .u64 a0, .int .u64 a1, .int .u64 a2, .int .u64 a3, .int .u64 a4, .int .u64 a5, .int .u64 a6, .int .u64 a7]] ⟨0, numB 0 []⟩ (.ret (f_wide_half_d.val x)) ⟨0 + (f_wide_half_d.blks x).length, numB 0 (f_wide_half_d.blks x)⟩ :=
  FD.sem (ch := ch_f_wide_half) (A := noAnns) (fn := Tryz.f361) (c := bodyOf Tryz.f361) (fuel := 60) tab_ok ch_f_wide_half_ok mixed noNum f_wide_half_d Tryz.func361 (by kernel_rfl) (loops_ok (l := [loopAt Tryz.f361 0]) (by kernel_rfl) ⟨(ann_none (by kernel_rfl)), trivial⟩)
    (by kernel_rfl) (Eq.trans (by kernel_rfl) h)
noncomputable def h_wide_half : HK where
  call := fun args σ k => match args with
    | [.agg [.int .u64 a0, .int .u64 a1, .int .u64 a2, .int .u64 a3, .int .u64 a4, .int .u64 a5, .int .u64 a6, .int .u64 a7]] => Option.bind (f_wide_half a0 a1 a2 a3 a4 a5 a6 a7) fun y => retK σ 0 (f_wide_half_d.val y) (f_wide_half_d.blks y) k
    | _ => none
  nat := fun args σ k => by
    repeat' split
    all_goals simp only [lendK_nat, Option.bind_assoc, Option.bind_none, retK, Option.bind_some]
  pure := true
  pok := fun _ args σ r σ' h => by
    split at h
    · exact pure_of h (fun y => rfl) (fun y f => rfl)
    · cases h
theorem h_wide_half_ok : HKOk Tryz.prog 361 h_wide_half := by
  intro args σ r σ' h
  simp only [h_wide_half] at h
  split at h
  · rename_i a0 a1 a2 a3 a4 a5 a6 a7
    obtain ⟨y, hy, h⟩ := Option.bind_eq_some_iff.1 h
    exact lifted (xs := []) (ls := []) (cargs := [.agg [.int .u64 a0, .int .u64 a1, .int .u64 a2, .int .u64 a3, .int .u64 a4, .int .u64 a5, .int .u64 a6, .int .u64 a7]]) (Lent.of trivial) rfl (f_wide_half_sem a0 a1 a2 a3 a4 a5 a6 a7 y hy) rfl rfl rfl rfl h
  · cases h
end Go.Ev

namespace Go.Ev
open Go.Proofs
set_option linter.unusedVariables false
set_option linter.unusedSimpArgs false
set_option maxRecDepth 100000
noncomputable def ch_f_wide_left : CH := CH.none
theorem ch_f_wide_left_ok : CHOk Tryz.prog ch_f_wide_left := CH.none_ok
noncomputable def f_wide_left_L3k {R : Type} (cc : Int × List AVal × Nat × List AVal × Nat × Nat) (v : List AVal × Int) (kn : (List AVal × Int) → Option R) (ke : ((List AVal)) → Option R) : Option R :=
  (cond (decide (v.2 < 8)) (need (decide (0 ≤ (IntKind.wrap .i64 (v.2 - (IntKind.wrap .i64 (Int.tdiv cc.1 64))))) && decide ((IntKind.wrap .i64 (v.2 - (IntKind.wrap .i64 (Int.tdiv cc.1 64)))) < ((8 : Nat) : Int))) (need (rowOk [.int .u64] cc.2.1 (0 + (Int.toNat (IntKind.wrap .i64 (v.2 - (IntKind.wrap .i64 (Int.tdiv cc.1 64)))) * 1))) (need (!decide ((Int.tmod cc.1 64) < 0)) (need (decide (0 ≤ v.2) && decide (v.2 < ((8 : Nat) : Int))) (need (decide ((0 + (Int.toNat v.2 * 1)) + 1 ≤ List.length v.1)) (cond (decide ((Int.tmod cc.1 64) > 0)) (cond (decide (v.2 > (IntKind.wrap .i64 (Int.tdiv cc.1 64)))) (need (decide (0 ≤ v.2) && decide (v.2 < ((8 : Nat) : Int))) (need (rowOk [.int .u64] (spliced v.1 (0 + (Int.toNat v.2 * 1)) [.int .u64 (ishl .u64 (geti cc.2.1 ((0 + (Int.toNat (IntKind.wrap .i64 (v.2 - (IntKind.wrap .i64 (Int.tdiv cc.1 64)))) * 1)) + 0)) (Int.tmod cc.1 64))]) (0 + (Int.toNat v.2 * 1))) (need (decide (0 ≤ (IntKind.wrap .i64 ((IntKind.wrap .i64 (v.2 - (IntKind.wrap .i64 (Int.tdiv cc.1 64)))) - 1))) && decide ((IntKind.wrap .i64 ((IntKind.wrap .i64 (v.2 - (IntKind.wrap .i64 (Int.tdiv cc.1 64)))) - 1)) < ((8 : Nat) : Int))) (need (rowOk [.int .u64] cc.2.1 (0 + (Int.toNat (IntKind.wrap .i64 ((IntKind.wrap .i64 (v.2 - (IntKind.wrap .i64 (Int.tdiv cc.1 64)))) - 1)) * 1))) (need (!decide ((IntKind.wrap .i64 (64 - (Int.tmod cc.1 64))) < 0)) (need (decide (0 ≤ v.2) && decide (v.2 < ((8 : Nat) : Int))) (need (decide ((0 + (Int.toNat v.2 * 1)) + 1 ≤ List.length (spliced v.1 (0 + (Int.toNat v.2 * 1)) [.int .u64 (ishl .u64 (geti cc.2.1 ((0 + (Int.toNat (IntKind.wrap .i64 (v.2 - (IntKind.wrap .i64 (Int.tdiv cc.1 64)))) * 1)) + 0)) (Int.tmod cc.1 64))]))) (kn ((spliced (spliced v.1 (0 + (Int.toNat v.2 * 1)) [.int .u64 (ishl .u64 (geti cc.2.1 ((0 + (Int.toNat (IntKind.wrap .i64 (v.2 - (IntKind.wrap .i64 (Int.tdiv cc.1 64)))) * 1)) + 0)) (Int.tmod cc.1 64))]) (0 + (Int.toNat v.2 * 1)) [.int .u64 (ior .u64 (geti (spliced v.1 (0 + (Int.toNat v.2 * 1)) [.int .u64 (ishl .u64 (geti cc.2.1 ((0 + (Int.toNat (IntKind.wrap .i64 (v.2 - (IntKind.wrap .i64 (Int.tdiv cc.1 64)))) * 1)) + 0)) (Int.tmod cc.1 64))]) ((0 + (Int.toNat v.2 * 1)) + 0)) (ishr .u64 (geti cc.2.1 ((0 + (Int.toNat (IntKind.wrap .i64 ((IntKind.wrap .i64 (v.2 - (IntKind.wrap .i64 (Int.tdiv cc.1 64)))) - 1)) * 1)) + 0)) (IntKind.wrap .i64 (64 - (Int.tmod cc.1 64)))))]), (IntKind.wrap .i64 (v.2 + 1))))))))))) (kn ((spliced v.1 (0 + (Int.toNat v.2 * 1)) [.int .u64 (ishl .u64 (geti cc.2.1 ((0 + (Int.toNat (IntKind.wrap .i64 (v.2 - (IntKind.wrap .i64 (Int.tdiv cc.1 64)))) * 1)) + 0)) (Int.tmod cc.1 64))]), (IntKind.wrap .i64 (v.2 + 1))))) (kn ((spliced v.1 (0 + (Int.toNat v.2 * 1)) [.int .u64 (ishl .u64 (geti cc.2.1 ((0 + (Int.toNat (IntKind.wrap .i64 (v.2 - (IntKind.wrap .i64 (Int.tdiv cc.1 64)))) * 1)) + 0)) (Int.tmod cc.1 64))]), (IntKind.wrap .i64 (v.2 + 1)))))))))) (ke v.1))
noncomputable def f_wide_left_L3s (cc : Int × List AVal × Nat × List AVal × Nat × Nat) (v : List AVal × Int) : Option ((List AVal × Int) ⊕ ((List AVal))) := f_wide_left_L3k cc v (fun v => some (Sum.inl v)) fun e => some (Sum.inr e)
noncomputable def f_wide_left_L3 (cc : Int × List AVal × Nat × List AVal × Nat × Nat) (v : List AVal × Int) : Option ((List AVal)) := loopF (f_wide_left_L3s cc) v
def f_wide_left_L3toL (cc : Int × List AVal × Nat × List AVal × Nat × Nat) (v : List AVal × Int) : List Leaf := [.I cc.1, .I v.2, .C cc.2.1, .N cc.2.2.1, .C cc.2.2.2.1, .N cc.2.2.2.2.1, .C v.1, .N cc.2.2.2.2.2]
def f_wide_left_L3ofL (ls : List Leaf) : Option ((Int × List AVal × Nat × List AVal × Nat × Nat) × (List AVal × Int)) := match ls with
  | [.I x0, .I x1, .C x2, .N x3, .C x4, .N x5, .C x6, .N x7] => some ((x0, x2, x3, x4, x5, x7), (x6, x1))
  | _ => none
def f_wide_left_L3out (e : (List AVal)) : AOut := ((fun e => .exit 0) e)
def f_wide_left_L3toE (cc : Int × List AVal × Nat × List AVal × Nat × Nat) (e : (List AVal)) : List Leaf := ((fun e => [.C cc.2.2.2.1, .N cc.2.2.2.2.1, .C e, .N cc.2.2.2.2.2]) e)
def f_wide_left_L3conE (cc : Int × List AVal × Nat × List AVal × Nat × Nat) (e : (List AVal)) : List Leaf := ((fun e => [.C cc.2.2.2.1, .N cc.2.2.2.2.1, .N cc.2.2.2.2.2]) e)
def f_wide_left_L3ofE (o : AOut) (ls : List Leaf) : Option (((List AVal)) × List Leaf) := match o with
  | .exit 0 => (match ls with
    | [.C x0, .N x1, .C x2, .N x3] => some (x2, [.C x0, .N x1, .N x3])
    | _ => none)
  | _ => none
theorem f_wide_left_L3ofE_ok : ∀ o ls e cl cc, f_wide_left_L3ofE o ls = some (e, cl) → cl = f_wide_left_L3conE cc e → ls = f_wide_left_L3toE cc e ∧ f_wide_left_L3out e = o ∧ o ≠ .normal ∧ ∀ v, o = .pan v → sc 0 v = true := by
  intro o ls e cl cc h hc
  unfold f_wide_left_L3ofE at h
  split at h
  · split at h
    · cases h
      simp only [f_wide_left_L3conE, Sum.elim_inl, Sum.elim_inr, List.cons.injEq, Leaf.I.injEq, Leaf.B.injEq, Leaf.S.injEq, Leaf.N.injEq, Leaf.C.injEq, Leaf.E.injEq, and_true] at hc
      obtain ⟨rfl, rfl, rfl⟩ := hc
      exact ⟨rfl, rfl, by simp, by intro v hv; cases hv <;> rfl⟩
    · cases h
  · cases h
def f_wide_left_L3sh (o : AOut) : ExS := match o with
  | .exit 0 => ⟨2, [none, none, none, none, some (.ptr 0 0), some (.ptr 1 0), none, none, none, none, none, none, none, none, none, none, none, none, none, none, none, none, none, none, none, none, none, none, none, none, none, none, none, none, none, none, none, none, none, none, none, none, none, none, none, none, none, none, none, none], [(0, .vec 8 true), (1, .vec 8 true)], fun s => [nameAt s 4 [], nameAt s 5 []], [], []⟩
  | _ => ⟨0, [], [], fun _ => [], [], []⟩
theorem f_wide_left_L3nat {R : Type} (cc : Int × List AVal × Nat × List AVal × Nat × Nat) (v : List AVal × Int) (kn : (List AVal × Int) → Option R) (ke : ((List AVal)) → Option R) : f_wide_left_L3k cc v kn ke = (f_wide_left_L3k cc v (fun v => some (Sum.inl v)) fun e => some (Sum.inr e)).bind (Sum.elim kn ke) := by
  simp only [f_wide_left_L3k, cond_bind, need_nat, Option.bind_assoc, sum_bind, lookC_bind, Option.bind_some, Option.bind_none, Sum.elim_inl, Sum.elim_inr]
noncomputable def f_wide_left_L3d : LD where
  CC := Int × List AVal × Nat × List AVal × Nat × Nat
  V := List AVal × Int
  E := (List AVal)
  n := 0
  K := 3
  M := [none, some (.int .i64), some (.ptr 0 0), none, some (.ptr 1 0), some (.ptr 2 0), some (.int .i64), none, none, none, none, none, none, none, none, none, none, none, none, none, none, none, none, none, none, none, none, none, none, none, none, none, none, none, none, none, none, none, none, none, none, none, none, none, none, none, none, none, none, none]
  B := [(0, .vec 8 true), (1, .vec 8 true), (2, .vec 8 true)]
  D := []
  pre := []
  F := fun s => [nameAt s 2 [], nameAt s 4 [], nameAt s 5 []]
  toL := f_wide_left_L3toL
  ofL := f_wide_left_L3ofL
  ofL_ok := fun ls c v h => by
    unfold f_wide_left_L3ofL at h
    split at h
    · cases h; rfl
    · cases h
  stepK := f_wide_left_L3k
  nat := f_wide_left_L3nat
  sh := f_wide_left_L3sh
  out := f_wide_left_L3out
  toE := f_wide_left_L3toE
  conE := f_wide_left_L3conE
  ofE := f_wide_left_L3ofE
  ofE_ok := f_wide_left_L3ofE_ok
  post := fun cc e k => ((fun e => k (.exit 0) (canonSt 2 [none, none, none, none, some (.ptr 0 0), some (.ptr 1 0), none, none, none, none, none, none, none, none, none, none, none, none, none, none, none, none, none, none, none, none, none, none, none, none, none, none, none, none, none, none, none, none, none, none, none, none, none, none, none, none, none, none, none, none] [(0, .vec cc.2.2.2.1 cc.2.2.2.2.1 8 true), (1, .vec e cc.2.2.2.2.2 8 true)] [])) e)
  post_eq := fun cc e k => by rfl
theorem f_wide_left_L3_ok : LaOk Tryz.prog 0 f_wide_left_L3d.la (loopAt Tryz.f360 0) :=
  LD.ok (ch := ch_f_wide_left) (A := noAnns) tab_ok ch_f_wide_left_ok mixed (fuel := 60) ⟨by kernel_rfl, fun e => by kernel_rfl, fun cc v => by kernel_rfl, loops_ok (l := []) (by kernel_rfl) trivial⟩
noncomputable def f_wide_left (a0 : Int) (a1 : Int) (a2 : Int) (a3 : Int) (a4 : Int) (a5 : Int) (a6 : Int) (a7 : Int) (a8 : Int) : Option (Int × Int × Int × Int × Int × Int × Int × Int) :=
  (Option.bind (f_wide_left_L3 (a8, (vv8 a0 a1 a2 a3 a4 a5 a6 a7), 1, (vv8 0 0 0 0 0 0 0 0), 1, 1) ((vv8 0 0 0 0 0 0 0 0), (IntKind.wrap .i64 (Int.tdiv a8 64)))) fun e1 => (need (rowOk tk8 e1 0) (need (decide (0 + 8 ≤ List.length (vv8 0 0 0 0 0 0 0 0))) (need (rowOk tk8 (spliced (vv8 0 0 0 0 0 0 0 0) 0 (vv8 (geti e1 0) (geti e1 1) (geti e1 2) (geti e1 3) (geti e1 4) (geti e1 5) (geti e1 6) (geti e1 7))) 0) (some ((geti (spliced (vv8 0 0 0 0 0 0 0 0) 0 (vv8 (geti e1 0) (geti e1 1) (geti e1 2) (geti e1 3) (geti e1 4) (geti e1 5) (geti e1 6) (geti e1 7))) 0), (geti (spliced (vv8 0 0 0 0 0 0 0 0) 0 (vv8 (geti e1 0) (geti e1 1) (geti e1 2) (geti e1 3) (geti e1 4) (geti e1 5) (geti e1 6) (geti e1 7))) 1), (geti (spliced (vv8 0 0 0 0 0 0 0 0) 0 (vv8 (geti e1 0) (geti e1 1) (geti e1 2) (geti e1 3) (geti e1 4) (geti e1 5) (geti e1 6) (geti e1 7))) 2), (geti (spliced (vv8 0 0 0 0 0 0 0 0) 0 (vv8 (geti e1 0) (geti e1 1) (geti e1 2) (geti e1 3) (geti e1 4) (geti e1 5) (geti e1 6) (geti e1 7))) 3), (geti (spliced (vv8 0 0 0 0 0 0 0 0) 0 (vv8 (geti e1 0) (geti e1 1) (geti e1 2) (geti e1 3) (geti e1 4) (geti e1 5) (geti e1 6) (geti e1 7))) 4), (geti (spliced (vv8 0 0 0 0 0 0 0 0) 0 (vv8 (geti e1 0) (geti e1 1) (geti e1 2) (geti e1 3) (geti e1 4) (geti e1 5) (geti e1 6) (geti e1 7))) 5), (geti (spliced (vv8 0 0 0 0 0 0 0 0) 0 (vv8 (geti e1 0) (geti e1 1) (geti e1 2) (geti e1 3) (geti e1 4) (geti e1 5) (geti e1 6) (geti e1 7))) 6), (geti (spliced (vv8 0 0 0 0 0 0 0 0) 0 (vv8 (geti e1 0) (geti e1 1) (geti e1 2) (geti e1 3) (geti e1 4) (geti e1 5) (geti e1 6) (geti e1 7))) 7)))))))
def f_wide_left_d : FD where
  X := Int × Int × Int × Int × Int × Int × Int × Int
  k := 0
  pre := []
  F := fun s => []
  M := .agg [.int .u64, .int .u64, .int .u64, .int .u64, .int .u64, .int .u64, .int .u64, .int .u64]
  B := []
  toL := fun x => [.I x.1, .I x.2.1, .I x.2.2.1, .I x.2.2.2.1, .I x.2.2.2.2.1, .I x.2.2.2.2.2.1, .I x.2.2.2.2.2.2.1, .I x.2.2.2.2.2.2.2]
  ofL := fun ls => match ls with
    | [.I x0, .I x1, .I x2, .I x3, .I x4, .I x5, .I x6, .I x7] => some (x0, x1, x2, x3, x4, x5, x6, x7)
    | _ => none
  ofL_ok := fun ls x h => by
    split at h
    · cases h; rfl
    · cases h
theorem f_wide_left_sem (a0 : Int) (a1 : Int) (a2 : Int) (a3 : Int) (a4 : Int) (a5 : Int) (a6 : Int) (a7 : Int) (a8 : Int) (x : Int × Int × Int × Int × Int × Int × Int × Int) (h : f_wide_left a0 a1 a2 a3 a4 a5 a6 a7 a8 = some x) : IsFn Tryz.prog 360 ∧ SemCall Tryz.prog 360 [.agg (vv8 a0 a1 a2 a3 a4 a5 a6 a7), .int .i64 a8] ⟨0, numB 0 []⟩ (.ret (f_wide_left_d.val x)) ⟨0 + (f_wide_left_d.blks x).length, numB 0 (f_wide_left_d.blks x)⟩ :=
  FD.sem (ch := ch_f_wide_left) (A := annsOf [(3, f_wide_left_L3d.la)]) (fn := Tryz.f360) (c := bodyOf Tryz.f360) (fuel := 60) tab_ok ch_f_wide_left_ok mixed noNum f_wide_left_d Tryz.func360 (by kernel_rfl) (loops_ok (l := [loopAt Tryz.f360 0]) (by kernel_rfl) ⟨ann_one (by kernel_rfl) f_wide_left_L3_ok, trivial⟩)
    (by kernel_rfl) (Eq.trans (by kernel_rfl) h)
noncomputable def h_wide_left : HK where
  call := fun args σ k => match args with
    | [.agg [.int .u64 a0, .int .u64 a1, .int .u64 a2, .int .u64 a3, .int .u64 a4, .int .u64 a5, .int .u64 a6, .int .u64 a7], .int .i64 a8] => Option.bind (f_wide_left a0 a1 a2 a3 a4 a5 a6 a7 a8) fun y => retK σ 0 (f_wide_left_d.val y) (f_wide_left_d.blks y) k
    | _ => none
  nat := fun args σ k => by
    repeat' split
    all_goals simp only [lendK_nat, Option.bind_assoc, Option.bind_none, retK, Option.bind_some]
  pure := true
  pok := fun _ args σ r σ' h => by
    split at h
    · exact pure_of h (fun y => rfl) (fun y f => rfl)
    · cases h
theorem h_wide_left_ok : HKOk Tryz.prog 360 h_wide_left := by
  intro args σ r σ' h
  simp only [h_wide_left] at h
  split at h
  · rename_i a0 a1 a2 a3 a4 a5 a6 a7 a8
    obtain ⟨y, hy, h⟩ := Option.bind_eq_some_iff.1 h
    exact lifted (xs := []) (ls := []) (cargs := [.agg (vv8 a0 a1 a2 a3 a4 a5 a6 a7), .int .i64 a8]) (Lent.of trivial) rfl (f_wide_left_sem a0 a1 a2 a3 a4 a5 a6 a7 a8 y hy) rfl rfl rfl rfl h
  · cases h
end Go.Ev

namespace Go.Ev
open Go.Proofs
set_option linter.unusedVariables false
set_option linter.unusedSimpArgs false
set_option maxRecDepth 100000
noncomputable def ch_f_math_bits_Len64 : CH := CH.none
theorem ch_f_math_bits_Len64_ok : CHOk Tryz.prog ch_f_math_bits_Len64 := CH.none_ok
noncomputable def f_math_bits_Len64 (a0 : Int) : Option (Int) :=
  (cond (decide (a0 ≥ 4294967296)) (cond (decide ((ishr .u64 a0 32) ≥ 65536)) (cond (decide ((ishr .u64 (ishr .u64 a0 32) 16) ≥ 256)) (need (decide (0 ≤ (IntKind.wrap .u8 (ishr .u64 (ishr .u64 (ishr .u64 a0 32) 16) 8))) && decide ((IntKind.wrap .u8 (ishr .u64 (ishr .u64 (ishr .u64 a0 32) 16) 8)) < ((ByteArray.size ⟨#[0, 1, 2, 2, 3, 3, 3, 3, 4, 4, 4, 4, 4, 4, 4, 4, 5, 5, 5, 5, 5, 5, 5, 5, 5, 5, 5, 5, 5, 5, 5, 5, 6, 6, 6, 6, 6, 6, 6, 6, 6, 6, 6, 6, 6, 6, 6, 6, 6, 6, 6, 6, 6, 6, 6, 6, 6, 6, 6, 6, 6, 6, 6, 6, 7, 7, 7, 7, 7, 7, 7, 7, 7, 7, 7, 7, 7, 7, 7, 7, 7, 7, 7, 7, 7, 7, 7, 7, 7, 7, 7, 7, 7, 7, 7, 7, 7, 7, 7, 7, 7, 7, 7, 7, 7, 7, 7, 7, 7, 7, 7, 7, 7, 7, 7, 7, 7, 7, 7, 7, 7, 7, 7, 7, 7, 7, 7, 7, 8, 8, 8, 8, 8, 8, 8, 8, 8, 8, 8, 8, 8, 8, 8, 8, 8, 8, 8, 8, 8, 8, 8, 8, 8, 8, 8, 8, 8, 8, 8, 8, 8, 8, 8, 8, 8, 8, 8, 8, 8, 8, 8, 8, 8, 8, 8, 8, 8, 8, 8, 8, 8, 8, 8, 8, 8, 8, 8, 8, 8, 8, 8, 8, 8, 8, 8, 8, 8, 8, 8, 8, 8, 8, 8, 8, 8, 8, 8, 8, 8, 8, 8, 8, 8, 8, 8, 8, 8, 8, 8, 8, 8, 8, 8, 8, 8, 8, 8, 8, 8, 8, 8, 8, 8, 8, 8, 8, 8, 8, 8, 8, 8, 8, 8, 8, 8, 8, 8, 8, 8, 8, 8, 8, 8, 8, 8, 8]⟩ : Nat) : Int))) (some (IntKind.wrap .i64 (56 + (IntKind.wrap .i64 (byteAt ⟨#[0, 1, 2, 2, 3, 3, 3, 3, 4, 4, 4, 4, 4, 4, 4, 4, 5, 5, 5, 5, 5, 5, 5, 5, 5, 5, 5, 5, 5, 5, 5, 5, 6, 6, 6, 6, 6, 6, 6, 6, 6, 6, 6, 6, 6, 6, 6, 6, 6, 6, 6, 6, 6, 6, 6, 6, 6, 6, 6, 6, 6, 6, 6, 6, 7, 7, 7, 7, 7, 7, 7, 7, 7, 7, 7, 7, 7, 7, 7, 7, 7, 7, 7, 7, 7, 7, 7, 7, 7, 7, 7, 7, 7, 7, 7, 7, 7, 7, 7, 7, 7, 7, 7, 7, 7, 7, 7, 7, 7, 7, 7, 7, 7, 7, 7, 7, 7, 7, 7, 7, 7, 7, 7, 7, 7, 7, 7, 7, 8, 8, 8, 8, 8, 8, 8, 8, 8, 8, 8, 8, 8, 8, 8, 8, 8, 8, 8, 8, 8, 8, 8, 8, 8, 8, 8, 8, 8, 8, 8, 8, 8, 8, 8, 8, 8, 8, 8, 8, 8, 8, 8, 8, 8, 8, 8, 8, 8, 8, 8, 8, 8, 8, 8, 8, 8, 8, 8, 8, 8, 8, 8, 8, 8, 8, 8, 8, 8, 8, 8, 8, 8, 8, 8, 8, 8, 8, 8, 8, 8, 8, 8, 8, 8, 8, 8, 8, 8, 8, 8, 8, 8, 8, 8, 8, 8, 8, 8, 8, 8, 8, 8, 8, 8, 8, 8, 8, 8, 8, 8, 8, 8, 8, 8, 8, 8, 8, 8, 8, 8, 8, 8, 8, 8, 8, 8, 8]⟩ (Int.toNat (IntKind.wrap .u8 (ishr .u64 (ishr .u64 (ishr .u64 a0 32) 16) 8))))))))) (need (decide (0 ≤ (IntKind.wrap .u8 (ishr .u64 (ishr .u64 a0 32) 16))) && decide ((IntKind.wrap .u8 (ishr .u64 (ishr .u64 a0 32) 16)) < ((ByteArray.size ⟨#[0, 1, 2, 2, 3, 3, 3, 3, 4, 4, 4, 4, 4, 4, 4, 4, 5, 5, 5, 5, 5, 5, 5, 5, 5, 5, 5, 5, 5, 5, 5, 5, 6, 6, 6, 6, 6, 6, 6, 6, 6, 6, 6, 6, 6, 6, 6, 6, 6, 6, 6, 6, 6, 6, 6, 6, 6, 6, 6, 6, 6, 6, 6, 6, 7, 7, 7, 7, 7, 7, 7, 7, 7, 7, 7, 7, 7, 7, 7, 7, 7, 7, 7, 7, 7, 7, 7, 7, 7, 7, 7, 7, 7, 7, 7, 7, 7, 7, 7, 7, 7, 7, 7, 7, 7, 7, 7, 7, 7, 7, 7, 7, 7, 7, 7, 7, 7, 7, 7, 7, 7, 7, 7, 7, 7, 7, 7, 7, 8, 8, 8, 8, 8, 8, 8, 8, 8, 8, 8, 8, 8, 8, 8, 8, 8, 8, 8, 8, 8, 8, 8, 8, 8, 8, 8, 8, 8, 8, 8, 8, 8, 8, 8, 8, 8, 8, 8, 8, 8, 8, 8, 8, 8, 8, 8, 8, 8, 8, 8, 8, 8, 8, 8, 8, 8, 8, 8, 8, 8, 8, 8, 8, 8, 8, 8, 8, 8, 8, 8, 8, 8, 8, 8, 8, 8, 8, 8, 8, 8, 8, 8, 8, 8, 8, 8, 8, 8, 8, 8, 8, 8, 8, 8, 8, 8, 8, 8, 8, 8, 8, 8, 8, 8, 8, 8, 8, 8, 8, 8, 8, 8, 8, 8, 8, 8, 8, 8, 8, 8, 8, 8, 8, 8, 8, 8, 8]⟩ : Nat) : Int))) (some (IntKind.wrap .i64 (48 + (IntKind.wrap .i64 (byteAt ⟨#[0, 1, 2, 2, 3, 3, 3, 3, 4, 4, 4, 4, 4, 4, 4, 4, 5, 5, 5, 5, 5, 5, 5, 5, 5, 5, 5, 5, 5, 5, 5, 5, 6, 6, 6, 6, 6, 6, 6, 6, 6, 6, 6, 6, 6, 6, 6, 6, 6, 6, 6, 6, 6, 6, 6, 6, 6, 6, 6, 6, 6, 6, 6, 6, 7, 7, 7, 7, 7, 7, 7, 7, 7, 7, 7, 7, 7, 7, 7, 7, 7, 7, 7, 7, 7, 7, 7, 7, 7, 7, 7, 7, 7, 7, 7, 7, 7, 7, 7, 7, 7, 7, 7, 7, 7, 7, 7, 7, 7, 7, 7, 7, 7, 7, 7, 7, 7, 7, 7, 7, 7, 7, 7, 7, 7, 7, 7, 7, 8, 8, 8, 8, 8, 8, 8, 8, 8, 8, 8, 8, 8, 8, 8, 8, 8, 8, 8, 8, 8, 8, 8, 8, 8, 8, 8, 8, 8, 8, 8, 8, 8, 8, 8, 8, 8, 8, 8, 8, 8, 8, 8, 8, 8, 8, 8, 8, 8, 8, 8, 8, 8, 8, 8, 8, 8, 8, 8, 8, 8, 8, 8, 8, 8, 8, 8, 8, 8, 8, 8, 8, 8, 8, 8, 8, 8, 8, 8, 8, 8, 8, 8, 8, 8, 8, 8, 8, 8, 8, 8, 8, 8, 8, 8, 8, 8, 8, 8, 8, 8, 8, 8, 8, 8, 8, 8, 8, 8, 8, 8, 8, 8, 8, 8, 8, 8, 8, 8, 8, 8, 8, 8, 8, 8, 8, 8, 8]⟩ (Int.toNat (IntKind.wrap .u8 (ishr .u64 (ishr .u64 a0 32) 16)))))))))) (cond (decide ((ishr .u64 a0 32) ≥ 256)) (need (decide (0 ≤ (IntKind.wrap .u8 (ishr .u64 (ishr .u64 a0 32) 8))) && decide ((IntKind.wrap .u8 (ishr .u64 (ishr .u64 a0 32) 8)) < ((ByteArray.size ⟨#[0, 1, 2, 2, 3, 3, 3, 3, 4, 4, 4, 4, 4, 4, 4, 4, 5, 5, 5, 5, 5, 5, 5, 5, 5, 5, 5, 5, 5, 5, 5, 5, 6, 6, 6, 6, 6, 6, 6, 6, 6, 6, 6, 6, 6, 6, 6, 6, 6, 6, 6, 6, 6, 6, 6, 6, 6, 6, 6, 6, 6, 6, 6, 6, 7, 7, 7, 7, 7, 7, 7, 7, 7, 7, 7, 7, 7, 7, 7, 7, 7, 7, 7, 7, 7, 7, 7, 7, 7, 7, 7, 7, 7, 7, 7, 7, 7, 7, 7, 7, 7, 7, 7, 7, 7, 7, 7, 7, 7, 7, 7, 7, 7, 7, 7, 7, 7, 7, 7, 7, 7, 7, 7, 7, 7, 7, 7, 7, 8, 8, 8, 8, 8, 8, 8, 8, 8, 8, 8, 8, 8, 8, 8, 8, 8, 8, 8, 8, 8, 8, 8, 8, 8, 8, 8, 8, 8, 8, 8, 8, 8, 8, 8, 8, 8, 8, 8, 8, 8, 8, 8, 8, 8, 8, 8, 8, 8, 8, 8, 8, 8, 8, 8, 8, 8, 8, 8, 8, 8, 8, 8, 8, 8, 8, 8, 8, 8, 8, 8, 8, 8, 8, 8, 8, 8, 8, 8, 8, 8, 8, 8, 8, 8, 8, 8, 8, 8, 8, 8, 8, 8, 8, 8, 8, 8, 8, 8, 8, 8, 8, 8, 8, 8, 8, 8, 8, 8, 8, 8, 8, 8, 8, 8, 8, 8, 8, 8, 8, 8, 8, 8, 8, 8, 8, 8, 8]⟩ : Nat) : Int))) (some (IntKind.wrap .i64 (40 + (IntKind.wrap .i64 (byteAt ⟨#[0, 1, 2, 2, 3, 3, 3, 3, 4, 4, 4, 4, 4, 4, 4, 4, 5, 5, 5, 5, 5, 5, 5, 5, 5, 5, 5, 5, 5, 5, 5, 5, 6, 6, 6, 6, 6, 6, 6, 6, 6, 6, 6, 6, 6, 6, 6, 6, 6, 6, 6, 6, 6, 6, 6, 6, 6, 6, 6, 6, 6, 6, 6, 6, 7, 7, 7, 7, 7, 7, 7, 7, 7, 7, 7, 7, 7, 7, 7, 7, 7, 7, 7, 7, 7, 7, 7, 7, 7, 7, 7, 7, 7, 7, 7, 7, 7, 7, 7, 7, 7, 7, 7, 7, 7, 7, 7, 7, 7, 7, 7, 7, 7, 7, 7, 7, 7, 7, 7, 7, 7, 7, 7, 7, 7, 7, 7, 7, 8, 8, 8, 8, 8, 8, 8, 8, 8, 8, 8, 8, 8, 8, 8, 8, 8, 8, 8, 8, 8, 8, 8, 8, 8, 8, 8, 8, 8, 8, 8, 8, 8, 8, 8, 8, 8, 8, 8, 8, 8, 8, 8, 8, 8, 8, 8, 8, 8, 8, 8, 8, 8, 8, 8, 8, 8, 8, 8, 8, 8, 8, 8, 8, 8, 8, 8, 8, 8, 8, 8, 8, 8, 8, 8, 8, 8, 8, 8, 8, 8, 8, 8, 8, 8, 8, 8, 8, 8, 8, 8, 8, 8, 8, 8, 8, 8, 8, 8, 8, 8, 8, 8, 8, 8, 8, 8, 8, 8, 8, 8, 8, 8, 8, 8, 8, 8, 8, 8, 8, 8, 8, 8, 8, 8, 8, 8, 8]⟩ (Int.toNat (IntKind.wrap .u8 (ishr .u64 (ishr .u64 a0 32) 8))))))))) (need (decide (0 ≤ (IntKind.wrap .u8 (ishr .u64 a0 32))) && decide ((IntKind.wrap .u8 (ishr .u64 a0 32)) < ((ByteArray.size ⟨#[0, 1, 2, 2, 3, 3, 3, 3, 4, 4, 4, 4, 4, 4, 4, 4, 5, 5, 5, 5, 5, 5, 5, 5, 5, 5, 5, 5, 5, 5, 5, 5, 6, 6, 6, 6, 6, 6, 6, 6, 6, 6, 6, 6, 6, 6, 6, 6, 6, 6, 6, 6, 6, 6, 6, 6, 6, 6, 6, 6, 6, 6, 6, 6, 7, 7, 7, 7, 7, 7, 7, 7, 7, 7, 7, 7, 7, 7, 7, 7, 7, 7, 7, 7, 7, 7, 7, 7, 7, 7, 7, 7, 7, 7, 7, 7, 7, 7, 7, 7, 7, 7, 7, 7, 7, 7, 7, 7, 7, 7, 7, 7, 7, 7, 7, 7, 7, 7, 7, 7, 7, 7, 7, 7, 7, 7, 7, 7, 8, 8, 8, 8, 8, 8, 8, 8, 8, 8, 8, 8, 8, 8, 8, 8, 8, 8, 8, 8, 8, 8, 8, 8, 8, 8, 8, 8, 8, 8, 8, 8, 8, 8, 8, 8, 8, 8, 8, 8, 8, 8, 8, 8, 8, 8, 8, 8, 8, 8, 8, 8, 8, 8, 8, 8, 8, 8, 8, 8, 8, 8, 8, 8, 8, 8, 8, 8, 8, 8, 8, 8, 8, 8, 8, 8, 8, 8, 8, 8, 8, 8, 8, 8, 8, 8, 8, 8, 8, 8, 8, 8, 8, 8, 8, 8, 8, 8, 8, 8, 8, 8, 8, 8, 8, 8, 8, 8, 8, 8, 8, 8, 8, 8, 8, 8, 8, 8, 8, 8, 8, 8, 8, 8, 8, 8, 8, 8]⟩ : Nat) : Int))) (some (IntKind.wrap .i64 (32 + (IntKind.wrap .i64 (byteAt ⟨#[0, 1, 2, 2, 3, 3, 3, 3, 4, 4, 4, 4, 4, 4, 4, 4, 5, 5, 5, 5, 5, 5, 5, 5, 5, 5, 5, 5, 5, 5, 5, 5, 6, 6, 6, 6, 6, 6, 6, 6, 6, 6, 6, 6, 6, 6, 6, 6, 6, 6, 6, 6, 6, 6, 6, 6, 6, 6, 6, 6, 6, 6, 6, 6, 7, 7, 7, 7, 7, 7, 7, 7, 7, 7, 7, 7, 7, 7, 7, 7, 7, 7, 7, 7, 7, 7, 7, 7, 7, 7, 7, 7, 7, 7, 7, 7, 7, 7, 7, 7, 7, 7, 7, 7, 7, 7, 7, 7, 7, 7, 7, 7, 7, 7, 7, 7, 7, 7, 7, 7, 7, 7, 7, 7, 7, 7, 7, 7, 8, 8, 8, 8, 8, 8, 8, 8, 8, 8, 8, 8, 8, 8, 8, 8, 8, 8, 8, 8, 8, 8, 8, 8, 8, 8, 8, 8, 8, 8, 8, 8, 8, 8, 8, 8, 8, 8, 8, 8, 8, 8, 8, 8, 8, 8, 8, 8, 8, 8, 8, 8, 8, 8, 8, 8, 8, 8, 8, 8, 8, 8, 8, 8, 8, 8, 8, 8, 8, 8, 8, 8, 8, 8, 8, 8, 8, 8, 8, 8, 8, 8, 8, 8, 8, 8, 8, 8, 8, 8, 8, 8, 8, 8, 8, 8, 8, 8, 8, 8, 8, 8, 8, 8, 8, 8, 8, 8, 8, 8, 8, 8, 8, 8, 8, 8, 8, 8, 8, 8, 8, 8, 8, 8, 8, 8, 8, 8]⟩ (Int.toNat (IntKind.wrap .u8 (ishr .u64 a0 32))))))))))) (cond (decide (a0 ≥ 65536)) (cond (decide ((ishr .u64 a0 16) ≥ 256)) (need (decide (0 ≤ (IntKind.wrap .u8 (ishr .u64 (ishr .u64 a0 16) 8))) && decide ((IntKind.wrap .u8 (ishr .u64 (ishr .u64 a0 16) 8)) < ((ByteArray.size ⟨#[0, 1, 2, 2, 3, 3, 3, 3, 4, 4, 4, 4, 4, 4, 4, 4, 5, 5, 5, 5, 5, 5, 5, 5, 5, 5, 5, 5, 5, 5, 5, 5, 6, 6, 6, 6, 6, 6, 6, 6, 6, 6, 6, 6, 6, 6, 6, 6, 6, 6, 6, 6, 6, 6, 6, 6, 6, 6, 6, 6, 6, 6, 6, 6, 7, 7, 7, 7, 7, 7, 7, 7, 7, 7, 7, 7, 7, 7, 7, 7, 7, 7, 7, 7, 7, 7, 7, 7, 7, 7, 7, 7, 7, 7, 7, 7, 7, 7, 7, 7, 7, 7, 7, 7, 7, 7, 7, 7, 7, 7, 7, 7, 7, 7, 7, 7, 7, 7, 7, 7, 7, 7, 7, 7, 7, 7, 7, 7, 8, 8, 8, 8, 8, 8, 8, 8, 8, 8, 8, 8, 8, 8, 8, 8, 8, 8, 8, 8, 8, 8, 8, 8, 8, 8, 8, 8, 8, 8, 8, 8, 8, 8, 8, 8, 8, 8, 8, 8, 8, 8, 8, 8, 8, 8, 8, 8, 8, 8, 8, 8, 8, 8, 8, 8, 8, 8, 8, 8, 8, 8, 8, 8, 8, 8, 8, 8, 8, 8, 8, 8, 8, 8, 8, 8, 8, 8, 8, 8, 8, 8, 8, 8, 8, 8, 8, 8, 8, 8, 8, 8, 8, 8, 8, 8, 8, 8, 8, 8, 8, 8, 8, 8, 8, 8, 8, 8, 8, 8, 8, 8, 8, 8, 8, 8, 8, 8, 8, 8, 8, 8, 8, 8, 8, 8, 8, 8]⟩ : Nat) : Int))) (some (IntKind.wrap .i64 (24 + (IntKind.wrap .i64 (byteAt ⟨#[0, 1, 2, 2, 3, 3, 3, 3, 4, 4, 4, 4, 4, 4, 4, 4, 5, 5, 5, 5, 5, 5, 5, 5, 5, 5, 5, 5, 5, 5, 5, 5, 6, 6, 6, 6, 6, 6, 6, 6, 6, 6, 6, 6, 6, 6, 6, 6, 6, 6, 6, 6, 6, 6, 6, 6, 6, 6, 6, 6, 6, 6, 6, 6, 7, 7, 7, 7, 7, 7, 7, 7, 7, 7, 7, 7, 7, 7, 7, 7, 7, 7, 7, 7, 7, 7, 7, 7, 7, 7, 7, 7, 7, 7, 7, 7, 7, 7, 7, 7, 7, 7, 7, 7, 7, 7, 7, 7, 7, 7, 7, 7, 7, 7, 7, 7, 7, 7, 7, 7, 7, 7, 7, 7, 7, 7, 7, 7, 8, 8, 8, 8, 8, 8, 8, 8, 8, 8, 8, 8, 8, 8, 8, 8, 8, 8, 8, 8, 8, 8, 8, 8, 8, 8, 8, 8, 8, 8, 8, 8, 8, 8, 8, 8, 8, 8, 8, 8, 8, 8, 8, 8, 8, 8, 8, 8, 8, 8, 8, 8, 8, 8, 8, 8, 8, 8, 8, 8, 8, 8, 8, 8, 8, 8, 8, 8, 8, 8, 8, 8, 8, 8, 8, 8, 8, 8, 8, 8, 8, 8, 8, 8, 8, 8, 8, 8, 8, 8, 8, 8, 8, 8, 8, 8, 8, 8, 8, 8, 8, 8, 8, 8, 8, 8, 8, 8, 8, 8, 8, 8, 8, 8, 8, 8, 8, 8, 8, 8, 8, 8, 8, 8, 8, 8, 8, 8]⟩ (Int.toNat (IntKind.wrap .u8 (ishr .u64 (ishr .u64 a0 16) 8))))))))) (need (decide (0 ≤ (IntKind.wrap .u8 (ishr .u64 a0 16))) && decide ((IntKind.wrap .u8 (ishr .u64 a0 16)) < ((ByteArray.size ⟨#[0, 1, 2, 2, 3, 3, 3, 3, 4, 4, 4, 4, 4, 4, 4, 4, 5, 5, 5, 5, 5, 5, 5, 5, 5, 5, 5, 5, 5, 5, 5, 5, 6, 6, 6, 6, 6, 6, 6, 6, 6, 6, 6, 6, 6, 6, 6, 6, 6, 6, 6, 6, 6, 6, 6, 6, 6, 6, 6, 6, 6, 6, 6, 6, 7, 7, 7, 7, 7, 7, 7, 7, 7, 7, 7, 7, 7, 7, 7, 7, 7, 7, 7, 7, 7, 7, 7, 7, 7, 7, 7, 7, 7, 7, 7, 7, 7, 7, 7, 7, 7, 7, 7, 7, 7, 7, 7, 7, 7, 7, 7, 7, 7, 7, 7, 7, 7, 7, 7, 7, 7, 7, 7, 7, 7, 7, 7, 7, 8, 8, 8, 8, 8, 8, 8, 8, 8, 8, 8, 8, 8, 8, 8, 8, 8, 8, 8, 8, 8, 8, 8, 8, 8, 8, 8, 8, 8, 8, 8, 8, 8, 8, 8, 8, 8, 8, 8, 8, 8, 8, 8, 8, 8, 8, 8, 8, 8, 8, 8, 8, 8, 8, 8, 8, 8, 8, 8, 8, 8, 8, 8, 8, 8, 8, 8, 8, 8, 8, 8, 8, 8, 8, 8, 8, 8, 8, 8, 8, 8, 8, 8, 8, 8, 8, 8, 8, 8, 8, 8, 8, 8, 8, 8, 8, 8, 8, 8, 8, 8, 8, 8, 8, 8, 8, 8, 8, 8, 8, 8, 8, 8, 8, 8, 8, 8, 8, 8, 8, 8, 8, 8, 8, 8, 8, 8, 8]⟩ : Nat) : Int))) (some (IntKind.wrap .i64 (16 + (IntKind.wrap .i64 (byteAt ⟨#[0, 1, 2, 2, 3, 3, 3, 3, 4, 4, 4, 4, 4, 4, 4, 4, 5, 5, 5, 5, 5, 5, 5, 5, 5, 5, 5, 5, 5, 5, 5, 5, 6, 6, 6, 6, 6, 6, 6, 6, 6, 6, 6, 6, 6, 6, 6, 6, 6, 6, 6, 6, 6, 6, 6, 6, 6, 6, 6, 6, 6, 6, 6, 6, 7, 7, 7, 7, 7, 7, 7, 7, 7, 7, 7, 7, 7, 7, 7, 7, 7, 7, 7, 7, 7, 7, 7, 7, 7, 7, 7, 7, 7, 7, 7, 7, 7, 7, 7, 7, 7, 7, 7, 7, 7, 7, 7, 7, 7, 7, 7, 7, 7, 7, 7, 7, 7, 7, 7, 7, 7, 7, 7, 7, 7, 7, 7, 7, 8, 8, 8, 8, 8, 8, 8, 8, 8, 8, 8, 8, 8, 8, 8, 8, 8, 8, 8, 8, 8, 8, 8, 8, 8, 8, 8, 8, 8, 8, 8, 8, 8, 8, 8, 8, 8, 8, 8, 8, 8, 8, 8, 8, 8, 8, 8, 8, 8, 8, 8, 8, 8, 8, 8, 8, 8, 8, 8, 8, 8, 8, 8, 8, 8, 8, 8, 8, 8, 8, 8, 8, 8, 8, 8, 8, 8, 8, 8, 8, 8, 8, 8, 8, 8, 8, 8, 8, 8, 8, 8, 8, 8, 8, 8, 8, 8, 8, 8, 8, 8, 8, 8, 8, 8, 8, 8, 8, 8, 8, 8, 8, 8, 8, 8, 8, 8, 8, 8, 8, 8, 8, 8, 8, 8, 8, 8, 8]⟩ (Int.toNat (IntKind.wrap .u8 (ishr .u64 a0 16)))))))))) (cond (decide (a0 ≥ 256)) (need (decide (0 ≤ (IntKind.wrap .u8 (ishr .u64 a0 8))) && decide ((IntKind.wrap .u8 (ishr .u64 a0 8)) < ((ByteArray.size ⟨#[0, 1, 2, 2, 3, 3, 3, 3, 4, 4, 4, 4, 4, 4, 4, 4, 5, 5, 5, 5, 5, 5, 5, 5, 5, 5, 5, 5, 5, 5, 5, 5, 6, 6, 6, 6, 6, 6, 6, 6, 6, 6, 6, 6, 6, 6, 6, 6, 6, 6, 6, 6, 6, 6, 6, 6, 6, 6, 6, 6, 6, 6, 6, 6, 7, 7, 7, 7, 7, 7, 7, 7, 7, 7, 7, 7, 7, 7, 7, 7, 7, 7, 7, 7, 7, 7, 7, 7, 7, 7, 7, 7, 7, 7, 7, 7, 7, 7, 7, 7, 7, 7, 7, 7, 7, 7, 7, 7, 7, 7, 7, 7, 7, 7, 7, 7, 7, 7, 7, 7, 7, 7, 7, 7, 7, 7, 7, 7, 8, 8, 8, 8, 8, 8, 8, 8, 8, 8, 8, 8, 8, 8, 8, 8, 8, 8, 8, 8, 8, 8, 8, 8, 8, 8, 8, 8, 8, 8, 8, 8, 8, 8, 8, 8, 8, 8, 8, 8, 8, 8, 8, 8, 8, 8, 8, 8, 8, 8, 8, 8, 8, 8, 8, 8, 8, 8, 8, 8, 8, 8, 8, 8, 8, 8, 8, 8, 8, 8, 8, 8, 8, 8, 8, 8, 8, 8, 8, 8, 8, 8, 8, 8, 8, 8, 8, 8, 8, 8, 8, 8, 8, 8, 8, 8, 8, 8, 8, 8, 8, 8, 8, 8, 8, 8, 8, 8, 8, 8, 8, 8, 8, 8, 8, 8, 8, 8, 8, 8, 8, 8, 8, 8, 8, 8, 8, 8]⟩ : Nat) : Int))) (some (IntKind.wrap .i64 (8 + (IntKind.wrap .i64 (byteAt ⟨#[0, 1, 2, 2, 3, 3, 3, 3, 4, 4, 4, 4, 4, 4, 4, 4, 5, 5, 5, 5, 5, 5, 5, 5, 5, 5, 5, 5, 5, 5, 5, 5, 6, 6, 6, 6, 6, 6, 6, 6, 6, 6, 6, 6, 6, 6, 6, 6, 6, 6, 6, 6, 6, 6, 6, 6, 6, 6, 6, 6, 6, 6, 6, 6, 7, 7, 7, 7, 7, 7, 7, 7, 7, 7, 7, 7, 7, 7, 7, 7, 7, 7, 7, 7, 7, 7, 7, 7, 7, 7, 7, 7, 7, 7, 7, 7, 7, 7, 7, 7, 7, 7, 7, 7, 7, 7, 7, 7, 7, 7, 7, 7, 7, 7, 7, 7, 7, 7, 7, 7, 7, 7, 7, 7, 7, 7, 7, 7, 8, 8, 8, 8, 8, 8, 8, 8, 8, 8, 8, 8, 8, 8, 8, 8, 8, 8, 8, 8, 8, 8, 8, 8, 8, 8, 8, 8, 8, 8, 8, 8, 8, 8, 8, 8, 8, 8, 8, 8, 8, 8, 8, 8, 8, 8, 8, 8, 8, 8, 8, 8, 8, 8, 8, 8, 8, 8, 8, 8, 8, 8, 8, 8, 8, 8, 8, 8, 8, 8, 8, 8, 8, 8, 8, 8, 8, 8, 8, 8, 8, 8, 8, 8, 8, 8, 8, 8, 8, 8, 8, 8, 8, 8, 8, 8, 8, 8, 8, 8, 8, 8, 8, 8, 8, 8, 8, 8, 8, 8, 8, 8, 8, 8, 8, 8, 8, 8, 8, 8, 8, 8, 8, 8, 8, 8, 8, 8]⟩ (Int.toNat (IntKind.wrap .u8 (ishr .u64 a0 8))))))))) (need (decide (0 ≤ (IntKind.wrap .u8 a0)) && decide ((IntKind.wrap .u8 a0) < ((ByteArray.size ⟨#[0, 1, 2, 2, 3, 3, 3, 3, 4, 4, 4, 4, 4, 4, 4, 4, 5, 5, 5, 5, 5, 5, 5, 5, 5, 5, 5, 5, 5, 5, 5, 5, 6, 6, 6, 6, 6, 6, 6, 6, 6, 6, 6, 6, 6, 6, 6, 6, 6, 6, 6, 6, 6, 6, 6, 6, 6, 6, 6, 6, 6, 6, 6, 6, 7, 7, 7, 7, 7, 7, 7, 7, 7, 7, 7, 7, 7, 7, 7, 7, 7, 7, 7, 7, 7, 7, 7, 7, 7, 7, 7, 7, 7, 7, 7, 7, 7, 7, 7, 7, 7, 7, 7, 7, 7, 7, 7, 7, 7, 7, 7, 7, 7, 7, 7, 7, 7, 7, 7, 7, 7, 7, 7, 7, 7, 7, 7, 7, 8, 8, 8, 8, 8, 8, 8, 8, 8, 8, 8, 8, 8, 8, 8, 8, 8, 8, 8, 8, 8, 8, 8, 8, 8, 8, 8, 8, 8, 8, 8, 8, 8, 8, 8, 8, 8, 8, 8, 8, 8, 8, 8, 8, 8, 8, 8, 8, 8, 8, 8, 8, 8, 8, 8, 8, 8, 8, 8, 8, 8, 8, 8, 8, 8, 8, 8, 8, 8, 8, 8, 8, 8, 8, 8, 8, 8, 8, 8, 8, 8, 8, 8, 8, 8, 8, 8, 8, 8, 8, 8, 8, 8, 8, 8, 8, 8, 8, 8, 8, 8, 8, 8, 8, 8, 8, 8, 8, 8, 8, 8, 8, 8, 8, 8, 8, 8, 8, 8, 8, 8, 8, 8, 8, 8, 8, 8, 8]⟩ : Nat) : Int))) (some (IntKind.wrap .i64 (0 + (IntKind.wrap .i64 (byteAt ⟨#[0, 1, 2, 2, 3, 3, 3, 3, 4, 4, 4, 4, 4, 4, 4, 4, 5, 5, 5, 5, 5, 5, 5, 5, 5, 5, 5, 5, 5, 5, 5, 5, 6, 6, 6, 6, 6, 6, 6, 6, 6, 6, 6, 6, 6, 6, 6, 6, 6, 6, 6, 6, 6, 6, 6, 6, 6, 6, 6, 6, 6, 6, 6, 6, 7, 7, 7, 7, 7, 7, 7, 7, 7, 7, 7, 7, 7, 7, 7, 7, 7, 7, 7, 7, 7, 7, 7, 7, 7, 7, 7, 7, 7, 7, 7, 7, 7, 7, 7, 7, 7, 7, 7, 7, 7, 7, 7, 7, 7, 7, 7, 7, 7, 7, 7, 7, 7, 7, 7, 7, 7, 7, 7, 7, 7, 7, 7, 7, 8, 8, 8, 8, 8, 8, 8, 8, 8, 8, 8, 8, 8, 8, 8, 8, 8, 8, 8, 8, 8, 8, 8, 8, 8, 8, 8, 8, 8, 8, 8, 8, 8, 8, 8, 8, 8, 8, 8, 8, 8, 8, 8, 8, 8, 8, 8, 8, 8, 8, 8, 8, 8, 8, 8, 8, 8, 8, 8, 8, 8, 8, 8, 8, 8, 8, 8, 8, 8, 8, 8, 8, 8, 8, 8, 8, 8, 8, 8, 8, 8, 8, 8, 8, 8, 8, 8, 8, 8, 8, 8, 8, 8, 8, 8, 8, 8, 8, 8, 8, 8, 8, 8, 8, 8, 8, 8, 8, 8, 8, 8, 8, 8, 8, 8, 8, 8, 8, 8, 8, 8, 8, 8, 8, 8, 8, 8, 8]⟩ (Int.toNat (IntKind.wrap .u8 a0)))))))))))
def f_math_bits_Len64_d : FD where
  X := Int
  k := 0
  pre := []
  F := fun s => []
  M := .int .i64
  B := []
  toL := fun x => [.I x]
  ofL := fun ls => match ls with
    | [.I x0] => some x0
    | _ => none
  ofL_ok := fun ls x h => by
    split at h
    · cases h; rfl
    · cases h
theorem f_math_bits_Len64_sem (a0 : Int) (x : Int) (h : f_math_bits_Len64 a0 = some x) : IsFn Tryz.prog 375 ∧ SemCall Tryz.prog 375 [.int .u64 a0] ⟨0, numB 0 []⟩ (.ret (f_math_bits_Len64_d.val x)) ⟨0 + (f_math_bits_Len64_d.blks x).length, numB 0 (f_math_bits_Len64_d.blks x)⟩ :=
  FD.sem (ch := ch_f_math_bits_Len64) (A := noAnns) (fn := Tryz.f375) (c := bodyOf Tryz.f375) (fuel := 60) tab_ok ch_f_math_bits_Len64_ok mixed noNum f_math_bits_Len64_d Tryz.func375 (by kernel_rfl) (loops_ok (l := []) (by kernel_rfl) trivial)
    (by kernel_rfl) (Eq.trans (by kernel_rfl) h)
noncomputable def h_math_bits_Len64 : HK where
  call := fun args σ k => match args with
    | [.int .u64 a0] => Option.bind (f_math_bits_Len64 a0) fun y => retK σ 0 (f_math_bits_Len64_d.val y) (f_math_bits_Len64_d.blks y) k
    | _ => none
  nat := fun args σ k => by
    repeat' split
    all_goals simp only [lendK_nat, Option.bind_assoc, Option.bind_none, retK, Option.bind_some]
  pure := true
  pok := fun _ args σ r σ' h => by
    split at h
    · exact pure_of h (fun y => rfl) (fun y f => rfl)
    · cases h
theorem h_math_bits_Len64_ok : HKOk Tryz.prog 375 h_math_bits_Len64 := by
  intro args σ r σ' h
  simp only [h_math_bits_Len64] at h
  split at h
  · rename_i a0
    obtain ⟨y, hy, h⟩ := Option.bind_eq_some_iff.1 h
    exact lifted (xs := []) (ls := []) (cargs := [.int .u64 a0]) (Lent.of trivial) rfl (f_math_bits_Len64_sem a0 y hy) rfl rfl rfl rfl h
  · cases h
end Go.Ev

namespace Go.Ev
open Go.Proofs
set_option linter.unusedVariables false
set_option linter.unusedSimpArgs false
set_option maxRecDepth 100000
noncomputable def ch_f_wide_length : CH := (CH.add 375 h_math_bits_Len64 CH.none)
theorem ch_f_wide_length_ok : CHOk Tryz.prog ch_f_wide_length := (CH.add_ok h_math_bits_Len64_ok CH.none_ok)
noncomputable def f_wide_length_L2k {R : Type} (cc : List AVal × Nat) (v : Int) (kn : (Int) → Option R) (ke : ((Int) ⊕ (Unit)) → Option R) : Option R :=
  (cond (decide (v ≥ 0)) (need (decide (0 ≤ v) && decide (v < ((8 : Nat) : Int))) (need (rowOk [.int .u64] cc.1 (0 + (Int.toNat v * 1))) (cond ((geti cc.1 ((0 + (Int.toNat v * 1)) + 0)) != 0) (need (decide (0 ≤ v) && decide (v < ((8 : Nat) : Int))) (need (rowOk [.int .u64] cc.1 (0 + (Int.toNat v * 1))) (Option.bind (f_math_bits_Len64 (geti cc.1 ((0 + (Int.toNat v * 1)) + 0))) fun r1 => (ke (.inl (IntKind.wrap .i64 ((IntKind.wrap .i64 (64 * v)) + r1))))))) (kn (IntKind.wrap .i64 (v - 1)))))) (ke (.inr ())))
noncomputable def f_wide_length_L2s (cc : List AVal × Nat) (v : Int) : Option ((Int) ⊕ ((Int) ⊕ (Unit))) := f_wide_length_L2k cc v (fun v => some (Sum.inl v)) fun e => some (Sum.inr e)
noncomputable def f_wide_length_L2 (cc : List AVal × Nat) (v : Int) : Option ((Int) ⊕ (Unit)) := loopF (f_wide_length_L2s cc) v
def f_wide_length_L2toL (cc : List AVal × Nat) (v : Int) : List Leaf := [.I v, .C cc.1, .N cc.2]
def f_wide_length_L2ofL (ls : List Leaf) : Option ((List AVal × Nat) × (Int)) := match ls with
  | [.I x0, .C x1, .N x2] => some ((x1, x2), x0)
  | _ => none
def f_wide_length_L2out (e : (Int) ⊕ (Unit)) : AOut := ((Sum.elim (fun e => .ret) (fun e => .exit 0)) e)
def f_wide_length_L2toE (cc : List AVal × Nat) (e : (Int) ⊕ (Unit)) : List Leaf := ((Sum.elim (fun e => [.I e]) (fun e => [])) e)
def f_wide_length_L2conE (cc : List AVal × Nat) (e : (Int) ⊕ (Unit)) : List Leaf := ((Sum.elim (fun e => []) (fun e => [])) e)
def f_wide_length_L2ofE (o : AOut) (ls : List Leaf) : Option (((Int) ⊕ (Unit)) × List Leaf) := match o with
  | .ret => (match ls with
    | [.I x0] => some ((.inl x0), [])
    | _ => none)
  | .exit 0 => (match ls with
    | [] => some ((.inr ()), [])
    | _ => none)
  | _ => none
theorem f_wide_length_L2ofE_ok : ∀ o ls e cl cc, f_wide_length_L2ofE o ls = some (e, cl) → cl = f_wide_length_L2conE cc e → ls = f_wide_length_L2toE cc e ∧ f_wide_length_L2out e = o ∧ o ≠ .normal ∧ ∀ v, o = .pan v → sc 0 v = true := by
  intro o ls e cl cc h hc
  unfold f_wide_length_L2ofE at h
  split at h
  · split at h
    · cases h
      exact ⟨rfl, rfl, by simp, by intro v hv; cases hv <;> rfl⟩
    · cases h
  · split at h
    · cases h
      exact ⟨rfl, rfl, by simp, by intro v hv; cases hv <;> rfl⟩
    · cases h
  · cases h
def f_wide_length_L2sh (o : AOut) : ExS := match o with
  | .ret => ⟨0, [none, none, some (.int .i64), none, none, none, none, none, none, none, none, none, none, none, none, none, none, none, none], [], fun s => [], [], []⟩
  | .exit 0 => ⟨0, [none, none, none, none, none, none, none, none, none, none, none, none, none, none, none, none, none, none, none], [], fun s => [], [], []⟩
  | _ => ⟨0, [], [], fun _ => [], [], []⟩
theorem f_wide_length_L2nat {R : Type} (cc : List AVal × Nat) (v : Int) (kn : (Int) → Option R) (ke : ((Int) ⊕ (Unit)) → Option R) : f_wide_length_L2k cc v kn ke = (f_wide_length_L2k cc v (fun v => some (Sum.inl v)) fun e => some (Sum.inr e)).bind (Sum.elim kn ke) := by
  simp only [f_wide_length_L2k, cond_bind, need_nat, Option.bind_assoc, sum_bind, lookC_bind, Option.bind_some, Option.bind_none, Sum.elim_inl, Sum.elim_inr]
noncomputable def f_wide_length_L2d : LD where
  CC := List AVal × Nat
  V := Int
  E := (Int) ⊕ (Unit)
  n := 0
  K := 1
  M := [none, some (.ptr 0 0), none, some (.int .i64), none, none, none, none, none, none, none, none, none, none, none, none, none, none, none]
  B := [(0, .vec 8 true)]
  D := []
  pre := []
  F := fun s => [nameAt s 1 []]
  toL := f_wide_length_L2toL
  ofL := f_wide_length_L2ofL
  ofL_ok := fun ls c v h => by
    unfold f_wide_length_L2ofL at h
    split at h
    · cases h; rfl
    · cases h
  stepK := f_wide_length_L2k
  nat := f_wide_length_L2nat
  sh := f_wide_length_L2sh
  out := f_wide_length_L2out
  toE := f_wide_length_L2toE
  conE := f_wide_length_L2conE
  ofE := f_wide_length_L2ofE
  ofE_ok := f_wide_length_L2ofE_ok
  post := fun cc e k => ((Sum.elim (fun e => k (.ret) (canonSt 0 [none, none, some (.int .i64 e), none, none, none, none, none, none, none, none, none, none, none, none, none, none, none, none] [] [])) (fun e => k (.exit 0) (canonSt 0 [none, none, none, none, none, none, none, none, none, none, none, none, none, none, none, none, none, none, none] [] []))) e)
  post_eq := fun cc e k => by rcases e with e | e <;> rfl
theorem f_wide_length_L2_ok : LaOk Tryz.prog 0 f_wide_length_L2d.la (loopAt Tryz.f359 0) :=
  LD.ok (ch := ch_f_wide_length) (A := noAnns) tab_ok ch_f_wide_length_ok mixed (fuel := 60) ⟨by kernel_rfl, fun e => by (rcases e with e | e <;> kernel_rfl), fun cc v => by kernel_rfl, loops_ok (l := []) (by kernel_rfl) trivial⟩
noncomputable def f_wide_length (a0 : Int) (a1 : Int) (a2 : Int) (a3 : Int) (a4 : Int) (a5 : Int) (a6 : Int) (a7 : Int) : Option (Int) :=
  (Option.bind (f_wide_length_L2 (([.int .u64 a0, .int .u64 a1, .int .u64 a2, .int .u64 a3, .int .u64 a4, .int .u64 a5, .int .u64 a6, .int .u64 a7] : List AVal), 1) 7) (Sum.elim (fun e1 => (some e1)) (fun e1 => (some 0))))
def f_wide_length_d : FD where
  X := Int
  k := 0
  pre := []
  F := fun s => []
  M := .int .i64
  B := []
  toL := fun x => [.I x]
  ofL := fun ls => match ls with
    | [.I x0] => some x0
    | _ => none
  ofL_ok := fun ls x h => by
    split at h
    · cases h; rfl
    · cases h
theorem f_wide_length_sem (a0 : Int) (a1 : Int) (a2 : Int) (a3 : Int) (a4 : Int) (a5 : Int) (a6 : Int) (a7 : Int) (x : Int) (h : f_wide_length a0 a1 a2 a3 a4 a5 a6 a7 = some x) : IsFn Tryz.prog 359 ∧ SemCall Tryz.prog 359 [.agg [.int .u64 a0, .int .u64 a1, .int .u64 a2, .int .u64 a3, .int .u64 a4, .int .u64 a5, .int .u64 a6, .int .u64 a7]] ⟨0, numB 0 []⟩ (.ret (f_wide_length_d.val x)) ⟨0 + (f_wide_length_d.blks x).length, numB 0 (f_wide_length_d.blks x)⟩ :=
  FD.sem (ch := ch_f_wide_length) (A := annsOf [(2, f_wide_length_L2d.la)]) (fn := Tryz.f359) (c := bodyOf Tryz.f359) (fuel := 60) tab_ok ch_f_wide_length_ok mixed noNum f_wide_length_d Tryz.func359 (by kernel_rfl) (loops_ok (l := [loopAt Tryz.f359 0]) (by kernel_rfl) ⟨ann_one (by kernel_rfl) f_wide_length_L2_ok, trivial⟩)
    (by kernel_rfl) (Eq.trans (by kernel_rfl) h)
noncomputable def h_wide_length : HK where
  call := fun args σ k => match args with
    | [.agg [.int .u64 a0, .int .u64 a1, .int .u64 a2, .int .u64 a3, .int .u64 a4, .int .u64 a5, .int .u64 a6, .int .u64 a7]] => Option.bind (f_wide_length a0 a1 a2 a3 a4 a5 a6 a7) fun y => retK σ 0 (f_wide_length_d.val y) (f_wide_length_d.blks y) k
    | _ => none
  nat := fun args σ k => by
    repeat' split
    all_goals simp only [lendK_nat, Option.bind_assoc, Option.bind_none, retK, Option.bind_some]
  pure := true
  pok := fun _ args σ r σ' h => by
    split at h
    · exact pure_of h (fun y => rfl) (fun y f => rfl)
    · cases h
theorem h_wide_length_ok : HKOk Tryz.prog 359 h_wide_length := by
  intro args σ r σ' h
  simp only [h_wide_length] at h
  split at h
  · rename_i a0 a1 a2 a3 a4 a5 a6 a7
    obtain ⟨y, hy, h⟩ := Option.bind_eq_some_iff.1 h
    exact lifted (xs := []) (ls := []) (cargs := [.agg [.int .u64 a0, .int .u64 a1, .int .u64 a2, .int .u64 a3, .int .u64 a4, .int .u64 a5, .int .u64 a6, .int .u64 a7]]) (Lent.of trivial) rfl (f_wide_length_sem a0 a1 a2 a3 a4 a5 a6 a7 y hy) rfl rfl rfl rfl h
  · cases h
end Go.Ev

namespace Go.Ev
open Go.Proofs
set_option linter.unusedVariables false
set_option linter.unusedSimpArgs false
set_option maxRecDepth 100000
noncomputable def ch_f_wide_parts : CH := (CH.add 361 h_wide_half (CH.add 360 h_wide_left (CH.add 359 h_wide_length (CH.add 287 h_wide_not (CH.add 268 h_wide_above (CH.add 155 h_wide_plus CH.none))))))
theorem ch_f_wide_parts_ok : CHOk Tryz.prog ch_f_wide_parts := (CH.add_ok h_wide_half_ok (CH.add_ok h_wide_left_ok (CH.add_ok h_wide_length_ok (CH.add_ok h_wide_not_ok (CH.add_ok h_wide_above_ok (CH.add_ok h_wide_plus_ok CH.none_ok))))))
noncomputable def f_wide_parts_L6k {R : Type} (cc : Nat × Nat) (v : List AVal × List AVal × Int × List AVal × Nat) (kn : (List AVal × List AVal × Int × List AVal × Nat) → Option R) (ke : ((List AVal × List AVal)) → Option R) : Option R :=
  (cond (decide (v.2.2.1 ≥ 0)) (need (rowOk tk8 v.2.1 0) (need (rowOk tk8 v.2.2.2.1 0) (Option.bind (f_wide_above (geti v.2.1 0) (geti v.2.1 1) (geti v.2.1 2) (geti v.2.1 3) (geti v.2.1 4) (geti v.2.1 5) (geti v.2.1 6) (geti v.2.1 7) (geti v.2.2.2.1 0) (geti v.2.2.2.1 1) (geti v.2.2.2.1 2) (geti v.2.2.2.1 3) (geti v.2.2.2.1 4) (geti v.2.2.2.1 5) (geti v.2.2.2.1 6) (geti v.2.2.2.1 7)) fun r4 => (cond (decide (r4 ≥ 0)) (need (rowOk tk8 v.2.1 0) (need (rowOk tk8 v.2.2.2.1 0) (Option.bind (f_wide_not (geti v.2.2.2.1 0) (geti v.2.2.2.1 1) (geti v.2.2.2.1 2) (geti v.2.2.2.1 3) (geti v.2.2.2.1 4) (geti v.2.2.2.1 5) (geti v.2.2.2.1 6) (geti v.2.2.2.1 7)) fun r5 => (Option.bind (f_wide_plus (geti v.2.1 0) (geti v.2.1 1) (geti v.2.1 2) (geti v.2.1 3) (geti v.2.1 4) (geti v.2.1 5) (geti v.2.1 6) (geti v.2.1 7) r5.1 r5.2.1 r5.2.2.1 r5.2.2.2.1 r5.2.2.2.2.1 r5.2.2.2.2.2.1 r5.2.2.2.2.2.2.1 r5.2.2.2.2.2.2.2 1) fun r6 => (need (decide (0 + 8 ≤ List.length v.2.1)) (need (decide (0 ≤ (IntKind.wrap .i64 (Int.tdiv v.2.2.1 64))) && decide ((IntKind.wrap .i64 (Int.tdiv v.2.2.1 64)) < ((8 : Nat) : Int))) (need (rowOk [.int .u64] v.1 (0 + (Int.toNat (IntKind.wrap .i64 (Int.tdiv v.2.2.1 64)) * 1))) (need (!decide ((Int.tmod v.2.2.1 64) < 0)) (need (decide (0 ≤ (IntKind.wrap .i64 (Int.tdiv v.2.2.1 64))) && decide ((IntKind.wrap .i64 (Int.tdiv v.2.2.1 64)) < ((8 : Nat) : Int))) (need (decide ((0 + (Int.toNat (IntKind.wrap .i64 (Int.tdiv v.2.2.1 64)) * 1)) + 1 ≤ List.length v.1)) (need (rowOk tk8 v.2.2.2.1 0) (Option.bind (f_wide_half (geti v.2.2.2.1 0) (geti v.2.2.2.1 1) (geti v.2.2.2.1 2) (geti v.2.2.2.1 3) (geti v.2.2.2.1 4) (geti v.2.2.2.1 5) (geti v.2.2.2.1 6) (geti v.2.2.2.1 7)) fun r7 => (need (decide (0 + 8 ≤ List.length v.2.2.2.1)) (need (rowOk tk8 (spliced v.2.2.2.1 0 (vv8 r7.1 r7.2.1 r7.2.2.1 r7.2.2.2.1 r7.2.2.2.2.1 r7.2.2.2.2.2.1 r7.2.2.2.2.2.2.1 r7.2.2.2.2.2.2.2)) 0) (kn ((spliced v.1 (0 + (Int.toNat (IntKind.wrap .i64 (Int.tdiv v.2.2.1 64)) * 1)) [.int .u64 (ior .u64 (geti v.1 ((0 + (Int.toNat (IntKind.wrap .i64 (Int.tdiv v.2.2.1 64)) * 1)) + 0)) (ishl .u64 1 (Int.tmod v.2.2.1 64)))]), (spliced v.2.1 0 (vv8 r6.1 r6.2.1 r6.2.2.1 r6.2.2.2.1 r6.2.2.2.2.1 r6.2.2.2.2.2.1 r6.2.2.2.2.2.2.1 r6.2.2.2.2.2.2.2)), (IntKind.wrap .i64 (v.2.2.1 - 1)), ([.int .u64 (geti (spliced v.2.2.2.1 0 (vv8 r7.1 r7.2.1 r7.2.2.1 r7.2.2.2.1 r7.2.2.2.2.1 r7.2.2.2.2.2.1 r7.2.2.2.2.2.2.1 r7.2.2.2.2.2.2.2)) 0), .int .u64 (geti (spliced v.2.2.2.1 0 (vv8 r7.1 r7.2.1 r7.2.2.1 r7.2.2.2.1 r7.2.2.2.2.1 r7.2.2.2.2.2.1 r7.2.2.2.2.2.2.1 r7.2.2.2.2.2.2.2)) 1), .int .u64 (geti (spliced v.2.2.2.1 0 (vv8 r7.1 r7.2.1 r7.2.2.1 r7.2.2.2.1 r7.2.2.2.2.1 r7.2.2.2.2.2.1 r7.2.2.2.2.2.2.1 r7.2.2.2.2.2.2.2)) 2), .int .u64 (geti (spliced v.2.2.2.1 0 (vv8 r7.1 r7.2.1 r7.2.2.1 r7.2.2.2.1 r7.2.2.2.2.1 r7.2.2.2.2.2.1 r7.2.2.2.2.2.2.1 r7.2.2.2.2.2.2.2)) 3), .int .u64 (geti (spliced v.2.2.2.1 0 (vv8 r7.1 r7.2.1 r7.2.2.1 r7.2.2.2.1 r7.2.2.2.2.1 r7.2.2.2.2.2.1 r7.2.2.2.2.2.2.1 r7.2.2.2.2.2.2.2)) 4), .int .u64 (geti (spliced v.2.2.2.1 0 (vv8 r7.1 r7.2.1 r7.2.2.1 r7.2.2.2.1 r7.2.2.2.2.1 r7.2.2.2.2.2.1 r7.2.2.2.2.2.2.1 r7.2.2.2.2.2.2.2)) 5), .int .u64 (geti (spliced v.2.2.2.1 0 (vv8 r7.1 r7.2.1 r7.2.2.1 r7.2.2.2.1 r7.2.2.2.2.1 r7.2.2.2.2.2.1 r7.2.2.2.2.2.2.1 r7.2.2.2.2.2.2.2)) 6), .int .u64 (geti (spliced v.2.2.2.1 0 (vv8 r7.1 r7.2.1 r7.2.2.1 r7.2.2.2.1 r7.2.2.2.2.1 r7.2.2.2.2.2.1 r7.2.2.2.2.2.2.1 r7.2.2.2.2.2.2.2)) 7)] : List AVal), 1)))))))))))))))) (need (rowOk tk8 v.2.2.2.1 0) (Option.bind (f_wide_half (geti v.2.2.2.1 0) (geti v.2.2.2.1 1) (geti v.2.2.2.1 2) (geti v.2.2.2.1 3) (geti v.2.2.2.1 4) (geti v.2.2.2.1 5) (geti v.2.2.2.1 6) (geti v.2.2.2.1 7)) fun r8 => (need (decide (0 + 8 ≤ List.length v.2.2.2.1)) (need (rowOk tk8 (spliced v.2.2.2.1 0 (vv8 r8.1 r8.2.1 r8.2.2.1 r8.2.2.2.1 r8.2.2.2.2.1 r8.2.2.2.2.2.1 r8.2.2.2.2.2.2.1 r8.2.2.2.2.2.2.2)) 0) (kn (v.1, v.2.1, (IntKind.wrap .i64 (v.2.2.1 - 1)), ([.int .u64 (geti (spliced v.2.2.2.1 0 (vv8 r8.1 r8.2.1 r8.2.2.1 r8.2.2.2.1 r8.2.2.2.2.1 r8.2.2.2.2.2.1 r8.2.2.2.2.2.2.1 r8.2.2.2.2.2.2.2)) 0), .int .u64 (geti (spliced v.2.2.2.1 0 (vv8 r8.1 r8.2.1 r8.2.2.1 r8.2.2.2.1 r8.2.2.2.2.1 r8.2.2.2.2.2.1 r8.2.2.2.2.2.2.1 r8.2.2.2.2.2.2.2)) 1), .int .u64 (geti (spliced v.2.2.2.1 0 (vv8 r8.1 r8.2.1 r8.2.2.1 r8.2.2.2.1 r8.2.2.2.2.1 r8.2.2.2.2.2.1 r8.2.2.2.2.2.2.1 r8.2.2.2.2.2.2.2)) 2), .int .u64 (geti (spliced v.2.2.2.1 0 (vv8 r8.1 r8.2.1 r8.2.2.1 r8.2.2.2.1 r8.2.2.2.2.1 r8.2.2.2.2.2.1 r8.2.2.2.2.2.2.1 r8.2.2.2.2.2.2.2)) 3), .int .u64 (geti (spliced v.2.2.2.1 0 (vv8 r8.1 r8.2.1 r8.2.2.1 r8.2.2.2.1 r8.2.2.2.2.1 r8.2.2.2.2.2.1 r8.2.2.2.2.2.2.1 r8.2.2.2.2.2.2.2)) 4), .int .u64 (geti (spliced v.2.2.2.1 0 (vv8 r8.1 r8.2.1 r8.2.2.1 r8.2.2.2.1 r8.2.2.2.2.1 r8.2.2.2.2.2.1 r8.2.2.2.2.2.2.1 r8.2.2.2.2.2.2.2)) 5), .int .u64 (geti (spliced v.2.2.2.1 0 (vv8 r8.1 r8.2.1 r8.2.2.1 r8.2.2.2.1 r8.2.2.2.2.1 r8.2.2.2.2.2.1 r8.2.2.2.2.2.2.1 r8.2.2.2.2.2.2.2)) 6), .int .u64 (geti (spliced v.2.2.2.1 0 (vv8 r8.1 r8.2.1 r8.2.2.1 r8.2.2.2.1 r8.2.2.2.2.1 r8.2.2.2.2.2.1 r8.2.2.2.2.2.2.1 r8.2.2.2.2.2.2.2)) 7)] : List AVal), 1)))))))))) (ke (v.1, v.2.1)))
noncomputable def f_wide_parts_L6s (cc : Nat × Nat) (v : List AVal × List AVal × Int × List AVal × Nat) : Option ((List AVal × List AVal × Int × List AVal × Nat) ⊕ ((List AVal × List AVal))) := f_wide_parts_L6k cc v (fun v => some (Sum.inl v)) fun e => some (Sum.inr e)
noncomputable def f_wide_parts_L6 (cc : Nat × Nat) (v : List AVal × List AVal × Int × List AVal × Nat) : Option ((List AVal × List AVal)) := loopF (f_wide_parts_L6s cc) v
def f_wide_parts_L6toL (cc : Nat × Nat) (v : List AVal × List AVal × Int × List AVal × Nat) : List Leaf := [.I v.2.2.1, .C v.1, .N cc.1, .C v.2.1, .N cc.2, .C v.2.2.2.1, .N v.2.2.2.2]
def f_wide_parts_L6ofL (ls : List Leaf) : Option ((Nat × Nat) × (List AVal × List AVal × Int × List AVal × Nat)) := match ls with
  | [.I x0, .C x1, .N x2, .C x3, .N x4, .C x5, .N x6] => some ((x2, x4), (x1, x3, x0, x5, x6))
  | _ => none
def f_wide_parts_L6out (e : (List AVal × List AVal)) : AOut := ((fun e => .exit 0) e)
def f_wide_parts_L6toE (cc : Nat × Nat) (e : (List AVal × List AVal)) : List Leaf := ((fun e => [.C e.1, .N cc.1, .C e.2, .N cc.2]) e)
def f_wide_parts_L6conE (cc : Nat × Nat) (e : (List AVal × List AVal)) : List Leaf := ((fun e => [.N cc.1, .N cc.2]) e)
def f_wide_parts_L6ofE (o : AOut) (ls : List Leaf) : Option (((List AVal × List AVal)) × List Leaf) := match o with
  | .exit 0 => (match ls with
    | [.C x0, .N x1, .C x2, .N x3] => some ((x0, x2), [.N x1, .N x3])
    | _ => none)
  | _ => none
theorem f_wide_parts_L6ofE_ok : ∀ o ls e cl cc, f_wide_parts_L6ofE o ls = some (e, cl) → cl = f_wide_parts_L6conE cc e → ls = f_wide_parts_L6toE cc e ∧ f_wide_parts_L6out e = o ∧ o ≠ .normal ∧ ∀ v, o = .pan v → sc 0 v = true := by
  intro o ls e cl cc h hc
  unfold f_wide_parts_L6ofE at h
  split at h
  · split at h
    · cases h
      simp only [f_wide_parts_L6conE, Sum.elim_inl, Sum.elim_inr, List.cons.injEq, Leaf.I.injEq, Leaf.B.injEq, Leaf.S.injEq, Leaf.N.injEq, Leaf.C.injEq, Leaf.E.injEq, and_true] at hc
      obtain ⟨rfl, rfl⟩ := hc
      exact ⟨rfl, rfl, by simp, by intro v hv; cases hv <;> rfl⟩
    · cases h
  · cases h
def f_wide_parts_L6sh (o : AOut) : ExS := match o with
  | .exit 0 => ⟨2, [none, none, none, none, some (.ptr 0 0), some (.ptr 1 0), none, none, none, none, none, none, none, none, none, none, none, none, none, none, none, none, none, none, none, none, none, none, none, none, none, none, none, none, none, none, none, none, none, none, none, none, none, none, none, none, none], [(0, .vec 8 true), (1, .vec 8 true)], fun s => [nameAt s 4 [], nameAt s 5 []], [], []⟩
  | _ => ⟨0, [], [], fun _ => [], [], []⟩
theorem f_wide_parts_L6nat {R : Type} (cc : Nat × Nat) (v : List AVal × List AVal × Int × List AVal × Nat) (kn : (List AVal × List AVal × Int × List AVal × Nat) → Option R) (ke : ((List AVal × List AVal)) → Option R) : f_wide_parts_L6k cc v kn ke = (f_wide_parts_L6k cc v (fun v => some (Sum.inl v)) fun e => some (Sum.inr e)).bind (Sum.elim kn ke) := by
  simp only [f_wide_parts_L6k, cond_bind, need_nat, Option.bind_assoc, sum_bind, lookC_bind, Option.bind_some, Option.bind_none, Sum.elim_inl, Sum.elim_inr]
noncomputable def f_wide_parts_L6d : LD where
  CC := Nat × Nat
  V := List AVal × List AVal × Int × List AVal × Nat
  E := (List AVal × List AVal)
  n := 0
  K := 3
  M := [none, none, none, none, some (.ptr 0 0), some (.ptr 1 0), some (.int .i64), some (.ptr 2 0), none, none, none, none, none, none, none, none, none, none, none, none, none, none, none, none, none, none, none, none, none, none, none, none, none, none, none, none, none, none, none, none, none, none, none, none, none, none, none]
  B := [(0, .vec 8 true), (1, .vec 8 true), (2, .vec 8 true)]
  D := []
  pre := []
  F := fun s => [nameAt s 4 [], nameAt s 5 [], nameAt s 7 []]
  toL := f_wide_parts_L6toL
  ofL := f_wide_parts_L6ofL
  ofL_ok := fun ls c v h => by
    unfold f_wide_parts_L6ofL at h
    split at h
    · cases h; rfl
    · cases h
  stepK := f_wide_parts_L6k
  nat := f_wide_parts_L6nat
  sh := f_wide_parts_L6sh
  out := f_wide_parts_L6out
  toE := f_wide_parts_L6toE
  conE := f_wide_parts_L6conE
  ofE := f_wide_parts_L6ofE
  ofE_ok := f_wide_parts_L6ofE_ok
  post := fun cc e k => ((fun e => k (.exit 0) (canonSt 2 [none, none, none, none, some (.ptr 0 0), some (.ptr 1 0), none, none, none, none, none, none, none, none, none, none, none, none, none, none, none, none, none, none, none, none, none, none, none, none, none, none, none, none, none, none, none, none, none, none, none, none, none, none, none, none, none] [(0, .vec e.1 cc.1 8 true), (1, .vec e.2 cc.2 8 true)] [])) e)
  post_eq := fun cc e k => by rfl
theorem f_wide_parts_L6_ok : LaOk Tryz.prog 0 f_wide_parts_L6d.la (loopAt Tryz.f286 0) :=
  LD.ok (ch := ch_f_wide_parts) (A := noAnns) tab_ok ch_f_wide_parts_ok mixed (fuel := 60) ⟨by kernel_rfl, fun e => by kernel_rfl, fun cc v => by kernel_rfl, loops_ok (l := []) (by kernel_rfl) trivial⟩
noncomputable def f_wide_parts (a0 : Int) (a1 : Int) (a2 : Int) (a3 : Int) (a4 : Int) (a5 : Int) (a6 : Int) (a7 : Int) (a8 : Int) (a9 : Int) (a10 : Int) (a11 : Int) (a12 : Int) (a13 : Int) (a14 : Int) (a15 : Int) : Option (Int × Int × Int × Int × Int × Int × Int × Int × Int × Int × Int × Int × Int × Int × Int × Int) :=
  (Option.bind (f_wide_length a0 a1 a2 a3 a4 a5 a6 a7) fun r1 => (Option.bind (f_wide_length a8 a9 a10 a11 a12 a13 a14 a15) fun r2 => (cond (decide ((IntKind.wrap .i64 (r1 - r2)) < 0)) (some (0, 0, 0, 0, 0, 0, 0, 0, a0, a1, a2, a3, a4, a5, a6, a7)) (Option.bind (f_wide_left a8 a9 a10 a11 a12 a13 a14 a15 (IntKind.wrap .i64 (r1 - r2))) fun r3 => (Option.bind (f_wide_parts_L6 (1, 1) ((vv8 0 0 0 0 0 0 0 0), (vv8 a0 a1 a2 a3 a4 a5 a6 a7), (IntKind.wrap .i64 (r1 - r2)), (vv8 r3.1 r3.2.1 r3.2.2.1 r3.2.2.2.1 r3.2.2.2.2.1 r3.2.2.2.2.2.1 r3.2.2.2.2.2.2.1 r3.2.2.2.2.2.2.2), 1)) fun e4 => (need (rowOk tk8 e4.1 0) (need (rowOk tk8 e4.2 0) (need (decide (0 + 8 ≤ List.length e4.1)) (need (decide (0 + 8 ≤ List.length e4.2)) (need (rowOk tk8 (spliced e4.1 0 (vv8 (geti e4.1 0) (geti e4.1 1) (geti e4.1 2) (geti e4.1 3) (geti e4.1 4) (geti e4.1 5) (geti e4.1 6) (geti e4.1 7))) 0) (need (rowOk tk8 (spliced e4.2 0 (vv8 (geti e4.2 0) (geti e4.2 1) (geti e4.2 2) (geti e4.2 3) (geti e4.2 4) (geti e4.2 5) (geti e4.2 6) (geti e4.2 7))) 0) (some ((geti (spliced e4.1 0 (vv8 (geti e4.1 0) (geti e4.1 1) (geti e4.1 2) (geti e4.1 3) (geti e4.1 4) (geti e4.1 5) (geti e4.1 6) (geti e4.1 7))) 0), (geti (spliced e4.1 0 (vv8 (geti e4.1 0) (geti e4.1 1) (geti e4.1 2) (geti e4.1 3) (geti e4.1 4) (geti e4.1 5) (geti e4.1 6) (geti e4.1 7))) 1), (geti (spliced e4.1 0 (vv8 (geti e4.1 0) (geti e4.1 1) (geti e4.1 2) (geti e4.1 3) (geti e4.1 4) (geti e4.1 5) (geti e4.1 6) (geti e4.1 7))) 2), (geti (spliced e4.1 0 (vv8 (geti e4.1 0) (geti e4.1 1) (geti e4.1 2) (geti e4.1 3) (geti e4.1 4) (geti e4.1 5) (geti e4.1 6) (geti e4.1 7))) 3), (geti (spliced e4.1 0 (vv8 (geti e4.1 0) (geti e4.1 1) (geti e4.1 2) (geti e4.1 3) (geti e4.1 4) (geti e4.1 5) (geti e4.1 6) (geti e4.1 7))) 4), (geti (spliced e4.1 0 (vv8 (geti e4.1 0) (geti e4.1 1) (geti e4.1 2) (geti e4.1 3) (geti e4.1 4) (geti e4.1 5) (geti e4.1 6) (geti e4.1 7))) 5), (geti (spliced e4.1 0 (vv8 (geti e4.1 0) (geti e4.1 1) (geti e4.1 2) (geti e4.1 3) (geti e4.1 4) (geti e4.1 5) (geti e4.1 6) (geti e4.1 7))) 6), (geti (spliced e4.1 0 (vv8 (geti e4.1 0) (geti e4.1 1) (geti e4.1 2) (geti e4.1 3) (geti e4.1 4) (geti e4.1 5) (geti e4.1 6) (geti e4.1 7))) 7), (geti (spliced e4.2 0 (vv8 (geti e4.2 0) (geti e4.2 1) (geti e4.2 2) (geti e4.2 3) (geti e4.2 4) (geti e4.2 5) (geti e4.2 6) (geti e4.2 7))) 0), (geti (spliced e4.2 0 (vv8 (geti e4.2 0) (geti e4.2 1) (geti e4.2 2) (geti e4.2 3) (geti e4.2 4) (geti e4.2 5) (geti e4.2 6) (geti e4.2 7))) 1), (geti (spliced e4.2 0 (vv8 (geti e4.2 0) (geti e4.2 1) (geti e4.2 2) (geti e4.2 3) (geti e4.2 4) (geti e4.2 5) (geti e4.2 6) (geti e4.2 7))) 2), (geti (spliced e4.2 0 (vv8 (geti e4.2 0) (geti e4.2 1) (geti e4.2 2) (geti e4.2 3) (geti e4.2 4) (geti e4.2 5) (geti e4.2 6) (geti e4.2 7))) 3), (geti (spliced e4.2 0 (vv8 (geti e4.2 0) (geti e4.2 1) (geti e4.2 2) (geti e4.2 3) (geti e4.2 4) (geti e4.2 5) (geti e4.2 6) (geti e4.2 7))) 4), (geti (spliced e4.2 0 (vv8 (geti e4.2 0) (geti e4.2 1) (geti e4.2 2) (geti e4.2 3) (geti e4.2 4) (geti e4.2 5) (geti e4.2 6) (geti e4.2 7))) 5), (geti (spliced e4.2 0 (vv8 (geti e4.2 0) (geti e4.2 1) (geti e4.2 2) (geti e4.2 3) (geti e4.2 4) (geti e4.2 5) (geti e4.2 6) (geti e4.2 7))) 6), (geti (spliced e4.2 0 (vv8 (geti e4.2 0) (geti e4.2 1) (geti e4.2 2) (geti e4.2 3) (geti e4.2 4) (geti e4.2 5) (geti e4.2 6) (geti e4.2 7))) 7))))))))))))))
def f_wide_parts_d : FD where
  X := Int × Int × Int × Int × Int × Int × Int × Int × Int × Int × Int × Int × Int × Int × Int × Int
  k := 0
  pre := []
  F := fun s => []
  M := .tup [.agg [.int .u64, .int .u64, .int .u64, .int .u64, .int .u64, .int .u64, .int .u64, .int .u64], .agg [.int .u64, .int .u64, .int .u64, .int .u64, .int .u64, .int .u64, .int .u64, .int .u64]]
  B := []
  toL := fun x => [.I x.1, .I x.2.1, .I x.2.2.1, .I x.2.2.2.1, .I x.2.2.2.2.1, .I x.2.2.2.2.2.1, .I x.2.2.2.2.2.2.1, .I x.2.2.2.2.2.2.2.1, .I x.2.2.2.2.2.2.2.2.1, .I x.2.2.2.2.2.2.2.2.2.1, .I x.2.2.2.2.2.2.2.2.2.2.1, .I x.2.2.2.2.2.2.2.2.2.2.2.1, .I x.2.2.2.2.2.2.2.2.2.2.2.2.1, .I x.2.2.2.2.2.2.2.2.2.2.2.2.2.1, .I x.2.2.2.2.2.2.2.2.2.2.2.2.2.2.1, .I x.2.2.2.2.2.2.2.2.2.2.2.2.2.2.2]
  ofL := fun ls => match ls with
    | [.I x0, .I x1, .I x2, .I x3, .I x4, .I x5, .I x6, .I x7, .I x8, .I x9, .I x10, .I x11, .I x12, .I x13, .I x14, .I x15] => some (x0, x1, x2, x3, x4, x5, x6, x7, x8, x9, x10, x11, x12, x13, x14, x15)
    | _ => none
  ofL_ok := fun ls x h => by
    split at h
    · cases h; rfl
    · cases h
theorem f_wide_parts_sem (a0 : Int) (a1 : Int) (a2 : Int) (a3 : Int) (a4 : Int) (a5 : Int) (a6 : Int) (a7 : Int) (a8 : Int) (a9 : Int) (a10 : Int) (a11 : Int) (a12 : Int) (a13 : Int) (a14 : Int) (a15 : Int) (x : Int × Int × Int × Int × Int × Int × Int × Int × Int × Int × Int × Int × Int × Int × Int × Int) (h : f_wide_parts a0 a1 a2 a3 a4 a5 a6 a7 a8 a9 a10 a11 a12 a13 a14 a15 = some x) : IsFn Tryz.prog 286 ∧ SemCall Tryz.prog 286 [.agg (vv8 a0 a1 a2 a3 a4 a5 a6 a7), .agg (vv8 a8 a9 a10 a11 a12 a13 a14 a15)] ⟨0, numB 0 []⟩ (.ret (f_wide_parts_d.val x)) ⟨0 + (f_wide_parts_d.blks x).length, numB 0 (f_wide_parts_d.blks x)⟩ :=
  FD.sem (ch := ch_f_wide_parts) (A := annsOf [(6, f_wide_parts_L6d.la)]) (fn := Tryz.f286) (c := bodyOf Tryz.f286) (fuel := 60) tab_ok ch_f_wide_parts_ok mixed noNum f_wide_parts_d Tryz.func286 (by kernel_rfl) (loops_ok (l := [loopAt Tryz.f286 0]) (by kernel_rfl) ⟨ann_one (by kernel_rfl) f_wide_parts_L6_ok, trivial⟩)
    (by kernel_rfl) (Eq.trans (by kernel_rfl) h)
noncomputable def h_wide_parts : HK where
  call := fun args σ k => match args with
    | [.agg [.int .u64 a0, .int .u64 a1, .int .u64 a2, .int .u64 a3, .int .u64 a4, .int .u64 a5, .int .u64 a6, .int .u64 a7], .agg [.int .u64 a8, .int .u64 a9, .int .u64 a10, .int .u64 a11, .int .u64 a12, .int .u64 a13, .int .u64 a14, .int .u64 a15]] => Option.bind (f_wide_parts a0 a1 a2 a3 a4 a5 a6 a7 a8 a9 a10 a11 a12 a13 a14 a15) fun y => retK σ 0 (f_wide_parts_d.val y) (f_wide_parts_d.blks y) k
    | _ => none
  nat := fun args σ k => by
    repeat' split
    all_goals simp only [lendK_nat, Option.bind_assoc, Option.bind_none, retK, Option.bind_some]
  pure := true
  pok := fun _ args σ r σ' h => by
    split at h
    · exact pure_of h (fun y => rfl) (fun y f => rfl)
    · cases h
theorem h_wide_parts_ok : HKOk Tryz.prog 286 h_wide_parts := by
  intro args σ r σ' h
  simp only [h_wide_parts] at h
  split at h
  · rename_i a0 a1 a2 a3 a4 a5 a6 a7 a8 a9 a10 a11 a12 a13 a14 a15
    obtain ⟨y, hy, h⟩ := Option.bind_eq_some_iff.1 h
    exact lifted (xs := []) (ls := []) (cargs := [.agg (vv8 a0 a1 a2 a3 a4 a5 a6 a7), .agg (vv8 a8 a9 a10 a11 a12 a13 a14 a15)]) (Lent.of trivial) rfl (f_wide_parts_sem a0 a1 a2 a3 a4 a5 a6 a7 a8 a9 a10 a11 a12 a13 a14 a15 y hy) rfl rfl rfl rfl h
  · cases h
end Go.Ev

namespace Go.Ev
open Go.Proofs
set_option linter.unusedVariables false
set_option linter.unusedSimpArgs false
set_option maxRecDepth 100000
noncomputable def ch_f_wide_signed : CH := (CH.add 270 h_wide_minus (CH.add 154 h_wide_negative CH.none))
theorem ch_f_wide_signed_ok : CHOk Tryz.prog ch_f_wide_signed := (CH.add_ok h_wide_minus_ok (CH.add_ok h_wide_negative_ok CH.none_ok))
noncomputable def f_wide_signed (a0 : Int) (a1 : Int) (a2 : Int) (a3 : Int) (a4 : Int) (a5 : Int) (a6 : Int) (a7 : Int) (q8 : Bool) : Option (Int × Int × Int × Int × Int × Int × Int × Int) :=
  (cond q8 (Option.bind (f_wide_minus a0 a1 a2 a3 a4 a5 a6 a7) fun r1 => (cond (!(r1.1 == 0 && (r1.2.1 == 0 && (r1.2.2.1 == 0 && (r1.2.2.2.1 == 0 && (r1.2.2.2.2.1 == 0 && (r1.2.2.2.2.2.1 == 0 && (r1.2.2.2.2.2.2.1 == 0 && (r1.2.2.2.2.2.2.2 == 0 && true))))))))) (Option.bind (f_wide_negative r1.1 r1.2.1 r1.2.2.1 r1.2.2.2.1 r1.2.2.2.2.1 r1.2.2.2.2.2.1 r1.2.2.2.2.2.2.1 r1.2.2.2.2.2.2.2) fun r2 => (cond r2 (cond q8 (some (r1.1, r1.2.1, r1.2.2.1, r1.2.2.2.1, r1.2.2.2.2.1, r1.2.2.2.2.2.1, r1.2.2.2.2.2.2.1, r1.2.2.2.2.2.2.2)) none) (cond q8 none (some (r1.1, r1.2.1, r1.2.2.1, r1.2.2.2.1, r1.2.2.2.2.1, r1.2.2.2.2.2.1, r1.2.2.2.2.2.2.1, r1.2.2.2.2.2.2.2))))) (some (r1.1, r1.2.1, r1.2.2.1, r1.2.2.2.1, r1.2.2.2.2.1, r1.2.2.2.2.2.1, r1.2.2.2.2.2.2.1, r1.2.2.2.2.2.2.2)))) (cond (!(a0 == 0 && (a1 == 0 && (a2 == 0 && (a3 == 0 && (a4 == 0 && (a5 == 0 && (a6 == 0 && (a7 == 0 && true))))))))) (Option.bind (f_wide_negative a0 a1 a2 a3 a4 a5 a6 a7) fun r3 => (cond r3 (cond q8 (some (a0, a1, a2, a3, a4, a5, a6, a7)) none) (cond q8 none (some (a0, a1, a2, a3, a4, a5, a6, a7))))) (some (a0, a1, a2, a3, a4, a5, a6, a7))))
def f_wide_signed_d : FD where
  X := Int × Int × Int × Int × Int × Int × Int × Int
  k := 0
  pre := []
  F := fun s => []
  M := .agg [.int .u64, .int .u64, .int .u64, .int .u64, .int .u64, .int .u64, .int .u64, .int .u64]
  B := []
  toL := fun x => [.I x.1, .I x.2.1, .I x.2.2.1, .I x.2.2.2.1, .I x.2.2.2.2.1, .I x.2.2.2.2.2.1, .I x.2.2.2.2.2.2.1, .I x.2.2.2.2.2.2.2]
  ofL := fun ls => match ls with
    | [.I x0, .I x1, .I x2, .I x3, .I x4, .I x5, .I x6, .I x7] => some (x0, x1, x2, x3, x4, x5, x6, x7)
    | _ => none
  ofL_ok := fun ls x h => by
    split at h
    · cases h; rfl
    · cases h
theorem f_wide_signed_sem (a0 : Int) (a1 : Int) (a2 : Int) (a3 : Int) (a4 : Int) (a5 : Int) (a6 : Int) (a7 : Int) (q8 : Bool) (x : Int × Int × Int × Int × Int × Int × Int × Int) (h : f_wide_signed a0 a1 a2 a3 a4 a5 a6 a7 q8 = some x) : IsFn Tryz.prog 153 ∧ SemCall Tryz.prog 153 [.agg (vv8 a0 a1 a2 a3 a4 a5 a6 a7), .bool q8] ⟨0, numB 0 []⟩ (.ret (f_wide_signed_d.val x)) ⟨0 + (f_wide_signed_d.blks x).length, numB 0 (f_wide_signed_d.blks x)⟩ :=
  FD.sem (ch := ch_f_wide_signed) (A := noAnns) (fn := Tryz.f153) (c := bodyOf Tryz.f153) (fuel := 60) tab_ok ch_f_wide_signed_ok mixed noNum f_wide_signed_d Tryz.func153 (by kernel_rfl) (loops_ok (l := []) (by kernel_rfl) trivial)
    (by kernel_rfl) (Eq.trans (by kernel_rfl) h)
noncomputable def h_wide_signed : HK where
  call := fun args σ k => match args with
    | [.agg [.int .u64 a0, .int .u64 a1, .int .u64 a2, .int .u64 a3, .int .u64 a4, .int .u64 a5, .int .u64 a6, .int .u64 a7], .bool q8] => Option.bind (f_wide_signed a0 a1 a2 a3 a4 a5 a6 a7 q8) fun y => retK σ 0 (f_wide_signed_d.val y) (f_wide_signed_d.blks y) k
    | _ => none
  nat := fun args σ k => by
    repeat' split
    all_goals simp only [lendK_nat, Option.bind_assoc, Option.bind_none, retK, Option.bind_some]
  pure := true
  pok := fun _ args σ r σ' h => by
    split at h
    · exact pure_of h (fun y => rfl) (fun y f => rfl)
    · cases h
theorem h_wide_signed_ok : HKOk Tryz.prog 153 h_wide_signed := by
  intro args σ r σ' h
  simp only [h_wide_signed] at h
  split at h
  · rename_i a0 a1 a2 a3 a4 a5 a6 a7 q8
    obtain ⟨y, hy, h⟩ := Option.bind_eq_some_iff.1 h
    exact lifted (xs := []) (ls := []) (cargs := [.agg (vv8 a0 a1 a2 a3 a4 a5 a6 a7), .bool q8]) (Lent.of trivial) rfl (f_wide_signed_sem a0 a1 a2 a3 a4 a5 a6 a7 q8 y hy) rfl rfl rfl rfl h
  · cases h
end Go.Ev

namespace Go.Ev
open Go.Proofs
set_option linter.unusedVariables false
set_option linter.unusedSimpArgs false
set_option maxRecDepth 100000
noncomputable def ch_f_wide_Div : CH := (CH.add 287 h_wide_not (CH.add 286 h_wide_parts (CH.add 258 h_wide_Sign (CH.add 155 h_wide_plus (CH.add 154 h_wide_negative (CH.add 153 h_wide_signed (CH.add 150 h_wide_size CH.none)))))))
theorem ch_f_wide_Div_ok : CHOk Tryz.prog ch_f_wide_Div := (CH.add_ok h_wide_not_ok (CH.add_ok h_wide_parts_ok (CH.add_ok h_wide_Sign_ok (CH.add_ok h_wide_plus_ok (CH.add_ok h_wide_negative_ok (CH.add_ok h_wide_signed_ok (CH.add_ok h_wide_size_ok CH.none_ok)))))))
noncomputable def f_wide_Div (a0 : Int) (a1 : Int) (a2 : Int) (a3 : Int) (a4 : Int) (a5 : Int) (a6 : Int) (a7 : Int) (a8 : Int) (a9 : Int) (a10 : Int) (a11 : Int) (a12 : Int) (a13 : Int) (a14 : Int) (a15 : Int) : Option (Int × Int × Int × Int × Int × Int × Int × Int × Int × Int × Int × Int × Int × Int × Int × Int × Bool) :=
  (Option.bind (f_wide_Sign a8 a9 a10 a11 a12 a13 a14 a15) fun r1 => (cond (r1 == 0) (some (0, 0, 0, 0, 0, 0, 0, 0, 0, 0, 0, 0, 0, 0, 0, 0, false)) (Option.bind (f_wide_size a0 a1 a2 a3 a4 a5 a6 a7) fun r2 => (Option.bind (f_wide_size a8 a9 a10 a11 a12 a13 a14 a15) fun r3 => (Option.bind (f_wide_parts r2.1 r2.2.1 r2.2.2.1 r2.2.2.2.1 r2.2.2.2.2.1 r2.2.2.2.2.2.1 r2.2.2.2.2.2.2.1 r2.2.2.2.2.2.2.2 r3.1 r3.2.1 r3.2.2.1 r3.2.2.2.1 r3.2.2.2.2.1 r3.2.2.2.2.2.1 r3.2.2.2.2.2.2.1 r3.2.2.2.2.2.2.2) fun r4 => (Option.bind (f_wide_negative a0 a1 a2 a3 a4 a5 a6 a7) fun r5 => (cond r5 (Option.bind (f_wide_negative a8 a9 a10 a11 a12 a13 a14 a15) fun r6 => (cond r6 (Option.bind (f_wide_signed r4.1 r4.2.1 r4.2.2.1 r4.2.2.2.1 r4.2.2.2.2.1 r4.2.2.2.2.2.1 r4.2.2.2.2.2.2.1 r4.2.2.2.2.2.2.2.1 false) fun r7 => (Option.bind (f_wide_negative a8 a9 a10 a11 a12 a13 a14 a15) fun r8 => (cond r8 (Option.bind (f_wide_signed r4.2.2.2.2.2.2.2.2.1 r4.2.2.2.2.2.2.2.2.2.1 r4.2.2.2.2.2.2.2.2.2.2.1 r4.2.2.2.2.2.2.2.2.2.2.2.1 r4.2.2.2.2.2.2.2.2.2.2.2.2.1 r4.2.2.2.2.2.2.2.2.2.2.2.2.2.1 r4.2.2.2.2.2.2.2.2.2.2.2.2.2.2.1 r4.2.2.2.2.2.2.2.2.2.2.2.2.2.2.2 true) fun r9 => (some (r7.1, r7.2.1, r7.2.2.1, r7.2.2.2.1, r7.2.2.2.2.1, r7.2.2.2.2.2.1, r7.2.2.2.2.2.2.1, r7.2.2.2.2.2.2.2, r9.1, r9.2.1, r9.2.2.1, r9.2.2.2.1, r9.2.2.2.2.1, r9.2.2.2.2.2.1, r9.2.2.2.2.2.2.1, r9.2.2.2.2.2.2.2, true))) (Option.bind (f_wide_signed r4.2.2.2.2.2.2.2.2.1 r4.2.2.2.2.2.2.2.2.2.1 r4.2.2.2.2.2.2.2.2.2.2.1 r4.2.2.2.2.2.2.2.2.2.2.2.1 r4.2.2.2.2.2.2.2.2.2.2.2.2.1 r4.2.2.2.2.2.2.2.2.2.2.2.2.2.1 r4.2.2.2.2.2.2.2.2.2.2.2.2.2.2.1 r4.2.2.2.2.2.2.2.2.2.2.2.2.2.2.2 false) fun r10 => (some (r7.1, r7.2.1, r7.2.2.1, r7.2.2.2.1, r7.2.2.2.2.1, r7.2.2.2.2.2.1, r7.2.2.2.2.2.2.1, r7.2.2.2.2.2.2.2, r10.1, r10.2.1, r10.2.2.1, r10.2.2.2.1, r10.2.2.2.2.1, r10.2.2.2.2.2.1, r10.2.2.2.2.2.2.1, r10.2.2.2.2.2.2.2, true)))))) (cond (!(r4.2.2.2.2.2.2.2.2.1 == 0 && (r4.2.2.2.2.2.2.2.2.2.1 == 0 && (r4.2.2.2.2.2.2.2.2.2.2.1 == 0 && (r4.2.2.2.2.2.2.2.2.2.2.2.1 == 0 && (r4.2.2.2.2.2.2.2.2.2.2.2.2.1 == 0 && (r4.2.2.2.2.2.2.2.2.2.2.2.2.2.1 == 0 && (r4.2.2.2.2.2.2.2.2.2.2.2.2.2.2.1 == 0 && (r4.2.2.2.2.2.2.2.2.2.2.2.2.2.2.2 == 0 && true))))))))) (Option.bind (f_wide_plus r4.1 r4.2.1 r4.2.2.1 r4.2.2.2.1 r4.2.2.2.2.1 r4.2.2.2.2.2.1 r4.2.2.2.2.2.2.1 r4.2.2.2.2.2.2.2.1 0 0 0 0 0 0 0 0 1) fun r11 => (Option.bind (f_wide_size a8 a9 a10 a11 a12 a13 a14 a15) fun r12 => (Option.bind (f_wide_not r4.2.2.2.2.2.2.2.2.1 r4.2.2.2.2.2.2.2.2.2.1 r4.2.2.2.2.2.2.2.2.2.2.1 r4.2.2.2.2.2.2.2.2.2.2.2.1 r4.2.2.2.2.2.2.2.2.2.2.2.2.1 r4.2.2.2.2.2.2.2.2.2.2.2.2.2.1 r4.2.2.2.2.2.2.2.2.2.2.2.2.2.2.1 r4.2.2.2.2.2.2.2.2.2.2.2.2.2.2.2) fun r13 => (Option.bind (f_wide_plus r12.1 r12.2.1 r12.2.2.1 r12.2.2.2.1 r12.2.2.2.2.1 r12.2.2.2.2.2.1 r12.2.2.2.2.2.2.1 r12.2.2.2.2.2.2.2 r13.1 r13.2.1 r13.2.2.1 r13.2.2.2.1 r13.2.2.2.2.1 r13.2.2.2.2.2.1 r13.2.2.2.2.2.2.1 r13.2.2.2.2.2.2.2 1) fun r14 => (Option.bind (f_wide_signed r11.1 r11.2.1 r11.2.2.1 r11.2.2.2.1 r11.2.2.2.2.1 r11.2.2.2.2.2.1 r11.2.2.2.2.2.2.1 r11.2.2.2.2.2.2.2 true) fun r15 => (Option.bind (f_wide_negative a8 a9 a10 a11 a12 a13 a14 a15) fun r16 => (cond r16 (Option.bind (f_wide_signed r14.1 r14.2.1 r14.2.2.1 r14.2.2.2.1 r14.2.2.2.2.1 r14.2.2.2.2.2.1 r14.2.2.2.2.2.2.1 r14.2.2.2.2.2.2.2 true) fun r17 => (some (r15.1, r15.2.1, r15.2.2.1, r15.2.2.2.1, r15.2.2.2.2.1, r15.2.2.2.2.2.1, r15.2.2.2.2.2.2.1, r15.2.2.2.2.2.2.2, r17.1, r17.2.1, r17.2.2.1, r17.2.2.2.1, r17.2.2.2.2.1, r17.2.2.2.2.2.1, r17.2.2.2.2.2.2.1, r17.2.2.2.2.2.2.2, true))) (Option.bind (f_wide_signed r14.1 r14.2.1 r14.2.2.1 r14.2.2.2.1 r14.2.2.2.2.1 r14.2.2.2.2.2.1 r14.2.2.2.2.2.2.1 r14.2.2.2.2.2.2.2 false) fun r18 => (some (r15.1, r15.2.1, r15.2.2.1, r15.2.2.2.1, r15.2.2.2.2.1, r15.2.2.2.2.2.1, r15.2.2.2.2.2.2.1, r15.2.2.2.2.2.2.2, r18.1, r18.2.1, r18.2.2.1, r18.2.2.2.1, r18.2.2.2.2.1, r18.2.2.2.2.2.1, r18.2.2.2.2.2.2.1, r18.2.2.2.2.2.2.2, true)))))))))) (Option.bind (f_wide_signed r4.1 r4.2.1 r4.2.2.1 r4.2.2.2.1 r4.2.2.2.2.1 r4.2.2.2.2.2.1 r4.2.2.2.2.2.2.1 r4.2.2.2.2.2.2.2.1 true) fun r19 => (Option.bind (f_wide_negative a8 a9 a10 a11 a12 a13 a14 a15) fun r20 => (cond r20 (Option.bind (f_wide_signed r4.2.2.2.2.2.2.2.2.1 r4.2.2.2.2.2.2.2.2.2.1 r4.2.2.2.2.2.2.2.2.2.2.1 r4.2.2.2.2.2.2.2.2.2.2.2.1 r4.2.2.2.2.2.2.2.2.2.2.2.2.1 r4.2.2.2.2.2.2.2.2.2.2.2.2.2.1 r4.2.2.2.2.2.2.2.2.2.2.2.2.2.2.1 r4.2.2.2.2.2.2.2.2.2.2.2.2.2.2.2 true) fun r21 => (some (r19.1, r19.2.1, r19.2.2.1, r19.2.2.2.1, r19.2.2.2.2.1, r19.2.2.2.2.2.1, r19.2.2.2.2.2.2.1, r19.2.2.2.2.2.2.2, r21.1, r21.2.1, r21.2.2.1, r21.2.2.2.1, r21.2.2.2.2.1, r21.2.2.2.2.2.1, r21.2.2.2.2.2.2.1, r21.2.2.2.2.2.2.2, true))) (Option.bind (f_wide_signed r4.2.2.2.2.2.2.2.2.1 r4.2.2.2.2.2.2.2.2.2.1 r4.2.2.2.2.2.2.2.2.2.2.1 r4.2.2.2.2.2.2.2.2.2.2.2.1 r4.2.2.2.2.2.2.2.2.2.2.2.2.1 r4.2.2.2.2.2.2.2.2.2.2.2.2.2.1 r4.2.2.2.2.2.2.2.2.2.2.2.2.2.2.1 r4.2.2.2.2.2.2.2.2.2.2.2.2.2.2.2 false) fun r22 => (some (r19.1, r19.2.1, r19.2.2.1, r19.2.2.2.1, r19.2.2.2.2.1, r19.2.2.2.2.2.1, r19.2.2.2.2.2.2.1, r19.2.2.2.2.2.2.2, r22.1, r22.2.1, r22.2.2.1, r22.2.2.2.1, r22.2.2.2.2.1, r22.2.2.2.2.2.1, r22.2.2.2.2.2.2.1, r22.2.2.2.2.2.2.2, true))))))))) (Option.bind (f_wide_negative a8 a9 a10 a11 a12 a13 a14 a15) fun r23 => (cond r23 (cond (!(r4.2.2.2.2.2.2.2.2.1 == 0 && (r4.2.2.2.2.2.2.2.2.2.1 == 0 && (r4.2.2.2.2.2.2.2.2.2.2.1 == 0 && (r4.2.2.2.2.2.2.2.2.2.2.2.1 == 0 && (r4.2.2.2.2.2.2.2.2.2.2.2.2.1 == 0 && (r4.2.2.2.2.2.2.2.2.2.2.2.2.2.1 == 0 && (r4.2.2.2.2.2.2.2.2.2.2.2.2.2.2.1 == 0 && (r4.2.2.2.2.2.2.2.2.2.2.2.2.2.2.2 == 0 && true))))))))) (Option.bind (f_wide_plus r4.1 r4.2.1 r4.2.2.1 r4.2.2.2.1 r4.2.2.2.2.1 r4.2.2.2.2.2.1 r4.2.2.2.2.2.2.1 r4.2.2.2.2.2.2.2.1 0 0 0 0 0 0 0 0 1) fun r24 => (Option.bind (f_wide_size a8 a9 a10 a11 a12 a13 a14 a15) fun r25 => (Option.bind (f_wide_not r4.2.2.2.2.2.2.2.2.1 r4.2.2.2.2.2.2.2.2.2.1 r4.2.2.2.2.2.2.2.2.2.2.1 r4.2.2.2.2.2.2.2.2.2.2.2.1 r4.2.2.2.2.2.2.2.2.2.2.2.2.1 r4.2.2.2.2.2.2.2.2.2.2.2.2.2.1 r4.2.2.2.2.2.2.2.2.2.2.2.2.2.2.1 r4.2.2.2.2.2.2.2.2.2.2.2.2.2.2.2) fun r26 => (Option.bind (f_wide_plus r25.1 r25.2.1 r25.2.2.1 r25.2.2.2.1 r25.2.2.2.2.1 r25.2.2.2.2.2.1 r25.2.2.2.2.2.2.1 r25.2.2.2.2.2.2.2 r26.1 r26.2.1 r26.2.2.1 r26.2.2.2.1 r26.2.2.2.2.1 r26.2.2.2.2.2.1 r26.2.2.2.2.2.2.1 r26.2.2.2.2.2.2.2 1) fun r27 => (Option.bind (f_wide_signed r24.1 r24.2.1 r24.2.2.1 r24.2.2.2.1 r24.2.2.2.2.1 r24.2.2.2.2.2.1 r24.2.2.2.2.2.2.1 r24.2.2.2.2.2.2.2 true) fun r28 => (Option.bind (f_wide_negative a8 a9 a10 a11 a12 a13 a14 a15) fun r29 => (cond r29 (Option.bind (f_wide_signed r27.1 r27.2.1 r27.2.2.1 r27.2.2.2.1 r27.2.2.2.2.1 r27.2.2.2.2.2.1 r27.2.2.2.2.2.2.1 r27.2.2.2.2.2.2.2 true) fun r30 => (some (r28.1, r28.2.1, r28.2.2.1, r28.2.2.2.1, r28.2.2.2.2.1, r28.2.2.2.2.2.1, r28.2.2.2.2.2.2.1, r28.2.2.2.2.2.2.2, r30.1, r30.2.1, r30.2.2.1, r30.2.2.2.1, r30.2.2.2.2.1, r30.2.2.2.2.2.1, r30.2.2.2.2.2.2.1, r30.2.2.2.2.2.2.2, true))) (Option.bind (f_wide_signed r27.1 r27.2.1 r27.2.2.1 r27.2.2.2.1 r27.2.2.2.2.1 r27.2.2.2.2.2.1 r27.2.2.2.2.2.2.1 r27.2.2.2.2.2.2.2 false) fun r31 => (some (r28.1, r28.2.1, r28.2.2.1, r28.2.2.2.1, r28.2.2.2.2.1, r28.2.2.2.2.2.1, r28.2.2.2.2.2.2.1, r28.2.2.2.2.2.2.2, r31.1, r31.2.1, r31.2.2.1, r31.2.2.2.1, r31.2.2.2.2.1, r31.2.2.2.2.2.1, r31.2.2.2.2.2.2.1, r31.2.2.2.2.2.2.2, true)))))))))) (Option.bind (f_wide_signed r4.1 r4.2.1 r4.2.2.1 r4.2.2.2.1 r4.2.2.2.2.1 r4.2.2.2.2.2.1 r4.2.2.2.2.2.2.1 r4.2.2.2.2.2.2.2.1 true) fun r32 => (Option.bind (f_wide_negative a8 a9 a10 a11 a12 a13 a14 a15) fun r33 => (cond r33 (Option.bind (f_wide_signed r4.2.2.2.2.2.2.2.2.1 r4.2.2.2.2.2.2.2.2.2.1 r4.2.2.2.2.2.2.2.2.2.2.1 r4.2.2.2.2.2.2.2.2.2.2.2.1 r4.2.2.2.2.2.2.2.2.2.2.2.2.1 r4.2.2.2.2.2.2.2.2.2.2.2.2.2.1 r4.2.2.2.2.2.2.2.2.2.2.2.2.2.2.1 r4.2.2.2.2.2.2.2.2.2.2.2.2.2.2.2 true) fun r34 => (some (r32.1, r32.2.1, r32.2.2.1, r32.2.2.2.1, r32.2.2.2.2.1, r32.2.2.2.2.2.1, r32.2.2.2.2.2.2.1, r32.2.2.2.2.2.2.2, r34.1, r34.2.1, r34.2.2.1, r34.2.2.2.1, r34.2.2.2.2.1, r34.2.2.2.2.2.1, r34.2.2.2.2.2.2.1, r34.2.2.2.2.2.2.2, true))) (Option.bind (f_wide_signed r4.2.2.2.2.2.2.2.2.1 r4.2.2.2.2.2.2.2.2.2.1 r4.2.2.2.2.2.2.2.2.2.2.1 r4.2.2.2.2.2.2.2.2.2.2.2.1 r4.2.2.2.2.2.2.2.2.2.2.2.2.1 r4.2.2.2.2.2.2.2.2.2.2.2.2.2.1 r4.2.2.2.2.2.2.2.2.2.2.2.2.2.2.1 r4.2.2.2.2.2.2.2.2.2.2.2.2.2.2.2 false) fun r35 => (some (r32.1, r32.2.1, r32.2.2.1, r32.2.2.2.1, r32.2.2.2.2.1, r32.2.2.2.2.2.1, r32.2.2.2.2.2.2.1, r32.2.2.2.2.2.2.2, r35.1, r35.2.1, r35.2.2.1, r35.2.2.2.1, r35.2.2.2.2.1, r35.2.2.2.2.2.1, r35.2.2.2.2.2.2.1, r35.2.2.2.2.2.2.2, true))))))) (Option.bind (f_wide_signed r4.1 r4.2.1 r4.2.2.1 r4.2.2.2.1 r4.2.2.2.2.1 r4.2.2.2.2.2.1 r4.2.2.2.2.2.2.1 r4.2.2.2.2.2.2.2.1 false) fun r36 => (Option.bind (f_wide_negative a8 a9 a10 a11 a12 a13 a14 a15) fun r37 => (cond r37 (Option.bind (f_wide_signed r4.2.2.2.2.2.2.2.2.1 r4.2.2.2.2.2.2.2.2.2.1 r4.2.2.2.2.2.2.2.2.2.2.1 r4.2.2.2.2.2.2.2.2.2.2.2.1 r4.2.2.2.2.2.2.2.2.2.2.2.2.1 r4.2.2.2.2.2.2.2.2.2.2.2.2.2.1 r4.2.2.2.2.2.2.2.2.2.2.2.2.2.2.1 r4.2.2.2.2.2.2.2.2.2.2.2.2.2.2.2 true) fun r38 => (some (r36.1, r36.2.1, r36.2.2.1, r36.2.2.2.1, r36.2.2.2.2.1, r36.2.2.2.2.2.1, r36.2.2.2.2.2.2.1, r36.2.2.2.2.2.2.2, r38.1, r38.2.1, r38.2.2.1, r38.2.2.2.1, r38.2.2.2.2.1, r38.2.2.2.2.2.1, r38.2.2.2.2.2.2.1, r38.2.2.2.2.2.2.2, true))) (Option.bind (f_wide_signed r4.2.2.2.2.2.2.2.2.1 r4.2.2.2.2.2.2.2.2.2.1 r4.2.2.2.2.2.2.2.2.2.2.1 r4.2.2.2.2.2.2.2.2.2.2.2.1 r4.2.2.2.2.2.2.2.2.2.2.2.2.1 r4.2.2.2.2.2.2.2.2.2.2.2.2.2.1 r4.2.2.2.2.2.2.2.2.2.2.2.2.2.2.1 r4.2.2.2.2.2.2.2.2.2.2.2.2.2.2.2 false) fun r39 => (some (r36.1, r36.2.1, r36.2.2.1, r36.2.2.2.1, r36.2.2.2.2.1, r36.2.2.2.2.2.1, r36.2.2.2.2.2.2.1, r36.2.2.2.2.2.2.2, r39.1, r39.2.1, r39.2.2.1, r39.2.2.2.1, r39.2.2.2.2.1, r39.2.2.2.2.2.1, r39.2.2.2.2.2.2.1, r39.2.2.2.2.2.2.2, true)))))))))))))))
def f_wide_Div_d : FD where
  X := Int × Int × Int × Int × Int × Int × Int × Int × Int × Int × Int × Int × Int × Int × Int × Int × Bool
  k := 0
  pre := []
  F := fun s => []
  M := .tup [.agg [.int .u64, .int .u64, .int .u64, .int .u64, .int .u64, .int .u64, .int .u64, .int .u64], .agg [.int .u64, .int .u64, .int .u64, .int .u64, .int .u64, .int .u64, .int .u64, .int .u64], .bool]
  B := []
  toL := fun x => [.I x.1, .I x.2.1, .I x.2.2.1, .I x.2.2.2.1, .I x.2.2.2.2.1, .I x.2.2.2.2.2.1, .I x.2.2.2.2.2.2.1, .I x.2.2.2.2.2.2.2.1, .I x.2.2.2.2.2.2.2.2.1, .I x.2.2.2.2.2.2.2.2.2.1, .I x.2.2.2.2.2.2.2.2.2.2.1, .I x.2.2.2.2.2.2.2.2.2.2.2.1, .I x.2.2.2.2.2.2.2.2.2.2.2.2.1, .I x.2.2.2.2.2.2.2.2.2.2.2.2.2.1, .I x.2.2.2.2.2.2.2.2.2.2.2.2.2.2.1, .I x.2.2.2.2.2.2.2.2.2.2.2.2.2.2.2.1, .B x.2.2.2.2.2.2.2.2.2.2.2.2.2.2.2.2]
  ofL := fun ls => match ls with
    | [.I x0, .I x1, .I x2, .I x3, .I x4, .I x5, .I x6, .I x7, .I x8, .I x9, .I x10, .I x11, .I x12, .I x13, .I x14, .I x15, .B x16] => some (x0, x1, x2, x3, x4, x5, x6, x7, x8, x9, x10, x11, x12, x13, x14, x15, x16)
    | _ => none
  ofL_ok := fun ls x h => by
    split at h
    · cases h; rfl
    · cases h
theorem f_wide_Div_rec : RecOk Tryz.prog 285 Tryz.f285 0 (regO (seqL (bodyOf Tryz.f285))) (opAt (bodyOf Tryz.f285) 0) (opAt (bodyOf Tryz.f285) 1) (seqR (bodyOf Tryz.f285)) 4 3 :=
  ⟨Tryz.func285, ⟨_, Tryz.func285, noNum 285 _ Tryz.func285, by kernel_rfl⟩, by kernel_rfl, by kernel_rfl, by kernel_rfl, by kernel_rfl, by kernel_rfl, by kernel_rfl, by kernel_rfl, by kernel_rfl, by kernel_rfl, (by decide)⟩
theorem f_wide_Div_sem (a0 : Int) (a1 : Int) (a2 : Int) (a3 : Int) (a4 : Int) (a5 : Int) (a6 : Int) (a7 : Int) (a8 : Int) (a9 : Int) (a10 : Int) (a11 : Int) (a12 : Int) (a13 : Int) (a14 : Int) (a15 : Int) (x : Int × Int × Int × Int × Int × Int × Int × Int × Int × Int × Int × Int × Int × Int × Int × Int × Bool) (h : f_wide_Div a0 a1 a2 a3 a4 a5 a6 a7 a8 a9 a10 a11 a12 a13 a14 a15 = some x) : IsFn Tryz.prog 182 ∧ SemCall Tryz.prog 182 [.agg (vv8 a0 a1 a2 a3 a4 a5 a6 a7), .agg (vv8 a8 a9 a10 a11 a12 a13 a14 a15)] ⟨0, numB 0 []⟩ (.ret (f_wide_Div_d.val x)) ⟨0 + (f_wide_Div_d.blks x).length, numB 0 (f_wide_Div_d.blks x)⟩ :=
  FD.semD (ch := ch_f_wide_Div) (A := noAnns) (fn := Tryz.f182) (c := bodyOf Tryz.f182) (fuel := 60) tab_ok ch_f_wide_Div_ok mixed noNum f_wide_Div_d Tryz.func182 (by kernel_rfl) (loops_ok (l := []) (by kernel_rfl) trivial)
    (by kernel_rfl) f_wide_Div_rec (by kernel_rfl) (Eq.trans (by kernel_rfl) h)
noncomputable def h_wide_Div : HK where
  call := fun args σ k => match args with
    | [.agg [.int .u64 a0, .int .u64 a1, .int .u64 a2, .int .u64 a3, .int .u64 a4, .int .u64 a5, .int .u64 a6, .int .u64 a7], .agg [.int .u64 a8, .int .u64 a9, .int .u64 a10, .int .u64 a11, .int .u64 a12, .int .u64 a13, .int .u64 a14, .int .u64 a15]] => Option.bind (f_wide_Div a0 a1 a2 a3 a4 a5 a6 a7 a8 a9 a10 a11 a12 a13 a14 a15) fun y => retK σ 0 (f_wide_Div_d.val y) (f_wide_Div_d.blks y) k
    | _ => none
  nat := fun args σ k => by
    repeat' split
    all_goals simp only [lendK_nat, Option.bind_assoc, Option.bind_none, retK, Option.bind_some]
  pure := true
  pok := fun _ args σ r σ' h => by
    split at h
    · exact pure_of h (fun y => rfl) (fun y f => rfl)
    · cases h
theorem h_wide_Div_ok : HKOk Tryz.prog 182 h_wide_Div := by
  intro args σ r σ' h
  simp only [h_wide_Div] at h
  split at h
  · rename_i a0 a1 a2 a3 a4 a5 a6 a7 a8 a9 a10 a11 a12 a13 a14 a15
    obtain ⟨y, hy, h⟩ := Option.bind_eq_some_iff.1 h
    exact lifted (xs := []) (ls := []) (cargs := [.agg (vv8 a0 a1 a2 a3 a4 a5 a6 a7), .agg (vv8 a8 a9 a10 a11 a12 a13 a14 a15)]) (Lent.of trivial) rfl (f_wide_Div_sem a0 a1 a2 a3 a4 a5 a6 a7 a8 a9 a10 a11 a12 a13 a14 a15 y hy) rfl rfl rfl rfl h
  · cases h
end Go.Ev

