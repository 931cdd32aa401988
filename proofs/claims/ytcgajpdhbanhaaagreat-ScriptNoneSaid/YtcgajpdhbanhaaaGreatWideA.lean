import Derived.Test.YtcgajpdhbanhaaaGreatEvSr
import Derived.Test.YtcgajpdhbanhaaaGreatEvT
namespace Go.Ev
open Go.Proofs
set_option linter.unusedVariables false
set_option linter.unusedSimpArgs false
set_option maxRecDepth 100000
noncomputable def ch_f_wide_Of : CH := CH.none
theorem ch_f_wide_Of_ok : CHOk Tryz.prog ch_f_wide_Of := CH.none_ok
noncomputable def f_wide_Of (a0 : Int) : Option (Int × Int × Int × Int × Int × Int × Int × Int) :=
  (some ((IntKind.wrap .u64 a0), (IntKind.wrap .u64 (ishr .i64 a0 63)), (IntKind.wrap .u64 (ishr .i64 a0 63)), (IntKind.wrap .u64 (ishr .i64 a0 63)), (IntKind.wrap .u64 (ishr .i64 a0 63)), (IntKind.wrap .u64 (ishr .i64 a0 63)), (IntKind.wrap .u64 (ishr .i64 a0 63)), (IntKind.wrap .u64 (ishr .i64 a0 63))))
def f_wide_Of_d : FD where
  X := Int × Int × Int × Int × Int × Int × Int × Int
  k := 0
  pre := []
  F := fun s => []
  M := .agg [.int .u64, .int .u64, .int .u64, .int .u64, .int .u64, .int .u64, .int .u64, .int .u64]
  B := []
  toL := fun x => [.I x.1, .I x.2.1, .I x.2.2.1, .I x.2.2.2.1, .I x.2.2.2.2.1, .I x.2.2.2.2.2.1, .I x.2.2.2.2.2.2.1, .I x.2.2.2.2.2.2.2]
  ofL := fun ls => match ls with
    | [.I x0, .I x1, .I x2, .I x3, .I x4, .I x5, .I x6, .I x7] => some (x0, x1, x2, x3, x4, x5, x6, x7)
    | _ => none
  ofL_ok := fun ls x h => by
    split at h
    · cases h; rfl
    · cases h
theorem f_wide_Of_sem (a0 : Int) (x : Int × Int × Int × Int × Int × Int × Int × Int) (h : f_wide_Of a0 = some x) : IsFn Tryz.prog 74 ∧ SemCall Tryz.prog 74 [.int .i64 a0] ⟨0, numB 0 []⟩ (.ret (f_wide_Of_d.val x)) ⟨0 + (f_wide_Of_d.blks x).length, numB 0 (f_wide_Of_d.blks x)⟩ :=
  FD.sem (ch := ch_f_wide_Of) (A := noAnns) (fn := Tryz.f74) (c := bodyOf Tryz.f74) (fuel := 60) tab_ok ch_f_wide_Of_ok mixed noNum f_wide_Of_d Tryz.func74 (by kernel_rfl) (loops_ok (l := [loopAt Tryz.f74 0]) (by kernel_rfl) ⟨(ann_none (by kernel_rfl)), trivial⟩)
    (by kernel_rfl) (Eq.trans (by kernel_rfl) h)
noncomputable def h_wide_Of : HK where
  call := fun args σ k => match args with
    | [.int .i64 a0] => Option.bind (f_wide_Of a0) fun y => retK σ 0 (f_wide_Of_d.val y) (f_wide_Of_d.blks y) k
    | _ => none
  nat := fun args σ k => by
    repeat' split
    all_goals simp only [lendK_nat, Option.bind_assoc, Option.bind_none, retK, Option.bind_some]
  pure := true
  pok := fun _ args σ r σ' h => by
    split at h
    · exact pure_of h (fun y => rfl) (fun y f => rfl)
    · cases h
theorem h_wide_Of_ok : HKOk Tryz.prog 74 h_wide_Of := by
  intro args σ r σ' h
  simp only [h_wide_Of] at h
  split at h
  · rename_i a0
    obtain ⟨y, hy, h⟩ := Option.bind_eq_some_iff.1 h
    exact lifted (xs := []) (ls := []) (cargs := [.int .i64 a0]) (Lent.of trivial) rfl (f_wide_Of_sem a0 y hy) rfl rfl rfl rfl h
  · cases h
end Go.Ev

namespace Go.Ev
open Go.Proofs
set_option linter.unusedVariables false
set_option linter.unusedSimpArgs false
set_option maxRecDepth 100000
noncomputable def ch_f_wide_above : CH := CH.none
theorem ch_f_wide_above_ok : CHOk Tryz.prog ch_f_wide_above := CH.none_ok
noncomputable def f_wide_above_L2k {R : Type} (cc : List AVal × Nat × List AVal × Nat) (v : Int) (kn : (Int) → Option R) (ke : ((Int) ⊕ (Unit)) → Option R) : Option R :=
  (cond (decide (v ≥ 0)) (need (decide (0 ≤ v) && decide (v < ((8 : Nat) : Int))) (need (rowOk [.int .u64] cc.1 (0 + (Int.toNat v * 1))) (need (decide (0 ≤ v) && decide (v < ((8 : Nat) : Int))) (need (rowOk [.int .u64] cc.2.2.1 (0 + (Int.toNat v * 1))) (cond ((geti cc.1 ((0 + (Int.toNat v * 1)) + 0)) != (geti cc.2.2.1 ((0 + (Int.toNat v * 1)) + 0))) (need (decide (0 ≤ v) && decide (v < ((8 : Nat) : Int))) (need (rowOk [.int .u64] cc.1 (0 + (Int.toNat v * 1))) (need (decide (0 ≤ v) && decide (v < ((8 : Nat) : Int))) (need (rowOk [.int .u64] cc.2.2.1 (0 + (Int.toNat v * 1))) (cond (decide ((geti cc.1 ((0 + (Int.toNat v * 1)) + 0)) < (geti cc.2.2.1 ((0 + (Int.toNat v * 1)) + 0)))) (ke (.inl (-1))) (ke (.inl 1))))))) (kn (IntKind.wrap .i64 (v - 1)))))))) (ke (.inr ())))
noncomputable def f_wide_above_L2s (cc : List AVal × Nat × List AVal × Nat) (v : Int) : Option ((Int) ⊕ ((Int) ⊕ (Unit))) := f_wide_above_L2k cc v (fun v => some (Sum.inl v)) fun e => some (Sum.inr e)
noncomputable def f_wide_above_L2 (cc : List AVal × Nat × List AVal × Nat) (v : Int) : Option ((Int) ⊕ (Unit)) := loopF (f_wide_above_L2s cc) v
def f_wide_above_L2toL (cc : List AVal × Nat × List AVal × Nat) (v : Int) : List Leaf := [.I v, .C cc.1, .N cc.2.1, .C cc.2.2.1, .N cc.2.2.2]
def f_wide_above_L2ofL (ls : List Leaf) : Option ((List AVal × Nat × List AVal × Nat) × (Int)) := match ls with
  | [.I x0, .C x1, .N x2, .C x3, .N x4] => some ((x1, x2, x3, x4), x0)
  | _ => none
def f_wide_above_L2out (e : (Int) ⊕ (Unit)) : AOut := ((Sum.elim (fun e => .ret) (fun e => .exit 0)) e)
def f_wide_above_L2toE (cc : List AVal × Nat × List AVal × Nat) (e : (Int) ⊕ (Unit)) : List Leaf := ((Sum.elim (fun e => [.I e]) (fun e => [])) e)
def f_wide_above_L2conE (cc : List AVal × Nat × List AVal × Nat) (e : (Int) ⊕ (Unit)) : List Leaf := ((Sum.elim (fun e => []) (fun e => [])) e)
def f_wide_above_L2ofE (o : AOut) (ls : List Leaf) : Option (((Int) ⊕ (Unit)) × List Leaf) := match o with
  | .ret => (match ls with
    | [.I x0] => some ((.inl x0), [])
    | _ => none)
  | .exit 0 => (match ls with
    | [] => some ((.inr ()), [])
    | _ => none)
  | _ => none
theorem f_wide_above_L2ofE_ok : ∀ o ls e cl cc, f_wide_above_L2ofE o ls = some (e, cl) → cl = f_wide_above_L2conE cc e → ls = f_wide_above_L2toE cc e ∧ f_wide_above_L2out e = o ∧ o ≠ .normal ∧ ∀ v, o = .pan v → sc 0 v = true := by
  intro o ls e cl cc h hc
  unfold f_wide_above_L2ofE at h
  split at h
  · split at h
    · cases h
      exact ⟨rfl, rfl, by simp, by intro v hv; cases hv <;> rfl⟩
    · cases h
  · split at h
    · cases h
      exact ⟨rfl, rfl, by simp, by intro v hv; cases hv <;> rfl⟩
    · cases h
  · cases h
def f_wide_above_L2sh (o : AOut) : ExS := match o with
  | .ret => ⟨0, [none, none, none, none, some (.int .i64), none, none, none, none, none, none, none, none, none, none, none, none, none, none, none, none, none, none, none], [], fun s => [], [], []⟩
  | .exit 0 => ⟨0, [none, none, none, none, none, none, none, none, none, none, none, none, none, none, none, none, none, none, none, none, none, none, none, none], [], fun s => [], [], []⟩
  | _ => ⟨0, [], [], fun _ => [], [], []⟩
theorem f_wide_above_L2nat {R : Type} (cc : List AVal × Nat × List AVal × Nat) (v : Int) (kn : (Int) → Option R) (ke : ((Int) ⊕ (Unit)) → Option R) : f_wide_above_L2k cc v kn ke = (f_wide_above_L2k cc v (fun v => some (Sum.inl v)) fun e => some (Sum.inr e)).bind (Sum.elim kn ke) := by
  simp only [f_wide_above_L2k, cond_bind, need_nat, Option.bind_assoc, sum_bind, lookC_bind, Option.bind_some, Option.bind_none, Sum.elim_inl, Sum.elim_inr]
noncomputable def f_wide_above_L2d : LD where
  CC := List AVal × Nat × List AVal × Nat
  V := Int
  E := (Int) ⊕ (Unit)
  n := 0
  K := 2
  M := [none, none, some (.ptr 0 0), some (.ptr 1 0), none, some (.int .i64), none, none, none, none, none, none, none, none, none, none, none, none, none, none, none, none, none, none]
  B := [(0, .vec 8 true), (1, .vec 8 true)]
  D := []
  pre := []
  F := fun s => [nameAt s 2 [], nameAt s 3 []]
  toL := f_wide_above_L2toL
  ofL := f_wide_above_L2ofL
  ofL_ok := fun ls c v h => by
    unfold f_wide_above_L2ofL at h
    split at h
    · cases h; rfl
    · cases h
  stepK := f_wide_above_L2k
  nat := f_wide_above_L2nat
  sh := f_wide_above_L2sh
  out := f_wide_above_L2out
  toE := f_wide_above_L2toE
  conE := f_wide_above_L2conE
  ofE := f_wide_above_L2ofE
  ofE_ok := f_wide_above_L2ofE_ok
  post := fun cc e k => ((Sum.elim (fun e => k (.ret) (canonSt 0 [none, none, none, none, some (.int .i64 e), none, none, none, none, none, none, none, none, none, none, none, none, none, none, none, none, none, none, none] [] [])) (fun e => k (.exit 0) (canonSt 0 [none, none, none, none, none, none, none, none, none, none, none, none, none, none, none, none, none, none, none, none, none, none, none, none] [] []))) e)
  post_eq := fun cc e k => by rcases e with e | e <;> rfl
theorem f_wide_above_L2_ok : LaOk Tryz.prog 0 f_wide_above_L2d.la (loopAt Tryz.f268 0) :=
  LD.ok (ch := ch_f_wide_above) (A := noAnns) tab_ok ch_f_wide_above_ok mixed (fuel := 60) ⟨by kernel_rfl, fun e => by (rcases e with e | e <;> kernel_rfl), fun cc v => by kernel_rfl, loops_ok (l := []) (by kernel_rfl) trivial⟩
noncomputable def f_wide_above (a0 : Int) (a1 : Int) (a2 : Int) (a3 : Int) (a4 : Int) (a5 : Int) (a6 : Int) (a7 : Int) (a8 : Int) (a9 : Int) (a10 : Int) (a11 : Int) (a12 : Int) (a13 : Int) (a14 : Int) (a15 : Int) : Option (Int) :=
  (Option.bind (f_wide_above_L2 ((vv8 a0 a1 a2 a3 a4 a5 a6 a7), 1, (vv8 a8 a9 a10 a11 a12 a13 a14 a15), 1) 7) (Sum.elim (fun e1 => (some e1)) (fun e1 => (some 0))))
def f_wide_above_d : FD where
  X := Int
  k := 0
  pre := []
  F := fun s => []
  M := .int .i64
  B := []
  toL := fun x => [.I x]
  ofL := fun ls => match ls with
    | [.I x0] => some x0
    | _ => none
  ofL_ok := fun ls x h => by
    split at h
    · cases h; rfl
    · cases h
theorem f_wide_above_sem (a0 : Int) (a1 : Int) (a2 : Int) (a3 : Int) (a4 : Int) (a5 : Int) (a6 : Int) (a7 : Int) (a8 : Int) (a9 : Int) (a10 : Int) (a11 : Int) (a12 : Int) (a13 : Int) (a14 : Int) (a15 : Int) (x : Int) (h : f_wide_above a0 a1 a2 a3 a4 a5 a6 a7 a8 a9 a10 a11 a12 a13 a14 a15 = some x) : IsFn Tryz.prog 268 ∧ SemCall Tryz.prog 268 [.agg (vv8 a0 a1 a2 a3 a4 a5 a6 a7), .agg (vv8 a8 a9 a10 a11 a12 a13 a14 a15)] ⟨0, numB 0 []⟩ (.ret (f_wide_above_d.val x)) ⟨0 + (f_wide_above_d.blks x).length, numB 0 (f_wide_above_d.blks x)⟩ :=
  FD.sem (ch := ch_f_wide_above) (A := annsOf [(2, f_wide_above_L2d.la)]) (fn := Tryz.f268) (c := bodyOf Tryz.f268) (fuel := 60) tab_ok ch_f_wide_above_ok mixed noNum f_wide_above_d Tryz.func268 (by kernel_rfl) (loops_ok (l := [loopAt Tryz.f268 0]) (by kernel_rfl) ⟨ann_one (by kernel_rfl) f_wide_above_L2_ok, trivial⟩)
    (by kernel_rfl) (Eq.trans (by kernel_rfl) h)
noncomputable def h_wide_above : HK where
  call := fun args σ k => match args with
    | [.agg [.int .u64 a0, .int .u64 a1, .int .u64 a2, .int .u64 a3, .int .u64 a4, .int .u64 a5, .int .u64 a6, .int .u64 a7], .agg [.int .u64 a8, .int .u64 a9, .int .u64 a10, .int .u64 a11, .int .u64 a12, .int .u64 a13, .int .u64 a14, .int .u64 a15]] => Option.bind (f_wide_above a0 a1 a2 a3 a4 a5 a6 a7 a8 a9 a10 a11 a12 a13 a14 a15) fun y => retK σ 0 (f_wide_above_d.val y) (f_wide_above_d.blks y) k
    | _ => none
  nat := fun args σ k => by
    repeat' split
    all_goals simp only [lendK_nat, Option.bind_assoc, Option.bind_none, retK, Option.bind_some]
  pure := true
  pok := fun _ args σ r σ' h => by
    split at h
    · exact pure_of h (fun y => rfl) (fun y f => rfl)
    · cases h
theorem h_wide_above_ok : HKOk Tryz.prog 268 h_wide_above := by
  intro args σ r σ' h
  simp only [h_wide_above] at h
  split at h
  · rename_i a0 a1 a2 a3 a4 a5 a6 a7 a8 a9 a10 a11 a12 a13 a14 a15
    obtain ⟨y, hy, h⟩ := Option.bind_eq_some_iff.1 h
    exact lifted (xs := []) (ls := []) (cargs := [.agg (vv8 a0 a1 a2 a3 a4 a5 a6 a7), .agg (vv8 a8 a9 a10 a11 a12 a13 a14 a15)]) (Lent.of trivial) rfl (f_wide_above_sem a0 a1 a2 a3 a4 a5 a6 a7 a8 a9 a10 a11 a12 a13 a14 a15 y hy) rfl rfl rfl rfl h
  · cases h
end Go.Ev

namespace Go.Ev
open Go.Proofs
set_option linter.unusedVariables false
set_option linter.unusedSimpArgs false
set_option maxRecDepth 100000
noncomputable def ch_f_wide_negative : CH := CH.none
theorem ch_f_wide_negative_ok : CHOk Tryz.prog ch_f_wide_negative := CH.none_ok
noncomputable def f_wide_negative (a0 : Int) (a1 : Int) (a2 : Int) (a3 : Int) (a4 : Int) (a5 : Int) (a6 : Int) (a7 : Int) : Option (Bool) :=
  (cond ((ishr .u64 a7 63) == 1) (some true) (some false))
def f_wide_negative_d : FD where
  X := Bool
  k := 0
  pre := []
  F := fun s => []
  M := .bool
  B := []
  toL := fun x => [.B x]
  ofL := fun ls => match ls with
    | [.B x0] => some x0
    | _ => none
  ofL_ok := fun ls x h => by
    split at h
    · cases h; rfl
    · cases h
theorem f_wide_negative_sem (a0 : Int) (a1 : Int) (a2 : Int) (a3 : Int) (a4 : Int) (a5 : Int) (a6 : Int) (a7 : Int) (x : Bool) (h : f_wide_negative a0 a1 a2 a3 a4 a5 a6 a7 = some x) : IsFn Tryz.prog 154 ∧ SemCall Tryz.prog 154 [.agg [.int .u64 a0, .int .u64 a1, .int .u64 a2, .int .u64 a3, .int .u64 a4, .int .u64 a5, .int .u64 a6, .int .u64 a7]] ⟨0, numB 0 []⟩ (.ret (f_wide_negative_d.val x)) ⟨0 + (f_wide_negative_d.blks x).length, numB 0 (f_wide_negative_d.blks x)⟩ :=
  FD.sem (ch := ch_f_wide_negative) (A := noAnns) (fn := Tryz.f154) (c := bodyOf Tryz.f154) (fuel := 60) tab_ok ch_f_wide_negative_ok mixed noNum f_wide_negative_d Tryz.func154 (by kernel_rfl) (loops_ok (l := []) (by kernel_rfl) trivial)
    (by kernel_rfl) (Eq.trans (by kernel_rfl) h)
noncomputable def h_wide_negative : HK where
  call := fun args σ k => match args with
    | [.agg [.int .u64 a0, .int .u64 a1, .int .u64 a2, .int .u64 a3, .int .u64 a4, .int .u64 a5, .int .u64 a6, .int .u64 a7]] => Option.bind (f_wide_negative a0 a1 a2 a3 a4 a5 a6 a7) fun y => retK σ 0 (f_wide_negative_d.val y) (f_wide_negative_d.blks y) k
    | _ => none
  nat := fun args σ k => by
    repeat' split
    all_goals simp only [lendK_nat, Option.bind_assoc, Option.bind_none, retK, Option.bind_some]
  pure := true
  pok := fun _ args σ r σ' h => by
    split at h
    · exact pure_of h (fun y => rfl) (fun y f => rfl)
    · cases h
theorem h_wide_negative_ok : HKOk Tryz.prog 154 h_wide_negative := by
  intro args σ r σ' h
  simp only [h_wide_negative] at h
  split at h
  · rename_i a0 a1 a2 a3 a4 a5 a6 a7
    obtain ⟨y, hy, h⟩ := Option.bind_eq_some_iff.1 h
    exact lifted (xs := []) (ls := []) (cargs := [.agg [.int .u64 a0, .int .u64 a1, .int .u64 a2, .int .u64 a3, .int .u64 a4, .int .u64 a5, .int .u64 a6, .int .u64 a7]]) (Lent.of trivial) rfl (f_wide_negative_sem a0 a1 a2 a3 a4 a5 a6 a7 y hy) rfl rfl rfl rfl h
  · cases h
end Go.Ev

namespace Go.Ev
open Go.Proofs
set_option linter.unusedVariables false
set_option linter.unusedSimpArgs false
set_option maxRecDepth 100000
noncomputable def ch_f_wide_Cmp : CH := (CH.add 268 h_wide_above (CH.add 154 h_wide_negative CH.none))
theorem ch_f_wide_Cmp_ok : CHOk Tryz.prog ch_f_wide_Cmp := (CH.add_ok h_wide_above_ok (CH.add_ok h_wide_negative_ok CH.none_ok))
noncomputable def f_wide_Cmp (a0 : Int) (a1 : Int) (a2 : Int) (a3 : Int) (a4 : Int) (a5 : Int) (a6 : Int) (a7 : Int) (a8 : Int) (a9 : Int) (a10 : Int) (a11 : Int) (a12 : Int) (a13 : Int) (a14 : Int) (a15 : Int) : Option (Int) :=
  (Option.bind (f_wide_negative a0 a1 a2 a3 a4 a5 a6 a7) fun r1 => (cond r1 (Option.bind (f_wide_negative a8 a9 a10 a11 a12 a13 a14 a15) fun r2 => (cond r2 (Option.bind (f_wide_above a0 a1 a2 a3 a4 a5 a6 a7 a8 a9 a10 a11 a12 a13 a14 a15) fun r3 => (some r3)) (some (-1)))) (Option.bind (f_wide_negative a8 a9 a10 a11 a12 a13 a14 a15) fun r4 => (cond r4 (some 1) (Option.bind (f_wide_above a0 a1 a2 a3 a4 a5 a6 a7 a8 a9 a10 a11 a12 a13 a14 a15) fun r5 => (some r5))))))
def f_wide_Cmp_d : FD where
  X := Int
  k := 0
  pre := []
  F := fun s => []
  M := .int .i64
  B := []
  toL := fun x => [.I x]
  ofL := fun ls => match ls with
    | [.I x0] => some x0
    | _ => none
  ofL_ok := fun ls x h => by
    split at h
    · cases h; rfl
    · cases h
theorem f_wide_Cmp_sem (a0 : Int) (a1 : Int) (a2 : Int) (a3 : Int) (a4 : Int) (a5 : Int) (a6 : Int) (a7 : Int) (a8 : Int) (a9 : Int) (a10 : Int) (a11 : Int) (a12 : Int) (a13 : Int) (a14 : Int) (a15 : Int) (x : Int) (h : f_wide_Cmp a0 a1 a2 a3 a4 a5 a6 a7 a8 a9 a10 a11 a12 a13 a14 a15 = some x) : IsFn Tryz.prog 143 ∧ SemCall Tryz.prog 143 [.agg [.int .u64 a0, .int .u64 a1, .int .u64 a2, .int .u64 a3, .int .u64 a4, .int .u64 a5, .int .u64 a6, .int .u64 a7], .agg [.int .u64 a8, .int .u64 a9, .int .u64 a10, .int .u64 a11, .int .u64 a12, .int .u64 a13, .int .u64 a14, .int .u64 a15]] ⟨0, numB 0 []⟩ (.ret (f_wide_Cmp_d.val x)) ⟨0 + (f_wide_Cmp_d.blks x).length, numB 0 (f_wide_Cmp_d.blks x)⟩ :=
  FD.sem (ch := ch_f_wide_Cmp) (A := noAnns) (fn := Tryz.f143) (c := bodyOf Tryz.f143) (fuel := 60) tab_ok ch_f_wide_Cmp_ok mixed noNum f_wide_Cmp_d Tryz.func143 (by kernel_rfl) (loops_ok (l := []) (by kernel_rfl) trivial)
    (by kernel_rfl) (Eq.trans (by kernel_rfl) h)
noncomputable def h_wide_Cmp : HK where
  call := fun args σ k => match args with
    | [.agg [.int .u64 a0, .int .u64 a1, .int .u64 a2, .int .u64 a3, .int .u64 a4, .int .u64 a5, .int .u64 a6, .int .u64 a7], .agg [.int .u64 a8, .int .u64 a9, .int .u64 a10, .int .u64 a11, .int .u64 a12, .int .u64 a13, .int .u64 a14, .int .u64 a15]] => Option.bind (f_wide_Cmp a0 a1 a2 a3 a4 a5 a6 a7 a8 a9 a10 a11 a12 a13 a14 a15) fun y => retK σ 0 (f_wide_Cmp_d.val y) (f_wide_Cmp_d.blks y) k
    | _ => none
  nat := fun args σ k => by
    repeat' split
    all_goals simp only [lendK_nat, Option.bind_assoc, Option.bind_none, retK, Option.bind_some]
  pure := true
  pok := fun _ args σ r σ' h => by
    split at h
    · exact pure_of h (fun y => rfl) (fun y f => rfl)
    · cases h
theorem h_wide_Cmp_ok : HKOk Tryz.prog 143 h_wide_Cmp := by
  intro args σ r σ' h
  simp only [h_wide_Cmp] at h
  split at h
  · rename_i a0 a1 a2 a3 a4 a5 a6 a7 a8 a9 a10 a11 a12 a13 a14 a15
    obtain ⟨y, hy, h⟩ := Option.bind_eq_some_iff.1 h
    exact lifted (xs := []) (ls := []) (cargs := [.agg [.int .u64 a0, .int .u64 a1, .int .u64 a2, .int .u64 a3, .int .u64 a4, .int .u64 a5, .int .u64 a6, .int .u64 a7], .agg [.int .u64 a8, .int .u64 a9, .int .u64 a10, .int .u64 a11, .int .u64 a12, .int .u64 a13, .int .u64 a14, .int .u64 a15]]) (Lent.of trivial) rfl (f_wide_Cmp_sem a0 a1 a2 a3 a4 a5 a6 a7 a8 a9 a10 a11 a12 a13 a14 a15 y hy) rfl rfl rfl rfl h
  · cases h
end Go.Ev

namespace Go.Ev
open Go.Proofs
set_option linter.unusedVariables false
set_option linter.unusedSimpArgs false
set_option maxRecDepth 100000
noncomputable def ch_f_wide_Sign : CH := (CH.add 154 h_wide_negative CH.none)
theorem ch_f_wide_Sign_ok : CHOk Tryz.prog ch_f_wide_Sign := (CH.add_ok h_wide_negative_ok CH.none_ok)
noncomputable def f_wide_Sign (a0 : Int) (a1 : Int) (a2 : Int) (a3 : Int) (a4 : Int) (a5 : Int) (a6 : Int) (a7 : Int) : Option (Int) :=
  (Option.bind (f_wide_negative a0 a1 a2 a3 a4 a5 a6 a7) fun r1 => (cond r1 (some (-1)) (cond (a0 == 0 && (a1 == 0 && (a2 == 0 && (a3 == 0 && (a4 == 0 && (a5 == 0 && (a6 == 0 && (a7 == 0 && true)))))))) (some 0) (some 1))))
def f_wide_Sign_d : FD where
  X := Int
  k := 0
  pre := []
  F := fun s => []
  M := .int .i64
  B := []
  toL := fun x => [.I x]
  ofL := fun ls => match ls with
    | [.I x0] => some x0
    | _ => none
  ofL_ok := fun ls x h => by
    split at h
    · cases h; rfl
    · cases h
theorem f_wide_Sign_sem (a0 : Int) (a1 : Int) (a2 : Int) (a3 : Int) (a4 : Int) (a5 : Int) (a6 : Int) (a7 : Int) (x : Int) (h : f_wide_Sign a0 a1 a2 a3 a4 a5 a6 a7 = some x) : IsFn Tryz.prog 258 ∧ SemCall Tryz.prog 258 [.agg [.int .u64 a0, .int .u64 a1, .int .u64 a2, .int .u64 a3, .int .u64 a4, .int .u64 a5, .int .u64 a6, .int .u64 a7]] ⟨0, numB 0 []⟩ (.ret (f_wide_Sign_d.val x)) ⟨0 + (f_wide_Sign_d.blks x).length, numB 0 (f_wide_Sign_d.blks x)⟩ :=
  FD.sem (ch := ch_f_wide_Sign) (A := noAnns) (fn := Tryz.f258) (c := bodyOf Tryz.f258) (fuel := 60) tab_ok ch_f_wide_Sign_ok mixed noNum f_wide_Sign_d Tryz.func258 (by kernel_rfl) (loops_ok (l := []) (by kernel_rfl) trivial)
    (by kernel_rfl) (Eq.trans (by kernel_rfl) h)
noncomputable def h_wide_Sign : HK where
  call := fun args σ k => match args with
    | [.agg [.int .u64 a0, .int .u64 a1, .int .u64 a2, .int .u64 a3, .int .u64 a4, .int .u64 a5, .int .u64 a6, .int .u64 a7]] => Option.bind (f_wide_Sign a0 a1 a2 a3 a4 a5 a6 a7) fun y => retK σ 0 (f_wide_Sign_d.val y) (f_wide_Sign_d.blks y) k
    | _ => none
  nat := fun args σ k => by
    repeat' split
    all_goals simp only [lendK_nat, Option.bind_assoc, Option.bind_none, retK, Option.bind_some]
  pure := true
  pok := fun _ args σ r σ' h => by
    split at h
    · exact pure_of h (fun y => rfl) (fun y f => rfl)
    · cases h
theorem h_wide_Sign_ok : HKOk Tryz.prog 258 h_wide_Sign := by
  intro args σ r σ' h
  simp only [h_wide_Sign] at h
  split at h
  · rename_i a0 a1 a2 a3 a4 a5 a6 a7
    obtain ⟨y, hy, h⟩ := Option.bind_eq_some_iff.1 h
    exact lifted (xs := []) (ls := []) (cargs := [.agg [.int .u64 a0, .int .u64 a1, .int .u64 a2, .int .u64 a3, .int .u64 a4, .int .u64 a5, .int .u64 a6, .int .u64 a7]]) (Lent.of trivial) rfl (f_wide_Sign_sem a0 a1 a2 a3 a4 a5 a6 a7 y hy) rfl rfl rfl rfl h
  · cases h
end Go.Ev

namespace Go.Ev
open Go.Proofs
set_option linter.unusedVariables false
set_option linter.unusedSimpArgs false
set_option maxRecDepth 100000
noncomputable def ch_f_wide_plus : CH := (CH.inl Tryz.prog tyTab [271, 353] 60 (CH.inl Tryz.prog tyTab [271, 353] 60 (CH.add 152 hAdd64 CH.none) (CH.add 152 hAdd64 CH.none)) (CH.add 152 hAdd64 CH.none))
theorem ch_f_wide_plus_ok : CHOk Tryz.prog ch_f_wide_plus := (CH.inl_ok tab_ok mixed noNum (CH.inl_ok tab_ok mixed noNum (CH.add_ok (hAdd64_ok Tryz.func152 (by kernel_rfl) (by kernel_rfl) (by kernel_rfl) (by kernel_rfl)) CH.none_ok) (CH.add_ok (hAdd64_ok Tryz.func152 (by kernel_rfl) (by kernel_rfl) (by kernel_rfl) (by kernel_rfl)) CH.none_ok)) (CH.add_ok (hAdd64_ok Tryz.func152 (by kernel_rfl) (by kernel_rfl) (by kernel_rfl) (by kernel_rfl)) CH.none_ok))
noncomputable def f_wide_plus (a0 : Int) (a1 : Int) (a2 : Int) (a3 : Int) (a4 : Int) (a5 : Int) (a6 : Int) (a7 : Int) (a8 : Int) (a9 : Int) (a10 : Int) (a11 : Int) (a12 : Int) (a13 : Int) (a14 : Int) (a15 : Int) (a16 : Int) : Option (Int × Int × Int × Int × Int × Int × Int × Int) :=
  (Option.bind (add64 a0 a8 a16) fun r1 => (Option.bind (add64 a1 a9 r1.2) fun r2 => (Option.bind (add64 a2 a10 r2.2) fun r3 => (Option.bind (add64 a3 a11 r3.2) fun r4 => (Option.bind (add64 a4 a12 r4.2) fun r5 => (Option.bind (add64 a5 a13 r5.2) fun r6 => (Option.bind (add64 a6 a14 r6.2) fun r7 => (Option.bind (add64 a7 a15 r7.2) fun r8 => (some (r1.1, r2.1, r3.1, r4.1, r5.1, r6.1, r7.1, r8.1))))))))))
def f_wide_plus_d : FD where
  X := Int × Int × Int × Int × Int × Int × Int × Int
  k := 0
  pre := []
  F := fun s => []
  M := .agg [.int .u64, .int .u64, .int .u64, .int .u64, .int .u64, .int .u64, .int .u64, .int .u64]
  B := []
  toL := fun x => [.I x.1, .I x.2.1, .I x.2.2.1, .I x.2.2.2.1, .I x.2.2.2.2.1, .I x.2.2.2.2.2.1, .I x.2.2.2.2.2.2.1, .I x.2.2.2.2.2.2.2]
  ofL := fun ls => match ls with
    | [.I x0, .I x1, .I x2, .I x3, .I x4, .I x5, .I x6, .I x7] => some (x0, x1, x2, x3, x4, x5, x6, x7)
    | _ => none
  ofL_ok := fun ls x h => by
    split at h
    · cases h; rfl
    · cases h
theorem f_wide_plus_sem (a0 : Int) (a1 : Int) (a2 : Int) (a3 : Int) (a4 : Int) (a5 : Int) (a6 : Int) (a7 : Int) (a8 : Int) (a9 : Int) (a10 : Int) (a11 : Int) (a12 : Int) (a13 : Int) (a14 : Int) (a15 : Int) (a16 : Int) (x : Int × Int × Int × Int × Int × Int × Int × Int) (h : f_wide_plus a0 a1 a2 a3 a4 a5 a6 a7 a8 a9 a10 a11 a12 a13 a14 a15 a16 = some x) : IsFn Tryz.prog 155 ∧ SemCall Tryz.prog 155 [.agg (vv8 a0 a1 a2 a3 a4 a5 a6 a7), .agg (vv8 a8 a9 a10 a11 a12 a13 a14 a15), .int .u64 a16] ⟨0, numB 0 []⟩ (.ret (f_wide_plus_d.val x)) ⟨0 + (f_wide_plus_d.blks x).length, numB 0 (f_wide_plus_d.blks x)⟩ :=
  FD.sem (ch := ch_f_wide_plus) (A := noAnns) (fn := Tryz.f155) (c := bodyOf Tryz.f155) (fuel := 60) tab_ok ch_f_wide_plus_ok mixed noNum f_wide_plus_d Tryz.func155 (by kernel_rfl) (loops_ok (l := [loopAt Tryz.f155 0]) (by kernel_rfl) ⟨(ann_none (by kernel_rfl)), trivial⟩)
    (by kernel_rfl) (Eq.trans (by kernel_rfl) h)
noncomputable def h_wide_plus : HK where
  call := fun args σ k => match args with
    | [.agg [.int .u64 a0, .int .u64 a1, .int .u64 a2, .int .u64 a3, .int .u64 a4, .int .u64 a5, .int .u64 a6, .int .u64 a7], .agg [.int .u64 a8, .int .u64 a9, .int .u64 a10, .int .u64 a11, .int .u64 a12, .int .u64 a13, .int .u64 a14, .int .u64 a15], .int .u64 a16] => Option.bind (f_wide_plus a0 a1 a2 a3 a4 a5 a6 a7 a8 a9 a10 a11 a12 a13 a14 a15 a16) fun y => retK σ 0 (f_wide_plus_d.val y) (f_wide_plus_d.blks y) k
    | _ => none
  nat := fun args σ k => by
    repeat' split
    all_goals simp only [lendK_nat, Option.bind_assoc, Option.bind_none, retK, Option.bind_some]
  pure := true
  pok := fun _ args σ r σ' h => by
    split at h
    · exact pure_of h (fun y => rfl) (fun y f => rfl)
    · cases h
theorem h_wide_plus_ok : HKOk Tryz.prog 155 h_wide_plus := by
  intro args σ r σ' h
  simp only [h_wide_plus] at h
  split at h
  · rename_i a0 a1 a2 a3 a4 a5 a6 a7 a8 a9 a10 a11 a12 a13 a14 a15 a16
    obtain ⟨y, hy, h⟩ := Option.bind_eq_some_iff.1 h
    exact lifted (xs := []) (ls := []) (cargs := [.agg (vv8 a0 a1 a2 a3 a4 a5 a6 a7), .agg (vv8 a8 a9 a10 a11 a12 a13 a14 a15), .int .u64 a16]) (Lent.of trivial) rfl (f_wide_plus_sem a0 a1 a2 a3 a4 a5 a6 a7 a8 a9 a10 a11 a12 a13 a14 a15 a16 y hy) rfl rfl rfl rfl h
  · cases h
end Go.Ev

namespace Go.Ev
open Go.Proofs
set_option linter.unusedVariables false
set_option linter.unusedSimpArgs false
set_option maxRecDepth 100000
noncomputable def ch_f_wide_Add : CH := (CH.add 155 h_wide_plus (CH.add 154 h_wide_negative CH.none))
theorem ch_f_wide_Add_ok : CHOk Tryz.prog ch_f_wide_Add := (CH.add_ok h_wide_plus_ok (CH.add_ok h_wide_negative_ok CH.none_ok))
noncomputable def f_wide_Add (a0 : Int) (a1 : Int) (a2 : Int) (a3 : Int) (a4 : Int) (a5 : Int) (a6 : Int) (a7 : Int) (a8 : Int) (a9 : Int) (a10 : Int) (a11 : Int) (a12 : Int) (a13 : Int) (a14 : Int) (a15 : Int) : Option (Int × Int × Int × Int × Int × Int × Int × Int × Bool) :=
  (Option.bind (f_wide_plus a0 a1 a2 a3 a4 a5 a6 a7 a8 a9 a10 a11 a12 a13 a14 a15 0) fun r1 => (Option.bind (f_wide_negative a0 a1 a2 a3 a4 a5 a6 a7) fun r2 => (cond r2 (Option.bind (f_wide_negative a8 a9 a10 a11 a12 a13 a14 a15) fun r3 => (cond r3 (Option.bind (f_wide_negative r1.1 r1.2.1 r1.2.2.1 r1.2.2.2.1 r1.2.2.2.2.1 r1.2.2.2.2.2.1 r1.2.2.2.2.2.2.1 r1.2.2.2.2.2.2.2) fun r4 => (cond r4 (Option.bind (f_wide_negative a0 a1 a2 a3 a4 a5 a6 a7) fun r5 => (cond r5 (some (r1.1, r1.2.1, r1.2.2.1, r1.2.2.2.1, r1.2.2.2.2.1, r1.2.2.2.2.2.1, r1.2.2.2.2.2.2.1, r1.2.2.2.2.2.2.2, true)) (some (0, 0, 0, 0, 0, 0, 0, 0, false)))) (Option.bind (f_wide_negative a0 a1 a2 a3 a4 a5 a6 a7) fun r6 => (cond r6 (some (0, 0, 0, 0, 0, 0, 0, 0, false)) (some (r1.1, r1.2.1, r1.2.2.1, r1.2.2.2.1, r1.2.2.2.2.1, r1.2.2.2.2.2.1, r1.2.2.2.2.2.2.1, r1.2.2.2.2.2.2.2, true)))))) (some (r1.1, r1.2.1, r1.2.2.1, r1.2.2.2.1, r1.2.2.2.2.1, r1.2.2.2.2.2.1, r1.2.2.2.2.2.2.1, r1.2.2.2.2.2.2.2, true)))) (Option.bind (f_wide_negative a8 a9 a10 a11 a12 a13 a14 a15) fun r7 => (cond r7 (some (r1.1, r1.2.1, r1.2.2.1, r1.2.2.2.1, r1.2.2.2.2.1, r1.2.2.2.2.2.1, r1.2.2.2.2.2.2.1, r1.2.2.2.2.2.2.2, true)) (Option.bind (f_wide_negative r1.1 r1.2.1 r1.2.2.1 r1.2.2.2.1 r1.2.2.2.2.1 r1.2.2.2.2.2.1 r1.2.2.2.2.2.2.1 r1.2.2.2.2.2.2.2) fun r8 => (cond r8 (Option.bind (f_wide_negative a0 a1 a2 a3 a4 a5 a6 a7) fun r9 => (cond r9 (some (r1.1, r1.2.1, r1.2.2.1, r1.2.2.2.1, r1.2.2.2.2.1, r1.2.2.2.2.2.1, r1.2.2.2.2.2.2.1, r1.2.2.2.2.2.2.2, true)) (some (0, 0, 0, 0, 0, 0, 0, 0, false)))) (Option.bind (f_wide_negative a0 a1 a2 a3 a4 a5 a6 a7) fun r10 => (cond r10 (some (0, 0, 0, 0, 0, 0, 0, 0, false)) (some (r1.1, r1.2.1, r1.2.2.1, r1.2.2.2.1, r1.2.2.2.2.1, r1.2.2.2.2.2.1, r1.2.2.2.2.2.2.1, r1.2.2.2.2.2.2.2, true)))))))))))
def f_wide_Add_d : FD where
  X := Int × Int × Int × Int × Int × Int × Int × Int × Bool
  k := 0
  pre := []
  F := fun s => []
  M := .tup [.agg [.int .u64, .int .u64, .int .u64, .int .u64, .int .u64, .int .u64, .int .u64, .int .u64], .bool]
  B := []
  toL := fun x => [.I x.1, .I x.2.1, .I x.2.2.1, .I x.2.2.2.1, .I x.2.2.2.2.1, .I x.2.2.2.2.2.1, .I x.2.2.2.2.2.2.1, .I x.2.2.2.2.2.2.2.1, .B x.2.2.2.2.2.2.2.2]
  ofL := fun ls => match ls with
    | [.I x0, .I x1, .I x2, .I x3, .I x4, .I x5, .I x6, .I x7, .B x8] => some (x0, x1, x2, x3, x4, x5, x6, x7, x8)
    | _ => none
  ofL_ok := fun ls x h => by
    split at h
    · cases h; rfl
    · cases h
theorem f_wide_Add_sem (a0 : Int) (a1 : Int) (a2 : Int) (a3 : Int) (a4 : Int) (a5 : Int) (a6 : Int) (a7 : Int) (a8 : Int) (a9 : Int) (a10 : Int) (a11 : Int) (a12 : Int) (a13 : Int) (a14 : Int) (a15 : Int) (x : Int × Int × Int × Int × Int × Int × Int × Int × Bool) (h : f_wide_Add a0 a1 a2 a3 a4 a5 a6 a7 a8 a9 a10 a11 a12 a13 a14 a15 = some x) : IsFn Tryz.prog 75 ∧ SemCall Tryz.prog 75 [.agg (vv8 a0 a1 a2 a3 a4 a5 a6 a7), .agg (vv8 a8 a9 a10 a11 a12 a13 a14 a15)] ⟨0, numB 0 []⟩ (.ret (f_wide_Add_d.val x)) ⟨0 + (f_wide_Add_d.blks x).length, numB 0 (f_wide_Add_d.blks x)⟩ :=
  FD.sem (ch := ch_f_wide_Add) (A := noAnns) (fn := Tryz.f75) (c := bodyOf Tryz.f75) (fuel := 60) tab_ok ch_f_wide_Add_ok mixed noNum f_wide_Add_d Tryz.func75 (by kernel_rfl) (loops_ok (l := []) (by kernel_rfl) trivial)
    (by kernel_rfl) (Eq.trans (by kernel_rfl) h)
noncomputable def h_wide_Add : HK where
  call := fun args σ k => match args with
    | [.agg [.int .u64 a0, .int .u64 a1, .int .u64 a2, .int .u64 a3, .int .u64 a4, .int .u64 a5, .int .u64 a6, .int .u64 a7], .agg [.int .u64 a8, .int .u64 a9, .int .u64 a10, .int .u64 a11, .int .u64 a12, .int .u64 a13, .int .u64 a14, .int .u64 a15]] => Option.bind (f_wide_Add a0 a1 a2 a3 a4 a5 a6 a7 a8 a9 a10 a11 a12 a13 a14 a15) fun y => retK σ 0 (f_wide_Add_d.val y) (f_wide_Add_d.blks y) k
    | _ => none
  nat := fun args σ k => by
    repeat' split
    all_goals simp only [lendK_nat, Option.bind_assoc, Option.bind_none, retK, Option.bind_some]
  pure := true
  pok := fun _ args σ r σ' h => by
    split at h
    · exact pure_of h (fun y => rfl) (fun y f => rfl)
    · cases h
theorem h_wide_Add_ok : HKOk Tryz.prog 75 h_wide_Add := by
  intro args σ r σ' h
  simp only [h_wide_Add] at h
  split at h
  · rename_i a0 a1 a2 a3 a4 a5 a6 a7 a8 a9 a10 a11 a12 a13 a14 a15
    obtain ⟨y, hy, h⟩ := Option.bind_eq_some_iff.1 h
    exact lifted (xs := []) (ls := []) (cargs := [.agg (vv8 a0 a1 a2 a3 a4 a5 a6 a7), .agg (vv8 a8 a9 a10 a11 a12 a13 a14 a15)]) (Lent.of trivial) rfl (f_wide_Add_sem a0 a1 a2 a3 a4 a5 a6 a7 a8 a9 a10 a11 a12 a13 a14 a15 y hy) rfl rfl rfl rfl h
  · cases h
end Go.Ev

namespace Go.Ev
open Go.Proofs
set_option linter.unusedVariables false
set_option linter.unusedSimpArgs false
set_option maxRecDepth 100000
noncomputable def ch_f_wide_not : CH := CH.none
theorem ch_f_wide_not_ok : CHOk Tryz.prog ch_f_wide_not := CH.none_ok
noncomputable def f_wide_not (a0 : Int) (a1 : Int) (a2 : Int) (a3 : Int) (a4 : Int) (a5 : Int) (a6 : Int) (a7 : Int) : Option (Int × Int × Int × Int × Int × Int × Int × Int) :=
  (some ((ixor .u64 18446744073709551615 a0), (ixor .u64 18446744073709551615 a1), (ixor .u64 18446744073709551615 a2), (ixor .u64 18446744073709551615 a3), (ixor .u64 18446744073709551615 a4), (ixor .u64 18446744073709551615 a5), (ixor .u64 18446744073709551615 a6), (ixor .u64 18446744073709551615 a7)))
def f_wide_not_d : FD where
  X := Int × Int × Int × Int × Int × Int × Int × Int
  k := 0
  pre := []
  F := fun s => []
  M := .agg [.int .u64, .int .u64, .int .u64, .int .u64, .int .u64, .int .u64, .int .u64, .int .u64]
  B := []
  toL := fun x => [.I x.1, .I x.2.1, .I x.2.2.1, .I x.2.2.2.1, .I x.2.2.2.2.1, .I x.2.2.2.2.2.1, .I x.2.2.2.2.2.2.1, .I x.2.2.2.2.2.2.2]
  ofL := fun ls => match ls with
    | [.I x0, .I x1, .I x2, .I x3, .I x4, .I x5, .I x6, .I x7] => some (x0, x1, x2, x3, x4, x5, x6, x7)
    | _ => none
  ofL_ok := fun ls x h => by
    split at h
    · cases h; rfl
    · cases h
theorem f_wide_not_sem (a0 : Int) (a1 : Int) (a2 : Int) (a3 : Int) (a4 : Int) (a5 : Int) (a6 : Int) (a7 : Int) (x : Int × Int × Int × Int × Int × Int × Int × Int) (h : f_wide_not a0 a1 a2 a3 a4 a5 a6 a7 = some x) : IsFn Tryz.prog 287 ∧ SemCall Tryz.prog 287 [.agg [.int .u64 a0, .int .u64 a1, .int .u64 a2, .int .u64 a3, .int .u64 a4, .int .u64 a5, .int .u64 a6, .int .u64 a7]] ⟨0, numB 0 []⟩ (.ret (f_wide_not_d.val x)) ⟨0 + (f_wide_not_d.blks x).length, numB 0 (f_wide_not_d.blks x)⟩ :=
  FD.sem (ch := ch_f_wide_not) (A := noAnns) (fn := Tryz.f287) (c := bodyOf Tryz.f287) (fuel := 60) tab_ok ch_f_wide_not_ok mixed noNum f_wide_not_d Tryz.func287 (by kernel_rfl) (loops_ok (l := [loopAt Tryz.f287 0]) (by kernel_rfl) ⟨(ann_none (by kernel_rfl)), trivial⟩)
    (by kernel_rfl) (Eq.trans (by kernel_rfl) h)
noncomputable def h_wide_not : HK where
  call := fun args σ k => match args with
    | [.agg [.int .u64 a0, .int .u64 a1, .int .u64 a2, .int .u64 a3, .int .u64 a4, .int .u64 a5, .int .u64 a6, .int .u64 a7]] => Option.bind (f_wide_not a0 a1 a2 a3 a4 a5 a6 a7) fun y => retK σ 0 (f_wide_not_d.val y) (f_wide_not_d.blks y) k
    | _ => none
  nat := fun args σ k => by
    repeat' split
    all_goals simp only [lendK_nat, Option.bind_assoc, Option.bind_none, retK, Option.bind_some]
  pure := true
  pok := fun _ args σ r σ' h => by
    split at h
    · exact pure_of h (fun y => rfl) (fun y f => rfl)
    · cases h
theorem h_wide_not_ok : HKOk Tryz.prog 287 h_wide_not := by
  intro args σ r σ' h
  simp only [h_wide_not] at h
  split at h
  · rename_i a0 a1 a2 a3 a4 a5 a6 a7
    obtain ⟨y, hy, h⟩ := Option.bind_eq_some_iff.1 h
    exact lifted (xs := []) (ls := []) (cargs := [.agg [.int .u64 a0, .int .u64 a1, .int .u64 a2, .int .u64 a3, .int .u64 a4, .int .u64 a5, .int .u64 a6, .int .u64 a7]]) (Lent.of trivial) rfl (f_wide_not_sem a0 a1 a2 a3 a4 a5 a6 a7 y hy) rfl rfl rfl rfl h
  · cases h
end Go.Ev

namespace Go.Ev
open Go.Proofs
set_option linter.unusedVariables false
set_option linter.unusedSimpArgs false
set_option maxRecDepth 100000
end Go.Ev

namespace Go.Ev
open Go.Proofs
set_option linter.unusedVariables false
set_option linter.unusedSimpArgs false
set_option maxRecDepth 100000
end Go.Ev

namespace Go.Ev
open Go.Proofs
set_option linter.unusedVariables false
set_option linter.unusedSimpArgs false
set_option maxRecDepth 100000
noncomputable def ch_f_math_bits_Mul64 : CH := CH.none
theorem ch_f_math_bits_Mul64_ok : CHOk Tryz.prog ch_f_math_bits_Mul64 := CH.none_ok
noncomputable def f_math_bits_Mul64 (a0 : Int) (a1 : Int) : Option (Int × Int) :=
  (some ((IntKind.wrap .u64 ((IntKind.wrap .u64 ((IntKind.wrap .u64 ((ishr .u64 a0 32) * (ishr .u64 a1 32))) + (ishr .u64 (IntKind.wrap .u64 ((IntKind.wrap .u64 ((ishr .u64 a0 32) * (iand .u64 a1 4294967295))) + (ishr .u64 (IntKind.wrap .u64 ((iand .u64 a0 4294967295) * (iand .u64 a1 4294967295))) 32))) 32))) + (ishr .u64 (IntKind.wrap .u64 ((iand .u64 (IntKind.wrap .u64 ((IntKind.wrap .u64 ((ishr .u64 a0 32) * (iand .u64 a1 4294967295))) + (ishr .u64 (IntKind.wrap .u64 ((iand .u64 a0 4294967295) * (iand .u64 a1 4294967295))) 32))) 4294967295) + (IntKind.wrap .u64 ((iand .u64 a0 4294967295) * (ishr .u64 a1 32))))) 32))), (IntKind.wrap .u64 (a0 * a1))))
def f_math_bits_Mul64_d : FD where
  X := Int × Int
  k := 0
  pre := []
  F := fun s => []
  M := .tup [.int .u64, .int .u64]
  B := []
  toL := fun x => [.I x.1, .I x.2]
  ofL := fun ls => match ls with
    | [.I x0, .I x1] => some (x0, x1)
    | _ => none
  ofL_ok := fun ls x h => by
    split at h
    · cases h; rfl
    · cases h
theorem f_math_bits_Mul64_sem (a0 : Int) (a1 : Int) (x : Int × Int) (h : f_math_bits_Mul64 a0 a1 = some x) : IsFn Tryz.prog 151 ∧ SemCall Tryz.prog 151 [.int .u64 a0, .int .u64 a1] ⟨0, numB 0 []⟩ (.ret (f_math_bits_Mul64_d.val x)) ⟨0 + (f_math_bits_Mul64_d.blks x).length, numB 0 (f_math_bits_Mul64_d.blks x)⟩ :=
  FD.sem (ch := ch_f_math_bits_Mul64) (A := noAnns) (fn := Tryz.f151) (c := bodyOf Tryz.f151) (fuel := 60) tab_ok ch_f_math_bits_Mul64_ok mixed noNum f_math_bits_Mul64_d Tryz.func151 (by kernel_rfl) (loops_ok (l := []) (by kernel_rfl) trivial)
    (by kernel_rfl) (Eq.trans (by kernel_rfl) h)
noncomputable def h_math_bits_Mul64 : HK where
  call := fun args σ k => match args with
    | [.int .u64 a0, .int .u64 a1] => Option.bind (f_math_bits_Mul64 a0 a1) fun y => retK σ 0 (f_math_bits_Mul64_d.val y) (f_math_bits_Mul64_d.blks y) k
    | _ => none
  nat := fun args σ k => by
    repeat' split
    all_goals simp only [lendK_nat, Option.bind_assoc, Option.bind_none, retK, Option.bind_some]
  pure := true
  pok := fun _ args σ r σ' h => by
    split at h
    · exact pure_of h (fun y => rfl) (fun y f => rfl)
    · cases h
theorem h_math_bits_Mul64_ok : HKOk Tryz.prog 151 h_math_bits_Mul64 := by
  intro args σ r σ' h
  simp only [h_math_bits_Mul64] at h
  split at h
  · rename_i a0 a1
    obtain ⟨y, hy, h⟩ := Option.bind_eq_some_iff.1 h
    exact lifted (xs := []) (ls := []) (cargs := [.int .u64 a0, .int .u64 a1]) (Lent.of trivial) rfl (f_math_bits_Mul64_sem a0 a1 y hy) rfl rfl rfl rfl h
  · cases h
end Go.Ev

namespace Go.Ev
open Go.Proofs
set_option linter.unusedVariables false
set_option linter.unusedSimpArgs false
set_option maxRecDepth 100000
noncomputable def ch_f_wide_minus : CH := (CH.add 287 h_wide_not (CH.add 155 h_wide_plus CH.none))
theorem ch_f_wide_minus_ok : CHOk Tryz.prog ch_f_wide_minus := (CH.add_ok h_wide_not_ok (CH.add_ok h_wide_plus_ok CH.none_ok))
noncomputable def f_wide_minus (a0 : Int) (a1 : Int) (a2 : Int) (a3 : Int) (a4 : Int) (a5 : Int) (a6 : Int) (a7 : Int) : Option (Int × Int × Int × Int × Int × Int × Int × Int) :=
  (Option.bind (f_wide_not a0 a1 a2 a3 a4 a5 a6 a7) fun r1 => (Option.bind (f_wide_plus r1.1 r1.2.1 r1.2.2.1 r1.2.2.2.1 r1.2.2.2.2.1 r1.2.2.2.2.2.1 r1.2.2.2.2.2.2.1 r1.2.2.2.2.2.2.2 0 0 0 0 0 0 0 0 1) fun r2 => (some (r2.1, r2.2.1, r2.2.2.1, r2.2.2.2.1, r2.2.2.2.2.1, r2.2.2.2.2.2.1, r2.2.2.2.2.2.2.1, r2.2.2.2.2.2.2.2))))
def f_wide_minus_d : FD where
  X := Int × Int × Int × Int × Int × Int × Int × Int
  k := 0
  pre := []
  F := fun s => []
  M := .agg [.int .u64, .int .u64, .int .u64, .int .u64, .int .u64, .int .u64, .int .u64, .int .u64]
  B := []
  toL := fun x => [.I x.1, .I x.2.1, .I x.2.2.1, .I x.2.2.2.1, .I x.2.2.2.2.1, .I x.2.2.2.2.2.1, .I x.2.2.2.2.2.2.1, .I x.2.2.2.2.2.2.2]
  ofL := fun ls => match ls with
    | [.I x0, .I x1, .I x2, .I x3, .I x4, .I x5, .I x6, .I x7] => some (x0, x1, x2, x3, x4, x5, x6, x7)
    | _ => none
  ofL_ok := fun ls x h => by
    split at h
    · cases h; rfl
    · cases h
theorem f_wide_minus_sem (a0 : Int) (a1 : Int) (a2 : Int) (a3 : Int) (a4 : Int) (a5 : Int) (a6 : Int) (a7 : Int) (x : Int × Int × Int × Int × Int × Int × Int × Int) (h : f_wide_minus a0 a1 a2 a3 a4 a5 a6 a7 = some x) : IsFn Tryz.prog 270 ∧ SemCall Tryz.prog 270 [.agg [.int .u64 a0, .int .u64 a1, .int .u64 a2, .int .u64 a3, .int .u64 a4, .int .u64 a5, .int .u64 a6, .int .u64 a7]] ⟨0, numB 0 []⟩ (.ret (f_wide_minus_d.val x)) ⟨0 + (f_wide_minus_d.blks x).length, numB 0 (f_wide_minus_d.blks x)⟩ :=
  FD.sem (ch := ch_f_wide_minus) (A := noAnns) (fn := Tryz.f270) (c := bodyOf Tryz.f270) (fuel := 60) tab_ok ch_f_wide_minus_ok mixed noNum f_wide_minus_d Tryz.func270 (by kernel_rfl) (loops_ok (l := []) (by kernel_rfl) trivial)
    (by kernel_rfl) (Eq.trans (by kernel_rfl) h)
noncomputable def h_wide_minus : HK where
  call := fun args σ k => match args with
    | [.agg [.int .u64 a0, .int .u64 a1, .int .u64 a2, .int .u64 a3, .int .u64 a4, .int .u64 a5, .int .u64 a6, .int .u64 a7]] => Option.bind (f_wide_minus a0 a1 a2 a3 a4 a5 a6 a7) fun y => retK σ 0 (f_wide_minus_d.val y) (f_wide_minus_d.blks y) k
    | _ => none
  nat := fun args σ k => by
    repeat' split
    all_goals simp only [lendK_nat, Option.bind_assoc, Option.bind_none, retK, Option.bind_some]
  pure := true
  pok := fun _ args σ r σ' h => by
    split at h
    · exact pure_of h (fun y => rfl) (fun y f => rfl)
    · cases h
theorem h_wide_minus_ok : HKOk Tryz.prog 270 h_wide_minus := by
  intro args σ r σ' h
  simp only [h_wide_minus] at h
  split at h
  · rename_i a0 a1 a2 a3 a4 a5 a6 a7
    obtain ⟨y, hy, h⟩ := Option.bind_eq_some_iff.1 h
    exact lifted (xs := []) (ls := []) (cargs := [.agg [.int .u64 a0, .int .u64 a1, .int .u64 a2, .int .u64 a3, .int .u64 a4, .int .u64 a5, .int .u64 a6, .int .u64 a7]]) (Lent.of trivial) rfl (f_wide_minus_sem a0 a1 a2 a3 a4 a5 a6 a7 y hy) rfl rfl rfl rfl h
  · cases h
end Go.Ev

namespace Go.Ev
open Go.Proofs
set_option linter.unusedVariables false
set_option linter.unusedSimpArgs false
set_option maxRecDepth 100000
noncomputable def ch_f_wide_size : CH := (CH.add 270 h_wide_minus (CH.add 154 h_wide_negative CH.none))
theorem ch_f_wide_size_ok : CHOk Tryz.prog ch_f_wide_size := (CH.add_ok h_wide_minus_ok (CH.add_ok h_wide_negative_ok CH.none_ok))
noncomputable def f_wide_size (a0 : Int) (a1 : Int) (a2 : Int) (a3 : Int) (a4 : Int) (a5 : Int) (a6 : Int) (a7 : Int) : Option (Int × Int × Int × Int × Int × Int × Int × Int) :=
  (Option.bind (f_wide_negative a0 a1 a2 a3 a4 a5 a6 a7) fun r1 => (cond r1 (Option.bind (f_wide_minus a0 a1 a2 a3 a4 a5 a6 a7) fun r2 => (some (r2.1, r2.2.1, r2.2.2.1, r2.2.2.2.1, r2.2.2.2.2.1, r2.2.2.2.2.2.1, r2.2.2.2.2.2.2.1, r2.2.2.2.2.2.2.2))) (some (a0, a1, a2, a3, a4, a5, a6, a7))))
def f_wide_size_d : FD where
  X := Int × Int × Int × Int × Int × Int × Int × Int
  k := 0
  pre := []
  F := fun s => []
  M := .agg [.int .u64, .int .u64, .int .u64, .int .u64, .int .u64, .int .u64, .int .u64, .int .u64]
  B := []
  toL := fun x => [.I x.1, .I x.2.1, .I x.2.2.1, .I x.2.2.2.1, .I x.2.2.2.2.1, .I x.2.2.2.2.2.1, .I x.2.2.2.2.2.2.1, .I x.2.2.2.2.2.2.2]
  ofL := fun ls => match ls with
    | [.I x0, .I x1, .I x2, .I x3, .I x4, .I x5, .I x6, .I x7] => some (x0, x1, x2, x3, x4, x5, x6, x7)
    | _ => none
  ofL_ok := fun ls x h => by
    split at h
    · cases h; rfl
    · cases h
theorem f_wide_size_sem (a0 : Int) (a1 : Int) (a2 : Int) (a3 : Int) (a4 : Int) (a5 : Int) (a6 : Int) (a7 : Int) (x : Int × Int × Int × Int × Int × Int × Int × Int) (h : f_wide_size a0 a1 a2 a3 a4 a5 a6 a7 = some x) : IsFn Tryz.prog 150 ∧ SemCall Tryz.prog 150 [.agg [.int .u64 a0, .int .u64 a1, .int .u64 a2, .int .u64 a3, .int .u64 a4, .int .u64 a5, .int .u64 a6, .int .u64 a7]] ⟨0, numB 0 []⟩ (.ret (f_wide_size_d.val x)) ⟨0 + (f_wide_size_d.blks x).length, numB 0 (f_wide_size_d.blks x)⟩ :=
  FD.sem (ch := ch_f_wide_size) (A := noAnns) (fn := Tryz.f150) (c := bodyOf Tryz.f150) (fuel := 60) tab_ok ch_f_wide_size_ok mixed noNum f_wide_size_d Tryz.func150 (by kernel_rfl) (loops_ok (l := []) (by kernel_rfl) trivial)
    (by kernel_rfl) (Eq.trans (by kernel_rfl) h)
noncomputable def h_wide_size : HK where
  call := fun args σ k => match args with
    | [.agg [.int .u64 a0, .int .u64 a1, .int .u64 a2, .int .u64 a3, .int .u64 a4, .int .u64 a5, .int .u64 a6, .int .u64 a7]] => Option.bind (f_wide_size a0 a1 a2 a3 a4 a5 a6 a7) fun y => retK σ 0 (f_wide_size_d.val y) (f_wide_size_d.blks y) k
    | _ => none
  nat := fun args σ k => by
    repeat' split
    all_goals simp only [lendK_nat, Option.bind_assoc, Option.bind_none, retK, Option.bind_some]
  pure := true
  pok := fun _ args σ r σ' h => by
    split at h
    · exact pure_of h (fun y => rfl) (fun y f => rfl)
    · cases h
theorem h_wide_size_ok : HKOk Tryz.prog 150 h_wide_size := by
  intro args σ r σ' h
  simp only [h_wide_size] at h
  split at h
  · rename_i a0 a1 a2 a3 a4 a5 a6 a7
    obtain ⟨y, hy, h⟩ := Option.bind_eq_some_iff.1 h
    exact lifted (xs := []) (ls := []) (cargs := [.agg [.int .u64 a0, .int .u64 a1, .int .u64 a2, .int .u64 a3, .int .u64 a4, .int .u64 a5, .int .u64 a6, .int .u64 a7]]) (Lent.of trivial) rfl (f_wide_size_sem a0 a1 a2 a3 a4 a5 a6 a7 y hy) rfl rfl rfl rfl h
  · cases h
end Go.Ev

