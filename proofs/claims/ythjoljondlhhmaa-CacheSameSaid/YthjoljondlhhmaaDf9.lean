/- ninepin/ninepinref21.Carry: what it computes, and that it does. Printed by dec.py. No statement is proved here. -/
import Derived.Test.YthjoljondlhhmaaEvZ
import Derived.Test.YthjoljondlhhmaaEvT
import Derived.Test.YthjoljondlhhmaaDf12
import Derived.Test.YthjoljondlhhmaaDf13
namespace Go.Ev
set_option linter.unusedVariables false
set_option linter.unusedSimpArgs false
open Go.Proofs
set_option maxRecDepth 100000
/-! ### 9: ninepin/ninepinref21.Carry -/

noncomputable def ch_f9 : CH := (CH.add 13 h13 (CH.add 12 h12 CH.none))
theorem ch_f9_ok : CHOk Try.prog ch_f9 := (CH.add_ok h13_ok (CH.add_ok h12_ok CH.none_ok))

/-- A round of the loop at 12. -/
noncomputable def f9_L12k {R : Type} (cc : List AVal × Nat × List AVal × Nat × List AVal × Nat × Int) (v : Int × Int × Int × Int × Int × Int × Int × Int) (kn : (Int × Int × Int × Int × Int × Int × Int × Int) → Option R) (ke : ((Int × Int × Int × Int × Int × Int × Int)) → Option R) : Option R :=
  (cond (decide (v.2.2.2.2.2.2.2 < ((cc.2.1 : Nat) : Int))) (need (decide (0 ≤ v.2.2.2.2.2.2.2) && decide (v.2.2.2.2.2.2.2 < ((cc.2.1 : Nat) : Int))) (need (rowOk [.int .i64, .int .i64, .int .i64, .int .i64] cc.1 (Int.toNat v.2.2.2.2.2.2.2 * 7)) (need (decide (0 ≤ cc.2.2.2.2.2.2) && decide (cc.2.2.2.2.2.2 < ((cc.2.2.2.1 : Nat) : Int))) (need (rowOk [.int .i64, .int .i64, .int .i64, .int .i64] cc.2.2.1 (Int.toNat cc.2.2.2.2.2.2 * 4)) (cond ((geti cc.1 ((Int.toNat v.2.2.2.2.2.2.2 * 7) + 0)) == (geti cc.2.2.1 ((Int.toNat cc.2.2.2.2.2.2 * 4) + 0)) && ((geti cc.1 ((Int.toNat v.2.2.2.2.2.2.2 * 7) + 1)) == (geti cc.2.2.1 ((Int.toNat cc.2.2.2.2.2.2 * 4) + 1)) && ((geti cc.1 ((Int.toNat v.2.2.2.2.2.2.2 * 7) + 2)) == (geti cc.2.2.1 ((Int.toNat cc.2.2.2.2.2.2 * 4) + 2)) && ((geti cc.1 ((Int.toNat v.2.2.2.2.2.2.2 * 7) + 3)) == (geti cc.2.2.1 ((Int.toNat cc.2.2.2.2.2.2 * 4) + 3)) && true)))) (need (decide (0 ≤ v.2.2.2.2.2.2.2) && decide (v.2.2.2.2.2.2.2 < ((cc.2.1 : Nat) : Int))) (need (rowOk [.int .i64, .int .i64, .int .i64, .int .i64, .int .i64, .int .i64, .int .i64] cc.1 (Int.toNat v.2.2.2.2.2.2.2 * 7)) (kn ((geti cc.1 ((Int.toNat v.2.2.2.2.2.2.2 * 7) + 0)), (geti cc.1 ((Int.toNat v.2.2.2.2.2.2.2 * 7) + 1)), (geti cc.1 ((Int.toNat v.2.2.2.2.2.2.2 * 7) + 2)), (geti cc.1 ((Int.toNat v.2.2.2.2.2.2.2 * 7) + 3)), (geti cc.1 ((Int.toNat v.2.2.2.2.2.2.2 * 7) + 4)), (geti cc.1 ((Int.toNat v.2.2.2.2.2.2.2 * 7) + 5)), (geti cc.1 ((Int.toNat v.2.2.2.2.2.2.2 * 7) + 6)), (IntKind.wrap .i64 (v.2.2.2.2.2.2.2 + 1)))))) (kn (v.1, v.2.1, v.2.2.1, v.2.2.2.1, v.2.2.2.2.1, v.2.2.2.2.2.1, v.2.2.2.2.2.2.1, (IntKind.wrap .i64 (v.2.2.2.2.2.2.2 + 1))))))))) (ke (v.1, v.2.1, v.2.2.1, v.2.2.2.1, v.2.2.2.2.1, v.2.2.2.2.2.1, v.2.2.2.2.2.2.1)))

noncomputable def f9_L12s (cc : List AVal × Nat × List AVal × Nat × List AVal × Nat × Int) (v : Int × Int × Int × Int × Int × Int × Int × Int) : Option ((Int × Int × Int × Int × Int × Int × Int × Int) ⊕ ((Int × Int × Int × Int × Int × Int × Int))) := f9_L12k cc v (fun v => some (Sum.inl v)) fun e => some (Sum.inr e)

noncomputable def f9_L12 (cc : List AVal × Nat × List AVal × Nat × List AVal × Nat × Int) (v : Int × Int × Int × Int × Int × Int × Int × Int) : Option ((Int × Int × Int × Int × Int × Int × Int)) := loopω (f9_L12s cc) v

def f9_L12toL (cc : List AVal × Nat × List AVal × Nat × List AVal × Nat × Int) (v : Int × Int × Int × Int × Int × Int × Int × Int) : List Leaf := [.I cc.2.2.2.2.2.2, .I v.2.2.2.2.2.2.2, .C cc.1, .N cc.2.1, .C cc.2.2.1, .N cc.2.2.2.1, .C cc.2.2.2.2.1, .N cc.2.2.2.2.2.1, .I v.1, .I v.2.1, .I v.2.2.1, .I v.2.2.2.1, .I v.2.2.2.2.1, .I v.2.2.2.2.2.1, .I v.2.2.2.2.2.2.1]
def f9_L12ofL (ls : List Leaf) : Option ((List AVal × Nat × List AVal × Nat × List AVal × Nat × Int) × (Int × Int × Int × Int × Int × Int × Int × Int)) := match ls with
  | [.I x0, .I x1, .C x2, .N x3, .C x4, .N x5, .C x6, .N x7, .I x8, .I x9, .I x10, .I x11, .I x12, .I x13, .I x14] => some ((x2, x3, x4, x5, x6, x7, x0), (x8, x9, x10, x11, x12, x13, x14, x1))
  | _ => none
def f9_L12out (e : (Int × Int × Int × Int × Int × Int × Int)) : AOut := ((fun e => .exit 2) e)
def f9_L12toE (cc : List AVal × Nat × List AVal × Nat × List AVal × Nat × Int) (e : (Int × Int × Int × Int × Int × Int × Int)) : List Leaf := ((fun e => [.I cc.2.2.2.2.2.2, .C cc.1, .N cc.2.1, .C cc.2.2.1, .N cc.2.2.2.1, .C cc.2.2.2.2.1, .N cc.2.2.2.2.2.1, .I e.1, .I e.2.1, .I e.2.2.1, .I e.2.2.2.1, .I e.2.2.2.2.1, .I e.2.2.2.2.2.1, .I e.2.2.2.2.2.2]) e)
def f9_L12conE (cc : List AVal × Nat × List AVal × Nat × List AVal × Nat × Int) (e : (Int × Int × Int × Int × Int × Int × Int)) : List Leaf := ((fun e => [.I cc.2.2.2.2.2.2, .C cc.1, .N cc.2.1, .C cc.2.2.1, .N cc.2.2.2.1, .C cc.2.2.2.2.1, .N cc.2.2.2.2.2.1]) e)
def f9_L12ofE (o : AOut) (ls : List Leaf) : Option (((Int × Int × Int × Int × Int × Int × Int)) × List Leaf) := match o with
  | .exit 2 => (match ls with
    | [.I x0, .C x1, .N x2, .C x3, .N x4, .C x5, .N x6, .I x7, .I x8, .I x9, .I x10, .I x11, .I x12, .I x13] => some ((x7, x8, x9, x10, x11, x12, x13), [.I x0, .C x1, .N x2, .C x3, .N x4, .C x5, .N x6])
    | _ => none)
  | _ => none
theorem f9_L12ofE_ok : ∀ o ls e cl cc, f9_L12ofE o ls = some (e, cl) → cl = f9_L12conE cc e → ls = f9_L12toE cc e ∧ f9_L12out e = o ∧ o ≠ .normal ∧ ∀ v, o ≠ .pan v := by
  intro o ls e cl cc h hc
  unfold f9_L12ofE at h
  split at h
  · split at h
    · cases h
      simp only [f9_L12conE, Sum.elim_inl, Sum.elim_inr, List.cons.injEq, Leaf.I.injEq, Leaf.B.injEq, Leaf.S.injEq, Leaf.N.injEq, Leaf.C.injEq, Leaf.E.injEq, and_true] at hc
      obtain ⟨rfl, rfl, rfl, rfl, rfl, rfl, rfl⟩ := hc
      exact ⟨rfl, rfl, by simp, by simp⟩
    · cases h
  · cases h
def f9_L12sh (o : AOut) : ExS := match o with
  | .exit 2 => ⟨4, [some (.vec 0), some (.vec 1), none, none, none, none, none, none, some (.vec 2), some (.int .i64), some (.ptr 3 0), none, none, none, none, none, none, none, none, none, none, none, none, none, none, none, none, none, none, none, none, none, none, none, none, none, none, none, none, none, none, none, none, none, none, none, none, none, none, none, none, none, none, none, none, none, none, none, none, none, none, none, none, none, none], [(0, .vec 7 false), (1, .vec 4 false), (2, .vec 7 true), (3, .cells [.int .i64, .int .i64, .int .i64, .int .i64, .int .i64, .int .i64, .int .i64] true none)], fun s => [0, 1, nameAt s 8 [], nameAt s 10 []], []⟩
  | _ => ⟨0, [], [], fun _ => [], []⟩
theorem f9_L12nat {R : Type} (cc : List AVal × Nat × List AVal × Nat × List AVal × Nat × Int) (v : Int × Int × Int × Int × Int × Int × Int × Int) (kn : (Int × Int × Int × Int × Int × Int × Int × Int) → Option R) (ke : ((Int × Int × Int × Int × Int × Int × Int)) → Option R) : f9_L12k cc v kn ke = (f9_L12k cc v (fun v => some (Sum.inl v)) fun e => some (Sum.inr e)).bind (Sum.elim kn ke) := by
  simp only [f9_L12k, cond_bind, need_nat, Option.bind_assoc, sum_bind, lookC_bind, Option.bind_some, Option.bind_none, Sum.elim_inl, Sum.elim_inr]
noncomputable def f9_L12d : LD where
  CC := List AVal × Nat × List AVal × Nat × List AVal × Nat × Int
  V := Int × Int × Int × Int × Int × Int × Int × Int
  E := (Int × Int × Int × Int × Int × Int × Int)
  n := 2
  K := 4
  M := [some (.vec 0), some (.vec 1), none, none, none, none, none, none, some (.vec 2), some (.int .i64), some (.ptr 3 0), some (.int .i64), none, none, none, none, none, none, none, none, none, none, none, none, none, none, none, none, none, none, none, none, none, none, none, none, none, none, none, none, none, none, none, none, none, none, none, none, none, none, none, none, none, none, none, none, none, none, none, none, none, none, none, none, none]
  B := [(0, .vec 7 false), (1, .vec 4 false), (2, .vec 7 true), (3, .cells [.int .i64, .int .i64, .int .i64, .int .i64, .int .i64, .int .i64, .int .i64] true none)]
  pre := []
  F := fun s => [0, 1, nameAt s 8 [], nameAt s 10 []]
  toL := f9_L12toL
  ofL := f9_L12ofL
  ofL_ok := fun ls c v h => by
    unfold f9_L12ofL at h
    split at h
    · cases h; rfl
    · cases h
  stepK := f9_L12k
  nat := f9_L12nat
  sh := f9_L12sh
  out := f9_L12out
  toE := f9_L12toE
  conE := f9_L12conE
  ofE := f9_L12ofE
  ofE_ok := f9_L12ofE_ok
  post := fun cc e k => ((fun e => k (.exit 2) (canonSt 4 [some (.vec 0), some (.vec 1), none, none, none, none, none, none, some (.vec 2), some (.int .i64 cc.2.2.2.2.2.2), some (.ptr 3 0), none, none, none, none, none, none, none, none, none, none, none, none, none, none, none, none, none, none, none, none, none, none, none, none, none, none, none, none, none, none, none, none, none, none, none, none, none, none, none, none, none, none, none, none, none, none, none, none, none, none, none, none, none, none] [(0, .vec cc.1 cc.2.1 7 false), (1, .vec cc.2.2.1 cc.2.2.2.1 4 false), (2, .vec cc.2.2.2.2.1 cc.2.2.2.2.2.1 7 true), (3, .cells [.int .i64 e.1, .int .i64 e.2.1, .int .i64 e.2.2.1, .int .i64 e.2.2.2.1, .int .i64 e.2.2.2.2.1, .int .i64 e.2.2.2.2.2.1, .int .i64 e.2.2.2.2.2.2] true none)])) e)
  post_eq := fun cc e k => by rfl

theorem f9_L12_ok : LaOk Try.prog 2 f9_L12d.la (loopAt Try.f9 1) :=
  LD.ok (ch := ch_f9) (A := noAnns) tab_ok ch_f9_ok mixed (fuel := 60) ⟨by kernel_rfl, fun e => by kernel_rfl, fun cc v => by kernel_rfl, loops_ok (l := []) (by kernel_rfl) trivial⟩

/-- A round of the loop at 8. -/
noncomputable def f9_L8k {R : Type} (cc : List AVal × Nat × List AVal × Nat) (v : List AVal × Nat × Int) (kn : (List AVal × Nat × Int) → Option R) (ke : ((List AVal × Nat)) → Option R) : Option R :=
  (cond (decide (v.2.2 < ((cc.2.2.2 : Nat) : Int))) (need (decide (0 ≤ v.2.2) && decide (v.2.2 < ((cc.2.2.2 : Nat) : Int))) (need (rowOk [.int .i64, .int .i64, .int .i64, .int .i64] cc.2.2.1 (Int.toNat v.2.2 * 4)) (Option.bind (f9_L12 (cc.1, cc.2.1, cc.2.2.1, cc.2.2.2, v.1, v.2.1, v.2.2) ((geti cc.2.2.1 ((Int.toNat v.2.2 * 4) + 0)), (geti cc.2.2.1 ((Int.toNat v.2.2 * 4) + 1)), (geti cc.2.2.1 ((Int.toNat v.2.2 * 4) + 2)), (geti cc.2.2.1 ((Int.toNat v.2.2 * 4) + 3)), 0, 0, 0, 0)) fun e4 => (need (decide (2 * (v.2.1 + 1) * 56 ≤ 2 ^ 48)) (kn ((v.1 ++ [.int .i64 e4.1, .int .i64 e4.2.1, .int .i64 e4.2.2.1, .int .i64 e4.2.2.2.1, .int .i64 e4.2.2.2.2.1, .int .i64 e4.2.2.2.2.2.1, .int .i64 e4.2.2.2.2.2.2]), (v.2.1 + 1), (IntKind.wrap .i64 (v.2.2 + 1)))))))) (ke (v.1, v.2.1)))

noncomputable def f9_L8s (cc : List AVal × Nat × List AVal × Nat) (v : List AVal × Nat × Int) : Option ((List AVal × Nat × Int) ⊕ ((List AVal × Nat))) := f9_L8k cc v (fun v => some (Sum.inl v)) fun e => some (Sum.inr e)

noncomputable def f9_L8 (cc : List AVal × Nat × List AVal × Nat) (v : List AVal × Nat × Int) : Option ((List AVal × Nat)) := loopω (f9_L8s cc) v

def f9_L8toL (cc : List AVal × Nat × List AVal × Nat) (v : List AVal × Nat × Int) : List Leaf := [.I v.2.2, .C cc.1, .N cc.2.1, .C cc.2.2.1, .N cc.2.2.2, .C v.1, .N v.2.1]
def f9_L8ofL (ls : List Leaf) : Option ((List AVal × Nat × List AVal × Nat) × (List AVal × Nat × Int)) := match ls with
  | [.I x0, .C x1, .N x2, .C x3, .N x4, .C x5, .N x6] => some ((x1, x2, x3, x4), (x5, x6, x0))
  | _ => none
def f9_L8out (e : (List AVal × Nat)) : AOut := ((fun e => .exit 0) e)
def f9_L8toE (cc : List AVal × Nat × List AVal × Nat) (e : (List AVal × Nat)) : List Leaf := ((fun e => [.C e.1, .N e.2]) e)
def f9_L8conE (cc : List AVal × Nat × List AVal × Nat) (e : (List AVal × Nat)) : List Leaf := ((fun e => []) e)
def f9_L8ofE (o : AOut) (ls : List Leaf) : Option (((List AVal × Nat)) × List Leaf) := match o with
  | .exit 0 => (match ls with
    | [.C x0, .N x1] => some ((x0, x1), [])
    | _ => none)
  | _ => none
theorem f9_L8ofE_ok : ∀ o ls e cl cc, f9_L8ofE o ls = some (e, cl) → cl = f9_L8conE cc e → ls = f9_L8toE cc e ∧ f9_L8out e = o ∧ o ≠ .normal ∧ ∀ v, o ≠ .pan v := by
  intro o ls e cl cc h hc
  unfold f9_L8ofE at h
  split at h
  · split at h
    · cases h
      exact ⟨rfl, rfl, by simp, by simp⟩
    · cases h
  · cases h
def f9_L8sh (o : AOut) : ExS := match o with
  | .exit 0 => ⟨3, [none, none, none, none, none, none, none, none, some (.vec 2), none, none, none, none, none, none, none, none, none, none, none, none, none, none, none, none, none, none, none, none, none, none, none, none, none, none, none, none, none, none, none, none, none, none, none, none, none, none, none, none, none, none, none, none, none, none, none, none, none, none, none, none, none, none, none, none], [(2, .vec 7 true)], fun s => [0, 1, nameAt s 8 []], []⟩
  | _ => ⟨0, [], [], fun _ => [], []⟩
theorem f9_L8nat {R : Type} (cc : List AVal × Nat × List AVal × Nat) (v : List AVal × Nat × Int) (kn : (List AVal × Nat × Int) → Option R) (ke : ((List AVal × Nat)) → Option R) : f9_L8k cc v kn ke = (f9_L8k cc v (fun v => some (Sum.inl v)) fun e => some (Sum.inr e)).bind (Sum.elim kn ke) := by
  simp only [f9_L8k, cond_bind, need_nat, Option.bind_assoc, sum_bind, lookC_bind, Option.bind_some, Option.bind_none, Sum.elim_inl, Sum.elim_inr]
noncomputable def f9_L8d : LD where
  CC := List AVal × Nat × List AVal × Nat
  V := List AVal × Nat × Int
  E := (List AVal × Nat)
  n := 2
  K := 3
  M := [some (.vec 0), some (.vec 1), none, none, none, none, none, none, some (.vec 2), some (.int .i64), none, none, none, none, none, none, none, none, none, none, none, none, none, none, none, none, none, none, none, none, none, none, none, none, none, none, none, none, none, none, none, none, none, none, none, none, none, none, none, none, none, none, none, none, none, none, none, none, none, none, none, none, none, none, none]
  B := [(0, .vec 7 false), (1, .vec 4 false), (2, .vec 7 true)]
  pre := [(8, 7)]
  F := fun s => [0, 1, nameAt s 8 []]
  toL := f9_L8toL
  ofL := f9_L8ofL
  ofL_ok := fun ls c v h => by
    unfold f9_L8ofL at h
    split at h
    · cases h; rfl
    · cases h
  stepK := f9_L8k
  nat := f9_L8nat
  sh := f9_L8sh
  out := f9_L8out
  toE := f9_L8toE
  conE := f9_L8conE
  ofE := f9_L8ofE
  ofE_ok := f9_L8ofE_ok
  post := fun cc e k => ((fun e => k (.exit 0) (canonSt 3 [none, none, none, none, none, none, none, none, some (.vec 2), none, none, none, none, none, none, none, none, none, none, none, none, none, none, none, none, none, none, none, none, none, none, none, none, none, none, none, none, none, none, none, none, none, none, none, none, none, none, none, none, none, none, none, none, none, none, none, none, none, none, none, none, none, none, none, none] [(2, .vec e.1 e.2 7 true)])) e)
  post_eq := fun cc e k => by rfl

theorem f9_L8_ok : LaOk Try.prog 2 f9_L8d.la (loopAt Try.f9 0) :=
  LD.ok (ch := ch_f9) (A := annsOf [(12, f9_L12d.la)]) tab_ok ch_f9_ok mixed (fuel := 60) ⟨by kernel_rfl, fun e => by kernel_rfl, fun cc v => by kernel_rfl, loops_ok (l := [loopAt Try.f9 1]) (by kernel_rfl) ⟨ann_one (by kernel_rfl) f9_L12_ok, trivial⟩⟩

/-- ninepin/ninepinref21.Carry. -/
noncomputable def f9 (cs0 : List AVal) (n1 : Nat) (cs2 : List AVal) (n3 : Nat) : Option (Int × List AVal × Nat) :=
  (Option.bind (f13 cs0 n1) fun r1 => (Option.bind (f12 r1.1 r1.2) fun r2 => (Option.bind (f12 cs2 n3) fun r3 => (cond (r2 == 3) (some (3, ([] : List AVal), 0)) (cond (r3 == 3) (some (3, ([] : List AVal), 0)) (cond (r2 != 0) (some (2, ([] : List AVal), 0)) (cond (r3 != 0) (some (2, ([] : List AVal), 0)) (Option.bind (f9_L8 (cs0, n1, cs2, n3) (([] : List AVal), 0, 0)) fun e4 => (some (0, e4.1, e4.2))))))))))

def f9_d : FD where
  X := Int × List AVal × Nat
  k := 2
  pre := [(4, 7)]
  F := fun s => [0, 1, nameAt s 0 [.c 0]]
  M := .tup [.vec 2, .int .i64]
  B := [.vec 7 true]
  toL := fun x => [.I x.1, .C x.2.1, .N x.2.2]
  ofL := fun ls => match ls with
    | [.I x0, .C x1, .N x2] => some (x0, x1, x2)
    | _ => none
  ofL_ok := fun ls x h => by
    split at h
    · cases h; rfl
    · cases h

theorem f9_sem (cs0 : List AVal) (n1 : Nat) (cs2 : List AVal) (n3 : Nat) (x : Int × List AVal × Nat) (h : f9 cs0 n1 cs2 n3 = some x) : IsFn Try.prog 9 ∧ SemCall Try.prog 9 [.vec 0, .vec 1] ⟨2, numB 0 [.vec cs0 n1 7 false, .vec cs2 n3 4 false]⟩ (.ret (f9_d.val x)) ⟨2 + (f9_d.blks x).length, numB 2 (f9_d.blks x)⟩ :=
  FD.sem (ch := ch_f9) (A := annsOf [(12, f9_L12d.la), (8, f9_L8d.la)]) (fn := Try.f9) (c := bodyOf Try.f9) (fuel := 60) tab_ok ch_f9_ok mixed noNum f9_d Try.func9 (by kernel_rfl) (loops_ok (l := [loopAt Try.f9 0, loopAt Try.f9 1]) (by kernel_rfl) ⟨ann_one (by kernel_rfl) f9_L8_ok, ann_one (by kernel_rfl) f9_L12_ok, trivial⟩)
    (by kernel_rfl) (Eq.trans (by kernel_rfl) h)

noncomputable def h9 : HK where
  call := fun args σ k => match args with
    | [x0, x1] => lendK σ 7 x0 fun cs0 n1 => lendK σ 4 x1 fun cs2 n3 => Option.bind (f9 cs0 n1 cs2 n3) fun y => retK σ 2 (f9_d.val y) (f9_d.blks y) k
    | _ => none
  nat := fun args σ k => by
    repeat' split
    all_goals simp only [lendK_nat, Option.bind_assoc, Option.bind_none, retK, Option.bind_some]
theorem h9_ok : HKOk Try.prog 9 h9 := by
  intro args σ r σ' h
  simp only [h9] at h
  split at h
  · rename_i x0 x1
    obtain ⟨cs0, n1, he0, hf0, h⟩ := lendK_spec h
    obtain ⟨cs2, n3, he1, hf1, h⟩ := lendK_spec h
    obtain ⟨y, hy, h⟩ := Option.bind_eq_some_iff.1 h
    exact lifted (xs := [x0, x1]) (ls := [.vec cs0 n1 7 false, .vec cs2 n3 4 false]) (cargs := [.vec 0, .vec 1]) (Lent.of ⟨⟨rfl, he0, hf0, by decide⟩, ⟨rfl, he1, hf1, by decide⟩, trivial⟩) rfl (f9_sem cs0 n1 cs2 n3 y hy) rfl rfl rfl rfl h
  · cases h

end Go.Ev
