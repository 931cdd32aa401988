/- ninepin/cache.Carry: what it computes, and that it does. Printed by dec.py. No statement is proved here. -/
import Derived.Test.YthjoljondlhhmaaEvZ
import Derived.Test.YthjoljondlhhmaaEvT
import Derived.Test.YthjoljondlhhmaaDf11
import Derived.Test.YthjoljondlhhmaaDf18a
namespace Go.Ev
set_option linter.unusedVariables false
set_option linter.unusedSimpArgs false
open Go.Proofs
set_option maxRecDepth 100000
/-! ### 8: ninepin/cache.Carry -/

noncomputable def ch_f8 : CH := (CH.add 18 h18a (CH.add 11 h11 CH.none))
theorem ch_f8_ok : CHOk Try.prog ch_f8 := (CH.add_ok h18a_ok (CH.add_ok h11_ok CH.none_ok))

/-- A round of the loop at 8. -/
noncomputable def f8_L8k {R : Type} (cc : List AVal × Nat × List AVal × Nat × Int) (v : List (AVal × AVal × Nat) × Nat × Int) (kn : (List (AVal × AVal × Nat) × Nat × Int) → Option R) (ke : ((List (AVal × AVal × Nat) × Nat)) → Option R) : Option R :=
  (cond (decide (v.2.2 < cc.2.2.2.2)) (need (decide (0 ≤ v.2.2) && decide (v.2.2 < ((cc.2.2.2.1 : Nat) : Int))) (need (rowOk [.int .i64, .int .i64, .int .i64, .int .i64, .int .i64, .int .i64, .int .i64] cc.2.2.1 (Int.toNat v.2.2 * 7)) (need (Option.isSome (findA ty25 (.agg [.int .i64 (geti cc.2.2.1 ((Int.toNat v.2.2 * 7) + 0)), .int .i64 (geti cc.2.2.1 ((Int.toNat v.2.2 * 7) + 1)), .int .i64 (geti cc.2.2.1 ((Int.toNat v.2.2 * 7) + 2)), .int .i64 (geti cc.2.2.1 ((Int.toNat v.2.2 * 7) + 3))]) v.1 0)) (kn ((putE ty25 (.agg [.int .i64 (geti cc.2.2.1 ((Int.toNat v.2.2 * 7) + 0)), .int .i64 (geti cc.2.2.1 ((Int.toNat v.2.2 * 7) + 1)), .int .i64 (geti cc.2.2.1 ((Int.toNat v.2.2 * 7) + 2)), .int .i64 (geti cc.2.2.1 ((Int.toNat v.2.2 * 7) + 3))]) (.agg [.int .i64 (geti cc.2.2.1 ((Int.toNat v.2.2 * 7) + 0)), .int .i64 (geti cc.2.2.1 ((Int.toNat v.2.2 * 7) + 1)), .int .i64 (geti cc.2.2.1 ((Int.toNat v.2.2 * 7) + 2)), .int .i64 (geti cc.2.2.1 ((Int.toNat v.2.2 * 7) + 3)), .int .i64 (geti cc.2.2.1 ((Int.toNat v.2.2 * 7) + 4)), .int .i64 (geti cc.2.2.1 ((Int.toNat v.2.2 * 7) + 5)), .int .i64 (geti cc.2.2.1 ((Int.toNat v.2.2 * 7) + 6))]) v.1 v.2.1), (putC ty25 (.agg [.int .i64 (geti cc.2.2.1 ((Int.toNat v.2.2 * 7) + 0)), .int .i64 (geti cc.2.2.1 ((Int.toNat v.2.2 * 7) + 1)), .int .i64 (geti cc.2.2.1 ((Int.toNat v.2.2 * 7) + 2)), .int .i64 (geti cc.2.2.1 ((Int.toNat v.2.2 * 7) + 3))]) v.1 v.2.1), (IntKind.wrap .i64 (v.2.2 + 1))))))) (ke (v.1, v.2.1)))

noncomputable def f8_L8s (cc : List AVal × Nat × List AVal × Nat × Int) (v : List (AVal × AVal × Nat) × Nat × Int) : Option ((List (AVal × AVal × Nat) × Nat × Int) ⊕ ((List (AVal × AVal × Nat) × Nat))) := f8_L8k cc v (fun v => some (Sum.inl v)) fun e => some (Sum.inr e)

noncomputable def f8_L8 (cc : List AVal × Nat × List AVal × Nat × Int) (v : List (AVal × AVal × Nat) × Nat × Int) : Option ((List (AVal × AVal × Nat) × Nat)) := loopω (f8_L8s cc) v

def f8_L8toL (cc : List AVal × Nat × List AVal × Nat × Int) (v : List (AVal × AVal × Nat) × Nat × Int) : List Leaf := [.I cc.2.2.2.2, .I v.2.2, .C cc.1, .N cc.2.1, .E v.1, .N v.2.1, .C cc.2.2.1, .N cc.2.2.2.1]
def f8_L8ofL (ls : List Leaf) : Option ((List AVal × Nat × List AVal × Nat × Int) × (List (AVal × AVal × Nat) × Nat × Int)) := match ls with
  | [.I x0, .I x1, .C x2, .N x3, .E x4, .N x5, .C x6, .N x7] => some ((x2, x3, x6, x7, x0), (x4, x5, x1))
  | _ => none
def f8_L8out (e : (List (AVal × AVal × Nat) × Nat)) : AOut := ((fun e => .exit 1) e)
def f8_L8toE (cc : List AVal × Nat × List AVal × Nat × Int) (e : (List (AVal × AVal × Nat) × Nat)) : List Leaf := ((fun e => [.C cc.1, .N cc.2.1, .E e.1, .N e.2]) e)
def f8_L8conE (cc : List AVal × Nat × List AVal × Nat × Int) (e : (List (AVal × AVal × Nat) × Nat)) : List Leaf := ((fun e => [.C cc.1, .N cc.2.1]) e)
def f8_L8ofE (o : AOut) (ls : List Leaf) : Option (((List (AVal × AVal × Nat) × Nat)) × List Leaf) := match o with
  | .exit 1 => (match ls with
    | [.C x0, .N x1, .E x2, .N x3] => some ((x2, x3), [.C x0, .N x1])
    | _ => none)
  | _ => none
theorem f8_L8ofE_ok : ∀ o ls e cl cc, f8_L8ofE o ls = some (e, cl) → cl = f8_L8conE cc e → ls = f8_L8toE cc e ∧ f8_L8out e = o ∧ o ≠ .normal ∧ ∀ v, o ≠ .pan v := by
  intro o ls e cl cc h hc
  unfold f8_L8ofE at h
  split at h
  · split at h
    · cases h
      simp only [f8_L8conE, Sum.elim_inl, Sum.elim_inr, List.cons.injEq, Leaf.I.injEq, Leaf.B.injEq, Leaf.S.injEq, Leaf.N.injEq, Leaf.C.injEq, Leaf.E.injEq, and_true] at hc
      obtain ⟨rfl, rfl⟩ := hc
      exact ⟨rfl, rfl, by simp, by simp⟩
    · cases h
  · cases h
def f8_L8sh (o : AOut) : ExS := match o with
  | .exit 1 => ⟨4, [none, none, none, some (.ptr 2 0), none, none, none, none, some (.map 3), none, none, none, none, none, none, none, none, none, none, none, none, none, none, none, none, none, none, none, none, none, none, none, none, none, none, none, none, none, none, none, none, none, none, none, none, none, none, none, none, none, none, none, none, none, none, none, none, none, none, none, none, none, none, none], [(2, .cells [.vec 1] true none), (1, .vec 4 false), (3, .map)], fun s => [0, 1, nameAt s 3 [], nameAt s 8 []], []⟩
  | _ => ⟨0, [], [], fun _ => [], []⟩
theorem f8_L8nat {R : Type} (cc : List AVal × Nat × List AVal × Nat × Int) (v : List (AVal × AVal × Nat) × Nat × Int) (kn : (List (AVal × AVal × Nat) × Nat × Int) → Option R) (ke : ((List (AVal × AVal × Nat) × Nat)) → Option R) : f8_L8k cc v kn ke = (f8_L8k cc v (fun v => some (Sum.inl v)) fun e => some (Sum.inr e)).bind (Sum.elim kn ke) := by
  simp only [f8_L8k, cond_bind, need_nat, Option.bind_assoc, sum_bind, lookC_bind, Option.bind_some, Option.bind_none, Sum.elim_inl, Sum.elim_inr]
noncomputable def f8_L8d : LD where
  CC := List AVal × Nat × List AVal × Nat × Int
  V := List (AVal × AVal × Nat) × Nat × Int
  E := (List (AVal × AVal × Nat) × Nat)
  n := 2
  K := 4
  M := [none, none, none, some (.ptr 2 0), none, none, none, none, some (.map 3), none, none, none, none, none, none, none, none, none, none, none, none, none, none, none, none, none, none, none, none, none, none, none, none, none, none, none, some (.vec 0), some (.int .i64), some (.int .i64), none, none, none, none, none, none, none, none, none, none, none, none, none, none, none, none, none, none, none, none, none, none, none, none, none]
  B := [(2, .cells [.vec 1] true none), (1, .vec 4 false), (3, .map), (0, .vec 7 false)]
  pre := []
  F := fun s => [0, 1, nameAt s 3 [], nameAt s 8 []]
  toL := f8_L8toL
  ofL := f8_L8ofL
  ofL_ok := fun ls c v h => by
    unfold f8_L8ofL at h
    split at h
    · cases h; rfl
    · cases h
  stepK := f8_L8k
  nat := f8_L8nat
  sh := f8_L8sh
  out := f8_L8out
  toE := f8_L8toE
  conE := f8_L8conE
  ofE := f8_L8ofE
  ofE_ok := f8_L8ofE_ok
  post := fun cc e k => ((fun e => k (.exit 1) (canonSt 4 [none, none, none, some (.ptr 2 0), none, none, none, none, some (.map 3), none, none, none, none, none, none, none, none, none, none, none, none, none, none, none, none, none, none, none, none, none, none, none, none, none, none, none, none, none, none, none, none, none, none, none, none, none, none, none, none, none, none, none, none, none, none, none, none, none, none, none, none, none, none, none] [(2, .cells [.vec 1] true none), (1, .vec cc.1 cc.2.1 4 false), (3, .map e.1 e.2)])) e)
  post_eq := fun cc e k => by rfl

theorem f8_L8_ok : LaOk Try.prog 2 f8_L8d.la (loopAt Try.f8 0) :=
  LD.ok (ch := ch_f8) (A := noAnns) tab_ok ch_f8_ok mixed (fuel := 60) ⟨by kernel_rfl, fun e => by kernel_rfl, fun cc v => by kernel_rfl, loops_ok (l := []) (by kernel_rfl) trivial⟩

/-- A round of the loop at 14. -/
noncomputable def f8_L14k {R : Type} (cc : List (AVal × AVal × Nat) × Nat × List AVal × Nat × Int) (v : List AVal × Nat × Int) (kn : (List AVal × Nat × Int) → Option R) (ke : ((List AVal × Nat)) → Option R) : Option R :=
  (cond (decide (v.2.2 < cc.2.2.2.2)) (need (decide (0 ≤ v.2.2) && decide (v.2.2 < ((cc.2.2.2.1 : Nat) : Int))) (need (rowOk [.int .i64, .int .i64, .int .i64, .int .i64] cc.2.2.1 (Int.toNat v.2.2 * 4)) (lookC (findA ty25 (.agg [.int .i64 (geti cc.2.2.1 ((Int.toNat v.2.2 * 4) + 0)), .int .i64 (geti cc.2.2.1 ((Int.toNat v.2.2 * 4) + 1)), .int .i64 (geti cc.2.2.1 ((Int.toNat v.2.2 * 4) + 2)), .int .i64 (geti cc.2.2.1 ((Int.toNat v.2.2 * 4) + 3))]) cc.1 0) (fun p4 => (need (rowOk [.int .i64, .int .i64, .int .i64, .int .i64, .int .i64, .int .i64, .int .i64] (AVal.cellsOf p4.2) 0 && decide (List.length (AVal.cellsOf p4.2) = 7) && (true == AVal.isAggV p4.2)) (need (decide (2 * (v.2.1 + 1) * 56 ≤ 2 ^ 48)) (kn ((v.1 ++ [.int .i64 (geti cc.2.2.1 ((Int.toNat v.2.2 * 4) + 0)), .int .i64 (geti cc.2.2.1 ((Int.toNat v.2.2 * 4) + 1)), .int .i64 (geti cc.2.2.1 ((Int.toNat v.2.2 * 4) + 2)), .int .i64 (geti cc.2.2.1 ((Int.toNat v.2.2 * 4) + 3)), .int .i64 (geti (AVal.cellsOf p4.2) 4), .int .i64 (geti (AVal.cellsOf p4.2) 5), .int .i64 (geti (AVal.cellsOf p4.2) 6)]), (v.2.1 + 1), (IntKind.wrap .i64 (v.2.2 + 1))))))) (need (decide (2 * (v.2.1 + 1) * 56 ≤ 2 ^ 48)) (kn ((v.1 ++ [.int .i64 (geti cc.2.2.1 ((Int.toNat v.2.2 * 4) + 0)), .int .i64 (geti cc.2.2.1 ((Int.toNat v.2.2 * 4) + 1)), .int .i64 (geti cc.2.2.1 ((Int.toNat v.2.2 * 4) + 2)), .int .i64 (geti cc.2.2.1 ((Int.toNat v.2.2 * 4) + 3)), .int .i64 0, .int .i64 0, .int .i64 0]), (v.2.1 + 1), (IntKind.wrap .i64 (v.2.2 + 1)))))))) (ke (v.1, v.2.1)))

noncomputable def f8_L14s (cc : List (AVal × AVal × Nat) × Nat × List AVal × Nat × Int) (v : List AVal × Nat × Int) : Option ((List AVal × Nat × Int) ⊕ ((List AVal × Nat))) := f8_L14k cc v (fun v => some (Sum.inl v)) fun e => some (Sum.inr e)

noncomputable def f8_L14 (cc : List (AVal × AVal × Nat) × Nat × List AVal × Nat × Int) (v : List AVal × Nat × Int) : Option ((List AVal × Nat)) := loopω (f8_L14s cc) v

def f8_L14toL (cc : List (AVal × AVal × Nat) × Nat × List AVal × Nat × Int) (v : List AVal × Nat × Int) : List Leaf := [.I cc.2.2.2.2, .I v.2.2, .E cc.1, .N cc.2.1, .C v.1, .N v.2.1, .C cc.2.2.1, .N cc.2.2.2.1]
def f8_L14ofL (ls : List Leaf) : Option ((List (AVal × AVal × Nat) × Nat × List AVal × Nat × Int) × (List AVal × Nat × Int)) := match ls with
  | [.I x0, .I x1, .E x2, .N x3, .C x4, .N x5, .C x6, .N x7] => some ((x2, x3, x6, x7, x0), (x4, x5, x1))
  | _ => none
def f8_L14out (e : (List AVal × Nat)) : AOut := ((fun e => .exit 3) e)
def f8_L14toE (cc : List (AVal × AVal × Nat) × Nat × List AVal × Nat × Int) (e : (List AVal × Nat)) : List Leaf := ((fun e => [.C e.1, .N e.2]) e)
def f8_L14conE (cc : List (AVal × AVal × Nat) × Nat × List AVal × Nat × Int) (e : (List AVal × Nat)) : List Leaf := ((fun e => []) e)
def f8_L14ofE (o : AOut) (ls : List Leaf) : Option (((List AVal × Nat)) × List Leaf) := match o with
  | .exit 3 => (match ls with
    | [.C x0, .N x1] => some ((x0, x1), [])
    | _ => none)
  | _ => none
theorem f8_L14ofE_ok : ∀ o ls e cl cc, f8_L14ofE o ls = some (e, cl) → cl = f8_L14conE cc e → ls = f8_L14toE cc e ∧ f8_L14out e = o ∧ o ≠ .normal ∧ ∀ v, o ≠ .pan v := by
  intro o ls e cl cc h hc
  unfold f8_L14ofE at h
  split at h
  · split at h
    · cases h
      exact ⟨rfl, rfl, by simp, by simp⟩
    · cases h
  · cases h
def f8_L14sh (o : AOut) : ExS := match o with
  | .exit 3 => ⟨3, [none, none, none, none, none, none, none, none, none, none, none, some (.vec 2), none, none, none, none, none, none, none, none, none, none, none, none, none, none, none, none, none, none, none, none, none, none, none, none, none, none, none, none, none, none, none, none, none, none, none, none, none, none, none, none, none, none, none, none, none, none, none, none, none, none, none, none], [(2, .vec 7 true)], fun s => [0, 1, nameAt s 11 []], []⟩
  | _ => ⟨0, [], [], fun _ => [], []⟩
theorem f8_L14nat {R : Type} (cc : List (AVal × AVal × Nat) × Nat × List AVal × Nat × Int) (v : List AVal × Nat × Int) (kn : (List AVal × Nat × Int) → Option R) (ke : ((List AVal × Nat)) → Option R) : f8_L14k cc v kn ke = (f8_L14k cc v (fun v => some (Sum.inl v)) fun e => some (Sum.inr e)).bind (Sum.elim kn ke) := by
  simp only [f8_L14k, cond_bind, need_nat, Option.bind_assoc, sum_bind, lookC_bind, Option.bind_some, Option.bind_none, Sum.elim_inl, Sum.elim_inr]
noncomputable def f8_L14d : LD where
  CC := List (AVal × AVal × Nat) × Nat × List AVal × Nat × Int
  V := List AVal × Nat × Int
  E := (List AVal × Nat)
  n := 2
  K := 4
  M := [none, none, none, none, none, none, none, none, some (.map 2), none, none, some (.vec 3), none, none, none, none, none, none, none, none, none, none, none, none, none, none, none, none, none, none, none, none, none, none, none, none, none, none, none, none, none, none, none, none, none, none, none, some (.vec 1), some (.int .i64), some (.int .i64), none, none, none, none, none, none, none, none, none, none, none, none, none, none]
  B := [(2, .map), (3, .vec 7 true), (1, .vec 4 false)]
  pre := [(11, 7)]
  F := fun s => [0, 1, nameAt s 8 [], nameAt s 11 []]
  toL := f8_L14toL
  ofL := f8_L14ofL
  ofL_ok := fun ls c v h => by
    unfold f8_L14ofL at h
    split at h
    · cases h; rfl
    · cases h
  stepK := f8_L14k
  nat := f8_L14nat
  sh := f8_L14sh
  out := f8_L14out
  toE := f8_L14toE
  conE := f8_L14conE
  ofE := f8_L14ofE
  ofE_ok := f8_L14ofE_ok
  post := fun cc e k => ((fun e => k (.exit 3) (canonSt 3 [none, none, none, none, none, none, none, none, none, none, none, some (.vec 2), none, none, none, none, none, none, none, none, none, none, none, none, none, none, none, none, none, none, none, none, none, none, none, none, none, none, none, none, none, none, none, none, none, none, none, none, none, none, none, none, none, none, none, none, none, none, none, none, none, none, none, none] [(2, .vec e.1 e.2 7 true)])) e)
  post_eq := fun cc e k => by rfl

theorem f8_L14_ok : LaOk Try.prog 2 f8_L14d.la (loopAt Try.f8 1) :=
  LD.ok (ch := ch_f8) (A := noAnns) tab_ok ch_f8_ok mixed (fuel := 60) ⟨by kernel_rfl, fun e => by kernel_rfl, fun cc v => by kernel_rfl, loops_ok (l := []) (by kernel_rfl) trivial⟩

/-- ninepin/cache.Carry. -/
noncomputable def f8 (cs0 : List AVal) (n1 : Nat) (cs2 : List AVal) (n3 : Nat) : Option (Int × List AVal × Nat) :=
  (Option.bind (f11 cs0 n1) fun r1 => (Option.bind (f18a ((n3 : Nat) : Int) cs2 n3) fun r2 => (cond (r1 == 3) (some (3, ([] : List AVal), 0)) (cond (r2 == 3) (some (3, ([] : List AVal), 0)) (cond (r1 != 0) (some (2, ([] : List AVal), 0)) (cond (r2 != 0) (some (2, ([] : List AVal), 0)) (Option.bind (f8_L8 (cs2, n3, cs0, n1, ((n1 : Nat) : Int)) (([] : List (AVal × AVal × Nat)), 0, 0)) fun e3 => (Option.bind (f8_L14 (e3.1, e3.2, cs2, n3, ((n3 : Nat) : Int)) (([] : List AVal), 0, 0)) fun e4 => (some (0, e4.1, e4.2))))))))))

def f8_d : FD where
  X := Int × List AVal × Nat
  k := 2
  pre := [(4, 7)]
  F := fun s => [0, 1, nameAt s 0 [.c 0]]
  M := .tup [.vec 2, .int .i64]
  B := [.vec 7 true]
  toL := fun x => [.I x.1, .C x.2.1, .N x.2.2]
  ofL := fun ls => match ls with
    | [.I x0, .C x1, .N x2] => some (x0, x1, x2)
    | _ => none
  ofL_ok := fun ls x h => by
    split at h
    · cases h; rfl
    · cases h

theorem f8_sem (cs0 : List AVal) (n1 : Nat) (cs2 : List AVal) (n3 : Nat) (x : Int × List AVal × Nat) (h : f8 cs0 n1 cs2 n3 = some x) : IsFn Try.prog 8 ∧ SemCall Try.prog 8 [.vec 0, .vec 1] ⟨2, numB 0 [.vec cs0 n1 7 false, .vec cs2 n3 4 false]⟩ (.ret (f8_d.val x)) ⟨2 + (f8_d.blks x).length, numB 2 (f8_d.blks x)⟩ :=
  FD.sem (ch := ch_f8) (A := annsOf [(8, f8_L8d.la), (14, f8_L14d.la)]) (fn := Try.f8) (c := bodyOf Try.f8) (fuel := 60) tab_ok ch_f8_ok mixed noNum f8_d Try.func8 (by kernel_rfl) (loops_ok (l := [loopAt Try.f8 0, loopAt Try.f8 1]) (by kernel_rfl) ⟨ann_one (by kernel_rfl) f8_L8_ok, ann_one (by kernel_rfl) f8_L14_ok, trivial⟩)
    (by kernel_rfl) (Eq.trans (by kernel_rfl) h)

noncomputable def h8 : HK where
  call := fun args σ k => match args with
    | [x0, x1] => lendK σ 7 x0 fun cs0 n1 => lendK σ 4 x1 fun cs2 n3 => Option.bind (f8 cs0 n1 cs2 n3) fun y => retK σ 2 (f8_d.val y) (f8_d.blks y) k
    | _ => none
  nat := fun args σ k => by
    repeat' split
    all_goals simp only [lendK_nat, Option.bind_assoc, Option.bind_none, retK, Option.bind_some]
theorem h8_ok : HKOk Try.prog 8 h8 := by
  intro args σ r σ' h
  simp only [h8] at h
  split at h
  · rename_i x0 x1
    obtain ⟨cs0, n1, he0, hf0, h⟩ := lendK_spec h
    obtain ⟨cs2, n3, he1, hf1, h⟩ := lendK_spec h
    obtain ⟨y, hy, h⟩ := Option.bind_eq_some_iff.1 h
    exact lifted (xs := [x0, x1]) (ls := [.vec cs0 n1 7 false, .vec cs2 n3 4 false]) (cargs := [.vec 0, .vec 1]) (Lent.of ⟨⟨rfl, he0, hf0, by decide⟩, ⟨rfl, he1, hf1, by decide⟩, trivial⟩) rfl (f8_sem cs0 n1 cs2 n3 y hy) rfl rfl rfl rfl h
  · cases h

end Go.Ev
