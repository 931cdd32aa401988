/- ninepin/ninepinref21.Without: what it computes, and that it does. Printed by dec.py. No statement is proved here. -/
import Derived.Test.YthjoljondlhhmaaEvZ
import Derived.Test.YthjoljondlhhmaaEvT
import Derived.Test.YthjoljondlhhmaaDf12
import Derived.Test.YthjoljondlhhmaaDf13
namespace Go.Ev
set_option linter.unusedVariables false
set_option linter.unusedSimpArgs false
open Go.Proofs
set_option maxRecDepth 100000
/-! ### 17: ninepin/ninepinref21.Without -/

noncomputable def ch_f17 : CH := (CH.add 13 h13 (CH.add 12 h12 CH.none))
theorem ch_f17_ok : CHOk Try.prog ch_f17 := (CH.add_ok h13_ok (CH.add_ok h12_ok CH.none_ok))

/-- A round of the loop at 6. -/
noncomputable def f17_L6k {R : Type} (cc : List AVal × Nat × Int) (v : List AVal × Nat × Int) (kn : (List AVal × Nat × Int) → Option R) (ke : ((List AVal × Nat)) → Option R) : Option R :=
  (cond (decide (v.2.2 < ((cc.2.1 : Nat) : Int))) (need (decide (0 ≤ v.2.2) && decide (v.2.2 < ((cc.2.1 : Nat) : Int))) (need (rowOk [.int .i64] cc.1 (Int.toNat v.2.2 * 7)) (cond ((geti cc.1 ((Int.toNat v.2.2 * 7) + 0)) != cc.2.2) (need (decide (0 ≤ v.2.2) && decide (v.2.2 < ((cc.2.1 : Nat) : Int))) (need (rowOk [.int .i64] cc.1 ((Int.toNat v.2.2 * 7) + 1)) (cond ((geti cc.1 (((Int.toNat v.2.2 * 7) + 1) + 0)) != cc.2.2) (need (decide (0 ≤ v.2.2) && decide (v.2.2 < ((cc.2.1 : Nat) : Int))) (need (rowOk [.int .i64, .int .i64, .int .i64, .int .i64, .int .i64, .int .i64, .int .i64] cc.1 (Int.toNat v.2.2 * 7)) (need (decide (2 * (v.2.1 + 1) * 56 ≤ 2 ^ 48)) (kn ((v.1 ++ [.int .i64 (geti cc.1 ((Int.toNat v.2.2 * 7) + 0)), .int .i64 (geti cc.1 ((Int.toNat v.2.2 * 7) + 1)), .int .i64 (geti cc.1 ((Int.toNat v.2.2 * 7) + 2)), .int .i64 (geti cc.1 ((Int.toNat v.2.2 * 7) + 3)), .int .i64 (geti cc.1 ((Int.toNat v.2.2 * 7) + 4)), .int .i64 (geti cc.1 ((Int.toNat v.2.2 * 7) + 5)), .int .i64 (geti cc.1 ((Int.toNat v.2.2 * 7) + 6))]), (v.2.1 + 1), (IntKind.wrap .i64 (v.2.2 + 1))))))) (kn (v.1, v.2.1, (IntKind.wrap .i64 (v.2.2 + 1))))))) (kn (v.1, v.2.1, (IntKind.wrap .i64 (v.2.2 + 1))))))) (ke (v.1, v.2.1)))

noncomputable def f17_L6s (cc : List AVal × Nat × Int) (v : List AVal × Nat × Int) : Option ((List AVal × Nat × Int) ⊕ ((List AVal × Nat))) := f17_L6k cc v (fun v => some (Sum.inl v)) fun e => some (Sum.inr e)

noncomputable def f17_L6 (cc : List AVal × Nat × Int) (v : List AVal × Nat × Int) : Option ((List AVal × Nat)) := loopω (f17_L6s cc) v

def f17_L6toL (cc : List AVal × Nat × Int) (v : List AVal × Nat × Int) : List Leaf := [.I cc.2.2, .I v.2.2, .C cc.1, .N cc.2.1, .C v.1, .N v.2.1]
def f17_L6ofL (ls : List Leaf) : Option ((List AVal × Nat × Int) × (List AVal × Nat × Int)) := match ls with
  | [.I x0, .I x1, .C x2, .N x3, .C x4, .N x5] => some ((x2, x3, x0), (x4, x5, x1))
  | _ => none
def f17_L6out (e : (List AVal × Nat)) : AOut := ((fun e => .exit 0) e)
def f17_L6toE (cc : List AVal × Nat × Int) (e : (List AVal × Nat)) : List Leaf := ((fun e => [.C e.1, .N e.2]) e)
def f17_L6conE (cc : List AVal × Nat × Int) (e : (List AVal × Nat)) : List Leaf := ((fun e => []) e)
def f17_L6ofE (o : AOut) (ls : List Leaf) : Option (((List AVal × Nat)) × List Leaf) := match o with
  | .exit 0 => (match ls with
    | [.C x0, .N x1] => some ((x0, x1), [])
    | _ => none)
  | _ => none
theorem f17_L6ofE_ok : ∀ o ls e cl cc, f17_L6ofE o ls = some (e, cl) → cl = f17_L6conE cc e → ls = f17_L6toE cc e ∧ f17_L6out e = o ∧ o ≠ .normal ∧ ∀ v, o ≠ .pan v := by
  intro o ls e cl cc h hc
  unfold f17_L6ofE at h
  split at h
  · split at h
    · cases h
      exact ⟨rfl, rfl, by simp, by simp⟩
    · cases h
  · cases h
def f17_L6sh (o : AOut) : ExS := match o with
  | .exit 0 => ⟨2, [none, none, none, none, none, none, none, some (.vec 1), none, none, none, none, none, none, none, none, none, none, none, none, none, none, none, none, none, none, none, none, none, none, none, none, none, none, none, none, none, none, none, none, none, none, none, none, none, none, none], [(1, .vec 7 true)], fun s => [0, nameAt s 7 []], []⟩
  | _ => ⟨0, [], [], fun _ => [], []⟩
theorem f17_L6nat {R : Type} (cc : List AVal × Nat × Int) (v : List AVal × Nat × Int) (kn : (List AVal × Nat × Int) → Option R) (ke : ((List AVal × Nat)) → Option R) : f17_L6k cc v kn ke = (f17_L6k cc v (fun v => some (Sum.inl v)) fun e => some (Sum.inr e)).bind (Sum.elim kn ke) := by
  simp only [f17_L6k, cond_bind, need_nat, Option.bind_assoc, sum_bind, lookC_bind, Option.bind_some, Option.bind_none, Sum.elim_inl, Sum.elim_inr]
noncomputable def f17_L6d : LD where
  CC := List AVal × Nat × Int
  V := List AVal × Nat × Int
  E := (List AVal × Nat)
  n := 1
  K := 2
  M := [some (.vec 0), some (.int .i64), none, none, none, none, none, some (.vec 1), some (.int .i64), none, none, none, none, none, none, none, none, none, none, none, none, none, none, none, none, none, none, none, none, none, none, none, none, none, none, none, none, none, none, none, none, none, none, none, none, none, none]
  B := [(0, .vec 7 false), (1, .vec 7 true)]
  pre := [(7, 7)]
  F := fun s => [0, nameAt s 7 []]
  toL := f17_L6toL
  ofL := f17_L6ofL
  ofL_ok := fun ls c v h => by
    unfold f17_L6ofL at h
    split at h
    · cases h; rfl
    · cases h
  stepK := f17_L6k
  nat := f17_L6nat
  sh := f17_L6sh
  out := f17_L6out
  toE := f17_L6toE
  conE := f17_L6conE
  ofE := f17_L6ofE
  ofE_ok := f17_L6ofE_ok
  post := fun cc e k => ((fun e => k (.exit 0) (canonSt 2 [none, none, none, none, none, none, none, some (.vec 1), none, none, none, none, none, none, none, none, none, none, none, none, none, none, none, none, none, none, none, none, none, none, none, none, none, none, none, none, none, none, none, none, none, none, none, none, none, none, none] [(1, .vec e.1 e.2 7 true)])) e)
  post_eq := fun cc e k => by rfl

theorem f17_L6_ok : LaOk Try.prog 1 f17_L6d.la (loopAt Try.f17 0) :=
  LD.ok (ch := ch_f17) (A := noAnns) tab_ok ch_f17_ok mixed (fuel := 60) ⟨by kernel_rfl, fun e => by kernel_rfl, fun cc v => by kernel_rfl, loops_ok (l := []) (by kernel_rfl) trivial⟩

/-- ninepin/ninepinref21.Without. -/
noncomputable def f17 (cs0 : List AVal) (n1 : Nat) (a2 : Int) : Option (Int × List AVal × Nat) :=
  (Option.bind (f13 cs0 n1) fun r1 => (Option.bind (f12 r1.1 r1.2) fun r2 => (cond (r2 != 0) (some (r2, ([] : List AVal), 0)) (Option.bind (f17_L6 (cs0, n1, a2) (([] : List AVal), 0, 0)) fun e3 => (some (0, e3.1, e3.2))))))

def f17_d : FD where
  X := Int × List AVal × Nat
  k := 1
  pre := [(4, 7)]
  F := fun s => [0, nameAt s 0 [.c 0]]
  M := .tup [.vec 1, .int .i64]
  B := [.vec 7 true]
  toL := fun x => [.I x.1, .C x.2.1, .N x.2.2]
  ofL := fun ls => match ls with
    | [.I x0, .C x1, .N x2] => some (x0, x1, x2)
    | _ => none
  ofL_ok := fun ls x h => by
    split at h
    · cases h; rfl
    · cases h

theorem f17_sem (cs0 : List AVal) (n1 : Nat) (a2 : Int) (x : Int × List AVal × Nat) (h : f17 cs0 n1 a2 = some x) : IsFn Try.prog 17 ∧ SemCall Try.prog 17 [.vec 0, .int .i64 a2] ⟨1, numB 0 [.vec cs0 n1 7 false]⟩ (.ret (f17_d.val x)) ⟨1 + (f17_d.blks x).length, numB 1 (f17_d.blks x)⟩ :=
  FD.sem (ch := ch_f17) (A := annsOf [(6, f17_L6d.la)]) (fn := Try.f17) (c := bodyOf Try.f17) (fuel := 60) tab_ok ch_f17_ok mixed noNum f17_d Try.func17 (by kernel_rfl) (loops_ok (l := [loopAt Try.f17 0]) (by kernel_rfl) ⟨ann_one (by kernel_rfl) f17_L6_ok, trivial⟩)
    (by kernel_rfl) (Eq.trans (by kernel_rfl) h)

noncomputable def h17 : HK where
  call := fun args σ k => match args with
    | [x0, .int .i64 a2] => lendK σ 7 x0 fun cs0 n1 => Option.bind (f17 cs0 n1 a2) fun y => retK σ 1 (f17_d.val y) (f17_d.blks y) k
    | _ => none
  nat := fun args σ k => by
    repeat' split
    all_goals simp only [lendK_nat, Option.bind_assoc, Option.bind_none, retK, Option.bind_some]
theorem h17_ok : HKOk Try.prog 17 h17 := by
  intro args σ r σ' h
  simp only [h17] at h
  split at h
  · rename_i x0 a2
    obtain ⟨cs0, n1, he0, hf0, h⟩ := lendK_spec h
    obtain ⟨y, hy, h⟩ := Option.bind_eq_some_iff.1 h
    exact lifted (xs := [x0]) (ls := [.vec cs0 n1 7 false]) (cargs := [.vec 0, .int .i64 a2]) (Lent.of ⟨⟨rfl, he0, hf0, by decide⟩, trivial⟩) rfl (f17_sem cs0 n1 a2 y hy) rfl rfl rfl rfl h
  · cases h

end Go.Ev
