/- ninepin/cache.Without: what it computes, and that it does. Printed by dec.py. No statement is proved here. -/
import Derived.Test.YthjoljondlhhmaaEvZ
import Derived.Test.YthjoljondlhhmaaEvT
import Derived.Test.YthjoljondlhhmaaDf11
namespace Go.Ev
set_option linter.unusedVariables false
set_option linter.unusedSimpArgs false
open Go.Proofs
set_option maxRecDepth 100000
/-! ### 16: ninepin/cache.Without -/

noncomputable def ch_f16 : CH := (CH.add 11 h11 CH.none)
theorem ch_f16_ok : CHOk Try.prog ch_f16 := (CH.add_ok h11_ok CH.none_ok)

/-- A round of the loop at 6. -/
noncomputable def f16_L6k {R : Type} (cc : Int × List AVal × Nat × Int) (v : List AVal × Nat × Int) (kn : (List AVal × Nat × Int) → Option R) (ke : ((List AVal × Nat)) → Option R) : Option R :=
  (cond (decide (v.2.2 < cc.2.2.2)) (need (decide (0 ≤ v.2.2) && decide (v.2.2 < ((cc.2.2.1 : Nat) : Int))) (need (rowOk [.int .i64, .int .i64, .int .i64, .int .i64, .int .i64, .int .i64, .int .i64] cc.2.1 (Int.toNat v.2.2 * 7)) (cond ((geti cc.2.1 ((Int.toNat v.2.2 * 7) + 0)) != cc.1) (cond ((geti cc.2.1 ((Int.toNat v.2.2 * 7) + 1)) != cc.1) (need (decide (2 * (v.2.1 + 1) * 56 ≤ 2 ^ 48)) (kn ((v.1 ++ [.int .i64 (geti cc.2.1 ((Int.toNat v.2.2 * 7) + 0)), .int .i64 (geti cc.2.1 ((Int.toNat v.2.2 * 7) + 1)), .int .i64 (geti cc.2.1 ((Int.toNat v.2.2 * 7) + 2)), .int .i64 (geti cc.2.1 ((Int.toNat v.2.2 * 7) + 3)), .int .i64 (geti cc.2.1 ((Int.toNat v.2.2 * 7) + 4)), .int .i64 (geti cc.2.1 ((Int.toNat v.2.2 * 7) + 5)), .int .i64 (geti cc.2.1 ((Int.toNat v.2.2 * 7) + 6))]), (v.2.1 + 1), (IntKind.wrap .i64 (v.2.2 + 1))))) (kn (v.1, v.2.1, (IntKind.wrap .i64 (v.2.2 + 1))))) (kn (v.1, v.2.1, (IntKind.wrap .i64 (v.2.2 + 1))))))) (ke (v.1, v.2.1)))

noncomputable def f16_L6s (cc : Int × List AVal × Nat × Int) (v : List AVal × Nat × Int) : Option ((List AVal × Nat × Int) ⊕ ((List AVal × Nat))) := f16_L6k cc v (fun v => some (Sum.inl v)) fun e => some (Sum.inr e)

noncomputable def f16_L6 (cc : Int × List AVal × Nat × Int) (v : List AVal × Nat × Int) : Option ((List AVal × Nat)) := loopω (f16_L6s cc) v

def f16_L6toL (cc : Int × List AVal × Nat × Int) (v : List AVal × Nat × Int) : List Leaf := [.I cc.1, .I cc.2.2.2, .I v.2.2, .C v.1, .N v.2.1, .C cc.2.1, .N cc.2.2.1]
def f16_L6ofL (ls : List Leaf) : Option ((Int × List AVal × Nat × Int) × (List AVal × Nat × Int)) := match ls with
  | [.I x0, .I x1, .I x2, .C x3, .N x4, .C x5, .N x6] => some ((x0, x5, x6, x1), (x3, x4, x2))
  | _ => none
def f16_L6out (e : (List AVal × Nat)) : AOut := ((fun e => .exit 0) e)
def f16_L6toE (cc : Int × List AVal × Nat × Int) (e : (List AVal × Nat)) : List Leaf := ((fun e => [.C e.1, .N e.2]) e)
def f16_L6conE (cc : Int × List AVal × Nat × Int) (e : (List AVal × Nat)) : List Leaf := ((fun e => []) e)
def f16_L6ofE (o : AOut) (ls : List Leaf) : Option (((List AVal × Nat)) × List Leaf) := match o with
  | .exit 0 => (match ls with
    | [.C x0, .N x1] => some ((x0, x1), [])
    | _ => none)
  | _ => none
theorem f16_L6ofE_ok : ∀ o ls e cl cc, f16_L6ofE o ls = some (e, cl) → cl = f16_L6conE cc e → ls = f16_L6toE cc e ∧ f16_L6out e = o ∧ o ≠ .normal ∧ ∀ v, o ≠ .pan v := by
  intro o ls e cl cc h hc
  unfold f16_L6ofE at h
  split at h
  · split at h
    · cases h
      exact ⟨rfl, rfl, by simp, by simp⟩
    · cases h
  · cases h
def f16_L6sh (o : AOut) : ExS := match o with
  | .exit 0 => ⟨2, [none, none, none, none, none, none, none, some (.vec 1), none, none, none, none, none, none, none, none, none, none, none, none, none, none, none, none, none, none, none, none, none, none, none, none, none, none, none, none, none, none, none], [(1, .vec 7 true)], fun s => [0, nameAt s 7 []], []⟩
  | _ => ⟨0, [], [], fun _ => [], []⟩
theorem f16_L6nat {R : Type} (cc : Int × List AVal × Nat × Int) (v : List AVal × Nat × Int) (kn : (List AVal × Nat × Int) → Option R) (ke : ((List AVal × Nat)) → Option R) : f16_L6k cc v kn ke = (f16_L6k cc v (fun v => some (Sum.inl v)) fun e => some (Sum.inr e)).bind (Sum.elim kn ke) := by
  simp only [f16_L6k, cond_bind, need_nat, Option.bind_assoc, sum_bind, lookC_bind, Option.bind_some, Option.bind_none, Sum.elim_inl, Sum.elim_inr]
noncomputable def f16_L6d : LD where
  CC := Int × List AVal × Nat × Int
  V := List AVal × Nat × Int
  E := (List AVal × Nat)
  n := 1
  K := 2
  M := [none, some (.int .i64), none, none, none, none, none, some (.vec 1), none, none, none, none, none, none, none, some (.vec 0), some (.int .i64), some (.int .i64), none, none, none, none, none, none, none, none, none, none, none, none, none, none, none, none, none, none, none, none, none]
  B := [(1, .vec 7 true), (0, .vec 7 false)]
  pre := [(7, 7)]
  F := fun s => [0, nameAt s 7 []]
  toL := f16_L6toL
  ofL := f16_L6ofL
  ofL_ok := fun ls c v h => by
    unfold f16_L6ofL at h
    split at h
    · cases h; rfl
    · cases h
  stepK := f16_L6k
  nat := f16_L6nat
  sh := f16_L6sh
  out := f16_L6out
  toE := f16_L6toE
  conE := f16_L6conE
  ofE := f16_L6ofE
  ofE_ok := f16_L6ofE_ok
  post := fun cc e k => ((fun e => k (.exit 0) (canonSt 2 [none, none, none, none, none, none, none, some (.vec 1), none, none, none, none, none, none, none, none, none, none, none, none, none, none, none, none, none, none, none, none, none, none, none, none, none, none, none, none, none, none, none] [(1, .vec e.1 e.2 7 true)])) e)
  post_eq := fun cc e k => by rfl

theorem f16_L6_ok : LaOk Try.prog 1 f16_L6d.la (loopAt Try.f16 0) :=
  LD.ok (ch := ch_f16) (A := noAnns) tab_ok ch_f16_ok mixed (fuel := 60) ⟨by kernel_rfl, fun e => by kernel_rfl, fun cc v => by kernel_rfl, loops_ok (l := []) (by kernel_rfl) trivial⟩

/-- ninepin/cache.Without. -/
noncomputable def f16 (cs0 : List AVal) (n1 : Nat) (a2 : Int) : Option (Int × List AVal × Nat) :=
  (Option.bind (f11 cs0 n1) fun r1 => (cond (r1 != 0) (some (r1, ([] : List AVal), 0)) (Option.bind (f16_L6 (a2, cs0, n1, ((n1 : Nat) : Int)) (([] : List AVal), 0, 0)) fun e2 => (some (0, e2.1, e2.2)))))

def f16_d : FD where
  X := Int × List AVal × Nat
  k := 1
  pre := [(4, 7)]
  F := fun s => [0, nameAt s 0 [.c 0]]
  M := .tup [.vec 1, .int .i64]
  B := [.vec 7 true]
  toL := fun x => [.I x.1, .C x.2.1, .N x.2.2]
  ofL := fun ls => match ls with
    | [.I x0, .C x1, .N x2] => some (x0, x1, x2)
    | _ => none
  ofL_ok := fun ls x h => by
    split at h
    · cases h; rfl
    · cases h

theorem f16_sem (cs0 : List AVal) (n1 : Nat) (a2 : Int) (x : Int × List AVal × Nat) (h : f16 cs0 n1 a2 = some x) : IsFn Try.prog 16 ∧ SemCall Try.prog 16 [.vec 0, .int .i64 a2] ⟨1, numB 0 [.vec cs0 n1 7 false]⟩ (.ret (f16_d.val x)) ⟨1 + (f16_d.blks x).length, numB 1 (f16_d.blks x)⟩ :=
  FD.sem (ch := ch_f16) (A := annsOf [(6, f16_L6d.la)]) (fn := Try.f16) (c := bodyOf Try.f16) (fuel := 60) tab_ok ch_f16_ok mixed noNum f16_d Try.func16 (by kernel_rfl) (loops_ok (l := [loopAt Try.f16 0]) (by kernel_rfl) ⟨ann_one (by kernel_rfl) f16_L6_ok, trivial⟩)
    (by kernel_rfl) (Eq.trans (by kernel_rfl) h)

noncomputable def h16 : HK where
  call := fun args σ k => match args with
    | [x0, .int .i64 a2] => lendK σ 7 x0 fun cs0 n1 => Option.bind (f16 cs0 n1 a2) fun y => retK σ 1 (f16_d.val y) (f16_d.blks y) k
    | _ => none
  nat := fun args σ k => by
    repeat' split
    all_goals simp only [lendK_nat, Option.bind_assoc, Option.bind_none, retK, Option.bind_some]
theorem h16_ok : HKOk Try.prog 16 h16 := by
  intro args σ r σ' h
  simp only [h16] at h
  split at h
  · rename_i x0 a2
    obtain ⟨cs0, n1, he0, hf0, h⟩ := lendK_spec h
    obtain ⟨y, hy, h⟩ := Option.bind_eq_some_iff.1 h
    exact lifted (xs := [x0]) (ls := [.vec cs0 n1 7 false]) (cargs := [.vec 0, .int .i64 a2]) (Lent.of ⟨⟨rfl, he0, hf0, by decide⟩, trivial⟩) rfl (f16_sem cs0 n1 a2 y hy) rfl rfl rfl rfl h
  · cases h

end Go.Ev
