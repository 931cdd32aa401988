/- ninepin/ninepinref21.KeysOf: what it computes, and that it does. Printed by dec.py. No statement is proved here. -/
import Derived.Test.YthjoljondlhhmaaEvZ
import Derived.Test.YthjoljondlhhmaaEvT
namespace Go.Ev
set_option linter.unusedVariables false
set_option linter.unusedSimpArgs false
open Go.Proofs
set_option maxRecDepth 100000
/-! ### 13: ninepin/ninepinref21.KeysOf -/

noncomputable def ch_f13 : CH := CH.none
theorem ch_f13_ok : CHOk Try.prog ch_f13 := CH.none_ok

/-- A round of the loop at 3. -/
noncomputable def f13_L3k {R : Type} (cc : List AVal × Nat) (v : List AVal × Nat × Int) (kn : (List AVal × Nat × Int) → Option R) (ke : ((List AVal × Nat)) → Option R) : Option R :=
  (cond (decide (v.2.2 < ((cc.2 : Nat) : Int))) (need (decide (0 ≤ v.2.2) && decide (v.2.2 < ((cc.2 : Nat) : Int))) (need (rowOk [.int .i64, .int .i64, .int .i64, .int .i64] cc.1 (Int.toNat v.2.2 * 7)) (need (decide (2 * (v.2.1 + 1) * 32 ≤ 2 ^ 48)) (kn ((v.1 ++ [.int .i64 (geti cc.1 ((Int.toNat v.2.2 * 7) + 0)), .int .i64 (geti cc.1 ((Int.toNat v.2.2 * 7) + 1)), .int .i64 (geti cc.1 ((Int.toNat v.2.2 * 7) + 2)), .int .i64 (geti cc.1 ((Int.toNat v.2.2 * 7) + 3))]), (v.2.1 + 1), (IntKind.wrap .i64 (v.2.2 + 1))))))) (ke (v.1, v.2.1)))

noncomputable def f13_L3s (cc : List AVal × Nat) (v : List AVal × Nat × Int) : Option ((List AVal × Nat × Int) ⊕ ((List AVal × Nat))) := f13_L3k cc v (fun v => some (Sum.inl v)) fun e => some (Sum.inr e)

noncomputable def f13_L3 (cc : List AVal × Nat) (v : List AVal × Nat × Int) : Option ((List AVal × Nat)) := loopω (f13_L3s cc) v

def f13_L3toL (cc : List AVal × Nat) (v : List AVal × Nat × Int) : List Leaf := [.I v.2.2, .C cc.1, .N cc.2, .C v.1, .N v.2.1]
def f13_L3ofL (ls : List Leaf) : Option ((List AVal × Nat) × (List AVal × Nat × Int)) := match ls with
  | [.I x0, .C x1, .N x2, .C x3, .N x4] => some ((x1, x2), (x3, x4, x0))
  | _ => none
def f13_L3out (e : (List AVal × Nat)) : AOut := ((fun e => .exit 0) e)
def f13_L3toE (cc : List AVal × Nat) (e : (List AVal × Nat)) : List Leaf := ((fun e => [.C e.1, .N e.2]) e)
def f13_L3conE (cc : List AVal × Nat) (e : (List AVal × Nat)) : List Leaf := ((fun e => []) e)
def f13_L3ofE (o : AOut) (ls : List Leaf) : Option (((List AVal × Nat)) × List Leaf) := match o with
  | .exit 0 => (match ls with
    | [.C x0, .N x1] => some ((x0, x1), [])
    | _ => none)
  | _ => none
theorem f13_L3ofE_ok : ∀ o ls e cl cc, f13_L3ofE o ls = some (e, cl) → cl = f13_L3conE cc e → ls = f13_L3toE cc e ∧ f13_L3out e = o ∧ o ≠ .normal ∧ ∀ v, o ≠ .pan v := by
  intro o ls e cl cc h hc
  unfold f13_L3ofE at h
  split at h
  · split at h
    · cases h
      exact ⟨rfl, rfl, by simp, by simp⟩
    · cases h
  · cases h
def f13_L3sh (o : AOut) : ExS := match o with
  | .exit 0 => ⟨2, [none, none, none, some (.vec 1), none, none, none, none, none, none, none, none, none, none, none, none, none, none, none, none], [(1, .vec 4 true)], fun s => [0, nameAt s 3 []], []⟩
  | _ => ⟨0, [], [], fun _ => [], []⟩
theorem f13_L3nat {R : Type} (cc : List AVal × Nat) (v : List AVal × Nat × Int) (kn : (List AVal × Nat × Int) → Option R) (ke : ((List AVal × Nat)) → Option R) : f13_L3k cc v kn ke = (f13_L3k cc v (fun v => some (Sum.inl v)) fun e => some (Sum.inr e)).bind (Sum.elim kn ke) := by
  simp only [f13_L3k, cond_bind, need_nat, Option.bind_assoc, sum_bind, lookC_bind, Option.bind_some, Option.bind_none, Sum.elim_inl, Sum.elim_inr]
noncomputable def f13_L3d : LD where
  CC := List AVal × Nat
  V := List AVal × Nat × Int
  E := (List AVal × Nat)
  n := 1
  K := 2
  M := [some (.vec 0), none, none, some (.vec 1), some (.int .i64), none, none, none, none, none, none, none, none, none, none, none, none, none, none, none]
  B := [(0, .vec 7 false), (1, .vec 4 true)]
  pre := [(3, 4)]
  F := fun s => [0, nameAt s 3 []]
  toL := f13_L3toL
  ofL := f13_L3ofL
  ofL_ok := fun ls c v h => by
    unfold f13_L3ofL at h
    split at h
    · cases h; rfl
    · cases h
  stepK := f13_L3k
  nat := f13_L3nat
  sh := f13_L3sh
  out := f13_L3out
  toE := f13_L3toE
  conE := f13_L3conE
  ofE := f13_L3ofE
  ofE_ok := f13_L3ofE_ok
  post := fun cc e k => ((fun e => k (.exit 0) (canonSt 2 [none, none, none, some (.vec 1), none, none, none, none, none, none, none, none, none, none, none, none, none, none, none, none] [(1, .vec e.1 e.2 4 true)])) e)
  post_eq := fun cc e k => by rfl

theorem f13_L3_ok : LaOk Try.prog 1 f13_L3d.la (loopAt Try.f13 0) :=
  LD.ok (ch := ch_f13) (A := noAnns) tab_ok ch_f13_ok mixed (fuel := 60) ⟨by kernel_rfl, fun e => by kernel_rfl, fun cc v => by kernel_rfl, loops_ok (l := []) (by kernel_rfl) trivial⟩

/-- ninepin/ninepinref21.KeysOf. -/
noncomputable def f13 (cs0 : List AVal) (n1 : Nat) : Option (List AVal × Nat) :=
  (Option.bind (f13_L3 (cs0, n1) (([] : List AVal), 0, 0)) fun e1 => (some (e1.1, e1.2)))

def f13_d : FD where
  X := List AVal × Nat
  k := 1
  pre := [(2, 4)]
  F := fun s => [0, nameAt s 0 []]
  M := .vec 1
  B := [.vec 4 true]
  toL := fun x => [.C x.1, .N x.2]
  ofL := fun ls => match ls with
    | [.C x0, .N x1] => some (x0, x1)
    | _ => none
  ofL_ok := fun ls x h => by
    split at h
    · cases h; rfl
    · cases h

theorem f13_sem (cs0 : List AVal) (n1 : Nat) (x : List AVal × Nat) (h : f13 cs0 n1 = some x) : IsFn Try.prog 13 ∧ SemCall Try.prog 13 [.vec 0] ⟨1, numB 0 [.vec cs0 n1 7 false]⟩ (.ret (f13_d.val x)) ⟨1 + (f13_d.blks x).length, numB 1 (f13_d.blks x)⟩ :=
  FD.sem (ch := ch_f13) (A := annsOf [(3, f13_L3d.la)]) (fn := Try.f13) (c := bodyOf Try.f13) (fuel := 60) tab_ok ch_f13_ok mixed noNum f13_d Try.func13 (by kernel_rfl) (loops_ok (l := [loopAt Try.f13 0]) (by kernel_rfl) ⟨ann_one (by kernel_rfl) f13_L3_ok, trivial⟩)
    (by kernel_rfl) (Eq.trans (by kernel_rfl) h)

noncomputable def h13 : HK where
  call := fun args σ k => match args with
    | [x0] => lendK σ 7 x0 fun cs0 n1 => Option.bind (f13 cs0 n1) fun y => retK σ 1 (f13_d.val y) (f13_d.blks y) k
    | _ => none
  nat := fun args σ k => by
    repeat' split
    all_goals simp only [lendK_nat, Option.bind_assoc, Option.bind_none, retK, Option.bind_some]
theorem h13_ok : HKOk Try.prog 13 h13 := by
  intro args σ r σ' h
  simp only [h13] at h
  split at h
  · rename_i x0
    obtain ⟨cs0, n1, he0, hf0, h⟩ := lendK_spec h
    obtain ⟨y, hy, h⟩ := Option.bind_eq_some_iff.1 h
    exact lifted (xs := [x0]) (ls := [.vec cs0 n1 7 false]) (cargs := [.vec 0]) (Lent.of ⟨⟨rfl, he0, hf0, by decide⟩, trivial⟩) rfl (f13_sem cs0 n1 y hy) rfl rfl rfl rfl h
  · cases h

end Go.Ev
