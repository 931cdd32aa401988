/- ninepin/cache.may: what it computes, and that it does. Printed by dec.py. No statement is proved here. -/
import Derived.Test.YthjoljondlhhmaaEvZ
import Derived.Test.YthjoljondlhhmaaEvT
namespace Go.Ev
set_option linter.unusedVariables false
set_option linter.unusedSimpArgs false
open Go.Proofs
set_option maxRecDepth 100000
/-! ### 23: ninepin/cache.may -/

noncomputable def ch_f23 : CH := CH.none
theorem ch_f23_ok : CHOk Try.prog ch_f23 := CH.none_ok

/-- ninepin/cache.may. -/
noncomputable def f23 (a0 : Int) (a1 : Int) (a2 : Int) (a3 : Int) : Option (Bool) :=
  (cond (decide (a0 ≥ 0)) (cond (decide (a0 < a1)) (cond (decide (a1 ≤ 4096)) (cond (decide (a2 ≥ 1)) (cond (decide (a2 ≤ 3)) (cond (decide (a3 ≥ 0)) (cond (decide (a3 ≤ 256)) (some true) (some false)) (some false)) (some false)) (some false)) (some false)) (some false)) (some false))

def f23_d : FD where
  X := Bool
  k := 0
  pre := []
  F := fun s => []
  M := .bool
  B := []
  toL := fun x => [.B x]
  ofL := fun ls => match ls with
    | [.B x0] => some x0
    | _ => none
  ofL_ok := fun ls x h => by
    split at h
    · cases h; rfl
    · cases h

theorem f23_sem (a0 : Int) (a1 : Int) (a2 : Int) (a3 : Int) (x : Bool) (h : f23 a0 a1 a2 a3 = some x) : IsFn Try.prog 23 ∧ SemCall Try.prog 23 [.agg [.int .i64 a0, .int .i64 a1, .int .i64 a2, .int .i64 a3]] ⟨0, numB 0 []⟩ (.ret (f23_d.val x)) ⟨0 + (f23_d.blks x).length, numB 0 (f23_d.blks x)⟩ :=
  FD.sem (ch := ch_f23) (A := noAnns) (fn := Try.f23) (c := bodyOf Try.f23) (fuel := 60) tab_ok ch_f23_ok mixed noNum f23_d Try.func23 (by kernel_rfl) (loops_ok (l := []) (by kernel_rfl) trivial)
    (by kernel_rfl) (Eq.trans (by kernel_rfl) h)

noncomputable def h23 : HK where
  call := fun args σ k => match args with
    | [.agg [.int .i64 a0, .int .i64 a1, .int .i64 a2, .int .i64 a3]] => Option.bind (f23 a0 a1 a2 a3) fun y => retK σ 0 (f23_d.val y) (f23_d.blks y) k
    | _ => none
  nat := fun args σ k => by
    repeat' split
    all_goals simp only [lendK_nat, Option.bind_assoc, Option.bind_none, retK, Option.bind_some]
theorem h23_ok : HKOk Try.prog 23 h23 := by
  intro args σ r σ' h
  simp only [h23] at h
  split at h
  · rename_i a0 a1 a2 a3
    obtain ⟨y, hy, h⟩ := Option.bind_eq_some_iff.1 h
    exact lifted (xs := []) (ls := []) (cargs := [.agg [.int .i64 a0, .int .i64 a1, .int .i64 a2, .int .i64 a3]]) (Lent.of trivial) rfl (f23_sem a0 a1 a2 a3 y hy) rfl rfl rfl rfl h
  · cases h

end Go.Ev
