/- ninepin/ninepinref21.Cmp: what it computes, and that it does. Printed by dec.py. No statement is proved here. -/
import Derived.Test.YthjoljondlhhmaaEvZ
import Derived.Test.YthjoljondlhhmaaEvT
namespace Go.Ev
set_option linter.unusedVariables false
set_option linter.unusedSimpArgs false
open Go.Proofs
set_option maxRecDepth 100000
/-! ### 15: ninepin/ninepinref21.Cmp -/

noncomputable def ch_f15 : CH := CH.none
theorem ch_f15_ok : CHOk Try.prog ch_f15 := CH.none_ok

/-- ninepin/ninepinref21.Cmp. -/
noncomputable def f15 (a0 : Int) (a1 : Int) (a2 : Int) (a3 : Int) (a4 : Int) (a5 : Int) (a6 : Int) (a7 : Int) : Option (Int) :=
  (cond (a0 == a4 && (a1 == a5 && (a2 == a6 && (a3 == a7 && true)))) (some 0) (cond (decide (a0 < a4)) (some (-1)) (cond (a0 == a4) (cond (decide (a1 < a5)) (some (-1)) (cond (a1 == a5) (cond (decide (a2 < a6)) (some (-1)) (cond (a2 == a6) (cond (decide (a3 < a7)) (some (-1)) (some 1)) (some 1))) (some 1))) (some 1))))

def f15_d : FD where
  X := Int
  k := 0
  pre := []
  F := fun s => []
  M := .int .i64
  B := []
  toL := fun x => [.I x]
  ofL := fun ls => match ls with
    | [.I x0] => some x0
    | _ => none
  ofL_ok := fun ls x h => by
    split at h
    · cases h; rfl
    · cases h

theorem f15_sem (a0 : Int) (a1 : Int) (a2 : Int) (a3 : Int) (a4 : Int) (a5 : Int) (a6 : Int) (a7 : Int) (x : Int) (h : f15 a0 a1 a2 a3 a4 a5 a6 a7 = some x) : IsFn Try.prog 15 ∧ SemCall Try.prog 15 [.agg [.int .i64 a0, .int .i64 a1, .int .i64 a2, .int .i64 a3], .agg [.int .i64 a4, .int .i64 a5, .int .i64 a6, .int .i64 a7]] ⟨0, numB 0 []⟩ (.ret (f15_d.val x)) ⟨0 + (f15_d.blks x).length, numB 0 (f15_d.blks x)⟩ :=
  FD.sem (ch := ch_f15) (A := noAnns) (fn := Try.f15) (c := bodyOf Try.f15) (fuel := 60) tab_ok ch_f15_ok mixed noNum f15_d Try.func15 (by kernel_rfl) (loops_ok (l := []) (by kernel_rfl) trivial)
    (by kernel_rfl) (Eq.trans (by kernel_rfl) h)

noncomputable def h15 : HK where
  call := fun args σ k => match args with
    | [.agg [.int .i64 a0, .int .i64 a1, .int .i64 a2, .int .i64 a3], .agg [.int .i64 a4, .int .i64 a5, .int .i64 a6, .int .i64 a7]] => Option.bind (f15 a0 a1 a2 a3 a4 a5 a6 a7) fun y => retK σ 0 (f15_d.val y) (f15_d.blks y) k
    | _ => none
  nat := fun args σ k => by
    repeat' split
    all_goals simp only [lendK_nat, Option.bind_assoc, Option.bind_none, retK, Option.bind_some]
theorem h15_ok : HKOk Try.prog 15 h15 := by
  intro args σ r σ' h
  simp only [h15] at h
  split at h
  · rename_i a0 a1 a2 a3 a4 a5 a6 a7
    obtain ⟨y, hy, h⟩ := Option.bind_eq_some_iff.1 h
    exact lifted (xs := []) (ls := []) (cargs := [.agg [.int .i64 a0, .int .i64 a1, .int .i64 a2, .int .i64 a3], .agg [.int .i64 a4, .int .i64 a5, .int .i64 a6, .int .i64 a7]]) (Lent.of trivial) rfl (f15_sem a0 a1 a2 a3 a4 a5 a6 a7 y hy) rfl rfl rfl rfl h
  · cases h

end Go.Ev
