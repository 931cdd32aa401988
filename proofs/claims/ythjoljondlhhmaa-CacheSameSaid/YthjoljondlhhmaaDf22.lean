/- cmp.Compare[int]: what it computes, and that it does. Printed by dec.py. No statement is proved here. -/
import Derived.Test.YthjoljondlhhmaaEvZ
import Derived.Test.YthjoljondlhhmaaEvT
import Derived.Test.YthjoljondlhhmaaDf24
namespace Go.Ev
set_option linter.unusedVariables false
set_option linter.unusedSimpArgs false
open Go.Proofs
set_option maxRecDepth 100000
/-! ### 22: cmp.Compare[int] -/

noncomputable def ch_f22 : CH := (CH.add 24 h24 CH.none)
theorem ch_f22_ok : CHOk Try.prog ch_f22 := (CH.add_ok h24_ok CH.none_ok)

/-- cmp.Compare[int]. -/
noncomputable def f22 (a0 : Int) (a1 : Int) : Option (Int) :=
  (Option.bind (f24 a0) fun r1 => (cond r1 (Option.bind (f24 a1) fun r2 => (cond r2 (some 0) (some (-1)))) (Option.bind (f24 a1) fun r3 => (cond r3 (some 1) (cond (decide (a0 < a1)) (some (-1)) (cond (decide (a0 > a1)) (some 1) (some 0)))))))

def f22_d : FD where
  X := Int
  k := 0
  pre := []
  F := fun s => []
  M := .int .i64
  B := []
  toL := fun x => [.I x]
  ofL := fun ls => match ls with
    | [.I x0] => some x0
    | _ => none
  ofL_ok := fun ls x h => by
    split at h
    · cases h; rfl
    · cases h

theorem f22_sem (a0 : Int) (a1 : Int) (x : Int) (h : f22 a0 a1 = some x) : IsFn Try.prog 22 ∧ SemCall Try.prog 22 [.int .i64 a0, .int .i64 a1] ⟨0, numB 0 []⟩ (.ret (f22_d.val x)) ⟨0 + (f22_d.blks x).length, numB 0 (f22_d.blks x)⟩ :=
  FD.sem (ch := ch_f22) (A := noAnns) (fn := Try.f22) (c := bodyOf Try.f22) (fuel := 60) tab_ok ch_f22_ok mixed noNum f22_d Try.func22 (by kernel_rfl) (loops_ok (l := []) (by kernel_rfl) trivial)
    (by kernel_rfl) (Eq.trans (by kernel_rfl) h)

noncomputable def h22 : HK where
  call := fun args σ k => match args with
    | [.int .i64 a0, .int .i64 a1] => Option.bind (f22 a0 a1) fun y => retK σ 0 (f22_d.val y) (f22_d.blks y) k
    | _ => none
  nat := fun args σ k => by
    repeat' split
    all_goals simp only [lendK_nat, Option.bind_assoc, Option.bind_none, retK, Option.bind_some]
theorem h22_ok : HKOk Try.prog 22 h22 := by
  intro args σ r σ' h
  simp only [h22] at h
  split at h
  · rename_i a0 a1
    obtain ⟨y, hy, h⟩ := Option.bind_eq_some_iff.1 h
    exact lifted (xs := []) (ls := []) (cargs := [.int .i64 a0, .int .i64 a1]) (Lent.of trivial) rfl (f22_sem a0 a1 y hy) rfl rfl rfl rfl h
  · cases h

end Go.Ev
