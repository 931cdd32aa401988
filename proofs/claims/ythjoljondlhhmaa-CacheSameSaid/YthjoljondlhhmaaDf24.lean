/- cmp.isNaN[int]: what it computes, and that it does. Printed by dec.py. No statement is proved here. -/
import Derived.Test.YthjoljondlhhmaaEvZ
import Derived.Test.YthjoljondlhhmaaEvT
namespace Go.Ev
set_option linter.unusedVariables false
set_option linter.unusedSimpArgs false
open Go.Proofs
set_option maxRecDepth 100000
/-! ### 24: cmp.isNaN[int] -/

noncomputable def ch_f24 : CH := CH.none
theorem ch_f24_ok : CHOk Try.prog ch_f24 := CH.none_ok

/-- cmp.isNaN[int]. -/
noncomputable def f24 (a0 : Int) : Option (Bool) :=
  (cond (a0 != a0) (some true) (some false))

def f24_d : FD where
  X := Bool
  k := 0
  pre := []
  F := fun s => []
  M := .bool
  B := []
  toL := fun x => [.B x]
  ofL := fun ls => match ls with
    | [.B x0] => some x0
    | _ => none
  ofL_ok := fun ls x h => by
    split at h
    · cases h; rfl
    · cases h

theorem f24_sem (a0 : Int) (x : Bool) (h : f24 a0 = some x) : IsFn Try.prog 24 ∧ SemCall Try.prog 24 [.int .i64 a0] ⟨0, numB 0 []⟩ (.ret (f24_d.val x)) ⟨0 + (f24_d.blks x).length, numB 0 (f24_d.blks x)⟩ :=
  FD.sem (ch := ch_f24) (A := noAnns) (fn := Try.f24) (c := bodyOf Try.f24) (fuel := 60) tab_ok ch_f24_ok mixed noNum f24_d Try.func24 (by kernel_rfl) (loops_ok (l := []) (by kernel_rfl) trivial)
    (by kernel_rfl) (Eq.trans (by kernel_rfl) h)

noncomputable def h24 : HK where
  call := fun args σ k => match args with
    | [.int .i64 a0] => Option.bind (f24 a0) fun y => retK σ 0 (f24_d.val y) (f24_d.blks y) k
    | _ => none
  nat := fun args σ k => by
    repeat' split
    all_goals simp only [lendK_nat, Option.bind_assoc, Option.bind_none, retK, Option.bind_some]
theorem h24_ok : HKOk Try.prog 24 h24 := by
  intro args σ r σ' h
  simp only [h24] at h
  split at h
  · rename_i a0
    obtain ⟨y, hy, h⟩ := Option.bind_eq_some_iff.1 h
    exact lifted (xs := []) (ls := []) (cargs := [.int .i64 a0]) (Lent.of trivial) rfl (f24_sem a0 y hy) rfl rfl rfl rfl h
  · cases h

end Go.Ev
