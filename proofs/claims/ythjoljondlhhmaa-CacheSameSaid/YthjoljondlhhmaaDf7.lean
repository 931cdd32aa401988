/- ninepin/ninepinlaw21.awake: what it computes, and that it does. Printed by dec.py. No statement is proved here. -/
import Derived.Test.YthjoljondlhhmaaEvZ
import Derived.Test.YthjoljondlhhmaaEvT
namespace Go.Ev
set_option linter.unusedVariables false
set_option linter.unusedSimpArgs false
open Go.Proofs
set_option maxRecDepth 100000
/-! ### 7: ninepin/ninepinlaw21.awake -/

noncomputable def ch_f7 : CH := (CH.inl Try.prog tyTab [8, 11, 14, 18, 19, 20, 21, 22, 23, 24] 600 (CH.inl Try.prog tyTab [8, 11, 14, 18, 19, 20, 21, 22, 23, 24] 600 (CH.inl Try.prog tyTab [8, 11, 14, 18, 19, 20, 21, 22, 23, 24] 600 (CH.inl Try.prog tyTab [8, 11, 14, 18, 19, 20, 21, 22, 23, 24] 600 (CH.inl Try.prog tyTab [8, 11, 14, 18, 19, 20, 21, 22, 23, 24] 600 (CH.inl Try.prog tyTab [8, 11, 14, 18, 19, 20, 21, 22, 23, 24] 600 (CH.inl Try.prog tyTab [8, 11, 14, 18, 19, 20, 21, 22, 23, 24] 600 CH.none CH.none) CH.none) CH.none) CH.none) CH.none) CH.none) CH.none)
theorem ch_f7_ok : CHOk Try.prog ch_f7 := (CH.inl_ok tab_ok mixed noNum (CH.inl_ok tab_ok mixed noNum (CH.inl_ok tab_ok mixed noNum (CH.inl_ok tab_ok mixed noNum (CH.inl_ok tab_ok mixed noNum (CH.inl_ok tab_ok mixed noNum (CH.inl_ok tab_ok mixed noNum CH.none_ok CH.none_ok) CH.none_ok) CH.none_ok) CH.none_ok) CH.none_ok) CH.none_ok) CH.none_ok)

/-- ninepin/ninepinlaw21.awake. -/
noncomputable def f7 : Option (Unit) :=
  (some ())

def f7_d : FD where
  X := Unit
  k := 0
  pre := []
  F := fun s => []
  M := .litB true
  B := []
  toL := fun x => []
  ofL := fun ls => match ls with
    | [] => some ()
    | _ => none
  ofL_ok := fun ls x h => by
    split at h
    · cases h; rfl
    · cases h

theorem f7_sem (x : Unit) (h : f7 = some x) : IsFn Try.prog 7 ∧ SemCall Try.prog 7 [] ⟨0, numB 0 []⟩ (.ret (f7_d.val x)) ⟨0 + (f7_d.blks x).length, numB 0 (f7_d.blks x)⟩ :=
  FD.sem (ch := ch_f7) (A := noAnns) (fn := Try.f7) (c := bodyOf Try.f7) (fuel := 600) tab_ok ch_f7_ok mixed noNum f7_d Try.func7 (by kernel_rfl) (loops_ok (l := []) (by kernel_rfl) trivial)
    (by kernel_rfl) (Eq.trans (by kernel_rfl) h)

noncomputable def h7 : HK where
  call := fun args σ k => match args with
    | [] => Option.bind (f7) fun y => retK σ 0 (f7_d.val y) (f7_d.blks y) k
    | _ => none
  nat := fun args σ k => by
    repeat' split
    all_goals simp only [lendK_nat, Option.bind_assoc, Option.bind_none, retK, Option.bind_some]
theorem h7_ok : HKOk Try.prog 7 h7 := by
  intro args σ r σ' h
  simp only [h7] at h
  split at h
  · skip
    obtain ⟨y, hy, h⟩ := Option.bind_eq_some_iff.1 h
    exact lifted (xs := []) (ls := []) (cargs := []) (Lent.of trivial) rfl (f7_sem y hy) rfl rfl rfl rfl h
  · cases h

end Go.Ev
