/- ninepin/cache.Check: what it computes, and that it does. Printed by dec.py. No statement is proved here. -/
import Derived.Test.YthjoljondlhhmaaEvZ
import Derived.Test.YthjoljondlhhmaaEvT
import Derived.Test.YthjoljondlhhmaaDf18
namespace Go.Ev
set_option linter.unusedVariables false
set_option linter.unusedSimpArgs false
open Go.Proofs
set_option maxRecDepth 100000
/-! ### 11: ninepin/cache.Check -/

noncomputable def ch_f11 : CH := (CH.add 18 h18 CH.none)
theorem ch_f11_ok : CHOk Try.prog ch_f11 := (CH.add_ok h18_ok CH.none_ok)

/-- ninepin/cache.Check. -/
noncomputable def f11 (cs0 : List AVal) (n1 : Nat) : Option (Int) :=
  (Option.bind (f18 ((n1 : Nat) : Int) cs0 n1) fun r1 => (some r1))

def f11_d : FD where
  X := Int
  k := 1
  pre := []
  F := fun s => [0]
  M := .int .i64
  B := []
  toL := fun x => [.I x]
  ofL := fun ls => match ls with
    | [.I x0] => some x0
    | _ => none
  ofL_ok := fun ls x h => by
    split at h
    · cases h; rfl
    · cases h

theorem f11_sem (cs0 : List AVal) (n1 : Nat) (x : Int) (h : f11 cs0 n1 = some x) : IsFn Try.prog 11 ∧ SemCall Try.prog 11 [.vec 0] ⟨1, numB 0 [.vec cs0 n1 7 false]⟩ (.ret (f11_d.val x)) ⟨1 + (f11_d.blks x).length, numB 1 (f11_d.blks x)⟩ :=
  FD.sem (ch := ch_f11) (A := noAnns) (fn := Try.f11) (c := bodyOf Try.f11) (fuel := 60) tab_ok ch_f11_ok mixed noNum f11_d Try.func11 (by kernel_rfl) (loops_ok (l := []) (by kernel_rfl) trivial)
    (by kernel_rfl) (Eq.trans (by kernel_rfl) h)

noncomputable def h11 : HK where
  call := fun args σ k => match args with
    | [x0] => lendK σ 7 x0 fun cs0 n1 => Option.bind (f11 cs0 n1) fun y => retK σ 1 (f11_d.val y) (f11_d.blks y) k
    | _ => none
  nat := fun args σ k => by
    repeat' split
    all_goals simp only [lendK_nat, Option.bind_assoc, Option.bind_none, retK, Option.bind_some]
theorem h11_ok : HKOk Try.prog 11 h11 := by
  intro args σ r σ' h
  simp only [h11] at h
  split at h
  · rename_i x0
    obtain ⟨cs0, n1, he0, hf0, h⟩ := lendK_spec h
    obtain ⟨y, hy, h⟩ := Option.bind_eq_some_iff.1 h
    exact lifted (xs := [x0]) (ls := [.vec cs0 n1 7 false]) (cargs := [.vec 0]) (Lent.of ⟨⟨rfl, he0, hf0, by decide⟩, trivial⟩) rfl (f11_sem cs0 n1 y hy) rfl rfl rfl rfl h
  · cases h

end Go.Ev
