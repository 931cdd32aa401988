/- ninepin/ninepinlaw21.CacheWithout: what it computes, and that it does. Printed by dec.py. No statement is proved here. -/
import Derived.Test.YthjoljondlhhmaaEvZ
import Derived.Test.YthjoljondlhhmaaEvT
import Derived.Test.YthjoljondlhhmaaDf10
import Derived.Test.YthjoljondlhhmaaDf16
import Derived.Test.YthjoljondlhhmaaDf17
import Derived.Test.YthjoljondlhhmaaDf7
namespace Go.Ev
set_option linter.unusedVariables false
set_option linter.unusedSimpArgs false
open Go.Proofs
set_option maxRecDepth 100000
/-! ### 5: ninepin/ninepinlaw21.CacheWithout -/

noncomputable def ch_f5 : CH := (CH.add 17 h17 (CH.add 16 h16 (CH.add 10 h10 (CH.add 7 h7 CH.none))))
theorem ch_f5_ok : CHOk Try.prog ch_f5 := (CH.add_ok h17_ok (CH.add_ok h16_ok (CH.add_ok h10_ok (CH.add_ok h7_ok CH.none_ok))))

/-- ninepin/ninepinlaw21.CacheWithout. -/
noncomputable def f5 (cs0 : List AVal) (n1 : Nat) (a2 : Int) : Option (Bool) :=
  (cond (decide (((n1 : Nat) : Int) > 100)) (Option.bind (f7) fun _ => (some true)) (Option.bind (f16 cs0 n1 a2) fun r2 => (Option.bind (f17 cs0 n1 a2) fun r3 => (Option.bind (f10 r2.2.1 r2.2.2 r3.2.1 r3.2.2) fun r4 => (cond r4 (cond (r2.1 == r3.1) (Option.bind (f7) fun _ => (some true)) (some false)) (some false))))))

def f5_d : FD where
  X := Bool
  k := 1
  pre := []
  F := fun s => [0]
  M := .bool
  B := []
  toL := fun x => [.B x]
  ofL := fun ls => match ls with
    | [.B x0] => some x0
    | _ => none
  ofL_ok := fun ls x h => by
    split at h
    · cases h; rfl
    · cases h

theorem f5_sem (cs0 : List AVal) (n1 : Nat) (a2 : Int) (x : Bool) (h : f5 cs0 n1 a2 = some x) : IsFn Try.prog 5 ∧ SemCall Try.prog 5 [.vec 0, .int .i64 a2] ⟨1, numB 0 [.vec cs0 n1 7 false]⟩ (.ret (f5_d.val x)) ⟨1 + (f5_d.blks x).length, numB 1 (f5_d.blks x)⟩ :=
  FD.sem (ch := ch_f5) (A := noAnns) (fn := Try.f5) (c := bodyOf Try.f5) (fuel := 60) tab_ok ch_f5_ok mixed noNum f5_d Try.func5 (by kernel_rfl) (loops_ok (l := []) (by kernel_rfl) trivial)
    (by kernel_rfl) (Eq.trans (by kernel_rfl) h)

noncomputable def h5 : HK where
  call := fun args σ k => match args with
    | [x0, .int .i64 a2] => lendK σ 7 x0 fun cs0 n1 => Option.bind (f5 cs0 n1 a2) fun y => retK σ 1 (f5_d.val y) (f5_d.blks y) k
    | _ => none
  nat := fun args σ k => by
    repeat' split
    all_goals simp only [lendK_nat, Option.bind_assoc, Option.bind_none, retK, Option.bind_some]
theorem h5_ok : HKOk Try.prog 5 h5 := by
  intro args σ r σ' h
  simp only [h5] at h
  split at h
  · rename_i x0 a2
    obtain ⟨cs0, n1, he0, hf0, h⟩ := lendK_spec h
    obtain ⟨y, hy, h⟩ := Option.bind_eq_some_iff.1 h
    exact lifted (xs := [x0]) (ls := [.vec cs0 n1 7 false]) (cargs := [.vec 0, .int .i64 a2]) (Lent.of ⟨⟨rfl, he0, hf0, by decide⟩, trivial⟩) rfl (f5_sem cs0 n1 a2 y hy) rfl rfl rfl rfl h
  · cases h

end Go.Ev
