/- ninepin/cache.CmpKey: what it computes, and that it does. Printed by dec.py. No statement is proved here. -/
import Derived.Test.YthjoljondlhhmaaEvZ
import Derived.Test.YthjoljondlhhmaaEvT
import Derived.Test.YthjoljondlhhmaaDf21
import Derived.Test.YthjoljondlhhmaaDf22
namespace Go.Ev
set_option linter.unusedVariables false
set_option linter.unusedSimpArgs false
open Go.Proofs
set_option maxRecDepth 100000
/-! ### 14: ninepin/cache.CmpKey -/

noncomputable def ch_f14 : CH := (CH.add 22 h22 (CH.add 21 h21 CH.none))
theorem ch_f14_ok : CHOk Try.prog ch_f14 := (CH.add_ok h22_ok (CH.add_ok h21_ok CH.none_ok))

/-- ninepin/cache.CmpKey. -/
noncomputable def f14 (a0 : Int) (a1 : Int) (a2 : Int) (a3 : Int) (a4 : Int) (a5 : Int) (a6 : Int) (a7 : Int) : Option (Int) :=
  (Option.bind (f22 a0 a4) fun r1 => (Option.bind (f22 a1 a5) fun r2 => (Option.bind (f22 a2 a6) fun r3 => (Option.bind (f22 a3 a7) fun r4 => (Option.bind (f21 ([.int .i64 r1, .int .i64 r2, .int .i64 r3, .int .i64 r4] : List AVal) 4) fun r5 => (some r5))))))

def f14_d : FD where
  X := Int
  k := 0
  pre := []
  F := fun s => []
  M := .int .i64
  B := []
  toL := fun x => [.I x]
  ofL := fun ls => match ls with
    | [.I x0] => some x0
    | _ => none
  ofL_ok := fun ls x h => by
    split at h
    · cases h; rfl
    · cases h

theorem f14_sem (a0 : Int) (a1 : Int) (a2 : Int) (a3 : Int) (a4 : Int) (a5 : Int) (a6 : Int) (a7 : Int) (x : Int) (h : f14 a0 a1 a2 a3 a4 a5 a6 a7 = some x) : IsFn Try.prog 14 ∧ SemCall Try.prog 14 [.agg [.int .i64 a0, .int .i64 a1, .int .i64 a2, .int .i64 a3], .agg [.int .i64 a4, .int .i64 a5, .int .i64 a6, .int .i64 a7]] ⟨0, numB 0 []⟩ (.ret (f14_d.val x)) ⟨0 + (f14_d.blks x).length, numB 0 (f14_d.blks x)⟩ :=
  FD.sem (ch := ch_f14) (A := noAnns) (fn := Try.f14) (c := bodyOf Try.f14) (fuel := 60) tab_ok ch_f14_ok mixed noNum f14_d Try.func14 (by kernel_rfl) (loops_ok (l := []) (by kernel_rfl) trivial)
    (by kernel_rfl) (Eq.trans (by kernel_rfl) h)

noncomputable def h14 : HK where
  call := fun args σ k => match args with
    | [.agg [.int .i64 a0, .int .i64 a1, .int .i64 a2, .int .i64 a3], .agg [.int .i64 a4, .int .i64 a5, .int .i64 a6, .int .i64 a7]] => Option.bind (f14 a0 a1 a2 a3 a4 a5 a6 a7) fun y => retK σ 0 (f14_d.val y) (f14_d.blks y) k
    | _ => none
  nat := fun args σ k => by
    repeat' split
    all_goals simp only [lendK_nat, Option.bind_assoc, Option.bind_none, retK, Option.bind_some]
theorem h14_ok : HKOk Try.prog 14 h14 := by
  intro args σ r σ' h
  simp only [h14] at h
  split at h
  · rename_i a0 a1 a2 a3 a4 a5 a6 a7
    obtain ⟨y, hy, h⟩ := Option.bind_eq_some_iff.1 h
    exact lifted (xs := []) (ls := []) (cargs := [.agg [.int .i64 a0, .int .i64 a1, .int .i64 a2, .int .i64 a3], .agg [.int .i64 a4, .int .i64 a5, .int .i64 a6, .int .i64 a7]]) (Lent.of trivial) rfl (f14_sem a0 a1 a2 a3 a4 a5 a6 a7 y hy) rfl rfl rfl rfl h
  · cases h

end Go.Ev
