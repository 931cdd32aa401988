/- ninepin/cache.Carry$1: what it computes, and that it does. Printed by dec.py. No statement is proved here. -/
import Derived.Test.YthjoljondlhhmaaEvZ
import Derived.Test.YthjoljondlhhmaaEvT
namespace Go.Ev
set_option linter.unusedVariables false
set_option linter.unusedSimpArgs false
open Go.Proofs
set_option maxRecDepth 100000
/-! ### 19: ninepin/cache.Carry$1 -/

noncomputable def ch_f19 : CH := CH.none
theorem ch_f19_ok : CHOk Try.prog ch_f19 := CH.none_ok

/-- ninepin/cache.Carry$1. -/
noncomputable def f19 (a0 : Int) (cs1 : List AVal) (n2 : Nat) : Option (Int × Int × Int × Int) :=
  (need (decide (0 ≤ a0) && decide (a0 < ((n2 : Nat) : Int))) (need (rowOk [.int .i64, .int .i64, .int .i64, .int .i64] cs1 (Int.toNat a0 * 4)) (some ((geti cs1 ((Int.toNat a0 * 4) + 0)), (geti cs1 ((Int.toNat a0 * 4) + 1)), (geti cs1 ((Int.toNat a0 * 4) + 2)), (geti cs1 ((Int.toNat a0 * 4) + 3))))))

def f19_d : FD where
  X := Int × Int × Int × Int
  k := 2
  pre := []
  F := fun s => [0, 1]
  M := .agg [.int .i64, .int .i64, .int .i64, .int .i64]
  B := []
  toL := fun x => [.I x.1, .I x.2.1, .I x.2.2.1, .I x.2.2.2]
  ofL := fun ls => match ls with
    | [.I x0, .I x1, .I x2, .I x3] => some (x0, x1, x2, x3)
    | _ => none
  ofL_ok := fun ls x h => by
    split at h
    · cases h; rfl
    · cases h

theorem f19_sem (a0 : Int) (cs1 : List AVal) (n2 : Nat) (x : Int × Int × Int × Int) (h : f19 a0 cs1 n2 = some x) : IsFn Try.prog 19 ∧ SemCall Try.prog 19 [.int .i64 a0, .ptr 0 0] ⟨2, numB 0 [.cells [.vec 1] false none, .vec cs1 n2 4 false]⟩ (.ret (f19_d.val x)) ⟨2 + (f19_d.blks x).length, numB 2 (f19_d.blks x)⟩ :=
  FD.sem (ch := ch_f19) (A := noAnns) (fn := Try.f19) (c := bodyOf Try.f19) (fuel := 60) tab_ok ch_f19_ok mixed noNum f19_d Try.func19 (by kernel_rfl) (loops_ok (l := []) (by kernel_rfl) trivial)
    (by kernel_rfl) (Eq.trans (by kernel_rfl) h)

noncomputable def h19 : HK where
  call := fun args σ k => match args with
    | [.int .i64 a0, .ptr b0 0] => match σ.get b0 with | some (.cells [x1] _ _) => (lendK σ 4 x1 fun cs1 n2 => Option.bind (f19 a0 cs1 n2) fun y => retK σ 2 (f19_d.val y) (f19_d.blks y) k) | _ => none
    | _ => none
  nat := fun args σ k => by
    repeat' split
    all_goals simp only [lendK_nat, Option.bind_assoc, Option.bind_none, retK, Option.bind_some]
theorem h19_ok : HKOk Try.prog 19 h19 := by
  intro args σ r σ' h
  simp only [h19] at h
  split at h
  · rename_i a0 b0
    split at h
    · rename_i x1 own0 gr0 hb0
      obtain ⟨cs1, n2, he1, hf1, h⟩ := lendK_spec h
      obtain ⟨y, hy, h⟩ := Option.bind_eq_some_iff.1 h
      exact lifted (xs := [.ptr b0 0, x1]) (ls := [.cells [.vec 1] false none, .vec cs1 n2 4 false]) (cargs := [.int .i64 a0, .ptr 0 0]) (Lent.of ⟨⟨rfl, rfl, by simp, rfl, b0, 0, rfl, by simp [cellsAt, hb0, subL, sub]⟩, ⟨rfl, he1, hf1, by decide⟩, trivial⟩) rfl (f19_sem a0 cs1 n2 y hy) rfl rfl rfl rfl h
    · cases h
  · cases h

end Go.Ev
