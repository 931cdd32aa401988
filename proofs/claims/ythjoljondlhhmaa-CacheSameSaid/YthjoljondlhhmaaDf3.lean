/- ninepin/ninepinlaw21.CacheCarry: what it computes, and that it does. Printed by dec.py. No statement is proved here. -/
import Derived.Test.YthjoljondlhhmaaEvZ
import Derived.Test.YthjoljondlhhmaaEvT
import Derived.Test.YthjoljondlhhmaaDf10
import Derived.Test.YthjoljondlhhmaaDf11
import Derived.Test.YthjoljondlhhmaaDf12
import Derived.Test.YthjoljondlhhmaaDf13
import Derived.Test.YthjoljondlhhmaaDf14
import Derived.Test.YthjoljondlhhmaaDf15
import Derived.Test.YthjoljondlhhmaaDf7
import Derived.Test.YthjoljondlhhmaaDf8
import Derived.Test.YthjoljondlhhmaaDf9
namespace Go.Ev
set_option linter.unusedVariables false
set_option linter.unusedSimpArgs false
open Go.Proofs
set_option maxRecDepth 100000
/-! ### 3: ninepin/ninepinlaw21.CacheCarry -/

noncomputable def ch_f3 : CH := (CH.add 15 h15 (CH.add 14 h14 (CH.add 13 h13 (CH.add 12 h12 (CH.add 11 h11 (CH.add 10 h10 (CH.add 9 h9 (CH.add 8 h8 (CH.add 7 h7 CH.none)))))))))
theorem ch_f3_ok : CHOk Try.prog ch_f3 := (CH.add_ok h15_ok (CH.add_ok h14_ok (CH.add_ok h13_ok (CH.add_ok h12_ok (CH.add_ok h11_ok (CH.add_ok h10_ok (CH.add_ok h9_ok (CH.add_ok h8_ok (CH.add_ok h7_ok CH.none_ok)))))))))

/-- ninepin/ninepinlaw21.CacheCarry. -/
noncomputable def f3 (cs0 : List AVal) (n1 : Nat) (cs2 : List AVal) (n3 : Nat) (a4 : Int) (a5 : Int) (a6 : Int) (a7 : Int) (a8 : Int) (a9 : Int) (a10 : Int) (a11 : Int) : Option (Bool) :=
  (cond (decide (((n1 : Nat) : Int) > 100)) (Option.bind (f7) fun _ => (some true)) (cond (decide (((n3 : Nat) : Int) > 100)) (Option.bind (f7) fun _ => (some true)) (need (decide (2 * (0 + n1) * 56 ≤ 2 ^ 48)) (Option.bind (f8 cs0 n1 cs2 n3) fun r3 => (Option.bind (f9 cs0 n1 cs2 n3) fun r4 => (Option.bind (f10 r3.2.1 r3.2.2 r4.2.1 r4.2.2) fun r5 => (cond r5 (cond (r3.1 == r4.1) (Option.bind (f11 cs0 n1) fun r6 => (Option.bind (f13 cs0 n1) fun r7 => (Option.bind (f12 r7.1 r7.2) fun r8 => (cond (r6 == r8) (Option.bind (f14 a4 a5 a6 a7 a8 a9 a10 a11) fun r9 => (Option.bind (f15 a4 a5 a6 a7 a8 a9 a10 a11) fun r10 => (cond (r9 == r10) (Option.bind (f10 cs0 n1 cs0 n1) fun r11 => (cond r11 (Option.bind (f7) fun _ => (some true)) (some false))) (some false)))) (some false))))) (some false)) (some false))))))))

def f3_d : FD where
  X := Bool
  k := 2
  pre := []
  F := fun s => [0, 1]
  M := .bool
  B := []
  toL := fun x => [.B x]
  ofL := fun ls => match ls with
    | [.B x0] => some x0
    | _ => none
  ofL_ok := fun ls x h => by
    split at h
    · cases h; rfl
    · cases h

theorem f3_sem (cs0 : List AVal) (n1 : Nat) (cs2 : List AVal) (n3 : Nat) (a4 : Int) (a5 : Int) (a6 : Int) (a7 : Int) (a8 : Int) (a9 : Int) (a10 : Int) (a11 : Int) (x : Bool) (h : f3 cs0 n1 cs2 n3 a4 a5 a6 a7 a8 a9 a10 a11 = some x) : IsFn Try.prog 3 ∧ SemCall Try.prog 3 [.vec 0, .vec 1, .agg [.int .i64 a4, .int .i64 a5, .int .i64 a6, .int .i64 a7], .agg [.int .i64 a8, .int .i64 a9, .int .i64 a10, .int .i64 a11]] ⟨2, numB 0 [.vec cs0 n1 7 false, .vec cs2 n3 4 false]⟩ (.ret (f3_d.val x)) ⟨2 + (f3_d.blks x).length, numB 2 (f3_d.blks x)⟩ :=
  FD.sem (ch := ch_f3) (A := noAnns) (fn := Try.f3) (c := bodyOf Try.f3) (fuel := 60) tab_ok ch_f3_ok mixed noNum f3_d Try.func3 (by kernel_rfl) (loops_ok (l := []) (by kernel_rfl) trivial)
    (by kernel_rfl) (Eq.trans (by kernel_rfl) h)

noncomputable def h3 : HK where
  call := fun args σ k => match args with
    | [x0, x1, .agg [.int .i64 a4, .int .i64 a5, .int .i64 a6, .int .i64 a7], .agg [.int .i64 a8, .int .i64 a9, .int .i64 a10, .int .i64 a11]] => lendK σ 7 x0 fun cs0 n1 => lendK σ 4 x1 fun cs2 n3 => Option.bind (f3 cs0 n1 cs2 n3 a4 a5 a6 a7 a8 a9 a10 a11) fun y => retK σ 2 (f3_d.val y) (f3_d.blks y) k
    | _ => none
  nat := fun args σ k => by
    repeat' split
    all_goals simp only [lendK_nat, Option.bind_assoc, Option.bind_none, retK, Option.bind_some]
theorem h3_ok : HKOk Try.prog 3 h3 := by
  intro args σ r σ' h
  simp only [h3] at h
  split at h
  · rename_i x0 x1 a4 a5 a6 a7 a8 a9 a10 a11
    obtain ⟨cs0, n1, he0, hf0, h⟩ := lendK_spec h
    obtain ⟨cs2, n3, he1, hf1, h⟩ := lendK_spec h
    obtain ⟨y, hy, h⟩ := Option.bind_eq_some_iff.1 h
    exact lifted (xs := [x0, x1]) (ls := [.vec cs0 n1 7 false, .vec cs2 n3 4 false]) (cargs := [.vec 0, .vec 1, .agg [.int .i64 a4, .int .i64 a5, .int .i64 a6, .int .i64 a7], .agg [.int .i64 a8, .int .i64 a9, .int .i64 a10, .int .i64 a11]]) (Lent.of ⟨⟨rfl, he0, hf0, by decide⟩, ⟨rfl, he1, hf1, by decide⟩, trivial⟩) rfl (f3_sem cs0 n1 cs2 n3 a4 a5 a6 a7 a8 a9 a10 a11 y hy) rfl rfl rfl rfl h
  · cases h

end Go.Ev
