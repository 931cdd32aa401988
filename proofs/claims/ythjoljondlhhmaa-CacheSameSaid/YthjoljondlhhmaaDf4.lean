/- ninepin/ninepinlaw21.CacheSame: what it computes, and that it does. Printed by dec.py. No statement is proved here. -/
import Derived.Test.YthjoljondlhhmaaEvZ
import Derived.Test.YthjoljondlhhmaaEvT
import Derived.Test.YthjoljondlhhmaaDf10
import Derived.Test.YthjoljondlhhmaaDf11
import Derived.Test.YthjoljondlhhmaaDf13
import Derived.Test.YthjoljondlhhmaaDf7
import Derived.Test.YthjoljondlhhmaaDf8
namespace Go.Ev
set_option linter.unusedVariables false
set_option linter.unusedSimpArgs false
open Go.Proofs
set_option maxRecDepth 100000
/-! ### 4: ninepin/ninepinlaw21.CacheSame -/

noncomputable def ch_f4 : CH := (CH.add 13 h13 (CH.add 11 h11 (CH.add 10 h10 (CH.add 8 h8 (CH.add 7 h7 CH.none)))))
theorem ch_f4_ok : CHOk Try.prog ch_f4 := (CH.add_ok h13_ok (CH.add_ok h11_ok (CH.add_ok h10_ok (CH.add_ok h8_ok (CH.add_ok h7_ok CH.none_ok)))))

/-- A round of the loop at 10. -/
noncomputable def f4_L10k {R : Type} (cc : List AVal × Nat × List AVal × Nat × Int × List AVal × Nat × List AVal × Nat × Int × List AVal × Nat × Int) (v : List AVal × Nat × Int) (kn : (List AVal × Nat × Int) → Option R) (ke : ((List AVal × Nat)) → Option R) : Option R :=
  (cond (decide (v.2.2 < ((cc.2.2.2.1 : Nat) : Int))) (cond (decide (cc.2.2.2.2.1 < 2)) (need (decide (0 ≤ v.2.2) && decide (v.2.2 < ((cc.2.2.2.1 : Nat) : Int))) (need (rowOk [.int .i64, .int .i64, .int .i64, .int .i64] cc.2.2.1 (Int.toNat v.2.2 * 4)) (need (decide (2 * (v.2.1 + 1) * 32 ≤ 2 ^ 48)) (kn ((v.1 ++ [.int .i64 (geti cc.2.2.1 ((Int.toNat v.2.2 * 4) + 0)), .int .i64 (geti cc.2.2.1 ((Int.toNat v.2.2 * 4) + 1)), .int .i64 (geti cc.2.2.1 ((Int.toNat v.2.2 * 4) + 2)), .int .i64 (geti cc.2.2.1 ((Int.toNat v.2.2 * 4) + 3))]), (v.2.1 + 1), (IntKind.wrap .i64 (v.2.2 + 1))))))) (need (!decide (cc.2.2.2.2.1 = 0)) (cond (decide ((Int.tmod v.2.2 cc.2.2.2.2.1) > 0)) (need (decide (0 ≤ v.2.2) && decide (v.2.2 < ((cc.2.2.2.1 : Nat) : Int))) (need (rowOk [.int .i64, .int .i64, .int .i64, .int .i64] cc.2.2.1 (Int.toNat v.2.2 * 4)) (need (decide (2 * (v.2.1 + 1) * 32 ≤ 2 ^ 48)) (kn ((v.1 ++ [.int .i64 (geti cc.2.2.1 ((Int.toNat v.2.2 * 4) + 0)), .int .i64 (geti cc.2.2.1 ((Int.toNat v.2.2 * 4) + 1)), .int .i64 (geti cc.2.2.1 ((Int.toNat v.2.2 * 4) + 2)), .int .i64 (geti cc.2.2.1 ((Int.toNat v.2.2 * 4) + 3))]), (v.2.1 + 1), (IntKind.wrap .i64 (v.2.2 + 1))))))) (kn (v.1, v.2.1, (IntKind.wrap .i64 (v.2.2 + 1))))))) (ke (v.1, v.2.1)))

noncomputable def f4_L10s (cc : List AVal × Nat × List AVal × Nat × Int × List AVal × Nat × List AVal × Nat × Int × List AVal × Nat × Int) (v : List AVal × Nat × Int) : Option ((List AVal × Nat × Int) ⊕ ((List AVal × Nat))) := f4_L10k cc v (fun v => some (Sum.inl v)) fun e => some (Sum.inr e)

noncomputable def f4_L10 (cc : List AVal × Nat × List AVal × Nat × Int × List AVal × Nat × List AVal × Nat × Int × List AVal × Nat × Int) (v : List AVal × Nat × Int) : Option ((List AVal × Nat)) := loopω (f4_L10s cc) v

def f4_L10toL (cc : List AVal × Nat × List AVal × Nat × Int × List AVal × Nat × List AVal × Nat × Int × List AVal × Nat × Int) (v : List AVal × Nat × Int) : List Leaf := [.I cc.2.2.2.2.1, .I cc.2.2.2.2.2.2.2.2.2.1, .I cc.2.2.2.2.2.2.2.2.2.2.2.2, .I v.2.2, .C cc.1, .N cc.2.1, .C cc.2.2.1, .N cc.2.2.2.1, .C cc.2.2.2.2.2.1, .N cc.2.2.2.2.2.2.1, .C cc.2.2.2.2.2.2.2.1, .N cc.2.2.2.2.2.2.2.2.1, .C cc.2.2.2.2.2.2.2.2.2.2.1, .N cc.2.2.2.2.2.2.2.2.2.2.2.1, .C v.1, .N v.2.1]
def f4_L10ofL (ls : List Leaf) : Option ((List AVal × Nat × List AVal × Nat × Int × List AVal × Nat × List AVal × Nat × Int × List AVal × Nat × Int) × (List AVal × Nat × Int)) := match ls with
  | [.I x0, .I x1, .I x2, .I x3, .C x4, .N x5, .C x6, .N x7, .C x8, .N x9, .C x10, .N x11, .C x12, .N x13, .C x14, .N x15] => some ((x4, x5, x6, x7, x0, x8, x9, x10, x11, x1, x12, x13, x2), (x14, x15, x3))
  | _ => none
def f4_L10out (e : (List AVal × Nat)) : AOut := ((fun e => .exit 0) e)
def f4_L10toE (cc : List AVal × Nat × List AVal × Nat × Int × List AVal × Nat × List AVal × Nat × Int × List AVal × Nat × Int) (e : (List AVal × Nat)) : List Leaf := ((fun e => [.I cc.2.2.2.2.2.2.2.2.2.1, .I cc.2.2.2.2.2.2.2.2.2.2.2.2, .C cc.1, .N cc.2.1, .C cc.2.2.1, .N cc.2.2.2.1, .C cc.2.2.2.2.2.1, .N cc.2.2.2.2.2.2.1, .C cc.2.2.2.2.2.2.2.1, .N cc.2.2.2.2.2.2.2.2.1, .C cc.2.2.2.2.2.2.2.2.2.2.1, .N cc.2.2.2.2.2.2.2.2.2.2.2.1, .C e.1, .N e.2]) e)
def f4_L10conE (cc : List AVal × Nat × List AVal × Nat × Int × List AVal × Nat × List AVal × Nat × Int × List AVal × Nat × Int) (e : (List AVal × Nat)) : List Leaf := ((fun e => [.I cc.2.2.2.2.2.2.2.2.2.1, .I cc.2.2.2.2.2.2.2.2.2.2.2.2, .C cc.1, .N cc.2.1, .C cc.2.2.1, .N cc.2.2.2.1, .C cc.2.2.2.2.2.1, .N cc.2.2.2.2.2.2.1, .C cc.2.2.2.2.2.2.2.1, .N cc.2.2.2.2.2.2.2.2.1, .C cc.2.2.2.2.2.2.2.2.2.2.1, .N cc.2.2.2.2.2.2.2.2.2.2.2.1]) e)
def f4_L10ofE (o : AOut) (ls : List Leaf) : Option (((List AVal × Nat)) × List Leaf) := match o with
  | .exit 0 => (match ls with
    | [.I x0, .I x1, .C x2, .N x3, .C x4, .N x5, .C x6, .N x7, .C x8, .N x9, .C x10, .N x11, .C x12, .N x13] => some ((x12, x13), [.I x0, .I x1, .C x2, .N x3, .C x4, .N x5, .C x6, .N x7, .C x8, .N x9, .C x10, .N x11])
    | _ => none)
  | _ => none
theorem f4_L10ofE_ok : ∀ o ls e cl cc, f4_L10ofE o ls = some (e, cl) → cl = f4_L10conE cc e → ls = f4_L10toE cc e ∧ f4_L10out e = o ∧ o ≠ .normal ∧ ∀ v, o ≠ .pan v := by
  intro o ls e cl cc h hc
  unfold f4_L10ofE at h
  split at h
  · split at h
    · cases h
      simp only [f4_L10conE, Sum.elim_inl, Sum.elim_inr, List.cons.injEq, Leaf.I.injEq, Leaf.B.injEq, Leaf.S.injEq, Leaf.N.injEq, Leaf.C.injEq, Leaf.E.injEq, and_true] at hc
      obtain ⟨rfl, rfl, rfl, rfl, rfl, rfl, rfl, rfl, rfl, rfl, rfl, rfl⟩ := hc
      exact ⟨rfl, rfl, by simp, by simp⟩
    · cases h
  · cases h
def f4_L10sh (o : AOut) : ExS := match o with
  | .exit 0 => ⟨6, [some (.vec 0), some (.vec 1), none, none, none, none, none, some (.vec 2), none, some (.vec 3), some (.int .i64), some (.vec 4), some (.int .i64), some (.vec 5), none, none, none, none, none, none, none, none, none, none, none, none, none, none, none, none, none, none, none, none, none, none, none, none, none, none, none, none, none, none, none, none, none, none, none, none, none, none, none, none, none, none, none, none, none, none, none, none, none, none, none, none, none, none, none, none, none, none, none, none, none, none, none, none, none, none, none, none, none, none, none, none, none, none, none, none, none, none, none, none, none, none, none, none, none, none, none, none, none, none, none, none, none, none, none, none, none, none, none, none, none, none, none, none, none, none, none, none, none, none, none, none, none, none, none, none, none], [(0, .vec 7 false), (1, .vec 4 false), (2, .vec 7 true), (3, .vec 7 true), (4, .vec 7 true), (5, .vec 4 true)], fun s => [0, 1, nameAt s 7 [], nameAt s 9 [], nameAt s 11 [], nameAt s 13 []], []⟩
  | _ => ⟨0, [], [], fun _ => [], []⟩
theorem f4_L10nat {R : Type} (cc : List AVal × Nat × List AVal × Nat × Int × List AVal × Nat × List AVal × Nat × Int × List AVal × Nat × Int) (v : List AVal × Nat × Int) (kn : (List AVal × Nat × Int) → Option R) (ke : ((List AVal × Nat)) → Option R) : f4_L10k cc v kn ke = (f4_L10k cc v (fun v => some (Sum.inl v)) fun e => some (Sum.inr e)).bind (Sum.elim kn ke) := by
  simp only [f4_L10k, cond_bind, need_nat, Option.bind_assoc, sum_bind, lookC_bind, Option.bind_some, Option.bind_none, Sum.elim_inl, Sum.elim_inr]
noncomputable def f4_L10d : LD where
  CC := List AVal × Nat × List AVal × Nat × Int × List AVal × Nat × List AVal × Nat × Int × List AVal × Nat × Int
  V := List AVal × Nat × Int
  E := (List AVal × Nat)
  n := 2
  K := 6
  M := [some (.vec 0), some (.vec 1), some (.int .i64), none, none, none, none, some (.vec 2), none, some (.vec 3), some (.int .i64), some (.vec 4), some (.int .i64), some (.vec 5), some (.int .i64), none, none, none, none, none, none, none, none, none, none, none, none, none, none, none, none, none, none, none, none, none, none, none, none, none, none, none, none, none, none, none, none, none, none, none, none, none, none, none, none, none, none, none, none, none, none, none, none, none, none, none, none, none, none, none, none, none, none, none, none, none, none, none, none, none, none, none, none, none, none, none, none, none, none, none, none, none, none, none, none, none, none, none, none, none, none, none, none, none, none, none, none, none, none, none, none, none, none, none, none, none, none, none, none, none, none, none, none, none, none, none, none, none, none, none, none]
  B := [(0, .vec 7 false), (1, .vec 4 false), (2, .vec 7 true), (3, .vec 7 true), (4, .vec 7 true), (5, .vec 4 true)]
  pre := [(13, 4)]
  F := fun s => [0, 1, nameAt s 7 [], nameAt s 9 [], nameAt s 11 [], nameAt s 13 []]
  toL := f4_L10toL
  ofL := f4_L10ofL
  ofL_ok := fun ls c v h => by
    unfold f4_L10ofL at h
    split at h
    · cases h; rfl
    · cases h
  stepK := f4_L10k
  nat := f4_L10nat
  sh := f4_L10sh
  out := f4_L10out
  toE := f4_L10toE
  conE := f4_L10conE
  ofE := f4_L10ofE
  ofE_ok := f4_L10ofE_ok
  post := fun cc e k => ((fun e => k (.exit 0) (canonSt 6 [some (.vec 0), some (.vec 1), none, none, none, none, none, some (.vec 2), none, some (.vec 3), some (.int .i64 cc.2.2.2.2.2.2.2.2.2.1), some (.vec 4), some (.int .i64 cc.2.2.2.2.2.2.2.2.2.2.2.2), some (.vec 5), none, none, none, none, none, none, none, none, none, none, none, none, none, none, none, none, none, none, none, none, none, none, none, none, none, none, none, none, none, none, none, none, none, none, none, none, none, none, none, none, none, none, none, none, none, none, none, none, none, none, none, none, none, none, none, none, none, none, none, none, none, none, none, none, none, none, none, none, none, none, none, none, none, none, none, none, none, none, none, none, none, none, none, none, none, none, none, none, none, none, none, none, none, none, none, none, none, none, none, none, none, none, none, none, none, none, none, none, none, none, none, none, none, none, none, none, none] [(0, .vec cc.1 cc.2.1 7 false), (1, .vec cc.2.2.1 cc.2.2.2.1 4 false), (2, .vec cc.2.2.2.2.2.1 cc.2.2.2.2.2.2.1 7 true), (3, .vec cc.2.2.2.2.2.2.2.1 cc.2.2.2.2.2.2.2.2.1 7 true), (4, .vec cc.2.2.2.2.2.2.2.2.2.2.1 cc.2.2.2.2.2.2.2.2.2.2.2.1 7 true), (5, .vec e.1 e.2 4 true)])) e)
  post_eq := fun cc e k => by rfl

theorem f4_L10_ok : LaOk Try.prog 2 f4_L10d.la (loopAt Try.f4 0) :=
  LD.ok (ch := ch_f4) (A := noAnns) tab_ok ch_f4_ok mixed (fuel := 60) ⟨by kernel_rfl, fun e => by kernel_rfl, fun cc v => by kernel_rfl, loops_ok (l := []) (by kernel_rfl) trivial⟩

/-- ninepin/ninepinlaw21.CacheSame. -/
noncomputable def f4 (cs0 : List AVal) (n1 : Nat) (cs2 : List AVal) (n3 : Nat) (a4 : Int) : Option (Bool) :=
  (cond (decide (((n1 : Nat) : Int) > 100)) (Option.bind (f7) fun _ => (some true)) (cond (decide (((n3 : Nat) : Int) > 100)) (Option.bind (f7) fun _ => (some true)) (Option.bind (f8 cs0 n1 cs2 n3) fun r3 => (cond (r3.1 != 0) (cond (((r3.2.2 : Nat) : Int) == 0) (Option.bind (f7) fun _ => (some true)) (some false)) (Option.bind (f13 cs0 n1) fun r5 => (Option.bind (f8 cs0 n1 r5.1 r5.2) fun r6 => (Option.bind (f8 cs0 n1 ([] : List AVal) 0) fun r7 => (Option.bind (f4_L10 (cs0, n1, cs2, n3, a4, r3.2.1, r3.2.2, r6.2.1, r6.2.2, r6.1, r7.2.1, r7.2.2, r7.1) (([] : List AVal), 0, 0)) fun e8 => (Option.bind (f8 r3.2.1 r3.2.2 e8.1 e8.2) fun r9 => (Option.bind (f8 cs0 n1 e8.1 e8.2) fun r10 => (cond (r6.1 == 0) (Option.bind (f10 r6.2.1 r6.2.2 cs0 n1) fun r11 => (cond r11 (cond (r7.1 == 0) (cond (((r7.2.2 : Nat) : Int) == 0) (cond (r9.1 == 0) (cond (r10.1 == 0) (Option.bind (f10 r9.2.1 r9.2.2 r10.2.1 r10.2.2) fun r12 => (cond r12 (Option.bind (f11 r3.2.1 r3.2.2) fun r13 => (cond (r13 == 0) (cond (((r3.2.2 : Nat) : Int) == ((n3 : Nat) : Int)) (Option.bind (f7) fun _ => (some true)) (some false)) (some false))) (some false))) (some false)) (some false)) (some false)) (some false)) (some false))) (some false))))))))))))

def f4_d : FD where
  X := Bool
  k := 2
  pre := []
  F := fun s => [0, 1]
  M := .bool
  B := []
  toL := fun x => [.B x]
  ofL := fun ls => match ls with
    | [.B x0] => some x0
    | _ => none
  ofL_ok := fun ls x h => by
    split at h
    · cases h; rfl
    · cases h

theorem f4_sem (cs0 : List AVal) (n1 : Nat) (cs2 : List AVal) (n3 : Nat) (a4 : Int) (x : Bool) (h : f4 cs0 n1 cs2 n3 a4 = some x) : IsFn Try.prog 4 ∧ SemCall Try.prog 4 [.vec 0, .vec 1, .int .i64 a4] ⟨2, numB 0 [.vec cs0 n1 7 false, .vec cs2 n3 4 false]⟩ (.ret (f4_d.val x)) ⟨2 + (f4_d.blks x).length, numB 2 (f4_d.blks x)⟩ :=
  FD.sem (ch := ch_f4) (A := annsOf [(10, f4_L10d.la)]) (fn := Try.f4) (c := bodyOf Try.f4) (fuel := 60) tab_ok ch_f4_ok mixed noNum f4_d Try.func4 (by kernel_rfl) (loops_ok (l := [loopAt Try.f4 0]) (by kernel_rfl) ⟨ann_one (by kernel_rfl) f4_L10_ok, trivial⟩)
    (by kernel_rfl) (Eq.trans (by kernel_rfl) h)

noncomputable def h4 : HK where
  call := fun args σ k => match args with
    | [x0, x1, .int .i64 a4] => lendK σ 7 x0 fun cs0 n1 => lendK σ 4 x1 fun cs2 n3 => Option.bind (f4 cs0 n1 cs2 n3 a4) fun y => retK σ 2 (f4_d.val y) (f4_d.blks y) k
    | _ => none
  nat := fun args σ k => by
    repeat' split
    all_goals simp only [lendK_nat, Option.bind_assoc, Option.bind_none, retK, Option.bind_some]
theorem h4_ok : HKOk Try.prog 4 h4 := by
  intro args σ r σ' h
  simp only [h4] at h
  split at h
  · rename_i x0 x1 a4
    obtain ⟨cs0, n1, he0, hf0, h⟩ := lendK_spec h
    obtain ⟨cs2, n3, he1, hf1, h⟩ := lendK_spec h
    obtain ⟨y, hy, h⟩ := Option.bind_eq_some_iff.1 h
    exact lifted (xs := [x0, x1]) (ls := [.vec cs0 n1 7 false, .vec cs2 n3 4 false]) (cargs := [.vec 0, .vec 1, .int .i64 a4]) (Lent.of ⟨⟨rfl, he0, hf0, by decide⟩, ⟨rfl, he1, hf1, by decide⟩, trivial⟩) rfl (f4_sem cs0 n1 cs2 n3 a4 y hy) rfl rfl rfl rfl h
  · cases h

end Go.Ev
