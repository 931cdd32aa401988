/- ninepin/ninepinlaw21.CacheBodies: what it computes, and that it does. Printed by dec.py. No statement is proved here. -/
import Derived.Test.YthjoljondlhhmaaEvZ
import Derived.Test.YthjoljondlhhmaaEvT
import Derived.Test.YthjoljondlhhmaaDf10
import Derived.Test.YthjoljondlhhmaaDf16
import Derived.Test.YthjoljondlhhmaaDf7
namespace Go.Ev
set_option linter.unusedVariables false
set_option linter.unusedSimpArgs false
open Go.Proofs
set_option maxRecDepth 100000
/-! ### 6: ninepin/ninepinlaw21.CacheBodies -/

noncomputable def ch_f6 : CH := (CH.add 16 h16 (CH.add 10 h10 (CH.add 7 h7 CH.none)))
theorem ch_f6_ok : CHOk Try.prog ch_f6 := (CH.add_ok h16_ok (CH.add_ok h10_ok (CH.add_ok h7_ok CH.none_ok)))

/-- A round of the loop at 12. -/
noncomputable def f6_L12k {R : Type} (cc : Int × Int × List AVal × Nat × Int × List AVal × Nat × Int) (v : Int) (kn : (Int) → Option R) (ke : ((Unit) ⊕ (Unit)) → Option R) : Option R :=
  (cond (decide (v < ((cc.2.2.2.1 : Nat) : Int))) (need (decide (0 ≤ v) && decide (v < ((cc.2.2.2.1 : Nat) : Int))) (need (rowOk [.int .i64, .int .i64, .int .i64, .int .i64] cc.2.2.1 (Int.toNat v * 7)) (cond ((geti cc.2.2.1 ((Int.toNat v * 7) + 0)) == cc.1) (ke (.inl ())) (cond ((geti cc.2.2.1 ((Int.toNat v * 7) + 0)) == cc.2.1) (ke (.inl ())) (cond ((geti cc.2.2.1 ((Int.toNat v * 7) + 1)) == cc.1) (ke (.inl ())) (cond ((geti cc.2.2.1 ((Int.toNat v * 7) + 1)) == cc.2.1) (ke (.inl ())) (kn (IntKind.wrap .i64 (v + 1))))))))) (ke (.inr ())))

noncomputable def f6_L12s (cc : Int × Int × List AVal × Nat × Int × List AVal × Nat × Int) (v : Int) : Option ((Int) ⊕ ((Unit) ⊕ (Unit))) := f6_L12k cc v (fun v => some (Sum.inl v)) fun e => some (Sum.inr e)

noncomputable def f6_L12 (cc : Int × Int × List AVal × Nat × Int × List AVal × Nat × Int) (v : Int) : Option ((Unit) ⊕ (Unit)) := loopω (f6_L12s cc) v

def f6_L12toL (cc : Int × Int × List AVal × Nat × Int × List AVal × Nat × Int) (v : Int) : List Leaf := [.I cc.1, .I cc.2.1, .I cc.2.2.2.2.1, .I cc.2.2.2.2.2.2.2, .I v, .C cc.2.2.1, .N cc.2.2.2.1, .C cc.2.2.2.2.2.1, .N cc.2.2.2.2.2.2.1]
def f6_L12ofL (ls : List Leaf) : Option ((Int × Int × List AVal × Nat × Int × List AVal × Nat × Int) × (Int)) := match ls with
  | [.I x0, .I x1, .I x2, .I x3, .I x4, .C x5, .N x6, .C x7, .N x8] => some ((x0, x1, x5, x6, x2, x7, x8, x3), x4)
  | _ => none
def f6_L12out (e : (Unit) ⊕ (Unit)) : AOut := ((Sum.elim (fun e => .ret) (fun e => .exit 0)) e)
def f6_L12toE (cc : Int × Int × List AVal × Nat × Int × List AVal × Nat × Int) (e : (Unit) ⊕ (Unit)) : List Leaf := ((Sum.elim (fun e => []) (fun e => [.I cc.2.2.2.2.1, .I cc.2.2.2.2.2.2.2, .C cc.2.2.1, .N cc.2.2.2.1, .C cc.2.2.2.2.2.1, .N cc.2.2.2.2.2.2.1])) e)
def f6_L12conE (cc : Int × Int × List AVal × Nat × Int × List AVal × Nat × Int) (e : (Unit) ⊕ (Unit)) : List Leaf := ((Sum.elim (fun e => []) (fun e => [.I cc.2.2.2.2.1, .I cc.2.2.2.2.2.2.2, .C cc.2.2.1, .N cc.2.2.2.1, .C cc.2.2.2.2.2.1, .N cc.2.2.2.2.2.2.1])) e)
def f6_L12ofE (o : AOut) (ls : List Leaf) : Option (((Unit) ⊕ (Unit)) × List Leaf) := match o with
  | .ret => (match ls with
    | [] => some ((.inl ()), [])
    | _ => none)
  | .exit 0 => (match ls with
    | [.I x0, .I x1, .C x2, .N x3, .C x4, .N x5] => some ((.inr ()), [.I x0, .I x1, .C x2, .N x3, .C x4, .N x5])
    | _ => none)
  | _ => none
theorem f6_L12ofE_ok : ∀ o ls e cl cc, f6_L12ofE o ls = some (e, cl) → cl = f6_L12conE cc e → ls = f6_L12toE cc e ∧ f6_L12out e = o ∧ o ≠ .normal ∧ ∀ v, o ≠ .pan v := by
  intro o ls e cl cc h hc
  unfold f6_L12ofE at h
  split at h
  · split at h
    · cases h
      exact ⟨rfl, rfl, by simp, by simp⟩
    · cases h
  · split at h
    · cases h
      simp only [f6_L12conE, Sum.elim_inl, Sum.elim_inr, List.cons.injEq, Leaf.I.injEq, Leaf.B.injEq, Leaf.S.injEq, Leaf.N.injEq, Leaf.C.injEq, Leaf.E.injEq, and_true] at hc
      obtain ⟨rfl, rfl, rfl, rfl, rfl, rfl⟩ := hc
      exact ⟨rfl, rfl, by simp, by simp⟩
    · cases h
  · cases h
def f6_L12sh (o : AOut) : ExS := match o with
  | .ret => ⟨1, [none, none, none, none, none, none, some (.litB false), none, none, none, none, none, none, none, none, none, none, none, none, none, none, none, none, none, none, none, none, none, none, none, none, none, none, none, none, none, none, none, none, none, none, none, none, none, none, none, none, none, none, none, none, none, none, none, none, none, none, none, none, none, none, none, none, none, none, none, none, none, none, none, none, none, none, none, none, none, none, none, none, none, none, none, none, none, none, none, none, none, none, none, none, none, none, none, none, none, none, none, none, none, none, none, none], [], fun s => [0], []⟩
  | .exit 0 => ⟨3, [none, none, none, none, none, none, none, none, none, some (.vec 1), some (.int .i64), none, none, some (.vec 2), some (.int .i64), none, none, none, none, none, none, none, none, none, none, none, none, none, none, none, none, none, none, none, none, none, none, none, none, none, none, none, none, none, none, none, none, none, none, none, none, none, none, none, none, none, none, none, none, none, none, none, none, none, none, none, none, none, none, none, none, none, none, none, none, none, none, none, none, none, none, none, none, none, none, none, none, none, none, none, none, none, none, none, none, none, none, none, none, none, none, none, none], [(1, .vec 7 true), (2, .vec 7 true)], fun s => [0, nameAt s 9 [], nameAt s 13 []], []⟩
  | _ => ⟨0, [], [], fun _ => [], []⟩
theorem f6_L12nat {R : Type} (cc : Int × Int × List AVal × Nat × Int × List AVal × Nat × Int) (v : Int) (kn : (Int) → Option R) (ke : ((Unit) ⊕ (Unit)) → Option R) : f6_L12k cc v kn ke = (f6_L12k cc v (fun v => some (Sum.inl v)) fun e => some (Sum.inr e)).bind (Sum.elim kn ke) := by
  simp only [f6_L12k, cond_bind, need_nat, Option.bind_assoc, sum_bind, lookC_bind, Option.bind_some, Option.bind_none, Sum.elim_inl, Sum.elim_inr]
noncomputable def f6_L12d : LD where
  CC := Int × Int × List AVal × Nat × Int × List AVal × Nat × Int
  V := Int
  E := (Unit) ⊕ (Unit)
  n := 1
  K := 3
  M := [none, some (.int .i64), some (.int .i64), none, none, none, none, none, none, some (.vec 1), some (.int .i64), none, none, some (.vec 2), some (.int .i64), some (.int .i64), none, none, none, none, none, none, none, none, none, none, none, none, none, none, none, none, none, none, none, none, none, none, none, none, none, none, none, none, none, none, none, none, none, none, none, none, none, none, none, none, none, none, none, none, none, none, none, none, none, none, none, none, none, none, none, none, none, none, none, none, none, none, none, none, none, none, none, none, none, none, none, none, none, none, none, none, none, none, none, none, none, none, none, none, none, none, none]
  B := [(1, .vec 7 true), (2, .vec 7 true)]
  pre := []
  F := fun s => [0, nameAt s 9 [], nameAt s 13 []]
  toL := f6_L12toL
  ofL := f6_L12ofL
  ofL_ok := fun ls c v h => by
    unfold f6_L12ofL at h
    split at h
    · cases h; rfl
    · cases h
  stepK := f6_L12k
  nat := f6_L12nat
  sh := f6_L12sh
  out := f6_L12out
  toE := f6_L12toE
  conE := f6_L12conE
  ofE := f6_L12ofE
  ofE_ok := f6_L12ofE_ok
  post := fun cc e k => ((Sum.elim (fun e => k (.ret) (canonSt 1 [none, none, none, none, none, none, some (.bool false), none, none, none, none, none, none, none, none, none, none, none, none, none, none, none, none, none, none, none, none, none, none, none, none, none, none, none, none, none, none, none, none, none, none, none, none, none, none, none, none, none, none, none, none, none, none, none, none, none, none, none, none, none, none, none, none, none, none, none, none, none, none, none, none, none, none, none, none, none, none, none, none, none, none, none, none, none, none, none, none, none, none, none, none, none, none, none, none, none, none, none, none, none, none, none, none] [])) (fun e => k (.exit 0) (canonSt 3 [none, none, none, none, none, none, none, none, none, some (.vec 1), some (.int .i64 cc.2.2.2.2.1), none, none, some (.vec 2), some (.int .i64 cc.2.2.2.2.2.2.2), none, none, none, none, none, none, none, none, none, none, none, none, none, none, none, none, none, none, none, none, none, none, none, none, none, none, none, none, none, none, none, none, none, none, none, none, none, none, none, none, none, none, none, none, none, none, none, none, none, none, none, none, none, none, none, none, none, none, none, none, none, none, none, none, none, none, none, none, none, none, none, none, none, none, none, none, none, none, none, none, none, none, none, none, none, none, none, none] [(1, .vec cc.2.2.1 cc.2.2.2.1 7 true), (2, .vec cc.2.2.2.2.2.1 cc.2.2.2.2.2.2.1 7 true)]))) e)
  post_eq := fun cc e k => by rcases e with e | e <;> rfl

theorem f6_L12_ok : LaOk Try.prog 1 f6_L12d.la (loopAt Try.f6 0) :=
  LD.ok (ch := ch_f6) (A := noAnns) tab_ok ch_f6_ok mixed (fuel := 60) ⟨by kernel_rfl, fun e => by (rcases e with e | e <;> kernel_rfl), fun cc v => by kernel_rfl, loops_ok (l := []) (by kernel_rfl) trivial⟩

/-- ninepin/ninepinlaw21.CacheBodies. -/
noncomputable def f6 (cs0 : List AVal) (n1 : Nat) (a2 : Int) (a3 : Int) : Option (Bool) :=
  (cond (decide (((n1 : Nat) : Int) > 100)) (Option.bind (f7) fun _ => (some true)) (Option.bind (f16 cs0 n1 a2) fun r2 => (Option.bind (f16 r2.2.1 r2.2.2 a3) fun r3 => (Option.bind (f16 cs0 n1 a3) fun r4 => (Option.bind (f16 r4.2.1 r4.2.2 a2) fun r5 => (cond (r2.1 != r4.1) (some false) (cond (r2.1 != 0) (cond (((r2.2.2 : Nat) : Int) == 0) (Option.bind (f7) fun _ => (some true)) (some false)) (Option.bind (f6_L12 (a2, a3, r3.2.1, r3.2.2, r3.1, r5.2.1, r5.2.2, r5.1) 0) (Sum.elim (fun e7 => (some false)) (fun e7 => (cond (r3.1 == 0) (cond (r5.1 == 0) (Option.bind (f10 r3.2.1 r3.2.2 r5.2.1 r5.2.2) fun r8 => (cond r8 (Option.bind (f7) fun _ => (some true)) (some false))) (some false)) (some false))))))))))))

def f6_d : FD where
  X := Bool
  k := 1
  pre := []
  F := fun s => [0]
  M := .bool
  B := []
  toL := fun x => [.B x]
  ofL := fun ls => match ls with
    | [.B x0] => some x0
    | _ => none
  ofL_ok := fun ls x h => by
    split at h
    · cases h; rfl
    · cases h

theorem f6_sem (cs0 : List AVal) (n1 : Nat) (a2 : Int) (a3 : Int) (x : Bool) (h : f6 cs0 n1 a2 a3 = some x) : IsFn Try.prog 6 ∧ SemCall Try.prog 6 [.vec 0, .int .i64 a2, .int .i64 a3] ⟨1, numB 0 [.vec cs0 n1 7 false]⟩ (.ret (f6_d.val x)) ⟨1 + (f6_d.blks x).length, numB 1 (f6_d.blks x)⟩ :=
  FD.sem (ch := ch_f6) (A := annsOf [(12, f6_L12d.la)]) (fn := Try.f6) (c := bodyOf Try.f6) (fuel := 60) tab_ok ch_f6_ok mixed noNum f6_d Try.func6 (by kernel_rfl) (loops_ok (l := [loopAt Try.f6 0]) (by kernel_rfl) ⟨ann_one (by kernel_rfl) f6_L12_ok, trivial⟩)
    (by kernel_rfl) (Eq.trans (by kernel_rfl) h)

noncomputable def h6 : HK where
  call := fun args σ k => match args with
    | [x0, .int .i64 a2, .int .i64 a3] => lendK σ 7 x0 fun cs0 n1 => Option.bind (f6 cs0 n1 a2 a3) fun y => retK σ 1 (f6_d.val y) (f6_d.blks y) k
    | _ => none
  nat := fun args σ k => by
    repeat' split
    all_goals simp only [lendK_nat, Option.bind_assoc, Option.bind_none, retK, Option.bind_some]
theorem h6_ok : HKOk Try.prog 6 h6 := by
  intro args σ r σ' h
  simp only [h6] at h
  split at h
  · rename_i x0 a2 a3
    obtain ⟨cs0, n1, he0, hf0, h⟩ := lendK_spec h
    obtain ⟨y, hy, h⟩ := Option.bind_eq_some_iff.1 h
    exact lifted (xs := [x0]) (ls := [.vec cs0 n1 7 false]) (cargs := [.vec 0, .int .i64 a2, .int .i64 a3]) (Lent.of ⟨⟨rfl, he0, hf0, by decide⟩, trivial⟩) rfl (f6_sem cs0 n1 a2 a3 y hy) rfl rfl rfl rfl h
  · cases h

end Go.Ev
