/- ninepin/ninepinref21.Keys: what it computes, and that it does. Printed by dec.py. No statement is proved here. -/
import Derived.Test.YthjoljondlhhmaaEvZ
import Derived.Test.YthjoljondlhhmaaEvT
import Derived.Test.YthjoljondlhhmaaDf15
namespace Go.Ev
set_option linter.unusedVariables false
set_option linter.unusedSimpArgs false
open Go.Proofs
set_option maxRecDepth 100000
/-! ### 12: ninepin/ninepinref21.Keys -/

noncomputable def ch_f12 : CH := (CH.add 15 h15 CH.none)
theorem ch_f12_ok : CHOk Try.prog ch_f12 := (CH.add_ok h15_ok CH.none_ok)

/-- A round of the loop at 4. -/
noncomputable def f12_L4k {R : Type} (cc : List AVal × Nat) (v : Int) (kn : (Int) → Option R) (ke : ((Unit) ⊕ (Unit)) → Option R) : Option R :=
  (cond (decide (v < ((cc.2 : Nat) : Int))) (need (decide (0 ≤ v) && decide (v < ((cc.2 : Nat) : Int))) (need (rowOk [.int .i64, .int .i64, .int .i64, .int .i64] cc.1 (Int.toNat v * 4)) (cond (decide ((geti cc.1 ((Int.toNat v * 4) + 0)) < 0)) (ke (.inl ())) (cond (decide ((geti cc.1 ((Int.toNat v * 4) + 1)) ≤ (geti cc.1 ((Int.toNat v * 4) + 0)))) (ke (.inl ())) (cond (decide ((geti cc.1 ((Int.toNat v * 4) + 1)) > 4096)) (ke (.inl ())) (cond (decide ((geti cc.1 ((Int.toNat v * 4) + 2)) < 1)) (ke (.inl ())) (cond (decide ((geti cc.1 ((Int.toNat v * 4) + 2)) > 3)) (ke (.inl ())) (cond (decide ((geti cc.1 ((Int.toNat v * 4) + 3)) < 0)) (ke (.inl ())) (cond (decide ((geti cc.1 ((Int.toNat v * 4) + 3)) > 256)) (ke (.inl ())) (cond (decide (v > 0)) (need (decide (0 ≤ (IntKind.wrap .i64 (v - 1))) && decide ((IntKind.wrap .i64 (v - 1)) < ((cc.2 : Nat) : Int))) (need (rowOk [.int .i64, .int .i64, .int .i64, .int .i64] cc.1 (Int.toNat (IntKind.wrap .i64 (v - 1)) * 4)) (Option.bind (f15 (geti cc.1 ((Int.toNat (IntKind.wrap .i64 (v - 1)) * 4) + 0)) (geti cc.1 ((Int.toNat (IntKind.wrap .i64 (v - 1)) * 4) + 1)) (geti cc.1 ((Int.toNat (IntKind.wrap .i64 (v - 1)) * 4) + 2)) (geti cc.1 ((Int.toNat (IntKind.wrap .i64 (v - 1)) * 4) + 3)) (geti cc.1 ((Int.toNat v * 4) + 0)) (geti cc.1 ((Int.toNat v * 4) + 1)) (geti cc.1 ((Int.toNat v * 4) + 2)) (geti cc.1 ((Int.toNat v * 4) + 3))) fun r1 => (cond (decide (r1 ≥ 0)) (ke (.inl ())) (kn (IntKind.wrap .i64 (v + 1))))))) (kn (IntKind.wrap .i64 (v + 1))))))))))))) (ke (.inr ())))

noncomputable def f12_L4s (cc : List AVal × Nat) (v : Int) : Option ((Int) ⊕ ((Unit) ⊕ (Unit))) := f12_L4k cc v (fun v => some (Sum.inl v)) fun e => some (Sum.inr e)

noncomputable def f12_L4 (cc : List AVal × Nat) (v : Int) : Option ((Unit) ⊕ (Unit)) := loopω (f12_L4s cc) v

def f12_L4toL (cc : List AVal × Nat) (v : Int) : List Leaf := [.I v, .C cc.1, .N cc.2]
def f12_L4ofL (ls : List Leaf) : Option ((List AVal × Nat) × (Int)) := match ls with
  | [.I x0, .C x1, .N x2] => some ((x1, x2), x0)
  | _ => none
def f12_L4out (e : (Unit) ⊕ (Unit)) : AOut := ((Sum.elim (fun e => .ret) (fun e => .exit 0)) e)
def f12_L4toE (cc : List AVal × Nat) (e : (Unit) ⊕ (Unit)) : List Leaf := ((Sum.elim (fun e => []) (fun e => [])) e)
def f12_L4conE (cc : List AVal × Nat) (e : (Unit) ⊕ (Unit)) : List Leaf := ((Sum.elim (fun e => []) (fun e => [])) e)
def f12_L4ofE (o : AOut) (ls : List Leaf) : Option (((Unit) ⊕ (Unit)) × List Leaf) := match o with
  | .ret => (match ls with
    | [] => some ((.inl ()), [])
    | _ => none)
  | .exit 0 => (match ls with
    | [] => some ((.inr ()), [])
    | _ => none)
  | _ => none
theorem f12_L4ofE_ok : ∀ o ls e cl cc, f12_L4ofE o ls = some (e, cl) → cl = f12_L4conE cc e → ls = f12_L4toE cc e ∧ f12_L4out e = o ∧ o ≠ .normal ∧ ∀ v, o ≠ .pan v := by
  intro o ls e cl cc h hc
  unfold f12_L4ofE at h
  split at h
  · split at h
    · cases h
      exact ⟨rfl, rfl, by simp, by simp⟩
    · cases h
  · split at h
    · cases h
      exact ⟨rfl, rfl, by simp, by simp⟩
    · cases h
  · cases h
def f12_L4sh (o : AOut) : ExS := match o with
  | .ret => ⟨1, [none, none, some (.litI .i64 2), none, none, none, none, none, none, none, none, none, none, none, none, none, none, none, none, none, none, none, none, none, none, none, none, none, none, none, none, none, none, none, none, none, none, none, none, none, none, none, none, none, none, none, none, none, none, none, none, none, none, none, none, none, none, none, none, none, none, none, none, none, none, none, none], [], fun s => [0], []⟩
  | .exit 0 => ⟨1, [none, none, none, none, none, none, none, none, none, none, none, none, none, none, none, none, none, none, none, none, none, none, none, none, none, none, none, none, none, none, none, none, none, none, none, none, none, none, none, none, none, none, none, none, none, none, none, none, none, none, none, none, none, none, none, none, none, none, none, none, none, none, none, none, none, none, none], [], fun s => [0], []⟩
  | _ => ⟨0, [], [], fun _ => [], []⟩
theorem f12_L4nat {R : Type} (cc : List AVal × Nat) (v : Int) (kn : (Int) → Option R) (ke : ((Unit) ⊕ (Unit)) → Option R) : f12_L4k cc v kn ke = (f12_L4k cc v (fun v => some (Sum.inl v)) fun e => some (Sum.inr e)).bind (Sum.elim kn ke) := by
  simp only [f12_L4k, cond_bind, need_nat, Option.bind_assoc, sum_bind, lookC_bind, Option.bind_some, Option.bind_none, Sum.elim_inl, Sum.elim_inr]
noncomputable def f12_L4d : LD where
  CC := List AVal × Nat
  V := Int
  E := (Unit) ⊕ (Unit)
  n := 1
  K := 1
  M := [some (.vec 0), none, none, some (.int .i64), none, none, none, none, none, none, none, none, none, none, none, none, none, none, none, none, none, none, none, none, none, none, none, none, none, none, none, none, none, none, none, none, none, none, none, none, none, none, none, none, none, none, none, none, none, none, none, none, none, none, none, none, none, none, none, none, none, none, none, none, none, none, none]
  B := [(0, .vec 4 false)]
  pre := []
  F := fun s => [0]
  toL := f12_L4toL
  ofL := f12_L4ofL
  ofL_ok := fun ls c v h => by
    unfold f12_L4ofL at h
    split at h
    · cases h; rfl
    · cases h
  stepK := f12_L4k
  nat := f12_L4nat
  sh := f12_L4sh
  out := f12_L4out
  toE := f12_L4toE
  conE := f12_L4conE
  ofE := f12_L4ofE
  ofE_ok := f12_L4ofE_ok
  post := fun cc e k => ((Sum.elim (fun e => k (.ret) (canonSt 1 [none, none, some (.int .i64 2), none, none, none, none, none, none, none, none, none, none, none, none, none, none, none, none, none, none, none, none, none, none, none, none, none, none, none, none, none, none, none, none, none, none, none, none, none, none, none, none, none, none, none, none, none, none, none, none, none, none, none, none, none, none, none, none, none, none, none, none, none, none, none, none] [])) (fun e => k (.exit 0) (canonSt 1 [none, none, none, none, none, none, none, none, none, none, none, none, none, none, none, none, none, none, none, none, none, none, none, none, none, none, none, none, none, none, none, none, none, none, none, none, none, none, none, none, none, none, none, none, none, none, none, none, none, none, none, none, none, none, none, none, none, none, none, none, none, none, none, none, none, none, none] []))) e)
  post_eq := fun cc e k => by rcases e with e | e <;> rfl

theorem f12_L4_ok : LaOk Try.prog 1 f12_L4d.la (loopAt Try.f12 0) :=
  LD.ok (ch := ch_f12) (A := noAnns) tab_ok ch_f12_ok mixed (fuel := 60) ⟨by kernel_rfl, fun e => by (rcases e with e | e <;> kernel_rfl), fun cc v => by kernel_rfl, loops_ok (l := []) (by kernel_rfl) trivial⟩

/-- ninepin/ninepinref21.Keys. -/
noncomputable def f12 (cs0 : List AVal) (n1 : Nat) : Option (Int) :=
  (cond (decide (((n1 : Nat) : Int) > 65536)) (some 3) (Option.bind (f12_L4 (cs0, n1) 0) (Sum.elim (fun e1 => (some 2)) (fun e1 => (some 0)))))

def f12_d : FD where
  X := Int
  k := 1
  pre := []
  F := fun s => [0]
  M := .int .i64
  B := []
  toL := fun x => [.I x]
  ofL := fun ls => match ls with
    | [.I x0] => some x0
    | _ => none
  ofL_ok := fun ls x h => by
    split at h
    · cases h; rfl
    · cases h

theorem f12_sem (cs0 : List AVal) (n1 : Nat) (x : Int) (h : f12 cs0 n1 = some x) : IsFn Try.prog 12 ∧ SemCall Try.prog 12 [.vec 0] ⟨1, numB 0 [.vec cs0 n1 4 false]⟩ (.ret (f12_d.val x)) ⟨1 + (f12_d.blks x).length, numB 1 (f12_d.blks x)⟩ :=
  FD.sem (ch := ch_f12) (A := annsOf [(4, f12_L4d.la)]) (fn := Try.f12) (c := bodyOf Try.f12) (fuel := 60) tab_ok ch_f12_ok mixed noNum f12_d Try.func12 (by kernel_rfl) (loops_ok (l := [loopAt Try.f12 0]) (by kernel_rfl) ⟨ann_one (by kernel_rfl) f12_L4_ok, trivial⟩)
    (by kernel_rfl) (Eq.trans (by kernel_rfl) h)

noncomputable def h12 : HK where
  call := fun args σ k => match args with
    | [x0] => lendK σ 4 x0 fun cs0 n1 => Option.bind (f12 cs0 n1) fun y => retK σ 1 (f12_d.val y) (f12_d.blks y) k
    | _ => none
  nat := fun args σ k => by
    repeat' split
    all_goals simp only [lendK_nat, Option.bind_assoc, Option.bind_none, retK, Option.bind_some]
theorem h12_ok : HKOk Try.prog 12 h12 := by
  intro args σ r σ' h
  simp only [h12] at h
  split at h
  · rename_i x0
    obtain ⟨cs0, n1, he0, hf0, h⟩ := lendK_spec h
    obtain ⟨y, hy, h⟩ := Option.bind_eq_some_iff.1 h
    exact lifted (xs := [x0]) (ls := [.vec cs0 n1 4 false]) (cargs := [.vec 0]) (Lent.of ⟨⟨rfl, he0, hf0, by decide⟩, trivial⟩) rfl (f12_sem cs0 n1 y hy) rfl rfl rfl rfl h
  · cases h

end Go.Ev
