/- ninepin/ninepinref21.Same: what it computes, and that it does. Printed by dec.py. No statement is proved here. -/
import Derived.Test.YthjoljondlhhmaaEvZ
import Derived.Test.YthjoljondlhhmaaEvT
namespace Go.Ev
set_option linter.unusedVariables false
set_option linter.unusedSimpArgs false
open Go.Proofs
set_option maxRecDepth 100000
/-! ### 10: ninepin/ninepinref21.Same -/

noncomputable def ch_f10 : CH := CH.none
theorem ch_f10_ok : CHOk Try.prog ch_f10 := CH.none_ok

/-- A round of the loop at 4. -/
noncomputable def f10_L4k {R : Type} (cc : List AVal × Nat × List AVal × Nat) (v : Int) (kn : (Int) → Option R) (ke : ((Unit) ⊕ (Unit)) → Option R) : Option R :=
  (cond (decide (v < ((cc.2.1 : Nat) : Int))) (need (decide (0 ≤ v) && decide (v < ((cc.2.1 : Nat) : Int))) (need (rowOk [.int .i64, .int .i64, .int .i64, .int .i64, .int .i64, .int .i64, .int .i64] cc.1 (Int.toNat v * 7)) (need (decide (0 ≤ v) && decide (v < ((cc.2.2.2 : Nat) : Int))) (need (rowOk [.int .i64, .int .i64, .int .i64, .int .i64, .int .i64, .int .i64, .int .i64] cc.2.2.1 (Int.toNat v * 7)) (cond (!((geti cc.1 ((Int.toNat v * 7) + 0)) == (geti cc.2.2.1 ((Int.toNat v * 7) + 0)) && ((geti cc.1 ((Int.toNat v * 7) + 1)) == (geti cc.2.2.1 ((Int.toNat v * 7) + 1)) && ((geti cc.1 ((Int.toNat v * 7) + 2)) == (geti cc.2.2.1 ((Int.toNat v * 7) + 2)) && ((geti cc.1 ((Int.toNat v * 7) + 3)) == (geti cc.2.2.1 ((Int.toNat v * 7) + 3)) && ((geti cc.1 ((Int.toNat v * 7) + 4)) == (geti cc.2.2.1 ((Int.toNat v * 7) + 4)) && ((geti cc.1 ((Int.toNat v * 7) + 5)) == (geti cc.2.2.1 ((Int.toNat v * 7) + 5)) && ((geti cc.1 ((Int.toNat v * 7) + 6)) == (geti cc.2.2.1 ((Int.toNat v * 7) + 6)) && true)))))))) (ke (.inl ())) (kn (IntKind.wrap .i64 (v + 1)))))))) (ke (.inr ())))

noncomputable def f10_L4s (cc : List AVal × Nat × List AVal × Nat) (v : Int) : Option ((Int) ⊕ ((Unit) ⊕ (Unit))) := f10_L4k cc v (fun v => some (Sum.inl v)) fun e => some (Sum.inr e)

noncomputable def f10_L4 (cc : List AVal × Nat × List AVal × Nat) (v : Int) : Option ((Unit) ⊕ (Unit)) := loopω (f10_L4s cc) v

def f10_L4toL (cc : List AVal × Nat × List AVal × Nat) (v : Int) : List Leaf := [.I v, .C cc.1, .N cc.2.1, .C cc.2.2.1, .N cc.2.2.2]
def f10_L4ofL (ls : List Leaf) : Option ((List AVal × Nat × List AVal × Nat) × (Int)) := match ls with
  | [.I x0, .C x1, .N x2, .C x3, .N x4] => some ((x1, x2, x3, x4), x0)
  | _ => none
def f10_L4out (e : (Unit) ⊕ (Unit)) : AOut := ((Sum.elim (fun e => .ret) (fun e => .exit 0)) e)
def f10_L4toE (cc : List AVal × Nat × List AVal × Nat) (e : (Unit) ⊕ (Unit)) : List Leaf := ((Sum.elim (fun e => []) (fun e => [])) e)
def f10_L4conE (cc : List AVal × Nat × List AVal × Nat) (e : (Unit) ⊕ (Unit)) : List Leaf := ((Sum.elim (fun e => []) (fun e => [])) e)
def f10_L4ofE (o : AOut) (ls : List Leaf) : Option (((Unit) ⊕ (Unit)) × List Leaf) := match o with
  | .ret => (match ls with
    | [] => some ((.inl ()), [])
    | _ => none)
  | .exit 0 => (match ls with
    | [] => some ((.inr ()), [])
    | _ => none)
  | _ => none
theorem f10_L4ofE_ok : ∀ o ls e cl cc, f10_L4ofE o ls = some (e, cl) → cl = f10_L4conE cc e → ls = f10_L4toE cc e ∧ f10_L4out e = o ∧ o ≠ .normal ∧ ∀ v, o ≠ .pan v := by
  intro o ls e cl cc h hc
  unfold f10_L4ofE at h
  split at h
  · split at h
    · cases h
      exact ⟨rfl, rfl, by simp, by simp⟩
    · cases h
  · split at h
    · cases h
      exact ⟨rfl, rfl, by simp, by simp⟩
    · cases h
  · cases h
def f10_L4sh (o : AOut) : ExS := match o with
  | .ret => ⟨2, [none, none, none, none, some (.litB false), none, none, none, none, none, none, none, none, none, none, none, none, none, none, none, none, none, none, none, none, none], [], fun s => [0, 1], []⟩
  | .exit 0 => ⟨2, [none, none, none, none, none, none, none, none, none, none, none, none, none, none, none, none, none, none, none, none, none, none, none, none, none, none], [], fun s => [0, 1], []⟩
  | _ => ⟨0, [], [], fun _ => [], []⟩
theorem f10_L4nat {R : Type} (cc : List AVal × Nat × List AVal × Nat) (v : Int) (kn : (Int) → Option R) (ke : ((Unit) ⊕ (Unit)) → Option R) : f10_L4k cc v kn ke = (f10_L4k cc v (fun v => some (Sum.inl v)) fun e => some (Sum.inr e)).bind (Sum.elim kn ke) := by
  simp only [f10_L4k, cond_bind, need_nat, Option.bind_assoc, sum_bind, lookC_bind, Option.bind_some, Option.bind_none, Sum.elim_inl, Sum.elim_inr]
noncomputable def f10_L4d : LD where
  CC := List AVal × Nat × List AVal × Nat
  V := Int
  E := (Unit) ⊕ (Unit)
  n := 2
  K := 2
  M := [some (.vec 0), some (.vec 1), none, none, none, some (.int .i64), none, none, none, none, none, none, none, none, none, none, none, none, none, none, none, none, none, none, none, none]
  B := [(0, .vec 7 false), (1, .vec 7 false)]
  pre := []
  F := fun s => [0, 1]
  toL := f10_L4toL
  ofL := f10_L4ofL
  ofL_ok := fun ls c v h => by
    unfold f10_L4ofL at h
    split at h
    · cases h; rfl
    · cases h
  stepK := f10_L4k
  nat := f10_L4nat
  sh := f10_L4sh
  out := f10_L4out
  toE := f10_L4toE
  conE := f10_L4conE
  ofE := f10_L4ofE
  ofE_ok := f10_L4ofE_ok
  post := fun cc e k => ((Sum.elim (fun e => k (.ret) (canonSt 2 [none, none, none, none, some (.bool false), none, none, none, none, none, none, none, none, none, none, none, none, none, none, none, none, none, none, none, none, none] [])) (fun e => k (.exit 0) (canonSt 2 [none, none, none, none, none, none, none, none, none, none, none, none, none, none, none, none, none, none, none, none, none, none, none, none, none, none] []))) e)
  post_eq := fun cc e k => by rcases e with e | e <;> rfl

theorem f10_L4_ok : LaOk Try.prog 2 f10_L4d.la (loopAt Try.f10 0) :=
  LD.ok (ch := ch_f10) (A := noAnns) tab_ok ch_f10_ok mixed (fuel := 60) ⟨by kernel_rfl, fun e => by (rcases e with e | e <;> kernel_rfl), fun cc v => by kernel_rfl, loops_ok (l := []) (by kernel_rfl) trivial⟩

/-- ninepin/ninepinref21.Same. -/
noncomputable def f10 (cs0 : List AVal) (n1 : Nat) (cs2 : List AVal) (n3 : Nat) : Option (Bool) :=
  (cond (((n1 : Nat) : Int) != ((n3 : Nat) : Int)) (some false) (Option.bind (f10_L4 (cs0, n1, cs2, n3) 0) (Sum.elim (fun e1 => (some false)) (fun e1 => (some true)))))

def f10_d : FD where
  X := Bool
  k := 2
  pre := []
  F := fun s => [0, 1]
  M := .bool
  B := []
  toL := fun x => [.B x]
  ofL := fun ls => match ls with
    | [.B x0] => some x0
    | _ => none
  ofL_ok := fun ls x h => by
    split at h
    · cases h; rfl
    · cases h

theorem f10_sem (cs0 : List AVal) (n1 : Nat) (cs2 : List AVal) (n3 : Nat) (x : Bool) (h : f10 cs0 n1 cs2 n3 = some x) : IsFn Try.prog 10 ∧ SemCall Try.prog 10 [.vec 0, .vec 1] ⟨2, numB 0 [.vec cs0 n1 7 false, .vec cs2 n3 7 false]⟩ (.ret (f10_d.val x)) ⟨2 + (f10_d.blks x).length, numB 2 (f10_d.blks x)⟩ :=
  FD.sem (ch := ch_f10) (A := annsOf [(4, f10_L4d.la)]) (fn := Try.f10) (c := bodyOf Try.f10) (fuel := 60) tab_ok ch_f10_ok mixed noNum f10_d Try.func10 (by kernel_rfl) (loops_ok (l := [loopAt Try.f10 0]) (by kernel_rfl) ⟨ann_one (by kernel_rfl) f10_L4_ok, trivial⟩)
    (by kernel_rfl) (Eq.trans (by kernel_rfl) h)

noncomputable def h10 : HK where
  call := fun args σ k => match args with
    | [x0, x1] => lendK σ 7 x0 fun cs0 n1 => lendK σ 7 x1 fun cs2 n3 => Option.bind (f10 cs0 n1 cs2 n3) fun y => retK σ 2 (f10_d.val y) (f10_d.blks y) k
    | _ => none
  nat := fun args σ k => by
    repeat' split
    all_goals simp only [lendK_nat, Option.bind_assoc, Option.bind_none, retK, Option.bind_some]
theorem h10_ok : HKOk Try.prog 10 h10 := by
  intro args σ r σ' h
  simp only [h10] at h
  split at h
  · rename_i x0 x1
    obtain ⟨cs0, n1, he0, hf0, h⟩ := lendK_spec h
    obtain ⟨cs2, n3, he1, hf1, h⟩ := lendK_spec h
    obtain ⟨y, hy, h⟩ := Option.bind_eq_some_iff.1 h
    exact lifted (xs := [x0, x1]) (ls := [.vec cs0 n1 7 false, .vec cs2 n3 7 false]) (cargs := [.vec 0, .vec 1]) (Lent.of ⟨⟨rfl, he0, hf0, by decide⟩, ⟨rfl, he1, hf1, by decide⟩, trivial⟩) rfl (f10_sem cs0 n1 cs2 n3 y hy) rfl rfl rfl rfl h
  · cases h

end Go.Ev
