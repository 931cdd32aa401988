/- ninepin/cache.checked: what it computes, and that it does. Printed by dec.py. No statement is proved here. -/
import Derived.Test.YthjoljondlhhmaaEvZ
import Derived.Test.YthjoljondlhhmaaEvT
import Derived.Test.YthjoljondlhhmaaDf14
import Derived.Test.YthjoljondlhhmaaDf19
import Derived.Test.YthjoljondlhhmaaDf23
namespace Go.Ev
set_option linter.unusedVariables false
set_option linter.unusedSimpArgs false
open Go.Proofs
set_option maxRecDepth 100000
/-! ### 18: ninepin/cache.checked -/

noncomputable def ch_f18a : CH := (CH.add 23 h23 (CH.add 19 h19 (CH.add 14 h14 CH.none)))
theorem ch_f18a_ok : CHOk Try.prog ch_f18a := (CH.add_ok h23_ok (CH.add_ok h19_ok (CH.add_ok h14_ok CH.none_ok)))

/-- A round of the loop at 4. -/
noncomputable def f18a_L4k {R : Type} (cc : List AVal × Nat × Int) (v : Int) (kn : (Int) → Option R) (ke : ((Unit) ⊕ (Unit)) → Option R) : Option R :=
  (cond (decide (v < cc.2.2)) (Option.bind (f19 v cc.1 cc.2.1) fun r1 => (Option.bind (f23 r1.1 r1.2.1 r1.2.2.1 r1.2.2.2) fun r2 => (cond r2 (cond (decide (v > 0)) (Option.bind (f19 (IntKind.wrap .i64 (v - 1)) cc.1 cc.2.1) fun r3 => (Option.bind (f19 v cc.1 cc.2.1) fun r4 => (Option.bind (f14 r3.1 r3.2.1 r3.2.2.1 r3.2.2.2 r4.1 r4.2.1 r4.2.2.1 r4.2.2.2) fun r5 => (cond (decide (r5 ≥ 0)) (ke (.inl ())) (kn (IntKind.wrap .i64 (v + 1))))))) (kn (IntKind.wrap .i64 (v + 1)))) (ke (.inl ()))))) (ke (.inr ())))

noncomputable def f18a_L4s (cc : List AVal × Nat × Int) (v : Int) : Option ((Int) ⊕ ((Unit) ⊕ (Unit))) := f18a_L4k cc v (fun v => some (Sum.inl v)) fun e => some (Sum.inr e)

noncomputable def f18a_L4 (cc : List AVal × Nat × Int) (v : Int) : Option ((Unit) ⊕ (Unit)) := loopω (f18a_L4s cc) v

def f18a_L4toL (cc : List AVal × Nat × Int) (v : Int) : List Leaf := [.I cc.2.2, .I v, .C cc.1, .N cc.2.1]
def f18a_L4ofL (ls : List Leaf) : Option ((List AVal × Nat × Int) × (Int)) := match ls with
  | [.I x0, .I x1, .C x2, .N x3] => some ((x2, x3, x0), x1)
  | _ => none
def f18a_L4out (e : (Unit) ⊕ (Unit)) : AOut := ((Sum.elim (fun e => .ret) (fun e => .exit 0)) e)
def f18a_L4toE (cc : List AVal × Nat × Int) (e : (Unit) ⊕ (Unit)) : List Leaf := ((Sum.elim (fun e => []) (fun e => [])) e)
def f18a_L4conE (cc : List AVal × Nat × Int) (e : (Unit) ⊕ (Unit)) : List Leaf := ((Sum.elim (fun e => []) (fun e => [])) e)
def f18a_L4ofE (o : AOut) (ls : List Leaf) : Option (((Unit) ⊕ (Unit)) × List Leaf) := match o with
  | .ret => (match ls with
    | [] => some ((.inl ()), [])
    | _ => none)
  | .exit 0 => (match ls with
    | [] => some ((.inr ()), [])
    | _ => none)
  | _ => none
theorem f18a_L4ofE_ok : ∀ o ls e cl cc, f18a_L4ofE o ls = some (e, cl) → cl = f18a_L4conE cc e → ls = f18a_L4toE cc e ∧ f18a_L4out e = o ∧ o ≠ .normal ∧ ∀ v, o ≠ .pan v := by
  intro o ls e cl cc h hc
  unfold f18a_L4ofE at h
  split at h
  · split at h
    · cases h
      exact ⟨rfl, rfl, by simp, by simp⟩
    · cases h
  · split at h
    · cases h
      exact ⟨rfl, rfl, by simp, by simp⟩
    · cases h
  · cases h
def f18a_L4sh (o : AOut) : ExS := match o with
  | .ret => ⟨2, [none, none, none, none, some (.litI .i64 2), none, none, none, none, none, none, none, none, none, none, none, none, none, none, none, none, none, none, none, none, none, none, none, none, none, none, none, none], [], fun s => [0, 1], []⟩
  | .exit 0 => ⟨2, [none, none, none, none, none, none, none, none, none, none, none, none, none, none, none, none, none, none, none, none, none, none, none, none, none, none, none, none, none, none, none, none, none], [], fun s => [0, 1], []⟩
  | _ => ⟨0, [], [], fun _ => [], []⟩
theorem f18a_L4nat {R : Type} (cc : List AVal × Nat × Int) (v : Int) (kn : (Int) → Option R) (ke : ((Unit) ⊕ (Unit)) → Option R) : f18a_L4k cc v kn ke = (f18a_L4k cc v (fun v => some (Sum.inl v)) fun e => some (Sum.inr e)).bind (Sum.elim kn ke) := by
  simp only [f18a_L4k, cond_bind, need_nat, Option.bind_assoc, sum_bind, lookC_bind, Option.bind_some, Option.bind_none, Sum.elim_inl, Sum.elim_inr]
noncomputable def f18a_L4d : LD where
  CC := List AVal × Nat × Int
  V := Int
  E := (Unit) ⊕ (Unit)
  n := 2
  K := 2
  M := [none, some (.func 19 [] [.ptr 0 0]), none, none, none, none, none, none, some (.int .i64), some (.int .i64), none, none, none, none, none, none, none, none, none, none, none, none, none, none, none, none, none, none, none, none, none, none, none]
  B := [(0, .cells [.vec 1] false none), (1, .vec 4 false)]
  pre := []
  F := fun s => [0, 1]
  toL := f18a_L4toL
  ofL := f18a_L4ofL
  ofL_ok := fun ls c v h => by
    unfold f18a_L4ofL at h
    split at h
    · cases h; rfl
    · cases h
  stepK := f18a_L4k
  nat := f18a_L4nat
  sh := f18a_L4sh
  out := f18a_L4out
  toE := f18a_L4toE
  conE := f18a_L4conE
  ofE := f18a_L4ofE
  ofE_ok := f18a_L4ofE_ok
  post := fun cc e k => ((Sum.elim (fun e => k (.ret) (canonSt 2 [none, none, none, none, some (.int .i64 2), none, none, none, none, none, none, none, none, none, none, none, none, none, none, none, none, none, none, none, none, none, none, none, none, none, none, none, none] [])) (fun e => k (.exit 0) (canonSt 2 [none, none, none, none, none, none, none, none, none, none, none, none, none, none, none, none, none, none, none, none, none, none, none, none, none, none, none, none, none, none, none, none, none] []))) e)
  post_eq := fun cc e k => by rcases e with e | e <;> rfl

theorem f18a_L4_ok : LaOk Try.prog 2 f18a_L4d.la (loopAt Try.f18 0) :=
  LD.ok (ch := ch_f18a) (A := noAnns) tab_ok ch_f18a_ok mixed (fuel := 60) ⟨by kernel_rfl, fun e => by (rcases e with e | e <;> kernel_rfl), fun cc v => by kernel_rfl, loops_ok (l := []) (by kernel_rfl) trivial⟩

/-- ninepin/cache.checked. -/
noncomputable def f18a (a0 : Int) (cs1 : List AVal) (n2 : Nat) : Option (Int) :=
  (cond (decide (a0 > 65536)) (some 3) (Option.bind (f18a_L4 (cs1, n2, a0) 0) (Sum.elim (fun e1 => (some 2)) (fun e1 => (some 0)))))

def f18a_d : FD where
  X := Int
  k := 2
  pre := []
  F := fun s => [0, 1]
  M := .int .i64
  B := []
  toL := fun x => [.I x]
  ofL := fun ls => match ls with
    | [.I x0] => some x0
    | _ => none
  ofL_ok := fun ls x h => by
    split at h
    · cases h; rfl
    · cases h

theorem f18a_sem (a0 : Int) (cs1 : List AVal) (n2 : Nat) (x : Int) (h : f18a a0 cs1 n2 = some x) : IsFn Try.prog 18 ∧ SemCall Try.prog 18 [.int .i64 a0, .func 19 [] [.ptr 0 0]] ⟨2, numB 0 [.cells [.vec 1] false none, .vec cs1 n2 4 false]⟩ (.ret (f18a_d.val x)) ⟨2 + (f18a_d.blks x).length, numB 2 (f18a_d.blks x)⟩ :=
  FD.sem (ch := ch_f18a) (A := annsOf [(4, f18a_L4d.la)]) (fn := Try.f18) (c := bodyOf Try.f18) (fuel := 60) tab_ok ch_f18a_ok mixed noNum f18a_d Try.func18 (by kernel_rfl) (loops_ok (l := [loopAt Try.f18 0]) (by kernel_rfl) ⟨ann_one (by kernel_rfl) f18a_L4_ok, trivial⟩)
    (by kernel_rfl) (Eq.trans (by kernel_rfl) h)

noncomputable def h18a : HK where
  call := fun args σ k => match args with
    | [.int .i64 a0, .func 19 [] [.ptr b0 0]] => match σ.get b0 with | some (.cells [x1] _ _) => (lendK σ 4 x1 fun cs1 n2 => Option.bind (f18a a0 cs1 n2) fun y => retK σ 2 (f18a_d.val y) (f18a_d.blks y) k) | _ => none
    | _ => none
  nat := fun args σ k => by
    repeat' split
    all_goals simp only [lendK_nat, Option.bind_assoc, Option.bind_none, retK, Option.bind_some]
theorem h18a_ok : HKOk Try.prog 18 h18a := by
  intro args σ r σ' h
  simp only [h18a] at h
  split at h
  · rename_i a0 b0
    split at h
    · rename_i x1 own0 gr0 hb0
      obtain ⟨cs1, n2, he1, hf1, h⟩ := lendK_spec h
      obtain ⟨y, hy, h⟩ := Option.bind_eq_some_iff.1 h
      exact lifted (xs := [.ptr b0 0, x1]) (ls := [.cells [.vec 1] false none, .vec cs1 n2 4 false]) (cargs := [.int .i64 a0, .func 19 [] [.ptr 0 0]]) (Lent.of ⟨⟨rfl, rfl, by simp, rfl, b0, 0, rfl, by simp [cellsAt, hb0, subL, sub]⟩, ⟨rfl, he1, hf1, by decide⟩, trivial⟩) rfl (f18a_sem a0 cs1 n2 y hy) rfl rfl rfl rfl h
    · cases h
  · cases h

end Go.Ev
