/- cmp.Or[int]: what it computes, and that it does. Printed by dec.py. No statement is proved here. -/
import Derived.Test.YthjoljondlhhmaaEvZ
import Derived.Test.YthjoljondlhhmaaEvT
namespace Go.Ev
set_option linter.unusedVariables false
set_option linter.unusedSimpArgs false
open Go.Proofs
set_option maxRecDepth 100000
/-! ### 21: cmp.Or[int] -/

noncomputable def ch_f21 : CH := CH.none
theorem ch_f21_ok : CHOk Try.prog ch_f21 := CH.none_ok

/-- A round of the loop at 3. -/
noncomputable def f21_L3k {R : Type} (cc : List AVal × Nat × Int) (v : Int) (kn : (Int) → Option R) (ke : ((Int) ⊕ (Unit)) → Option R) : Option R :=
  (cond (decide (v < cc.2.2)) (need (decide (0 ≤ v) && decide (v < ((cc.2.1 : Nat) : Int))) (need (rowOk [.int .i64] cc.1 (Int.toNat v * 1)) (cond ((geti cc.1 ((Int.toNat v * 1) + 0)) != 0) (ke (.inl (geti cc.1 ((Int.toNat v * 1) + 0)))) (kn (IntKind.wrap .i64 (v + 1)))))) (ke (.inr ())))

noncomputable def f21_L3s (cc : List AVal × Nat × Int) (v : Int) : Option ((Int) ⊕ ((Int) ⊕ (Unit))) := f21_L3k cc v (fun v => some (Sum.inl v)) fun e => some (Sum.inr e)

noncomputable def f21_L3 (cc : List AVal × Nat × Int) (v : Int) : Option ((Int) ⊕ (Unit)) := loopω (f21_L3s cc) v

def f21_L3toL (cc : List AVal × Nat × Int) (v : Int) : List Leaf := [.I cc.2.2, .I v, .C cc.1, .N cc.2.1]
def f21_L3ofL (ls : List Leaf) : Option ((List AVal × Nat × Int) × (Int)) := match ls with
  | [.I x0, .I x1, .C x2, .N x3] => some ((x2, x3, x0), x1)
  | _ => none
def f21_L3out (e : (Int) ⊕ (Unit)) : AOut := ((Sum.elim (fun e => .ret) (fun e => .exit 0)) e)
def f21_L3toE (cc : List AVal × Nat × Int) (e : (Int) ⊕ (Unit)) : List Leaf := ((Sum.elim (fun e => [.I e]) (fun e => [])) e)
def f21_L3conE (cc : List AVal × Nat × Int) (e : (Int) ⊕ (Unit)) : List Leaf := ((Sum.elim (fun e => []) (fun e => [])) e)
def f21_L3ofE (o : AOut) (ls : List Leaf) : Option (((Int) ⊕ (Unit)) × List Leaf) := match o with
  | .ret => (match ls with
    | [.I x0] => some ((.inl x0), [])
    | _ => none)
  | .exit 0 => (match ls with
    | [] => some ((.inr ()), [])
    | _ => none)
  | _ => none
theorem f21_L3ofE_ok : ∀ o ls e cl cc, f21_L3ofE o ls = some (e, cl) → cl = f21_L3conE cc e → ls = f21_L3toE cc e ∧ f21_L3out e = o ∧ o ≠ .normal ∧ ∀ v, o ≠ .pan v := by
  intro o ls e cl cc h hc
  unfold f21_L3ofE at h
  split at h
  · split at h
    · cases h
      exact ⟨rfl, rfl, by simp, by simp⟩
    · cases h
  · split at h
    · cases h
      exact ⟨rfl, rfl, by simp, by simp⟩
    · cases h
  · cases h
def f21_L3sh (o : AOut) : ExS := match o with
  | .ret => ⟨1, [none, none, some (.int .i64), none, none, none, none, none, none, none, none, none, none, none, none, none, none, none], [], fun s => [0], []⟩
  | .exit 0 => ⟨1, [none, none, none, some (.litI .i64 0), none, none, none, none, none, none, none, none, none, none, none, none, none, none], [], fun s => [0], []⟩
  | _ => ⟨0, [], [], fun _ => [], []⟩
theorem f21_L3nat {R : Type} (cc : List AVal × Nat × Int) (v : Int) (kn : (Int) → Option R) (ke : ((Int) ⊕ (Unit)) → Option R) : f21_L3k cc v kn ke = (f21_L3k cc v (fun v => some (Sum.inl v)) fun e => some (Sum.inr e)).bind (Sum.elim kn ke) := by
  simp only [f21_L3k, cond_bind, need_nat, Option.bind_assoc, sum_bind, lookC_bind, Option.bind_some, Option.bind_none, Sum.elim_inl, Sum.elim_inr]
noncomputable def f21_L3d : LD where
  CC := List AVal × Nat × Int
  V := Int
  E := (Int) ⊕ (Unit)
  n := 1
  K := 1
  M := [none, none, none, some (.litI .i64 0), none, none, some (.vec 0), some (.int .i64), some (.int .i64), none, none, none, none, none, none, none, none, none]
  B := [(0, .vec 1 false)]
  pre := []
  F := fun s => [0]
  toL := f21_L3toL
  ofL := f21_L3ofL
  ofL_ok := fun ls c v h => by
    unfold f21_L3ofL at h
    split at h
    · cases h; rfl
    · cases h
  stepK := f21_L3k
  nat := f21_L3nat
  sh := f21_L3sh
  out := f21_L3out
  toE := f21_L3toE
  conE := f21_L3conE
  ofE := f21_L3ofE
  ofE_ok := f21_L3ofE_ok
  post := fun cc e k => ((Sum.elim (fun e => k (.ret) (canonSt 1 [none, none, some (.int .i64 e), none, none, none, none, none, none, none, none, none, none, none, none, none, none, none] [])) (fun e => k (.exit 0) (canonSt 1 [none, none, none, some (.int .i64 0), none, none, none, none, none, none, none, none, none, none, none, none, none, none] []))) e)
  post_eq := fun cc e k => by rcases e with e | e <;> rfl

theorem f21_L3_ok : LaOk Try.prog 1 f21_L3d.la (loopAt Try.f21 0) :=
  LD.ok (ch := ch_f21) (A := noAnns) tab_ok ch_f21_ok mixed (fuel := 60) ⟨by kernel_rfl, fun e => by (rcases e with e | e <;> kernel_rfl), fun cc v => by kernel_rfl, loops_ok (l := []) (by kernel_rfl) trivial⟩

/-- cmp.Or[int]. -/
noncomputable def f21 (cs0 : List AVal) (n1 : Nat) : Option (Int) :=
  (Option.bind (f21_L3 (cs0, n1, ((n1 : Nat) : Int)) 0) (Sum.elim (fun e1 => (some e1)) (fun e1 => (some 0))))

def f21_d : FD where
  X := Int
  k := 1
  pre := []
  F := fun s => [0]
  M := .int .i64
  B := []
  toL := fun x => [.I x]
  ofL := fun ls => match ls with
    | [.I x0] => some x0
    | _ => none
  ofL_ok := fun ls x h => by
    split at h
    · cases h; rfl
    · cases h

theorem f21_sem (cs0 : List AVal) (n1 : Nat) (x : Int) (h : f21 cs0 n1 = some x) : IsFn Try.prog 21 ∧ SemCall Try.prog 21 [.vec 0] ⟨1, numB 0 [.vec cs0 n1 1 false]⟩ (.ret (f21_d.val x)) ⟨1 + (f21_d.blks x).length, numB 1 (f21_d.blks x)⟩ :=
  FD.sem (ch := ch_f21) (A := annsOf [(3, f21_L3d.la)]) (fn := Try.f21) (c := bodyOf Try.f21) (fuel := 60) tab_ok ch_f21_ok mixed noNum f21_d Try.func21 (by kernel_rfl) (loops_ok (l := [loopAt Try.f21 0]) (by kernel_rfl) ⟨ann_one (by kernel_rfl) f21_L3_ok, trivial⟩)
    (by kernel_rfl) (Eq.trans (by kernel_rfl) h)

noncomputable def h21 : HK where
  call := fun args σ k => match args with
    | [x0] => lendK σ 1 x0 fun cs0 n1 => Option.bind (f21 cs0 n1) fun y => retK σ 1 (f21_d.val y) (f21_d.blks y) k
    | _ => none
  nat := fun args σ k => by
    repeat' split
    all_goals simp only [lendK_nat, Option.bind_assoc, Option.bind_none, retK, Option.bind_some]
theorem h21_ok : HKOk Try.prog 21 h21 := by
  intro args σ r σ' h
  simp only [h21] at h
  split at h
  · rename_i x0
    obtain ⟨cs0, n1, he0, hf0, h⟩ := lendK_spec h
    obtain ⟨y, hy, h⟩ := Option.bind_eq_some_iff.1 h
    exact lifted (xs := [x0]) (ls := [.vec cs0 n1 1 false]) (cargs := [.vec 0]) (Lent.of ⟨⟨rfl, he0, hf0, by decide⟩, trivial⟩) rfl (f21_sem cs0 n1 y hy) rfl rfl rfl rfl h
  · cases h

end Go.Ev
