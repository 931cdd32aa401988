import Derived.Test.YtbmjabafceihgaaKam
import Derived.Deep.Slices
import Derived.WalkKit
import Derived.ProofKit
import Derived.OpenShut
import Derived.ChangeOld
import Derived.Below
import Derived.SizedLaws
set_option linter.unusedVariables false
set_option linter.unusedSimpArgs false
set_option maxRecDepth 100000
noncomputable section
namespace Go.Ev
open Go.Proofs
abbrev yT := (I8 (I8 (I8 (I8 (Int × LA_ × Nat)))))
abbrev ub := Int × Int × Int × Int × Int × LA_ × Nat
def Hn : CH := (CH.add 56 yU (CH.add 6 pb CH.none))
theorem Dl : aD U3 Hn := (CH.ai IZ (CH.ai sW CH.aB))
def wW (cs0 : LA_) (n1 : Nat) (cs2 : LA_) (n3 : Nat) : Option (yT) :=
 (Option.bind (yV cs0 n1 cs2 n3) fun r1 => (cond (r1.1 != 0) (some (0, 0, 0, 0, 0, 0, 0, 0, 0, 0, 0, 0, 0, 0, 0, 0, 0, 0, 0, 0, 0, 0, 0, 0, 0, 0, 0, 0, 0, 0, 0, 0, r1.1, ([] : LA_), 0)) (Option.bind (cf r1.2.1 r1.2.2) fun r2 => (some (aV r2.1 (aV r2.2.1 (aV r2.2.2.1 (aV r2.2.2.2.1 (r2.2.2.2.2.1, r2.2.2.2.2.2.1, r2.2.2.2.2.2.2)))))))))
def eL : FD where
 X := yT
 k := 2
 pre := [(33000004, 1)]
 F := fun s => [0, 1, nameAt s 0 [.c 0, .c 32]]
 M := .tup [.agg (rl (.int .u64) 32 [.vec 2]), .int .i64]
 B := [.vec 1 true]
 toL := fun x => [.I x.1, .I x.2.1, .I x.2.2.1, .I x.2.2.2.1, .I x.s4.1, .I x.s4.2.1, .I x.s4.2.2.1, .I x.s4.2.2.2.1, .I x.s8.1, .I x.s8.2.1, .I x.s8.2.2.1, .I x.s8.2.2.2.1, .I x.s8.s4.1, .I x.s8.s4.2.1, .I x.s8.s4.2.2.1, .I x.s8.s4.2.2.2.1, .I x.s16.1, .I x.s16.2.1, .I x.s16.2.2.1, .I x.s16.2.2.2.1, .I x.s16.s4.1, .I x.s16.s4.2.1, .I x.s16.s4.2.2.1, .I x.s16.s4.2.2.2.1, .I x.s16.s8.1, .I x.s16.s8.2.1, .I x.s16.s8.2.2.1, .I x.s16.s8.2.2.2.1, .I x.s16.s8.s4.1, .I x.s16.s8.s4.2.1, .I x.s16.s8.s4.2.2.1, .I x.s16.s8.s4.2.2.2.1, .I x.s16.s16.1, .C x.s16.s16.2.1, .N x.s16.s16.2.2]
 ofL := fun ls => match ls with
  | (.I x0 :: .I x1 :: .I x2 :: .I x3 :: .I x4 :: .I x5 :: .I x6 :: .I x7 :: .I x8 :: .I x9 :: .I x10 :: .I x11 :: .I x12 :: .I x13 :: .I x14 :: .I x15 :: .I x16 :: .I x17 :: .I x18 :: .I x19 :: .I x20 :: .I x21 :: .I x22 :: .I x23 :: .I x24 :: .I x25 :: .I x26 :: .I x27 :: .I x28 :: .I x29 :: .I x30 :: .I x31 :: .I x32 :: .C x33 :: .N x34 :: []) => some (x0, x1, x2, x3, x4, x5, x6, x7, x8, x9, x10, x11, x12, x13, x14, x15, x16, x17, x18, x19, x20, x21, x22, x23, x24, x25, x26, x27, x28, x29, x30, x31, x32, x33, x34)
  | _ => none
 ar := fun ls x h => by
  split at h
  ·cases h; rfl
  ·cases h
theorem FN (cs0 : LA_) (n1 : Nat) (cs2 : LA_) (n3 : Nat) (x : yT) (h : wW cs0 n1 cs2 n3 = some x) : ba U3 32 2 [.vec 0, .vec 1] [.vec cs0 n1 3 false, .vec cs2 n3 3 false] eL x :=
 FD.semA eL Dl Try.func32 (fuel := 60) (by kernel_rfl) (by kernel_rfl)
  (by kernel_rfl) (Eq.trans (by kernel_rfl) h)
def nq (cs0 : LA_) (n1 : Nat) (cs2 : LA_) (n3 : Nat) : Option (ub) := Option.bind (wW cs0 n1 cs2 n3) fun (x0, x1, x2, x3, x4, x5, x6, x7, x8, x9, x10, x11, x12, x13, x14, x15, x16, x17, x18, x19, x20, x21, x22, x23, x24, x25, x26, x27, x28, x29, x30, x31, x32, x33, x34) => af (ok8 x0 x1 x2 x3 x4 x5 x6 x7 && ok8 x8 x9 x10 x11 x12 x13 x14 x15 && ok8 x16 x17 x18 x19 x20 x21 x22 x23 && ok8 x24 x25 x26 x27 x28 x29 x30 x31) (some ((num x0 x1 x2 x3 x4 x5 x6 x7), (num x8 x9 x10 x11 x12 x13 x14 x15), (num x16 x17 x18 x19 x20 x21 x22 x23), (num x24 x25 x26 x27 x28 x29 x30 x31), x32, x33, x34))
def sX : FD := ⟨ub, eL.k, eL.pre, eL.F, eL.M, eL.B, fun y => eL.toL (aV y.1 (aV y.2.1 (aV y.2.2.1 (aV y.2.2.2.1 (y.s4.1, y.s4.2.1, y.s4.2.2))))), fun _ => none, fun _ _ h => by cases h⟩
theorem Ho (cs0 : LA_) (n1 : Nat) (cs2 : LA_) (n3 : Nat) {y : ub} (h : nq cs0 n1 cs2 n3 = some y) : wW cs0 n1 cs2 n3 = some (aV y.1 (aV y.2.1 (aV y.2.2.1 (aV y.2.2.2.1 (y.s4.1, y.s4.2.1, y.s4.2.2))))) := by
 unfold nq at h
 obtain ⟨⟨x0, x1, x2, x3, x4, x5, x6, x7, x8, x9, x10, x11, x12, x13, x14, x15, x16, x17, x18, x19, x20, x21, x22, x23, x24, x25, x26, x27, x28, x29, x30, x31, x32, x33, x34⟩, h1, h2⟩ := bE_ h
 obtain ⟨h3, h4⟩ := aF h2
 simp only [UD, and_assoc] at h3
 simp only [UC] at h4
 subst h4
 obtain ⟨o0, o1, o2, o3⟩ := h3
 have q0 := aN o0
 have q1 := aN o1
 have q2 := aN o2
 have q3 := aN o3
 rw [h1]
 simp only [aV, q0, q1, q2, q3]
theorem FO (cs0 : LA_) (n1 : Nat) (cs2 : LA_) (n3 : Nat) (y : ub) (h : nq cs0 n1 cs2 n3 = some y) : ba U3 32 2 [.vec 0, .vec 1] [.vec cs0 n1 3 false, .vec cs2 n3 3 false] sX y := FN cs0 n1 cs2 n3 _ (Ho cs0 n1 cs2 n3 h)
def wX : HK where
 call := fun args σ k => match args with
  | [x0, x1] => cC σ 3 x0 fun cs0 n1 => cC σ 3 x1 fun cs2 n3 => Option.bind (nq cs0 n1 cs2 n3) fun y => az σ 2 (sX.val y) (sX.aJ y) k
  | _ => none
 nat := fun args σ k => by
  repeat' split
  all_goals simp only [av, aj, UB, UA, az, Uz]
 pure := false
 pok := fun h => by cases h
theorem Hp : aU U3 32 wX := by
 intro args σ r σ' h
 simp only [wX] at h
 split at h
 ·rename_i x0 x1
  obtain ⟨cs0, n1, he0, hf0, h⟩ := bp h
  obtain ⟨cs2, n3, he1, hf1, h⟩ := bp h
  obtain ⟨y, hy, h⟩ := bE_ h
  exact lifted (xs := [x0, x1]) (ls := [.vec cs0 n1 3 false, .vec cs2 n3 3 false]) (cargs := [.vec 0, .vec 1]) (bA.of ⟨⟨rfl, he0, hf0, by decide⟩, ⟨rfl, he1, hf1, by decide⟩, trivial⟩) rfl (FO cs0 n1 cs2 n3 y hy) rfl rfl rfl rfl h
 ·cases h
def Hy : CH := (CH.add 32 wX CH.none)
theorem Ds : aD U3 Hy := (CH.ai Hp CH.aB)
def ns (cs0 : LA_) (n1 : Nat) (cs2 : LA_) (n3 : Nat) : Option (Bool × Int) :=
 (Option.bind (nq cs0 n1 cs2 n3) fun r1 => (cond (r1.2.2.2.2.1 == 0) (cond ((aa r1.1 0) == 0 && ((aa r1.1 1) == 0 && ((aa r1.1 2) == 0 && ((aa r1.1 3) == 0 && ((aa r1.1 4) == 0 && ((aa r1.1 5) == 0 && ((aa r1.1 6) == 0 && ((aa r1.1 7) == 0 && ((aa r1.2.1 0) == 0 && ((aa r1.2.1 1) == 0 && ((aa r1.2.1 2) == 0 && ((aa r1.2.1 3) == 0 && ((aa r1.2.1 4) == 0 && ((aa r1.2.1 5) == 0 && ((aa r1.2.1 6) == 0 && ((aa r1.2.1 7) == 0 && ((aa r1.2.2.1 0) == 0 && ((aa r1.2.2.1 1) == 0 && ((aa r1.2.2.1 2) == 0 && ((aa r1.2.2.1 3) == 0 && ((aa r1.2.2.1 4) == 0 && ((aa r1.2.2.1 5) == 0 && ((aa r1.2.2.1 6) == 0 && ((aa r1.2.2.1 7) == 0 && true)))))))))))))))))))))))) (some (true, r1.2.2.2.2.1)) (some (false, r1.2.2.2.2.1))) (some (false, r1.2.2.2.2.1))))
def nH : FD where
 X := Bool × Int
 k := 2
 pre := []
 F := fun s => [0, 1]
 M := .tup [.bool, .int .i64]
 B := []
 toL := fun x => [.B x.1, .I x.2]
 ofL := fun ls => match ls with
  | [.B x0, .I x1] => some (x0, x1)
  | _ => none
 ar := fun ls x h => by
  split at h
  ·cases h; rfl
  ·cases h
theorem FX (cs0 : LA_) (n1 : Nat) (cs2 : LA_) (n3 : Nat) (x : Bool × Int) (h : ns cs0 n1 cs2 n3 = some x) : ba U3 17 2 [.vec 0, .vec 1] [.vec cs0 n1 3 false, .vec cs2 n3 3 false] nH x :=
 FD.semA nH Ds Try.func17 (fuel := 60) (by kernel_rfl) (by kernel_rfl)
  (by kernel_rfl) (Eq.trans (by kernel_rfl) h)
def wZ : HK where
 call := fun args σ k => match args with
  | [x0, x1] => cC σ 3 x0 fun cs0 n1 => cC σ 3 x1 fun cs2 n3 => Option.bind (ns cs0 n1 cs2 n3) fun y => az σ 2 (nH.val y) (nH.aJ y) k
  | _ => none
 nat := fun args σ k => by
  repeat' split
  all_goals simp only [av, aj, UB, UA, az, Uz]
 pure := false
 pok := fun h => by cases h
theorem Hz : aU U3 17 wZ := by
 intro args σ r σ' h
 simp only [wZ] at h
 split at h
 ·rename_i x0 x1
  obtain ⟨cs0, n1, he0, hf0, h⟩ := bp h
  obtain ⟨cs2, n3, he1, hf1, h⟩ := bp h
  obtain ⟨y, hy, h⟩ := bE_ h
  exact lifted (xs := [x0, x1]) (ls := [.vec cs0 n1 3 false, .vec cs2 n3 3 false]) (cargs := [.vec 0, .vec 1]) (bA.of ⟨⟨rfl, he0, hf0, by decide⟩, ⟨rfl, he1, hf1, by decide⟩, trivial⟩) rfl (FX cs0 n1 cs2 n3 y hy) rfl rfl rfl rfl h
 ·cases h
def jd : CH := CH.none
theorem lj : aD U3 jd := CH.aB
def dL {R : Type} (cc : Int × Int) (v : LA_ × Nat × Int) (kn : (LA_ × Nat × Int) → Option R) (ke : ((LA_ × Nat)) → Option R) : Option R :=
 (cond (decide (v.2.2 < 8)) (af (decide (2 * (v.2.1 + 1) * 24 ≤ 2 ^ 48)) (kn ((v.1 ++ [.int .i64 (IntKind.wrap .i64 (cc.1 + (IntKind.wrap .i64 ((Int.tmod v.2.2 2) * cc.2)))), .int .i64 (IntKind.wrap .i64 (cc.1 + (IntKind.wrap .i64 ((Int.tmod (IntKind.wrap .i64 (Int.tdiv v.2.2 2)) 2) * cc.2)))), .int .i64 (IntKind.wrap .i64 (cc.1 + (IntKind.wrap .i64 ((IntKind.wrap .i64 (Int.tdiv v.2.2 4)) * cc.2))))]), (v.2.1 + 1), (IntKind.wrap .i64 (v.2.2 + 1))))) (ke (v.1, v.2.1)))
def xd (cc : Int × Int) (v : LA_ × Nat × Int) : Option ((LA_ × Nat × Int) ⊕ ((LA_ × Nat))) := dL cc v (fun v => some (Sum.inl v)) fun e => some (Sum.inr e)
def xW (cc : Int × Int) (v : LA_ × Nat × Int) : Option ((LA_ × Nat)) := dF (xd cc) v
def vg (cc : Int × Int) (v : LA_ × Nat × Int) : List ah := [.I cc.1, .I cc.2, .I v.2.2, .C v.1, .N v.2.1]
def ll (ls : List ah) : Option ((Int × Int) × (LA_ × Nat × Int)) := match ls with
 | [.I x0, .I x1, .I x2, .C x3, .N x4] => some ((x0, x1), (x3, x4, x2))
 | _ => none
def lm (e : (LA_ × Nat)) : an := ((fun e => .exit 0) e)
def ln (cc : Int × Int) (e : (LA_ × Nat)) : List ah := ((fun e => [.C e.1, .N e.2]) e)
def kT (cc : Int × Int) (e : (LA_ × Nat)) : List ah := ((fun e => []) e)
def gD (o : an) (ls : List ah) : Option (((LA_ × Nat)) × List ah) := match o with
 | .exit 0 => (match ls with
  | [.C x0, .N x1] => some ((x0, x1), [])
  | _ => none)
 | _ => none
theorem sf : ∀ o ls e cl cc, gD o ls = some (e, cl) → cl = kT cc e → ls = ln cc e ∧ lm e = o ∧ o ≠ .normal ∧ ∀ v, o = .pan v → sc 0 v = true := by
 intro o ls e cl cc h hc
 unfold gD at h
 split at h
 ·split at h
  ·cases h
   exact ⟨rfl, rfl, by simp, by intro v hv; cases hv <;> rfl⟩
  ·cases h
 ·cases h
def vY (o : an) : ExS := match o with
 | .exit 0 => ⟨1, (rl none 5 (some (.vec 0) :: (rl none 33 []))), [(0, .vec 3 true)], fun s => [nameAt s 5 []], [], []⟩
 | _ => ⟨0, [], [], fun _ => [], [], []⟩
theorem vh {R : Type} (cc : Int × Int) (v : LA_ × Nat × Int) (kn : (LA_ × Nat × Int) → Option R) (ke : ((LA_ × Nat)) → Option R) : dL cc v kn ke = (dL cc v (fun v => some (Sum.inl v)) fun e => some (Sum.inr e)).bind (Sum.elim kn ke) := by
 simp only [dL, bL, aj, UB, cb, bH, Uz, UA, U0, UZ]
def nu : LD where
 CC := Int × Int
 V := LA_ × Nat × Int
 E := (LA_ × Nat)
 n := 0
 K := 1
 M := (some (.int .i64) :: none :: none :: none :: none :: some (.vec 0) :: some (.int .i64) :: some (.int .i64) :: (rl none 31 []))
 B := [(0, .vec 3 true)]
 D := []
 pre := [(5, 3)]
 F := fun s => [nameAt s 5 []]
 toL := vg
 ofL := ll
 ar := fun ls c v h => by
  unfold ll at h
  split at h
  ·cases h; rfl
  ·cases h
 cq := dL
 nat := vh
 sh := vY
 out := lm
 toE := ln
 fw := kT
 ofE := gD
 dj := sf
 post := fun cc e k => ((fun e => k (.exit 0) (bf 1 (rl none 5 (some (.vec 0) :: (rl none 33 []))) [(0, .vec e.1 e.2 3 true)] [])) e)
 cj := fun cc e k => by rfl
theorem vj : cN U3 0 nu.la (aI Try.f18 0) :=
 LD.ok (ch := jd) (A := bz) aH lj mixed (fuel := 60) ⟨by kernel_rfl, fun e => by kernel_rfl, fun cc v => by kernel_rfl, aG (l := []) (by kernel_rfl) trivial⟩
def fD (a0 a1 : Int) : Option (LA_ × Nat) :=
 (Option.bind (xW (a0, (IntKind.wrap .i64 (a1 - a0))) (([] : LA_), 0, 0)) fun e1 => (some (e1.1, e1.2)))
def ga : FD where
 X := LA_ × Nat
 k := 0
 pre := [(4, 3)]
 F := fun s => [nameAt s 0 []]
 M := .vec 0
 B := [.vec 3 true]
 toL := fun x => [.C x.1, .N x.2]
 ofL := fun ls => match ls with
  | [.C x0, .N x1] => some (x0, x1)
  | _ => none
 ar := fun ls x h => by
  split at h
  ·cases h; rfl
  ·cases h
theorem xe (a0 a1 : Int) (x : LA_ × Nat) (h : fD a0 a1 = some x) : ba U3 18 0 [.int .i64 a0, .int .i64 a1] [] ga x :=
 FD.sem (ch := jd) (A := eo [(4, nu.la)]) (fn := Try.f18) (c := bn Try.f18) (fuel := 60) aH lj mixed bF ga Try.func18 (by kernel_rfl) (aG (l := [aI Try.f18 0]) (by kernel_rfl) ⟨bX (by kernel_rfl) vj, trivial⟩)
  (by kernel_rfl) (Eq.trans (by kernel_rfl) h)
def li : HK where
 call := fun args σ k => match args with
  | [.int .i64 a0, .int .i64 a1] => Option.bind (fD a0 a1) fun y => az σ 0 (ga.val y) (ga.aJ y) k
  | _ => none
 nat := fun args σ k => by
  repeat' split
  all_goals simp only [av, aj, UB, UA, az, Uz]
 pure := false
 pok := fun h => by cases h
theorem xV : aU U3 18 li := by
 intro args σ r σ' h
 simp only [li] at h
 split at h
 ·rename_i a0 a1
  obtain ⟨y, hy, h⟩ := bE_ h
  exact lifted (xs := []) (ls := []) (cargs := [.int .i64 a0, .int .i64 a1]) (bA.of trivial) rfl (xe a0 a1 y hy) rfl rfl rfl rfl h
 ·cases h
def vW : CH := (CH.add 18 li (CH.add 17 wZ (CH.add 6 pb (CH.add 19 HL CH.none))))
theorem ta : aD U3 vW := (CH.ai xV (CH.ai Hz (CH.ai sW (CH.ai CM CH.aB))))
def jF : Option (Bool) :=
 (Option.bind (cf ([.int .i64 2, .int .i64 (-9), .int .i64 0, .int .i64 2, .int .i64 9, .int .i64 0, .int .i64 5, .int .i64 0, .int .i64 0, .int .i64 9, .int .i64 1, .int .i64 1] : LA_) 4) fun r1 => (Option.bind (fD 0 2) fun r2 => (Option.bind (ns r2.1 r2.2 ([.int .i64 1, .int .i64 1, .int .i64 1] : LA_) 1) fun r3 => (cond r3.1 (Option.bind (fD 0 2) fun r4 => (Option.bind (ns r4.1 r4.2 ([.int .i64 3, .int .i64 3, .int .i64 3] : LA_) 1) fun r5 => (cond r5.1 (Option.bind (cf ([] : LA_) 0) fun r6 => (cond (r1.2.2.2.2.1 == 0) (Option.bind (cOf 2) fun r7 => (cond ((aa r1.1 0) == (aa r7 0) && ((aa r1.1 1) == (aa r7 1) && ((aa r1.1 2) == (aa r7 2) && ((aa r1.1 3) == (aa r7 3) && ((aa r1.1 4) == (aa r7 4) && ((aa r1.1 5) == (aa r7 5) && ((aa r1.1 6) == (aa r7 6) && ((aa r1.1 7) == (aa r7 7) && ((aa r1.2.1 0) == 0 && ((aa r1.2.1 1) == 0 && ((aa r1.2.1 2) == 0 && ((aa r1.2.1 3) == 0 && ((aa r1.2.1 4) == 0 && ((aa r1.2.1 5) == 0 && ((aa r1.2.1 6) == 0 && ((aa r1.2.1 7) == 0 && ((aa r1.2.2.1 0) == 0 && ((aa r1.2.2.1 1) == 0 && ((aa r1.2.2.1 2) == 0 && ((aa r1.2.2.1 3) == 0 && ((aa r1.2.2.1 4) == 0 && ((aa r1.2.2.1 5) == 0 && ((aa r1.2.2.1 6) == 0 && ((aa r1.2.2.1 7) == 0 && true)))))))))))))))))))))))) (Option.bind (cOf 1) fun r8 => (cond ((aa r1.2.2.2.1 0) == (aa r8 0) && ((aa r1.2.2.2.1 1) == (aa r8 1) && ((aa r1.2.2.2.1 2) == (aa r8 2) && ((aa r1.2.2.2.1 3) == (aa r8 3) && ((aa r1.2.2.2.1 4) == (aa r8 4) && ((aa r1.2.2.2.1 5) == (aa r8 5) && ((aa r1.2.2.2.1 6) == (aa r8 6) && ((aa r1.2.2.2.1 7) == (aa r8 7) && true)))))))) (cond (r3.2 == 0) (some false) (some false)) (some false))) (some false))) (some false))) (Option.bind (cf ([] : LA_) 0) fun r9 => (cond (r1.2.2.2.2.1 == 0) (Option.bind (cOf 2) fun r10 => (cond ((aa r1.1 0) == (aa r10 0) && ((aa r1.1 1) == (aa r10 1) && ((aa r1.1 2) == (aa r10 2) && ((aa r1.1 3) == (aa r10 3) && ((aa r1.1 4) == (aa r10 4) && ((aa r1.1 5) == (aa r10 5) && ((aa r1.1 6) == (aa r10 6) && ((aa r1.1 7) == (aa r10 7) && ((aa r1.2.1 0) == 0 && ((aa r1.2.1 1) == 0 && ((aa r1.2.1 2) == 0 && ((aa r1.2.1 3) == 0 && ((aa r1.2.1 4) == 0 && ((aa r1.2.1 5) == 0 && ((aa r1.2.1 6) == 0 && ((aa r1.2.1 7) == 0 && ((aa r1.2.2.1 0) == 0 && ((aa r1.2.2.1 1) == 0 && ((aa r1.2.2.1 2) == 0 && ((aa r1.2.2.1 3) == 0 && ((aa r1.2.2.1 4) == 0 && ((aa r1.2.2.1 5) == 0 && ((aa r1.2.2.1 6) == 0 && ((aa r1.2.2.1 7) == 0 && true)))))))))))))))))))))))) (Option.bind (cOf 1) fun r11 => (cond ((aa r1.2.2.2.1 0) == (aa r11 0) && ((aa r1.2.2.2.1 1) == (aa r11 1) && ((aa r1.2.2.2.1 2) == (aa r11 2) && ((aa r1.2.2.2.1 3) == (aa r11 3) && ((aa r1.2.2.2.1 4) == (aa r11 4) && ((aa r1.2.2.2.1 5) == (aa r11 5) && ((aa r1.2.2.2.1 6) == (aa r11 6) && ((aa r1.2.2.2.1 7) == (aa r11 7) && true)))))))) (cond (r3.2 == 0) (cond (r5.2 == 0) (cond (r9.2.2.2.2.1 == 2) (some true) (some false)) (some false)) (some false)) (some false))) (some false))) (some false)))))) (Option.bind (fD 0 2) fun r12 => (Option.bind (ns r12.1 r12.2 ([.int .i64 3, .int .i64 3, .int .i64 3] : LA_) 1) fun r13 => (cond r13.1 (Option.bind (cf ([] : LA_) 0) fun r14 => (cond (r1.2.2.2.2.1 == 0) (Option.bind (cOf 2) fun r15 => (cond ((aa r1.1 0) == (aa r15 0) && ((aa r1.1 1) == (aa r15 1) && ((aa r1.1 2) == (aa r15 2) && ((aa r1.1 3) == (aa r15 3) && ((aa r1.1 4) == (aa r15 4) && ((aa r1.1 5) == (aa r15 5) && ((aa r1.1 6) == (aa r15 6) && ((aa r1.1 7) == (aa r15 7) && ((aa r1.2.1 0) == 0 && ((aa r1.2.1 1) == 0 && ((aa r1.2.1 2) == 0 && ((aa r1.2.1 3) == 0 && ((aa r1.2.1 4) == 0 && ((aa r1.2.1 5) == 0 && ((aa r1.2.1 6) == 0 && ((aa r1.2.1 7) == 0 && ((aa r1.2.2.1 0) == 0 && ((aa r1.2.2.1 1) == 0 && ((aa r1.2.2.1 2) == 0 && ((aa r1.2.2.1 3) == 0 && ((aa r1.2.2.1 4) == 0 && ((aa r1.2.2.1 5) == 0 && ((aa r1.2.2.1 6) == 0 && ((aa r1.2.2.1 7) == 0 && true)))))))))))))))))))))))) (Option.bind (cOf 1) fun r16 => (cond ((aa r1.2.2.2.1 0) == (aa r16 0) && ((aa r1.2.2.2.1 1) == (aa r16 1) && ((aa r1.2.2.2.1 2) == (aa r16 2) && ((aa r1.2.2.2.1 3) == (aa r16 3) && ((aa r1.2.2.2.1 4) == (aa r16 4) && ((aa r1.2.2.2.1 5) == (aa r16 5) && ((aa r1.2.2.2.1 6) == (aa r16 6) && ((aa r1.2.2.2.1 7) == (aa r16 7) && true)))))))) (some false) (some false))) (some false))) (some false))) (Option.bind (cf ([] : LA_) 0) fun r17 => (cond (r1.2.2.2.2.1 == 0) (Option.bind (cOf 2) fun r18 => (cond ((aa r1.1 0) == (aa r18 0) && ((aa r1.1 1) == (aa r18 1) && ((aa r1.1 2) == (aa r18 2) && ((aa r1.1 3) == (aa r18 3) && ((aa r1.1 4) == (aa r18 4) && ((aa r1.1 5) == (aa r18 5) && ((aa r1.1 6) == (aa r18 6) && ((aa r1.1 7) == (aa r18 7) && ((aa r1.2.1 0) == 0 && ((aa r1.2.1 1) == 0 && ((aa r1.2.1 2) == 0 && ((aa r1.2.1 3) == 0 && ((aa r1.2.1 4) == 0 && ((aa r1.2.1 5) == 0 && ((aa r1.2.1 6) == 0 && ((aa r1.2.1 7) == 0 && ((aa r1.2.2.1 0) == 0 && ((aa r1.2.2.1 1) == 0 && ((aa r1.2.2.1 2) == 0 && ((aa r1.2.2.1 3) == 0 && ((aa r1.2.2.1 4) == 0 && ((aa r1.2.2.1 5) == 0 && ((aa r1.2.2.1 6) == 0 && ((aa r1.2.2.1 7) == 0 && true)))))))))))))))))))))))) (Option.bind (cOf 1) fun r19 => (cond ((aa r1.2.2.2.1 0) == (aa r19 0) && ((aa r1.2.2.2.1 1) == (aa r19 1) && ((aa r1.2.2.2.1 2) == (aa r19 2) && ((aa r1.2.2.2.1 3) == (aa r19 3) && ((aa r1.2.2.2.1 4) == (aa r19 4) && ((aa r1.2.2.2.1 5) == (aa r19 5) && ((aa r1.2.2.2.1 6) == (aa r19 6) && ((aa r1.2.2.2.1 7) == (aa r19 7) && true)))))))) (some false) (some false))) (some false))) (some false))))))))))
def fh : FD where
 X := Bool
 k := 0
 pre := []
 F := fun s => []
 M := .bool
 B := []
 toL := fun x => [.B x]
 ofL := fun ls => match ls with
  | [.B x0] => some x0
  | _ => none
 ar := fun ls x h => by
  split at h
  ·cases h; rfl
  ·cases h
theorem vf (x : Bool) (h : jF = some x) : ba U3 7 0 [] [] fh x :=
 FD.semA fh ta Try.func7 (fuel := 60) (by kernel_rfl) (by kernel_rfl)
  (by kernel_rfl) (Eq.trans (by kernel_rfl) h)
def jG : HK where
 call := fun args σ k => match args with
  | [] => Option.bind (jF) fun y => az σ 0 (fh.val y) (fh.aJ y) k
  | _ => none
 nat := fun args σ k => by
  repeat' split
  all_goals simp only [av, aj, UB, UA, az, Uz]
 pure := true
 pok := fun _ args σ r σ' h => by
  split at h
  ·exact bo h (fun y => rfl) (fun y f => rfl)
  ·cases h
theorem vX : aU U3 7 jG := by
 intro args σ r σ' h
 simp only [jG] at h
 split at h
 ·skip
  obtain ⟨y, hy, h⟩ := bE_ h
  exact lifted (xs := []) (ls := []) (cargs := []) (bA.of trivial) rfl (vf y hy) rfl rfl rfl rfl h
 ·cases h
theorem R0 : jF = some true := by kernel_rfl
def sg : Option Unit := some ()
def HM : HK where
 call := fun args σ k => match args with
  | [] => Option.bind sg fun r => k (.ret (.bool true)) σ
  | _ => none
 nat := fun args σ k => by
  repeat' split
  all_goals simp only [UB, UA, Uz]
 pure := true
 pok := fun _ args σ r σ' h => by
  split at h
  ·obtain ⟨q, h1, h2⟩ := bE_ h
   simp only [UC, UE] at h2
   obtain ⟨rfl, rfl⟩ := h2
   exact ⟨rfl, ⟨_, rfl⟩, fun σ2 => by simp only [h1, Uz]⟩
  ·cases h
theorem Mu : aU U3 7 HM := vX.cJ fun args σ x h => by
 simp only [HM] at h
 split at h
 ·obtain ⟨r, h1, h2⟩ := bE_ h
  simp only [jG, R0, Uz]
  exact h2
 ·cases h
end Go.Ev
namespace Go.Ev
open Go.Proofs
set_option maxHeartbeats 4000000
abbrev dM := LA_ × LA_ × LA_ × LA_ × Int
def ob : CH := (CH.add 23 jI (CH.add 28 ya (CH.add 27 BA (CH.add 22 oL (CH.add 21 F0 CH.none)))))
theorem qO : aD U3 ob := (CH.ai qP (CH.ai ww (CH.ai BB (CH.ai ml (CH.ai EE CH.aB)))))
def eH {R : Type} (cc : Nat × Nat × Nat × Nat) (v : dM) (kn : (dM) → Option R) (ke : ((Int)) → Option R) : Option R :=
 (af (aq el v.1 0) (af (aq el v.2.2.1 0) (Option.bind (mm (ac v.1 0) (ac v.1 1) (ac v.1 2) (ac v.1 3) (ac v.1 4) (ac v.1 5) (ac v.1 6) (ac v.1 7) (ac v.2.2.1 0) (ac v.2.2.1 1) (ac v.2.2.1 2) (ac v.2.2.1 3) (ac v.2.2.1 4) (ac v.2.2.1 5) (ac v.2.2.1 6) (ac v.2.2.1 7)) fun r5 => (af (aq el v.2.1 0) (af (aq el v.2.2.2.1 0) (Option.bind (mm (ac v.2.1 0) (ac v.2.1 1) (ac v.2.1 2) (ac v.2.1 3) (ac v.2.1 4) (ac v.2.1 5) (ac v.2.1 6) (ac v.2.1 7) (ac v.2.2.2.1 0) (ac v.2.2.2.1 1) (ac v.2.2.2.1 2) (ac v.2.2.2.1 3) (ac v.2.2.2.1 4) (ac v.2.2.2.1 5) (ac v.2.2.2.1 6) (ac v.2.2.2.1 7)) fun r6 => (Option.bind (Mv r5.1 r6.1) fun r7 => (cond (r7 != 0) (ke (IntKind.wrap .i64 (r7 * v.2.2.2.2))) (Option.bind (CN r5.2) fun r8 => (cond (r8 == 0) (Option.bind (CN r6.2) fun r9 => (cond (r9 == 0) (ke 0) (ke (IntKind.wrap .i64 (0 - v.2.2.2.2))))) (Option.bind (CN r6.2) fun r10 => (cond (r10 == 0) (ke v.2.2.2.2) (af (aq el v.2.2.1 0) (af (aq el v.2.2.2.1 0) (af (decide (0 + 8 ≤ List.length v.1)) (af (decide (0 + 8 ≤ List.length v.2.2.1)) (af (decide (0 + 8 ≤ List.length v.2.1)) (af (decide (0 + 8 ≤ List.length v.2.2.2.1)) (kn ((spliced v.1 0 (v8 (ac v.2.2.1 0) (ac v.2.2.1 1) (ac v.2.2.1 2) (ac v.2.2.1 3) (ac v.2.2.1 4) (ac v.2.2.1 5) (ac v.2.2.1 6) (ac v.2.2.1 7) [])), (spliced v.2.1 0 (v8 (ac v.2.2.2.1 0) (ac v.2.2.2.1 1) (ac v.2.2.2.1 2) (ac v.2.2.2.1 3) (ac v.2.2.2.1 4) (ac v.2.2.2.1 5) (ac v.2.2.2.1 6) (ac v.2.2.2.1 7) [])), (spliced v.2.2.1 0 (v8 (aa r5.2 0) (aa r5.2 1) (aa r5.2 2) (aa r5.2 3) (aa r5.2 4) (aa r5.2 5) (aa r5.2 6) (aa r5.2 7) [])), (spliced v.2.2.2.1 0 (v8 (aa r6.2 0) (aa r6.2 1) (aa r6.2 2) (aa r6.2 3) (aa r6.2 4) (aa r6.2 5) (aa r6.2 6) (aa r6.2 7) [])), (IntKind.wrap .i64 (0 - v.2.2.2.2))))))))))))))))))))))
def eI (cc : Nat × Nat × Nat × Nat) (v : dM) : Option ((dM) ⊕ ((Int))) := eH cc v (fun v => some (Sum.inl v)) fun e => some (Sum.inr e)
def vo (cc : Nat × Nat × Nat × Nat) (v : dM) : Option ((Int)) := dF (eI cc) v
def A0 (cc : Nat × Nat × Nat × Nat) (v : dM) : List ah := [.I v.s4, .C v.1, .N cc.1, .C v.2.1, .N cc.2.1, .C v.2.2.1, .N cc.2.2.1, .C v.2.2.2.1, .N cc.2.2.2]
def qQ (ls : List ah) : Option ((Nat × Nat × Nat × Nat) × (dM)) := match ls with
 | [.I x0, .C x1, .N x2, .C x3, .N x4, .C x5, .N x6, .C x7, .N x8] => some ((x2, x4, x6, x8), (x1, x3, x5, x7, x0))
 | _ => none
def qR (e : (Int)) : an := ((fun e => .ret) e)
def qS (cc : Nat × Nat × Nat × Nat) (e : (Int)) : List ah := ((fun e => [.I e]) e)
def pB (cc : Nat × Nat × Nat × Nat) (e : (Int)) : List ah := ((fun e => []) e)
def kJ (o : an) (ls : List ah) : Option (((Int)) × List ah) := match o with
 | .ret => (match ls with
  | [.I x0] => some (x0, [])
  | _ => none)
 | _ => none
theorem xh : ∀ o ls e cl cc, kJ o ls = some (e, cl) → cl = pB cc e → ls = qS cc e ∧ qR e = o ∧ o ≠ .normal ∧ ∀ v, o = .pan v → sc 0 v = true := by
 intro o ls e cl cc h hc
 unfold kJ at h
 split at h
 ·split at h
  ·cases h
   exact ⟨rfl, rfl, by simp, by intro v hv; cases hv <;> rfl⟩
  ·cases h
 ·cases h
def BC (o : an) : ExS := match o with
 | .ret => ⟨2, (none :: none :: none :: none :: some (.int .i64) :: (rl none 76 [])), [], fun s => [0, 1], [], []⟩
 | _ => ⟨0, [], [], fun _ => [], [], []⟩
theorem A1 {R : Type} (cc : Nat × Nat × Nat × Nat) (v : dM) (kn : (dM) → Option R) (ke : ((Int)) → Option R) : eH cc v kn ke = (eH cc v (fun v => some (Sum.inl v)) fun e => some (Sum.inr e)).bind (Sum.elim kn ke) := by
 simp only [eH, bL, aj, UB, cb, bH, Uz, UA, U0, UZ]
def tS : LD where
 CC := Nat × Nat × Nat × Nat
 V := dM
 E := (Int)
 n := 2
 K := 6
 M := (rl none 5 (some (.ptr 2 0) :: some (.ptr 3 0) :: some (.ptr 4 0) :: some (.ptr 5 0) :: some (.int .i64) :: (rl none 71 [])))
 B := [(2, .vec 8 true), (3, .vec 8 true), (4, .vec 8 true), (5, .vec 8 true)]
 D := []
 pre := []
 F := fun s => [0, 1, nameAt s 5 [], nameAt s 6 [], nameAt s 7 [], nameAt s 8 []]
 toL := A0
 ofL := qQ
 ar := fun ls c v h => by
  unfold qQ at h
  split at h
  ·cases h; rfl
  ·cases h
 cq := eH
 nat := A1
 sh := BC
 out := qR
 toE := qS
 fw := pB
 ofE := kJ
 dj := xh
 post := fun cc e k => ((fun e => k (.ret) (bf 2 (none :: none :: none :: none :: some (.int .i64 e) :: (rl none 76 [])) [] [])) e)
 cj := fun cc e k => by rfl
theorem A2 : cN U3 2 tS.la (aI Try.f15 0) :=
 LD.ok (ch := ob) (A := bz) aH qO mixed (fuel := 60) ⟨by kernel_rfl, fun e => by kernel_rfl, fun cc v => by kernel_rfl, aG (l := []) (by kernel_rfl) trivial⟩
def kl (a0 a1 a2 a3 a4 a5 a6 a7 a8 a9 a10 a11 a12 a13 a14 a15 a16 a17 a18 a19 a20 a21 a22 a23 a24 a25 a26 a27 a28 a29 a30 a31 : Int) (cs32 : LA_) (n33 : Nat) (a34 a35 a36 a37 a38 a39 a40 a41 a42 a43 a44 a45 a46 a47 a48 a49 a50 a51 a52 a53 a54 a55 a56 a57 a58 a59 a60 a61 a62 a63 a64 a65 : Int) (cs66 : LA_) (n67 : Nat) : Option (Int) :=
 (Option.bind (cT a0 a1 a2 a3 a4 a5 a6 a7 a8 a9 a10 a11 a12 a13 a14 a15 a16 a17 a18 a19 a20 a21 a22 a23) fun r1 => (Option.bind (cT a34 a35 a36 a37 a38 a39 a40 a41 a42 a43 a44 a45 a46 a47 a48 a49 a50 a51 a52 a53 a54 a55 a56 a57) fun r2 => (Option.bind (gN a24 a25 a26 a27 a28 a29 a30 a31 a24 a25 a26 a27 a28 a29 a30 a31) fun r3 => (Option.bind (gN a58 a59 a60 a61 a62 a63 a64 a65 a58 a59 a60 a61 a62 a63 a64 a65) fun r4 => (Option.bind (vo (1, 1, 1, 1) (((v8 (aa r1 0) (aa r1 1) (aa r1 2) (aa r1 3) (aa r1 4) (aa r1 5) (aa r1 6) (aa r1 7) []) : LA_), ((v8 (aa r2 0) (aa r2 1) (aa r2 2) (aa r2 3) (aa r2 4) (aa r2 5) (aa r2 6) (aa r2 7) []) : LA_), ((v8 (aa r3 0) (aa r3 1) (aa r3 2) (aa r3 3) (aa r3 4) (aa r3 5) (aa r3 6) (aa r3 7) []) : LA_), ((v8 (aa r4 0) (aa r4 1) (aa r4 2) (aa r4 3) (aa r4 4) (aa r4 5) (aa r4 6) (aa r4 7) []) : LA_), 1)) fun e5 => (some e5))))))
def kX : FD where
 X := Int
 k := 2
 pre := []
 F := fun s => [0, 1]
 M := .int .i64
 B := []
 toL := fun x => [.I x]
 ofL := fun ls => match ls with
  | [.I x0] => some x0
  | _ => none
 ar := fun ls x h => by
  split at h
  ·cases h; rfl
  ·cases h
theorem DB (a0 a1 a2 a3 a4 a5 a6 a7 a8 a9 a10 a11 a12 a13 a14 a15 a16 a17 a18 a19 a20 a21 a22 a23 a24 a25 a26 a27 a28 a29 a30 a31 : Int) (cs32 : LA_) (n33 : Nat) (a34 a35 a36 a37 a38 a39 a40 a41 a42 a43 a44 a45 a46 a47 a48 a49 a50 a51 a52 a53 a54 a55 a56 a57 a58 a59 a60 a61 a62 a63 a64 a65 : Int) (cs66 : LA_) (n67 : Nat) (x : Int) (h : kl a0 a1 a2 a3 a4 a5 a6 a7 a8 a9 a10 a11 a12 a13 a14 a15 a16 a17 a18 a19 a20 a21 a22 a23 a24 a25 a26 a27 a28 a29 a30 a31 cs32 n33 a34 a35 a36 a37 a38 a39 a40 a41 a42 a43 a44 a45 a46 a47 a48 a49 a50 a51 a52 a53 a54 a55 a56 a57 a58 a59 a60 a61 a62 a63 a64 a65 cs66 n67 = some x) : ba U3 15 2 [.agg (v8 a0 a1 a2 a3 a4 a5 a6 a7 (v8 a8 a9 a10 a11 a12 a13 a14 a15 (v8 a16 a17 a18 a19 a20 a21 a22 a23 (v8 a24 a25 a26 a27 a28 a29 a30 a31 [.vec 0])))), .agg (v8 a34 a35 a36 a37 a38 a39 a40 a41 (v8 a42 a43 a44 a45 a46 a47 a48 a49 (v8 a50 a51 a52 a53 a54 a55 a56 a57 (v8 a58 a59 a60 a61 a62 a63 a64 a65 [.vec 1]))))] [.vec cs32 n33 1 false, .vec cs66 n67 1 false] kX x :=
 FD.sem (ch := ob) (A := eo [(4, tS.la)]) (fn := Try.f15) (c := bn Try.f15) (fuel := 60) aH qO mixed bF kX Try.func15 (by kernel_rfl) (aG (l := [aI Try.f15 0]) (by kernel_rfl) ⟨bX (by kernel_rfl) A2, trivial⟩)
  (by kernel_rfl) (Eq.trans (by kernel_rfl) h)
def tb : HK where
 call := fun args σ k => match args with
  | [.agg (.int .u64 a0 :: .int .u64 a1 :: .int .u64 a2 :: .int .u64 a3 :: .int .u64 a4 :: .int .u64 a5 :: .int .u64 a6 :: .int .u64 a7 :: .int .u64 a8 :: .int .u64 a9 :: .int .u64 a10 :: .int .u64 a11 :: .int .u64 a12 :: .int .u64 a13 :: .int .u64 a14 :: .int .u64 a15 :: .int .u64 a16 :: .int .u64 a17 :: .int .u64 a18 :: .int .u64 a19 :: .int .u64 a20 :: .int .u64 a21 :: .int .u64 a22 :: .int .u64 a23 :: .int .u64 a24 :: .int .u64 a25 :: .int .u64 a26 :: .int .u64 a27 :: .int .u64 a28 :: .int .u64 a29 :: .int .u64 a30 :: .int .u64 a31 :: x0 :: []), .agg (.int .u64 a34 :: .int .u64 a35 :: .int .u64 a36 :: .int .u64 a37 :: .int .u64 a38 :: .int .u64 a39 :: .int .u64 a40 :: .int .u64 a41 :: .int .u64 a42 :: .int .u64 a43 :: .int .u64 a44 :: .int .u64 a45 :: .int .u64 a46 :: .int .u64 a47 :: .int .u64 a48 :: .int .u64 a49 :: .int .u64 a50 :: .int .u64 a51 :: .int .u64 a52 :: .int .u64 a53 :: .int .u64 a54 :: .int .u64 a55 :: .int .u64 a56 :: .int .u64 a57 :: .int .u64 a58 :: .int .u64 a59 :: .int .u64 a60 :: .int .u64 a61 :: .int .u64 a62 :: .int .u64 a63 :: .int .u64 a64 :: .int .u64 a65 :: x1 :: [])] => cC σ 1 x0 fun cs32 n33 => cC σ 1 x1 fun cs66 n67 => Option.bind (kl a0 a1 a2 a3 a4 a5 a6 a7 a8 a9 a10 a11 a12 a13 a14 a15 a16 a17 a18 a19 a20 a21 a22 a23 a24 a25 a26 a27 a28 a29 a30 a31 cs32 n33 a34 a35 a36 a37 a38 a39 a40 a41 a42 a43 a44 a45 a46 a47 a48 a49 a50 a51 a52 a53 a54 a55 a56 a57 a58 a59 a60 a61 a62 a63 a64 a65 cs66 n67) fun y => az σ 2 (kX.val y) (kX.aJ y) k
  | _ => none
 nat := fun args σ k => by
  repeat' split
  all_goals simp only [av, aj, UB, UA, az, Uz]
 pure := false
 pok := fun h => by cases h
theorem EO : aU U3 15 tb := by
 intro args σ r σ' h
 simp only [tb] at h
 split at h
 ·rename_i a0 a1 a2 a3 a4 a5 a6 a7 a8 a9 a10 a11 a12 a13 a14 a15 a16 a17 a18 a19 a20 a21 a22 a23 a24 a25 a26 a27 a28 a29 a30 a31 x0 a34 a35 a36 a37 a38 a39 a40 a41 a42 a43 a44 a45 a46 a47 a48 a49 a50 a51 a52 a53 a54 a55 a56 a57 a58 a59 a60 a61 a62 a63 a64 a65 x1
  obtain ⟨cs32, n33, he0, hf0, h⟩ := bp h
  obtain ⟨cs66, n67, he1, hf1, h⟩ := bp h
  obtain ⟨y, hy, h⟩ := bE_ h
  exact lifted (xs := [x0, x1]) (ls := [.vec cs32 n33 1 false, .vec cs66 n67 1 false]) (cargs := [.agg (v8 a0 a1 a2 a3 a4 a5 a6 a7 (v8 a8 a9 a10 a11 a12 a13 a14 a15 (v8 a16 a17 a18 a19 a20 a21 a22 a23 (v8 a24 a25 a26 a27 a28 a29 a30 a31 [.vec 0])))), .agg (v8 a34 a35 a36 a37 a38 a39 a40 a41 (v8 a42 a43 a44 a45 a46 a47 a48 a49 (v8 a50 a51 a52 a53 a54 a55 a56 a57 (v8 a58 a59 a60 a61 a62 a63 a64 a65 [.vec 1]))))]) (bA.of ⟨⟨rfl, he0, hf0, by decide⟩, ⟨rfl, he1, hf1, by decide⟩, trivial⟩) rfl (DB a0 a1 a2 a3 a4 a5 a6 a7 a8 a9 a10 a11 a12 a13 a14 a15 a16 a17 a18 a19 a20 a21 a22 a23 a24 a25 a26 a27 a28 a29 a30 a31 cs32 n33 a34 a35 a36 a37 a38 a39 a40 a41 a42 a43 a44 a45 a46 a47 a48 a49 a50 a51 a52 a53 a54 a55 a56 a57 a58 a59 a60 a61 a62 a63 a64 a65 cs66 n67 y hy) rfl rfl rfl rfl h
 ·cases h
end Go.Ev
namespace Go.Ev
open Go.Proofs
def kj : CH := (CH.add 15 tb (CH.add 14 lc (CH.add 10 jc (CH.add 6 pb (CH.add 7 HM CH.none)))))
def uf : CH := uO U3 iS [8] 60 kj 5
theorem qE : aD U3 kj := (CH.ai EO (CH.ai pd (CH.ai mS (CH.ai sW (CH.ai Mu CH.aB)))))
theorem rp : aD U3 uf := iq aH mixed bF qE 5
def iJ (cs0 : LA_) (n1 : Nat) (a2 a3 a4 : Int) : Option (Bool) :=
 (Option.bind (cf cs0 n1) fun r1 => (cond (r1.2.2.2.2.1 != 0) (Option.bind (sg) fun r2 => (some true)) (cond (decide (((n1 : Nat) : Int) > 40)) (Option.bind (sg) fun r3 => (some true)) (Option.bind (gB a2 a3 a4) fun r4 => (cond (r4 != 0) (Option.bind (sg) fun r5 => (some true)) (af (decide (2 * (0 + n1) * 24 ≤ 2 ^ 48)) (af (decide (2 * (n1 + 1) * 24 ≤ 2 ^ 48)) (Option.bind (cf (cs0 ++ [.int .i64 a2, .int .i64 a3, .int .i64 a4]) (n1 + 1)) fun r6 => (cond (r6.2.2.2.2.1 != 0) (some false) (Option.bind (me r1.1 r1.2.1 r1.2.2.1 r1.2.2.2.1 r1.2.2.2.2.2.1 r1.2.2.2.2.2.2 a2 a3 a4) fun r7 => (cond r7 (Option.bind (kl (aa r6.1 0) (aa r6.1 1) (aa r6.1 2) (aa r6.1 3) (aa r6.1 4) (aa r6.1 5) (aa r6.1 6) (aa r6.1 7) (aa r6.2.1 0) (aa r6.2.1 1) (aa r6.2.1 2) (aa r6.2.1 3) (aa r6.2.1 4) (aa r6.2.1 5) (aa r6.2.1 6) (aa r6.2.1 7) (aa r6.2.2.1 0) (aa r6.2.2.1 1) (aa r6.2.2.1 2) (aa r6.2.2.1 3) (aa r6.2.2.1 4) (aa r6.2.2.1 5) (aa r6.2.2.1 6) (aa r6.2.2.1 7) (aa r6.2.2.2.1 0) (aa r6.2.2.2.1 1) (aa r6.2.2.2.1 2) (aa r6.2.2.2.1 3) (aa r6.2.2.2.1 4) (aa r6.2.2.2.1 5) (aa r6.2.2.2.1 6) (aa r6.2.2.2.1 7) r6.2.2.2.2.2.1 r6.2.2.2.2.2.2 (aa r1.1 0) (aa r1.1 1) (aa r1.1 2) (aa r1.1 3) (aa r1.1 4) (aa r1.1 5) (aa r1.1 6) (aa r1.1 7) (aa r1.2.1 0) (aa r1.2.1 1) (aa r1.2.1 2) (aa r1.2.1 3) (aa r1.2.1 4) (aa r1.2.1 5) (aa r1.2.1 6) (aa r1.2.1 7) (aa r1.2.2.1 0) (aa r1.2.2.1 1) (aa r1.2.2.1 2) (aa r1.2.2.1 3) (aa r1.2.2.1 4) (aa r1.2.2.1 5) (aa r1.2.2.1 6) (aa r1.2.2.1 7) (aa r1.2.2.2.1 0) (aa r1.2.2.2.1 1) (aa r1.2.2.2.1 2) (aa r1.2.2.2.1 3) (aa r1.2.2.2.1 4) (aa r1.2.2.2.1 5) (aa r1.2.2.2.1 6) (aa r1.2.2.2.1 7) r1.2.2.2.2.2.1 r1.2.2.2.2.2.2) fun r8 => (cond (decide (r8 < 0)) (Option.bind (sg) fun r9 => (some true)) (some false))) (cond ((aa r1.1 0) == (aa r6.1 0) && ((aa r1.1 1) == (aa r6.1 1) && ((aa r1.1 2) == (aa r6.1 2) && ((aa r1.1 3) == (aa r6.1 3) && ((aa r1.1 4) == (aa r6.1 4) && ((aa r1.1 5) == (aa r6.1 5) && ((aa r1.1 6) == (aa r6.1 6) && ((aa r1.1 7) == (aa r6.1 7) && ((aa r1.2.1 0) == (aa r6.2.1 0) && ((aa r1.2.1 1) == (aa r6.2.1 1) && ((aa r1.2.1 2) == (aa r6.2.1 2) && ((aa r1.2.1 3) == (aa r6.2.1 3) && ((aa r1.2.1 4) == (aa r6.2.1 4) && ((aa r1.2.1 5) == (aa r6.2.1 5) && ((aa r1.2.1 6) == (aa r6.2.1 6) && ((aa r1.2.1 7) == (aa r6.2.1 7) && ((aa r1.2.2.1 0) == (aa r6.2.2.1 0) && ((aa r1.2.2.1 1) == (aa r6.2.2.1 1) && ((aa r1.2.2.1 2) == (aa r6.2.2.1 2) && ((aa r1.2.2.1 3) == (aa r6.2.2.1 3) && ((aa r1.2.2.1 4) == (aa r6.2.2.1 4) && ((aa r1.2.2.1 5) == (aa r6.2.2.1 5) && ((aa r1.2.2.1 6) == (aa r6.2.2.1 6) && ((aa r1.2.2.1 7) == (aa r6.2.2.1 7) && true)))))))))))))))))))))))) (cond ((aa r1.2.2.2.1 0) == (aa r6.2.2.2.1 0) && ((aa r1.2.2.2.1 1) == (aa r6.2.2.2.1 1) && ((aa r1.2.2.2.1 2) == (aa r6.2.2.2.1 2) && ((aa r1.2.2.2.1 3) == (aa r6.2.2.2.1 3) && ((aa r1.2.2.2.1 4) == (aa r6.2.2.2.1 4) && ((aa r1.2.2.2.1 5) == (aa r6.2.2.2.1 5) && ((aa r1.2.2.2.1 6) == (aa r6.2.2.2.1 6) && ((aa r1.2.2.2.1 7) == (aa r6.2.2.2.1 7) && true)))))))) (Option.bind (sg) fun r10 => (some true)) (some false)) (some false)))))))))))))
def lr : FD where
 X := Bool
 k := 1
 pre := []
 F := fun s => [0]
 M := .bool
 B := []
 toL := fun x => [.B x]
 ofL := fun ls => match ls with
  | [.B x0] => some x0
  | _ => none
 ar := fun ls x h => by
  split at h
  ·cases h; rfl
  ·cases h
theorem tc (cs0 : LA_) (n1 : Nat) (a2 a3 a4 : Int) (x : Bool) (h : iJ cs0 n1 a2 a3 a4 = some x) : ba U3 5 1 [.vec 0, .agg [.int .i64 a2, .int .i64 a3, .int .i64 a4]] [.vec cs0 n1 3 false] lr x :=
 FD.semA lr rp Try.func5 (fuel := 60) (by kernel_rfl) (by kernel_rfl)
  (by kernel_rfl) (Eq.trans (by kernel_rfl) h)
theorem mF {z : Int} (h : 0 < z) : sgn z = 1 := by unfold sgn; rw [UH (by omega), UH (by omega)]; rfl
theorem kf {z : Int} (h : z < 0) : sgn z = -1 := by unfold sgn; rw [UI h]; rfl
theorem P4 : sgn 0 = 0 := rfl
theorem OL {z : Int} (h : z ≠ 0) : sgn z = 1 ∨ sgn z = -1 := by
 rcases Int.lt_or_le z 0 with k | k
 ·exact .inr (kf k)
 ·exact .inl (mF (by omega))
theorem Me (z : Int) : (sgn z == 0) = decide (z = 0) := by
 by_cases h : z = 0
 ·subst h; rfl
 ·rw [UH h]
  rcases OL h with k | k <;> rw [k] <;> rfl
theorem RY (z : Int) : sgn (-z) = -sgn z := by
 rcases Int.lt_trichotomy z 0 with k | k | k
 ·rw [kf k, mF (by omega)]; rfl
 ·subst k; rfl
 ·rw [mF k, kf (by omega)]
theorem Mf {p q r s i k : Int} (hp : 0 < p) (hq : 0 < q) (hr : r < p) (hr0 : 0 ≤ r) (hs0 : 0 ≤ s) (hs : s < q) (h : i < k) : (p * i + r) * q - (q * k + s) * p < 0 := by
 have e : (p * i + r) * q - (q * k + s) * p = (i - k) * (p * q) + r * q - s * p := by grind
 have a : (i - k) * (p * q) ≤ (-1) * (p * q) := UU (by omega) (Int.le_of_lt (Int.mul_pos hp hq))
 have b : r * q < p * q := Int.mul_lt_mul_of_pos_right hr hq
 have c : 0 ≤ s * p := Int.mul_nonneg hs0 (Int.le_of_lt hp)
 omega
theorem P5 {p q r s i k : Int} (hp : 0 < p) (hq : 0 < q) (hr0 : 0 ≤ r) (hr : r < p) (hs0 : 0 ≤ s) (hs : s < q) (h : i ≠ k) : sgn ((p * i + r) * q - (q * k + s) * p) = sgn (i - k) := by
 rcases Int.lt_or_gt_of_ne h with g | g
 ·rw [kf (Mf hp hq hr hr0 hs0 hs g), kf (by omega)]
 ·have := Mf hq hp hs hs0 hr0 hr g
  rw [mF (by omega), mF (by omega)]
abbrev c4 : Nat × Nat × Nat × Nat := (1, 1, 1, 1)
abbrev vC (x y p q t : Int) : LA_ × LA_ × LA_ × LA_ × Int := (wcs [x], wcs [y], wcs [p], wcs [q], t)
theorem P6 {x y p q t : Int} (fx : fit x) (fy : fit y) (fp : fit p) (fq : fit q) (x0 : 0 ≤ x) (y0 : 0 ≤ y) (hp : 0 < p) (hq : 0 < q) (ht : t = 1 ∨ t = -1) :
  eI c4 (vC x y p q t) = cond (decide (x / p ≠ y / q)) (some (.inr (sgn (x / p - y / q) * t))) (cond (decide (x % p = 0)) (cond (decide (y % q = 0)) (some (.inr 0)) (some (.inr (-t)))) (cond (decide (y % q = 0)) (some (.inr t)) (some (.inl (vC p q (x % p) (y % q) (-t)))))) := by
 have fitle : ∀ {a b : Int}, fit b → 0 ≤ a → a ≤ b → fit a := by
  intro a b hb h0 h1
  unfold fit at *
  omega
 have fd : ∀ {g x : Int}, fit g → 0 ≤ g → 0 < x → g.fdiv x = g / x ∧ g.fmod x = g % x ∧ fit (g / x) ∧ fit (g % x) := by
  intro g x hg h1 h2
  have e : g.fdiv x = g / x := Int.fdiv_eq_ediv_of_nonneg _ (by omega)
  refine ⟨e, Int.fmod_eq_emod_of_nonneg _ (by omega), fitle hg (Int.ediv_nonneg (by omega) (by omega)) (Int.ediv_le_self _ (by omega)), fitle hg (Int.emod_nonneg _ (by omega)) ?_⟩
  have := Int.mul_ediv_add_emod g x
  have h3 : 0 ≤ x * (g / x) := Int.mul_nonneg (by omega) (Int.ediv_nonneg (by omega) (by omega))
  omega
 obtain ⟨a1, a2, a3, a4⟩ := fd fx x0 hp
 obtain ⟨b1, b2, b3, b4⟩ := fd fy y0 hq
 have d1 := C9 fx fp (by omega) (by rw [a1]; exact a3)
 have d2 := C9 fy fq (by omega) (by rw [b1]; exact b3)
 rw [a1, a2] at d1
 rw [b1, b2] at d2
 have q1 : mm (ac (wcs [x]) 0) (ac (wcs [x]) 1) (ac (wcs [x]) 2) (ac (wcs [x]) 3) (ac (wcs [x]) 4) (ac (wcs [x]) 5) (ac (wcs [x]) 6) (ac (wcs [x]) 7) (ac (wcs [p]) 0) (ac (wcs [p]) 1) (ac (wcs [p]) 2) (ac (wcs [p]) 3) (ac (wcs [p]) 4) (ac (wcs [p]) 5) (ac (wcs [p]) 6) (ac (wcs [p]) 7) = some (x / p, x % p) := d1
 have q2 : mm (ac (wcs [y]) 0) (ac (wcs [y]) 1) (ac (wcs [y]) 2) (ac (wcs [y]) 3) (ac (wcs [y]) 4) (ac (wcs [y]) 5) (ac (wcs [y]) 6) (ac (wcs [y]) 7) (ac (wcs [q]) 0) (ac (wcs [q]) 1) (ac (wcs [q]) 2) (ac (wcs [q]) 3) (ac (wcs [q]) 4) (ac (wcs [q]) 5) (ac (wcs [q]) 6) (ac (wcs [q]) 7) = some (y / q, y % q) := d2
 have r0 : ∀ z : Int, aq k8 (wcs [z]) 0 = true := fun z => wro (l := [z]) (i := 0) (by simp)
 have l8 : ∀ z : Int, decide (0 + 8 ≤ List.length (wcs [z])) = true := fun _ => rfl
 have wt : IntKind.wrap .i64 (0 - t) = -t := by rw [cw (by omega)]; omega
 have ws : IntKind.wrap .i64 (sgn (x / p - y / q) * t) = sgn (x / p - y / q) * t := by
  have : sgn (x / p - y / q) = 0 ∨ sgn (x / p - y / q) = 1 ∨ sgn (x / p - y / q) = -1 := by
   by_cases h : x / p - y / q = 0
   ·rw [h]; exact .inl rfl
   ·exact .inr (OL h)
  rcases this with e | e | e <;> rw [e] <;> rcases ht with rfl | rfl <;> rfl
 have bne : (sgn (x / p - y / q) != 0) = decide (x / p ≠ y / q) := by
  unfold bne
  rw [Me]
  by_cases h : x / p = y / q
  ·rw [UI (show x / p - y / q = 0 by omega), UH (show ¬ x / p ≠ y / q by omega)]; rfl
  ·rw [UH (show ¬ x / p - y / q = 0 by omega), UI h]; rfl
 simp only [eI, eH, vC, r0, aw, q1, q2, Uz, Ih a3 b3, Fw a4, Fw b4, Me, bne, wt, ws, l8]
 rfl
theorem P7 : ∀ (k : Nat) (x y p q t : Int), fit x → fit y → fit p → fit q → 0 ≤ x → 0 ≤ y → 0 < p → 0 < q → (t = 1 ∨ t = -1) → p < ((2 ^ k : Nat) : Int) →
  iter (eI c4) (2 * k + 1) (vC x y p q t) = some (t * sgn (x * q - y * p)) := by
 have one : ∀ {x y p q t : Int}, fit x → fit y → fit p → fit q → 0 ≤ x → 0 ≤ y → 0 < p → 0 < q → (t = 1 ∨ t = -1) →
   eI c4 (vC x y p q t) = some (.inr (t * sgn (x * q - y * p))) ∨
   (eI c4 (vC x y p q t) = some (.inl (vC p q (x % p) (y % q) (-t))) ∧ 0 < x % p ∧ x % p < p ∧ 0 < y % q ∧ y % q < q ∧ t * sgn (x * q - y * p) = -t * sgn (p * (y % q) - q * (x % p))) := by
  intro x y p q t fx fy fp fq x0 y0 hp hq ht
  have st := P6 fx fy fp fq x0 y0 hp hq ht
  have ex := Int.mul_ediv_add_emod x p
  have ey := Int.mul_ediv_add_emod y q
  have r1 := Int.emod_nonneg x (show p ≠ 0 by omega)
  have r2 := Int.emod_lt_of_pos x hp
  have s1 := Int.emod_nonneg y (show q ≠ 0 by omega)
  have s2 := Int.emod_lt_of_pos y hq
  rw [st]
  by_cases h : x / p ≠ y / q
  ·left
   rw [UI h, cond_true]
   have := P5 hp hq r1 r2 s1 s2 h
   rw [ex, ey] at this
   rw [this, Int.mul_comm]
  ·have h' : x / p = y / q := by omega
   rw [UH h, cond_false]
   have e : x * q - y * p = x % p * q - y % q * p := by
    conv => lhs; rw [← ex, ← ey, h']
    grind
   rw [e]
   generalize hr : x % p = r at *
   generalize hs : y % q = s at *
   by_cases hr0 : r = 0
   ·left
    rw [UI hr0, cond_true]
    subst hr0
    by_cases hs0 : s = 0
    ·rw [UI hs0, hs0]; simp [P4]
    ·rw [UH hs0, cond_false]
     have : 0 < s * p := Int.mul_pos (by omega) hp
     rw [kf (by omega)]
     congr 2; omega
   ·rw [UH hr0, cond_false]
    by_cases hs0 : s = 0
    ·left
     rw [UI hs0, cond_true, hs0]
     have : 0 < r * q := Int.mul_pos (by omega) hq
     rw [mF (by omega)]
     congr 2; omega
    ·right
     rw [UH hs0, cond_false]
     refine ⟨rfl, by omega, by omega, by omega, by omega, ?_⟩
     have : p * s - q * r = -(r * q - s * p) := by grind
     rw [this, RY, Int.neg_mul, Int.mul_neg, Int.neg_neg]
 have fitle : ∀ {a b : Int}, fit b → 0 ≤ a → a ≤ b → fit a := by
  intro a b hb h0 h1
  unfold fit at *
  omega
 intro k
 induction k with
 | zero => intro x y p q t _ _ _ _ _ _ hp _ _ h; simp at h; omega
 | succ k ih =>
  intro x y p q t fx fy fp fq x0 y0 hp hq ht hk
  rw [show 2 * (k + 1) + 1 = (2 * k + 1 + 1) + 1 by omega]
  rcases one fx fy fp fq x0 y0 hp hq ht with h | ⟨h, a1, a2, a3, a4, a5⟩
  ·exact eZ _ h
  ·refine de h ?_
   rw [a5]
   have f1 := fitle fp (Int.le_of_lt a1) (Int.le_of_lt a2)
   have f2 := fitle fq (Int.le_of_lt a3) (Int.le_of_lt a4)
   have ht' : -t = 1 ∨ -t = -1 := by omega
   generalize x % p = r at *
   generalize y % q = s at *
   rcases one fp fq f1 f2 (Int.le_of_lt hp) (Int.le_of_lt hq) a1 a3 ht' with h | ⟨h, b1, b2, b3, b4, b5⟩
   ·exact eZ _ h
   ·refine de h ?_
    rw [b5]
    have g1 := fitle f1 (Int.le_of_lt b1) (Int.le_of_lt b2)
    have g2 := fitle f2 (Int.le_of_lt b3) (Int.le_of_lt b4)
    refine ih r s (p % r) (q % s) (- -t) f1 f2 g1 g2 (Int.le_of_lt a1) (Int.le_of_lt a3) b1 b3 (by omega) ?_
    have dx : r * (p / r) + p % r = p := Int.mul_ediv_add_emod p r
    have q1 : 1 ≤ p / r := (Int.le_ediv_iff_mul_le a1).2 (by omega)
    have q2 : r * 1 ≤ r * (p / r) := UV q1 (by omega)
    rw [Nat.pow_succ] at hk
    omega
theorem To {N N' : Pt} {D D' : Int} (hN : PtB 240 N) (hD : sm 190 D) (hN' : PtB 240 N') (hD' : sm 190 D') (d0 : 0 < D) (d0' : 0 < D') (cs cs' : LA_) (n n' : Nat) :
  kl (aa N.1 0) (aa N.1 1) (aa N.1 2) (aa N.1 3) (aa N.1 4) (aa N.1 5) (aa N.1 6) (aa N.1 7) (aa N.2.1 0) (aa N.2.1 1) (aa N.2.1 2) (aa N.2.1 3) (aa N.2.1 4) (aa N.2.1 5) (aa N.2.1 6) (aa N.2.1 7) (aa N.2.2 0) (aa N.2.2 1) (aa N.2.2 2) (aa N.2.2 3) (aa N.2.2 4) (aa N.2.2 5) (aa N.2.2 6) (aa N.2.2 7) (aa D 0) (aa D 1) (aa D 2) (aa D 3) (aa D 4) (aa D 5) (aa D 6) (aa D 7) cs n
   (aa N'.1 0) (aa N'.1 1) (aa N'.1 2) (aa N'.1 3) (aa N'.1 4) (aa N'.1 5) (aa N'.1 6) (aa N'.1 7) (aa N'.2.1 0) (aa N'.2.1 1) (aa N'.2.1 2) (aa N'.2.1 3) (aa N'.2.1 4) (aa N'.2.1 5) (aa N'.2.1 6) (aa N'.2.1 7) (aa N'.2.2 0) (aa N'.2.2 1) (aa N'.2.2 2) (aa N'.2.2 3) (aa N'.2.2 4) (aa N'.2.2 5) (aa N'.2.2 6) (aa N'.2.2 7) (aa D' 0) (aa D' 1) (aa D' 2) (aa D' 3) (aa D' 4) (aa D' 5) (aa D' 6) (aa D' 7) cs' n'
   = some (sgn (ae N N * (D' * D') - ae N' N' * (D * D))) := by
 haveI n1 : Sm 240 N.1 := ⟨hN.h.1⟩
 haveI n2 : Sm 240 N.2.1 := ⟨hN.h.2.1⟩
 haveI n3 : Sm 240 N.2.2 := ⟨hN.h.2.2⟩
 haveI m1 : Sm 240 N'.1 := ⟨hN'.h.1⟩
 haveI m2 : Sm 240 N'.2.1 := ⟨hN'.h.2.1⟩
 haveI m3 : Sm 240 N'.2.2 := ⟨hN'.h.2.2⟩
 haveI d1 : Sm 190 D := ⟨hD⟩
 haveI d2 : Sm 190 D' := ⟨hD'⟩
 have fx : fit (ae N N) := Sm.fit (z := N.1 * N.1 + N.2.1 * N.2.1 + N.2.2 * N.2.2) (by decide)
 have fy : fit (ae N' N') := Sm.fit (z := N'.1 * N'.1 + N'.2.1 * N'.2.1 + N'.2.2 * N'.2.2) (by decide)
 have fp : fit (D * D) := Sm.fit (by decide)
 have fq : fit (D' * D') := Sm.fit (by decide)
 have hlt : ∀ k, k = 255 → D * D < ((2 ^ (k + 1 + k) : Nat) : Int) := by
  rintro k hk
  rw [Nat.pow_add, Nat.pow_succ, hk]
  unfold fit at fp
  omega
 have L := P7 _ (ae N N) (ae N' N') (D * D) (D' * D') 1 fx fy fp fq (iG N) (iG N') (Int.mul_pos d0 d0) (Int.mul_pos d0' d0') (.inl rfl) (hlt 255 rfl)
 have L4 : vo c4 (vC (ae N N) (ae N' N') (D * D) (D' * D') 1) = some (1 * sgn (ae N N * (D' * D') - ae N' N' * (D * D))) := j9 (by unfold tB; decide) L
 rw [Int.one_mul] at L4
 unfold kl
 unfold v8
 rw [Fx, Uz, Fx, Uz, rJ (by decide) (by decide) (by decide), Uz, rJ (by decide) (by decide) (by decide), Uz]
 have := L4
 simp only [vC, c4, wcs] at this
 exact (congrArg (Option.bind · fun e5 => some e5) this).trans rfl
theorem Nr.De {l l' : List Pt} {o o' : List Nat} {N N' k : Pt} {D D' : Int} (h : Nr l o N D) (h' : Nr l' o' N' D') (hl : ∀ p ∈ l, p ∈ l') (hk : k ∈ l') (hp : ae k (bm (pick l o)) < lev l o) : ae N' N' * (D * D) < ae N N * (D' * D') := by
 have z : Nst (pick l o) (wts (pick l o)).1 (bm (pick l o)) (wts (pick l o)).2 (lev l o) := Nst.of h.own.v.1 h.own.v.2
 have z' : Nst (pick l' o') (wts (pick l' o')).1 (bm (pick l' o')) (wts (pick l' o')).2 (lev l' o') := Nst.of h'.own.v.1 h'.own.v.2
 have f := Go.Ev.De z z' (k := k) (fun p hp => h'.none p (hl p (FE h.own.b p hp))) (h'.none k hk) hp
 obtain ⟨g, g0, e1, e2⟩ := h.CG.ex
 obtain ⟨g', g0', e1', e2'⟩ := h'.CG.ex
 rw [e1, e2, e1', e2'] at f
 have s : ∀ (g : Int) (N : Pt), ae (g * N.1, g * N.2.1, g * N.2.2) (g * N.1, g * N.2.1, g * N.2.2) = g * g * ae N N := by intro g N; simp only [ae]; grind
 rw [s, s] at f
 have gg : 0 < g * g * (g' * g') := Int.mul_pos (Int.mul_pos g0 g0) (Int.mul_pos g0' g0')
 have e : g' * g' * ae N' N' * (g * D * (g * D)) = g * g * (g' * g') * (ae N' N' * (D * D)) := by grind
 have e' : g * g * ae N N * (g' * D' * (g' * D')) = g * g * (g' * g') * (ae N N * (D' * D')) := by grind
 rw [e, e'] at f
 exact Int.lt_of_mul_lt_mul_left f (Int.le_of_lt gg)
theorem Nr.rM {l : List Pt} {o : List Nat} {N : Pt} {D : Int} (h : Nr l o N D) : 0 < D := by
 have z : Nst (pick l o) (wts (pick l o)).1 (bm (pick l o)) (wts (pick l o)).2 (lev l o) := Nst.of h.own.v.1 h.own.v.2
 obtain ⟨g, g0, e1, e2⟩ := h.CG.ex
 have := z.rM
 rw [e2] at this
 refine Int.lt_of_not_ge fun d => ?_
 have k := UV d (Int.le_of_lt g0)
 rw [Int.mul_zero] at k
 exact absurd this (Int.not_lt.2 k)
theorem Nr.more {l : List Pt} {o o' : List Nat} {N N' p : Pt} {D D' : Int} (h : Nr l o N D) (h' : Nr (l ++ [p]) o' N' D') (hp : ¬ ae p (bm (pick l o)) < lev l o) : N = N' ∧ D = D' := by
 refine h.only h' (fun q hq => h'.none q (List.mem_append_left _ (FE h.own.b q hq))) (fun q hq => ?_)
 rcases U2.1 (FE h'.own.b q hq) with k | k
 ·exact h.none q k
 ·obtain rfl := List.mem_singleton.1 k
  omega
theorem P8 (l : List Pt) (p : Pt) (hl : l.length < 9223372036854775808) : iJ (pcs l) l.length p.1 p.2.1 p.2.2 = some true := by
 unfold iJ
 by_cases h0 : iH l = 0
 ·obtain ⟨hok, h1, hl2⟩ : bd l = true ∧ 1 ≤ l.length ∧ l.length ≤ 256 := by
   rcases LI l with h | h | h | h
   ·rw [h] at h0; cases h0
   ·rw [h] at h0; cases h0
   ·rw [h] at h0; cases h0
   ·exact h.2
  obtain ⟨o, N, D, hN, e⟩ := Mg hok h1 hl2
  have z0 : ((0 : Int) != 0) = false := rfl
  rw [e, Uz]
  simp only [z0, cond_false]
  by_cases h40 : l.length > 40
  ·rw [UI (show ((l.length : Nat) : Int) > 40 by omega)]; rfl
  rw [UH (show ¬ ((l.length : Nat) : Int) > 40 by omega), cond_false, Ik, Uz]
  have hb' : (bnd p.1 && bnd p.2.1 && bnd p.2.2) = bP p := rfl
  rw [hb']
  cases hb : bP p with
  | false => rfl
  | true =>
   have d1 : decide (2 * (0 + l.length) * 24 ≤ 2 ^ 48) = true := UI (by omega)
   have d2 : decide (2 * (l.length + 1) * 24 ≤ 2 ^ 48) = true := UI (by omega)
   have hok' : bd (l ++ [p]) = true := by unfold bd at *; rw [List.all_append, hok]; simp [hb]
   obtain ⟨o', N', D', hN', e'⟩ := Mg hok' (by simp) (by simp; omega)
   have e2 : cf (pcs l ++ [.int .i64 p.1, .int .i64 p.2.1, .int .i64 p.2.2]) (l.length + 1) = some (N'.1, N'.2.1, N'.2.2, D', 0, co o', o'.length) := by
    rw [Dd, UR] at e'
    exact e'
   rw [d1, aw, d2, aw, e2]
   simp only [cond_true, z0, cond_false, Uz]
   rw [K3 hN.sN hN.sD hb, Uz]
   cases hc : gT N D p with
   | true =>
    have hf := hN.De hN' (fun q hq => List.mem_append_left _ hq) (List.mem_append_right _ (by simp)) ((hN.Ii p).1 hc)
    rw [cond_true, To hN'.sN hN'.sD hN.sN hN.sD hN'.rM hN.rM, Uz, kf (by omega)]
    rfl
   | false =>
    obtain ⟨q1, q2⟩ := hN.more hN' (fun h => by have := (hN.Ii p).2 h; rw [hc] at this; cases this)
    subst q1 q2
    simp only [cond_false, beq_self_eq_true, UG, cond_true, sg, Uz]
 ·have e := Nf hl h0
  have z1 : (iH l != 0) = true := by simpa using h0
  rw [e, Uz]
  simp only [z1, cond_true, sg, Uz]
end Go.Ev
namespace Go.Ev
open Go.ChangeShapes Go.WideShapes Go.ChangeAt Go.RowKit Go.Deep
def allI (P : Program) : Nat → TypeId → Bool
 | 0, _ => false
 | d + 1, t => match P.underlying t with
  | some (.int .i64) => true
  | some (.struct fs) => fs.toList.all (fun f => allI P d f.type) && (List.range (P.cellsOf t)).all fun i => fs.toList.any fun f => decide (f.offset ≤ i ∧ i < f.offset + P.cellsOf f.type)
  | _ => false
section
variable {H : Type} {enc : TypeId × Value → H} {P : Program} {w : World} {base : Nat} {spare : Nat → Bool} {held : Bool}
theorem Od : ∀ (d : Nat) (t : TypeId), allI P d t = true → ∀ (n : Nat) (cs : List Value) (x : DataW H × List MemPlace), DataW.trod enc P w base spare held n t cs = some x → ∀ (i : Nat) (v : Value), cs[i]? = some v → ∃ z, v = Value.int .i64 z := by
 intro d
 induction d with
 | zero => intro t h; cases h
 | succ d ih =>
  intro t h n cs x hx i v hv
  unfold allI at h
  split at h
  ·rename_i ht
   obtain ⟨z, rfl, _⟩ := DataW.trod_int ht hx
   cases i with
   | zero => simp only [List.getElem?_cons_zero, UC] at hv; exact ⟨z, hv.symm⟩
   | succ i => simp at hv
  ·rename_i fs ht
   rw [UD] at h
   obtain ⟨h1, h2⟩ := h
   obtain ⟨xs, m, _, _, hlen, hxl, hf⟩ := DataW.trod_struct ht hx
   have hi : i < P.cellsOf t := by rw [← hlen]; exact (UM.1 hv).1
   have h3 := List.all_eq_true.1 h2 i (List.mem_range.2 hi)
   obtain ⟨f, hfm, hfi⟩ := List.any_eq_true.1 h3
   rw [UJ] at hfi
   obtain ⟨k, hk⟩ := List.mem_iff_getElem?.1 hfm
   rw [UY] at hk
   have h4 := hf k f hk
   have hk' : k < xs.length := by rw [hxl]; exact (Array.getElem?_eq_some_iff.1 hk).1
   rw [UK hk'] at h4
   refine ih f.type (List.all_eq_true.1 h1 f hfm) m _ _ h4 (i - f.offset) v ?_
   rw [List.getElem?_take, if_pos (by omega), List.getElem?_drop, show f.offset + (i - f.offset) = i by omega]
   exact hv
  ·cases h
theorem Oe {t e : TypeId} {C d : Nat} {a : Option Addr} {len cap : Nat} {dd : DataW H} {ps : List MemPlace} (ht : P.underlying t = some (.slice e)) (ha : allI P d e = true) (hC : P.cellsOf e = C) (hC0 : 0 < C)
  (h : DataW.Trod enc P w base (fun _ => true) held t (.slice a len cap) dd ps) :
  len = 0 ∨ ∃ (x : Addr) (Z : Nat → Int), a = some x ∧ ∀ k, k < len * C → w.cell? (x.add k) = some (.int .i64 (Z k)) := by
 obtain ⟨fuel, hf⟩ := h
 rcases open_slice ht hf with ⟨h0, _⟩ | ⟨x, l, c, m, n, D, Pl, hcs, _, hl, _, hm, _, hi⟩
 ·simp [Value.cells] at h0
  exact .inl h0.2.1
 ·simp [Value.cells] at hcs
  obtain ⟨rfl, rfl, rfl⟩ := hcs
  simp only [if_true] at hm
  subst hm
  right
  have key : ∀ k, ∃ z : Int, k < len * C → w.cell? (x.add k) = some (.int .i64 z) := by
   intro k
   by_cases hk : k < len * C
   ·have hq : k / C < len := (Nat.div_lt_iff_lt_mul hC0).2 hk
    obtain ⟨cs', h1, h2⟩ := hi (k / C) (by omega)
    rw [hC] at h1
    obtain ⟨_, hcl, hat⟩ := World.cells?_some h1
    have hr : k % C < C := Nat.mod_lt _ hC0
    have h3 := hat (k % C) hr
    have h4 : cs'[k % C]? = some (cs'[k % C]'(by omega)) := UK (by omega)
    obtain ⟨z, hz⟩ := Od d e ha n cs' _ h2 (k % C) _ h4
    refine ⟨z, fun _ => ?_⟩
    rw [h4, hz, Go.Deep.add_add, Nat.div_add_mod' k C] at h3
    exact h3
   ·exact ⟨0, fun h => absurd h hk⟩
  exact ⟨x, fun k => (key k).choose, rfl, fun k hk => (key k).choose_spec hk⟩
end
theorem Rk {A B : Type} (f : A → List B) (m : Nat) (hm : ∀ a, (f a).length = m) (l : List A) (i j : Nat) (hj : j < m) : (l.flatMap f)[i * m + j]? = (l[i]?).bind fun a => (f a)[j]? := by
 induction l generalizing i with
 | nil => simp
 | cons a l ih =>
  cases i with
  | zero => simp [List.flatMap_cons, List.getElem?_append, hm, hj]
  | succ i =>
   have h1 : (i + 1) * m + j = m + (i * m + j) := by rw [Nat.add_mul]; omega
   rw [h1, List.flatMap_cons, List.getElem?_append_right (by rw [hm]; omega), hm]
   have h2 : m + (i * m + j) - m = i * m + j := by omega
   rw [h2, ih]
   simp
theorem Rl {A B : Type} (f : A → List B) (m : Nat) (hm : ∀ a, (f a).length = m) (l : List A) : (l.flatMap f).length = l.length * m := by
 induction l with
 | nil => simp
 | cons a l ih => rw [List.flatMap_cons, UR, hm, ih, UX, Nat.add_mul]; omega
theorem Ps {w : World} {A : Type} (f : A → LA_) (row : (Nat → Int) → A) (C : Nat) (hC : 0 < C) (hlen : ∀ a, (f a).length = C) (hrow : ∀ Z j, j < C → (f (row Z))[j]? = some (.int .i64 (Z j))) {a : Option Addr} {len cap : Nat}
  (h : len = 0 ∨ ∃ (x : Addr) (Z : Nat → Int), a = some x ∧ ∀ k, k < len * C → w.cell? (x.add k) = some (.int .i64 (Z k))) :
  ∃ (l : List A) (L : Loc), l.length = len ∧ L.sp = a ∧ L.sl = len ∧ L.sk = cap ∧ (∀ ρ, BOk ρ L w (.vec (l.flatMap f) l.length C false)) ∧ (l.flatMap f ≠ [] → L.blk < w.heap.size) ∧ scC 0 (l.flatMap f) = true := by
 by_cases h0 : len = 0
 ·subst h0
  exact ⟨[], ⟨0, 0, 0, ⟨0, 0, none⟩, .nilIface, a, 0, cap, default⟩, rfl, rfl, rfl, rfl, fun ρ => ⟨rfl, .inl ⟨rfl, rfl, fun h => by cases h⟩⟩, fun h => absurd rfl h, rfl⟩
 obtain ⟨x, Z, rfl, hx⟩ := h.resolve_left h0
 have hpos : 0 < len * C := Nat.mul_pos (by omega) hC
 let l : List A := (List.range len).map fun i => row fun j => Z (i * C + j)
 have hll : l.length = len := by simp [l]
 have hfl : (l.flatMap f).length = len * C := by rw [Rl f C hlen, hll]
 have hcell : ∀ k, k < len * C → (l.flatMap f)[k]? = some (.int .i64 (Z k)) := by
  intro k hk
  have hr : k % C < C := Nat.mod_lt _ hC
  have hq : k / C < len := (Nat.div_lt_iff_lt_mul hC).2 hk
  have h1 := Rk f C hlen l (k / C) (k % C) hr
  rw [Nat.div_add_mod' k C] at h1
  rw [h1]
  have h2 : l[k / C]? = some (row fun j => Z (k / C * C + j)) := by simp [l, hq]
  rw [h2]
  show (f _)[k % C]? = _
  rw [hrow _ _ hr, Nat.div_add_mod' k C]
 have h1 := hx 0 hpos
 have hx0 : x.add 0 = x := rfl
 rw [hx0] at h1
 unfold World.cell? at h1
 split at h1
 ·rename_i c e fz hb
  split at h1
  ·cases h1
  ·rename_i hspot
   have hsp : x.spot = none := by simpa using hspot
   have hat : ∀ k, k < len * C → c[x.off + k]? = some (.int .i64 (Z k)) := by
    intro k hk
    have h2 := hx k hk
    unfold World.cell? at h2
    have hb2 : (x.add k).block = x.block := by unfold Addr.add; split <;> rfl
    have ho2 : (x.add k).off = x.off + k := by unfold Addr.add; split <;> simp_all
    rw [hb2, hb] at h2
    simp only at h2
    split at h2
    ·cases h2
    ·rw [ho2] at h2; exact h2
   have hne : l.flatMap f ≠ [] := by intro hn; rw [hn] at hfl; simp at hfl; omega
   have hsz : x.off + len * C ≤ c.size := by
    have := (Array.getElem?_eq_some_iff.1 (hat (len * C - 1) (by omega))).1
    omega
   have hadr : x = ⟨x.block, x.off, none⟩ := by cases x; simp_all
   refine ⟨l, ⟨x.block, x.off, 0, ⟨0, 0, none⟩, .nilIface, some x, len, cap, default⟩, hll, rfl, rfl, rfl, fun ρ => ⟨hll.symm, .inr ⟨hne, congrArg some hadr, by rw [hfl, hll], c, e, fz, hb, ⟨c.toList.take x.off, c.toList.drop (x.off + len * C), ?_, ?_⟩, fun h => by cases h⟩⟩, fun _ => ?_, ?_⟩
   ·apply List.ext_getElem?
    intro i
    rw [UW, List.getElem?_append, List.length_take, Array.length_toList, Nat.min_eq_left (by omega)]
    split
    ·rename_i hi; rw [List.getElem?_take, if_pos hi]
    ·rename_i hi
     rw [List.getElem?_append, aR, hfl]
     split
     ·rename_i hi2
      rw [g9, hcell _ hi2, UY]
      have := hat (i - x.off) hi2
      rw [show x.off + (i - x.off) = i by omega] at this
      rw [this]; rfl
     ·rename_i hi2
      rw [List.getElem?_drop, show x.off + len * C + (i - x.off - len * C) = i by omega]
   ·rw [List.length_take, Array.length_toList, Nat.min_eq_left (by omega)]
   ·exact (Array.getElem?_eq_some_iff.1 hb).1
   ·rw [fO]
    intro v hv
    obtain ⟨i, hi⟩ := List.mem_iff_getElem?.1 hv
    have hil : i < len * C := by rw [← hfl]; exact (UM.1 hi).1
    rw [hcell i hil] at hi
    cases hi
    exact ⟨rfl, rfl⟩
 ·cases h1
theorem Of {cs : LA_} {n sz : Nat} {own : Bool} (h : (am.vec cs n sz own).alive = true) : cs ≠ [] := by
 rintro rfl; cases h
theorem Og {w : World} {ρ : Nat → Loc} {ls : List am} (h : ∀ i b, ls[i]? = some b → BOk ρ (ρ i) w b ∧ b.owned = false ∧ scB ls.length b = true ∧ (b.alive = true → (ρ i).blk < w.heap.size)) : Rel (W0.all w) ρ ⟨ls.length, cO 0 ls⟩ w := by
 have hbk : ∀ i b, (⟨ls.length, cO 0 ls⟩ : Mem).get i = some b → i < ls.length ∧ ls[i]? = some b := by
  intro i b hi
  obtain ⟨_, h2, h3⟩ := Fp _ (lV hi)
  simp only [Nat.zero_add, Nat.sub_zero] at h2 h3
  exact ⟨h2, h3⟩
 refine ⟨fun i b hi => (hbk i b hi).1, fun i b hi => (h i b (hbk i b hi).2).2.2.1, fun i b hi => (h i b (hbk i b hi).2).1, fun i b hi => (h i b (hbk i b hi).2).2.2.2, ?_, ?_, rfl, rfl, rfl, Nat.le_refl _, fun _ _ => rfl⟩
 ·intro i j bi bj hi hj hij ho _
  rw [(h i bi (hbk i bi hi).2).2.1] at ho; cases ho
 ·intro i b hi ho
  rw [(h i b (hbk i b hi).2).2.1] at ho; cases ho
theorem da.row {P : Program} {g : FuncId} {cargs : LA_} {ls : List am} {b : Bool} {σ' : Mem} {w : World} {ρ : Nat → Loc} (h : da P g cargs ⟨ls.length, cO 0 ls⟩ (.ret (.bool b)) σ') (R : Rel (W0.all w) ρ ⟨ls.length, cO 0 ls⟩ w)
  (hs : scL ls.length cargs = true) : Calls P g (γL ρ cargs).toArray w fun e w' => e = .returned (.bool b) ∧ Below w.heap.size w w' := by
 refine (h _ ρ w R hs).mono ?_
 rintro e w' ⟨ρ', rfl, k, _⟩
 exact ⟨rfl, k.rel.os, k.rel.tape, k.rel.output, k.rel.size, fun q hq => k.rel.old q hq⟩
end Go.Ev
namespace Go.Ev
open Go.ChangeShapes Go.WideShapes Go.ChangeAt Go.RowKit Go.Deep
def vO (Z : Nat → Int) (S : Nat → Option Addr × Nat × Nat) : List Bool → Nat → List Value
 | [], _ => []
 | true :: r, i => .int .i64 (Z i) :: vO Z S r (i + 1)
 | false :: r, i => .slice (S i).1 (S i).2.1 (S i).2.2 :: vO Z S r (i + 1)
def Ib (P : Program) : List TypeId → List Bool → Bool
 | [], [] => true
 | u :: ts, k :: ks => (match P.underlying u with
  | some (.int .i64) => k
  | some (.slice _) => !k
  | _ => false) && Ib P ts ks
 | _, _ => false
def zOf (l : List Value) (i : Nat) : Int := match l[i]? with
 | some (.int _ z) => z
 | _ => 0
def sOf (l : List Value) (i : Nat) : Option Addr × Nat × Nat := match l[i]? with
 | some (.slice a b c) => (a, b, c)
 | _ => (none, 0, 0)
theorem IJ {P : Program} {w : World} {r : Reach} {b0 : Nat} {l0 : List Value} : ∀ {ts : List TypeId} {ks : List Bool} {l : List Value} {i : Nat}, Ib P ts ks = true → l.length = ts.length → (∀ (j : Nat) (v : Value), l[j]? = some v → l0[i + j]? = some v) →
  (∀ (j : Nat) (v : Value), l[j]? = some v → ∃ u, ts[j]? = some u ∧ Cell.okWide P w r b0 u v) → l = vO (zOf l0) (sOf l0) ks i
 | [], [], [], _, _, _, _, _ => rfl
 | [], _ :: _, _, _, h, _, _, _ => by simp [Ib] at h
 | _ :: _, [], _, _, h, _, _, _ => by simp [Ib] at h
 | [], [], _ :: _, _, _, h, _, _ => by simp at h
 | _ :: _, _ :: _, [], _, _, h, _, _ => by simp at h
 | u :: ts, k :: ks, v :: l, i, h, hn, h0, hv => by
  simp only [Ib, UD] at h
  have ih := IJ (w := w) (r := r) (b0 := b0) (l0 := l0) (i := i + 1) h.2 (l := l) (by simpa using hn) (fun j x hx => by
   have := h0 (j + 1) x (by simpa using hx)
   rw [show i + 1 + j = i + (j + 1) by omega]; exact this) (fun j x hx => by
   obtain ⟨u', q1, q2⟩ := hv (j + 1) x (by simpa using hx)
   exact ⟨u', by simpa using q1, q2⟩)
  obtain ⟨u', q1, q2⟩ := hv 0 v rfl
  simp only [List.getElem?_cons_zero, UC] at q1
  subst q1
  have hi : l0[i]? = some v := by simpa using h0 0 v rfl
  have h1 := h.1
  split at h1
  ·rename_i hu
   subst h1
   obtain ⟨n, rfl⟩ := Go.WideShapes.okWide_int hu (by unfold Value.okWide; rw [hu]; exact q2)
   simp only [vO, zOf, hi]
   rw [← ih]
  ·rename_i e hu
   obtain rfl : k = false := by simpa using h1
   obtain ⟨a, len, cap, rfl⟩ := Go.WideShapes.okWide_slice hu (by unfold Value.okWide; rw [hu]; exact q2)
   simp only [vO, sOf, hi]
   rw [← ih]
  ·cases h1
theorem Oj {P : Program} {w : World} {r : Reach} {b0 : Nat} {t : TypeId} {fs : Array Field} {ts : List TypeId} {ks : List Bool} {v : Value} (ht : P.underlying t = some (.struct fs)) (hc : P.cellTypes P.depth t = some ts) (hn : P.cellsOf t = ts.length)
  (hk : Ib P ts ks = true) (hv : Value.okWide P w r b0 t v) : ∃ Z S, v = .agg (vO Z S ks 0).toArray := by
 unfold Value.okWide at hv
 rw [ht] at hv
 obtain ⟨cs, rfl, hsz, ts', h1, _, h2⟩ := hv
 rw [hc] at h1
 obtain rfl : ts = ts' := by simpa using h1
 obtain ⟨l⟩ := cs
 have hl : l.length = ts.length := by simpa [hn] using hsz
 have := IJ (l0 := l) (l := l) (i := 0) hk hl (fun j v h => by simpa using h) (fun j v h => by
  obtain ⟨u, q1, q2⟩ := h2 j v (by simpa using h)
  have hj : j < ts.length := by rw [← hl]; exact (UM.1 h).1
  rw [Nat.mod_eq_of_lt hj] at q1
  exact ⟨u, q1, q2⟩)
 exact ⟨_, _, by rw [← this]⟩
end Go.Ev
