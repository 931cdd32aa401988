import Derived.Test.YtbmjabafceihgaaKam
import Derived.Deep.Slices
import Derived.WalkKit
import Derived.ProofKit
import Derived.OpenShut
import Derived.ChangeOld
import Derived.Below
import Derived.SizedLaws
set_option linter.unusedVariables false
set_option linter.unusedSimpArgs false
set_option maxRecDepth 100000
noncomputable section
namespace Go.Ev
open Go.Proofs
abbrev yS := (I8 (I8 (I8 (I8 (Int × LA_ × Nat)))))
abbrev tW := Int × Int × Int × Int × Int × LA_ × Nat
def Hg : CH := (CH.add 56 yT (CH.add 6 oV CH.none))
theorem Df : aG U2 Hg := (CH.ak IP (CH.ak sQ CH.aF))
def wU (cs0 : LA_) (n1 : Nat) (cs2 : LA_) (n3 : Nat) : Option (yS) :=
 (Option.bind (yU cs0 n1 cs2 n3) fun r1 => (cond (r1.1 != 0) (some (0, 0, 0, 0, 0, 0, 0, 0, 0, 0, 0, 0, 0, 0, 0, 0, 0, 0, 0, 0, 0, 0, 0, 0, 0, 0, 0, 0, 0, 0, 0, 0, r1.1, ([] : LA_), 0)) (Option.bind (bR r1.2.1 r1.2.2) fun r2 => (some (aY r2.1 (aY r2.2.1 (aY r2.2.2.1 (aY r2.2.2.2.1 (r2.2.2.2.2.1, r2.2.2.2.2.2.1, r2.2.2.2.2.2.2)))))))))
def eP : FD where
 X := yS
 k := 2
 pre := [(33000004, 1)]
 F := fun s => [0, 1, nameAt s 0 [.c 0, .c 32]]
 M := .tup [.agg (rl (.int .u64) 32 [.vec 2]), .int .i64]
 B := [.vec 1 true]
 toL := fun x => [.I x.1, .I x.2.1, .I x.2.2.1, .I x.2.2.2.1, .I x.s4.1, .I x.s4.2.1, .I x.s4.2.2.1, .I x.s4.2.2.2.1, .I x.s8.1, .I x.s8.2.1, .I x.s8.2.2.1, .I x.s8.2.2.2.1, .I x.s8.s4.1, .I x.s8.s4.2.1, .I x.s8.s4.2.2.1, .I x.s8.s4.2.2.2.1, .I x.s16.1, .I x.s16.2.1, .I x.s16.2.2.1, .I x.s16.2.2.2.1, .I x.s16.s4.1, .I x.s16.s4.2.1, .I x.s16.s4.2.2.1, .I x.s16.s4.2.2.2.1, .I x.s16.s8.1, .I x.s16.s8.2.1, .I x.s16.s8.2.2.1, .I x.s16.s8.2.2.2.1, .I x.s16.s8.s4.1, .I x.s16.s8.s4.2.1, .I x.s16.s8.s4.2.2.1, .I x.s16.s8.s4.2.2.2.1, .I x.s16.s16.1, .C x.s16.s16.2.1, .N x.s16.s16.2.2]
 ofL := fun ls => match ls with
  | (.I x0 :: .I x1 :: .I x2 :: .I x3 :: .I x4 :: .I x5 :: .I x6 :: .I x7 :: .I x8 :: .I x9 :: .I x10 :: .I x11 :: .I x12 :: .I x13 :: .I x14 :: .I x15 :: .I x16 :: .I x17 :: .I x18 :: .I x19 :: .I x20 :: .I x21 :: .I x22 :: .I x23 :: .I x24 :: .I x25 :: .I x26 :: .I x27 :: .I x28 :: .I x29 :: .I x30 :: .I x31 :: .I x32 :: .C x33 :: .N x34 :: []) => some (x0, x1, x2, x3, x4, x5, x6, x7, x8, x9, x10, x11, x12, x13, x14, x15, x16, x17, x18, x19, x20, x21, x22, x23, x24, x25, x26, x27, x28, x29, x30, x31, x32, x33, x34)
  | _ => none
 au := fun ls x h => by
  split at h
  ·cases h; rfl
  ·cases h
theorem FE (cs0 : LA_) (n1 : Nat) (cs2 : LA_) (n3 : Nat) (x : yS) (h : wU cs0 n1 cs2 n3 = some x) : bg U2 32 2 [.vec 0, .vec 1] [.vec cs0 n1 3 false, .vec cs2 n3 3 false] eP x :=
 FD.semA eP Df Try.func32 (fuel := 60) (by kernel_rfl) (by kernel_rfl)
  (by kernel_rfl) (Eq.trans (by kernel_rfl) h)
def nf (cs0 : LA_) (n1 : Nat) (cs2 : LA_) (n3 : Nat) : Option (tW) := Option.bind (wU cs0 n1 cs2 n3) fun (x0, x1, x2, x3, x4, x5, x6, x7, x8, x9, x10, x11, x12, x13, x14, x15, x16, x17, x18, x19, x20, x21, x22, x23, x24, x25, x26, x27, x28, x29, x30, x31, x32, x33, x34) => af (ok8 x0 x1 x2 x3 x4 x5 x6 x7 && ok8 x8 x9 x10 x11 x12 x13 x14 x15 && ok8 x16 x17 x18 x19 x20 x21 x22 x23 && ok8 x24 x25 x26 x27 x28 x29 x30 x31) (some ((num x0 x1 x2 x3 x4 x5 x6 x7), (num x8 x9 x10 x11 x12 x13 x14 x15), (num x16 x17 x18 x19 x20 x21 x22 x23), (num x24 x25 x26 x27 x28 x29 x30 x31), x32, x33, x34))
def sR : FD := ⟨tW, eP.k, eP.pre, eP.F, eP.M, eP.B, fun y => eP.toL (aY y.1 (aY y.2.1 (aY y.2.2.1 (aY y.2.2.2.1 (y.s4.1, y.s4.2.1, y.s4.2.2))))), fun _ => none, fun _ _ h => by cases h⟩
theorem Hh (cs0 : LA_) (n1 : Nat) (cs2 : LA_) (n3 : Nat) {y : tW} (h : nf cs0 n1 cs2 n3 = some y) : wU cs0 n1 cs2 n3 = some (aY y.1 (aY y.2.1 (aY y.2.2.1 (aY y.2.2.2.1 (y.s4.1, y.s4.2.1, y.s4.2.2))))) := by
 unfold nf at h
 obtain ⟨⟨x0, x1, x2, x3, x4, x5, x6, x7, x8, x9, x10, x11, x12, x13, x14, x15, x16, x17, x18, x19, x20, x21, x22, x23, x24, x25, x26, x27, x28, x29, x30, x31, x32, x33, x34⟩, h1, h2⟩ := bE_ h
 obtain ⟨h3, h4⟩ := aH h2
 simp only [UC, and_assoc] at h3
 simp only [UB] at h4
 subst h4
 obtain ⟨o0, o1, o2, o3⟩ := h3
 have q0 := aQ o0
 have q1 := aQ o1
 have q2 := aQ o2
 have q3 := aQ o3
 rw [h1]
 simp only [aY, q0, q1, q2, q3]
theorem FF (cs0 : LA_) (n1 : Nat) (cs2 : LA_) (n3 : Nat) (y : tW) (h : nf cs0 n1 cs2 n3 = some y) : bg U2 32 2 [.vec 0, .vec 1] [.vec cs0 n1 3 false, .vec cs2 n3 3 false] sR y := FE cs0 n1 cs2 n3 _ (Hh cs0 n1 cs2 n3 h)
def wV : HK where
 call := fun args σ k => match args with
  | [x0, x1] => cW σ 3 x0 fun cs0 n1 => cW σ 3 x1 fun cs2 n3 => Option.bind (nf cs0 n1 cs2 n3) fun y => aC σ 2 (sR.val y) (sR.aN y) k
  | _ => none
 nat := fun args σ k => by
  repeat' split
  all_goals simp only [av, ai, UA, Uz, aC, Uy]
 pure := false
 pok := fun h => by cases h
theorem Hi : aX U2 32 wV := by
 intro args σ r σ' h
 simp only [wV] at h
 split at h
 ·rename_i x0 x1
  obtain ⟨cs0, n1, he0, hf0, h⟩ := bE h
  obtain ⟨cs2, n3, he1, hf1, h⟩ := bE h
  obtain ⟨y, hy, h⟩ := bE_ h
  exact lifted (xs := [x0, x1]) (ls := [.vec cs0 n1 3 false, .vec cs2 n3 3 false]) (cargs := [.vec 0, .vec 1]) (bC.of ⟨⟨rfl, he0, hf0, by decide⟩, ⟨rfl, he1, hf1, by decide⟩, trivial⟩) rfl (FF cs0 n1 cs2 n3 y hy) rfl rfl rfl rfl h
 ·cases h
def Hr : CH := (CH.add 32 wV CH.none)
theorem Dm : aG U2 Hr := (CH.ak Hi CH.aF)
def nh (cs0 : LA_) (n1 : Nat) (cs2 : LA_) (n3 : Nat) : Option (Bool × Int) :=
 (Option.bind (nf cs0 n1 cs2 n3) fun r1 => (cond (r1.2.2.2.2.1 == 0) (cond ((aa r1.1 0) == 0 && ((aa r1.1 1) == 0 && ((aa r1.1 2) == 0 && ((aa r1.1 3) == 0 && ((aa r1.1 4) == 0 && ((aa r1.1 5) == 0 && ((aa r1.1 6) == 0 && ((aa r1.1 7) == 0 && ((aa r1.2.1 0) == 0 && ((aa r1.2.1 1) == 0 && ((aa r1.2.1 2) == 0 && ((aa r1.2.1 3) == 0 && ((aa r1.2.1 4) == 0 && ((aa r1.2.1 5) == 0 && ((aa r1.2.1 6) == 0 && ((aa r1.2.1 7) == 0 && ((aa r1.2.2.1 0) == 0 && ((aa r1.2.2.1 1) == 0 && ((aa r1.2.2.1 2) == 0 && ((aa r1.2.2.1 3) == 0 && ((aa r1.2.2.1 4) == 0 && ((aa r1.2.2.1 5) == 0 && ((aa r1.2.2.1 6) == 0 && ((aa r1.2.2.1 7) == 0 && true)))))))))))))))))))))))) (some (true, r1.2.2.2.2.1)) (some (false, r1.2.2.2.2.1))) (some (false, r1.2.2.2.2.1))))
def ny : FD where
 X := Bool × Int
 k := 2
 pre := []
 F := fun s => [0, 1]
 M := .tup [.bool, .int .i64]
 B := []
 toL := fun x => [.B x.1, .I x.2]
 ofL := fun ls => match ls with
  | [.B x0, .I x1] => some (x0, x1)
  | _ => none
 au := fun ls x h => by
  split at h
  ·cases h; rfl
  ·cases h
theorem FN (cs0 : LA_) (n1 : Nat) (cs2 : LA_) (n3 : Nat) (x : Bool × Int) (h : nh cs0 n1 cs2 n3 = some x) : bg U2 17 2 [.vec 0, .vec 1] [.vec cs0 n1 3 false, .vec cs2 n3 3 false] ny x :=
 FD.semA ny Dm Try.func17 (fuel := 60) (by kernel_rfl) (by kernel_rfl)
  (by kernel_rfl) (Eq.trans (by kernel_rfl) h)
def wX : HK where
 call := fun args σ k => match args with
  | [x0, x1] => cW σ 3 x0 fun cs0 n1 => cW σ 3 x1 fun cs2 n3 => Option.bind (nh cs0 n1 cs2 n3) fun y => aC σ 2 (ny.val y) (ny.aN y) k
  | _ => none
 nat := fun args σ k => by
  repeat' split
  all_goals simp only [av, ai, UA, Uz, aC, Uy]
 pure := false
 pok := fun h => by cases h
theorem Hs : aX U2 17 wX := by
 intro args σ r σ' h
 simp only [wX] at h
 split at h
 ·rename_i x0 x1
  obtain ⟨cs0, n1, he0, hf0, h⟩ := bE h
  obtain ⟨cs2, n3, he1, hf1, h⟩ := bE h
  obtain ⟨y, hy, h⟩ := bE_ h
  exact lifted (xs := [x0, x1]) (ls := [.vec cs0 n1 3 false, .vec cs2 n3 3 false]) (cargs := [.vec 0, .vec 1]) (bC.of ⟨⟨rfl, he0, hf0, by decide⟩, ⟨rfl, he1, hf1, by decide⟩, trivial⟩) rfl (FN cs0 n1 cs2 n3 y hy) rfl rfl rfl rfl h
 ·cases h
def jc : CH := CH.none
theorem kY : aG U2 jc := CH.aF
def dO {R : Type} (cc : Int × Int) (v : LA_ × Nat × Int) (kn : (LA_ × Nat × Int) → Option R) (ke : ((LA_ × Nat)) → Option R) : Option R :=
 (cond (decide (v.2.2 < 8)) (af (decide (2 * (v.2.1 + 1) * 24 ≤ 2 ^ 48)) (kn ((v.1 ++ [.int .i64 (IntKind.wrap .i64 (cc.1 + (IntKind.wrap .i64 ((Int.tmod v.2.2 2) * cc.2)))), .int .i64 (IntKind.wrap .i64 (cc.1 + (IntKind.wrap .i64 ((Int.tmod (IntKind.wrap .i64 (Int.tdiv v.2.2 2)) 2) * cc.2)))), .int .i64 (IntKind.wrap .i64 (cc.1 + (IntKind.wrap .i64 ((IntKind.wrap .i64 (Int.tdiv v.2.2 4)) * cc.2))))]), (v.2.1 + 1), (IntKind.wrap .i64 (v.2.2 + 1))))) (ke (v.1, v.2.1)))
def xb (cc : Int × Int) (v : LA_ × Nat × Int) : Option ((LA_ × Nat × Int) ⊕ ((LA_ × Nat))) := dO cc v (fun v => some (Sum.inl v)) fun e => some (Sum.inr e)
def xU (cc : Int × Int) (v : LA_ × Nat × Int) : Option ((LA_ × Nat)) := dZ (xb cc) v
def vb (cc : Int × Int) (v : LA_ × Nat × Int) : List ah := [.I cc.1, .I cc.2, .I v.2.2, .C v.1, .N v.2.1]
def kZ (ls : List ah) : Option ((Int × Int) × (LA_ × Nat × Int)) := match ls with
 | [.I x0, .I x1, .I x2, .C x3, .N x4] => some ((x0, x1), (x3, x4, x2))
 | _ => none
def k9 (e : (LA_ × Nat)) : an := ((fun e => .exit 0) e)
def lc (cc : Int × Int) (e : (LA_ × Nat)) : List ah := ((fun e => [.C e.1, .N e.2]) e)
def kN (cc : Int × Int) (e : (LA_ × Nat)) : List ah := ((fun e => []) e)
def gC (o : an) (ls : List ah) : Option (((LA_ × Nat)) × List ah) := match o with
 | .exit 0 => (match ls with
  | [.C x0, .N x1] => some ((x0, x1), [])
  | _ => none)
 | _ => none
theorem rZ : ∀ o ls e cl cc, gC o ls = some (e, cl) → cl = kN cc e → ls = lc cc e ∧ k9 e = o ∧ o ≠ .normal ∧ ∀ v, o = .pan v → sc 0 v = true := by
 intro o ls e cl cc h hc
 unfold gC at h
 split at h
 ·split at h
  ·cases h
   exact ⟨rfl, rfl, by simp, by intro v hv; cases hv <;> rfl⟩
  ·cases h
 ·cases h
def vT (o : an) : ExS := match o with
 | .exit 0 => ⟨1, (rl none 5 (some (.vec 0) :: (rl none 33 []))), [(0, .vec 3 true)], fun s => [nameAt s 5 []], [], []⟩
 | _ => ⟨0, [], [], fun _ => [], [], []⟩
theorem vc {R : Type} (cc : Int × Int) (v : LA_ × Nat × Int) (kn : (LA_ × Nat × Int) → Option R) (ke : ((LA_ × Nat)) → Option R) : dO cc v kn ke = (dO cc v (fun v => some (Sum.inl v)) fun e => some (Sum.inr e)).bind (Sum.elim kn ke) := by
 simp only [dO, bX, ai, UA, cu, bS, Uy, Uz, UZ, UY]
def ni : LD where
 CC := Int × Int
 V := LA_ × Nat × Int
 E := (LA_ × Nat)
 n := 0
 K := 1
 M := (some (.int .i64) :: none :: none :: none :: none :: some (.vec 0) :: some (.int .i64) :: some (.int .i64) :: (rl none 31 []))
 B := [(0, .vec 3 true)]
 D := []
 pre := [(5, 3)]
 F := fun s => [nameAt s 5 []]
 toL := vb
 ofL := kZ
 au := fun ls c v h => by
  unfold kZ at h
  split at h
  ·cases h; rfl
  ·cases h
 cw := dO
 nat := vc
 sh := vT
 out := k9
 toE := lc
 fQ := kN
 ofE := gC
 dn := rZ
 post := fun cc e k => ((fun e => k (.exit 0) (bo 1 (rl none 5 (some (.vec 0) :: (rl none 33 []))) [(0, .vec e.1 e.2 3 true)] [])) e)
 cv := fun cc e k => by rfl
theorem vd : cX U2 0 ni.la (aO Try.f18 0) :=
 LD.ok (ch := jc) (A := bD) aJ kY mixed (fuel := 60) ⟨by kernel_rfl, fun e => by kernel_rfl, fun cc v => by kernel_rfl, aK (l := []) (by kernel_rfl) trivial⟩
def fD (a0 a1 : Int) : Option (LA_ × Nat) :=
 (Option.bind (xU (a0, (IntKind.wrap .i64 (a1 - a0))) (([] : LA_), 0, 0)) fun e1 => (some (e1.1, e1.2)))
def f9 : FD where
 X := LA_ × Nat
 k := 0
 pre := [(4, 3)]
 F := fun s => [nameAt s 0 []]
 M := .vec 0
 B := [.vec 3 true]
 toL := fun x => [.C x.1, .N x.2]
 ofL := fun ls => match ls with
  | [.C x0, .N x1] => some (x0, x1)
  | _ => none
 au := fun ls x h => by
  split at h
  ·cases h; rfl
  ·cases h
theorem xc (a0 a1 : Int) (x : LA_ × Nat) (h : fD a0 a1 = some x) : bg U2 18 0 [.int .i64 a0, .int .i64 a1] [] f9 x :=
 FD.sem (ch := jc) (A := eT [(4, ni.la)]) (fn := Try.f18) (c := bu Try.f18) (fuel := 60) aJ kY mixed bK f9 Try.func18 (by kernel_rfl) (aK (l := [aO Try.f18 0]) (by kernel_rfl) ⟨ci (by kernel_rfl) vd, trivial⟩)
  (by kernel_rfl) (Eq.trans (by kernel_rfl) h)
def kX : HK where
 call := fun args σ k => match args with
  | [.int .i64 a0, .int .i64 a1] => Option.bind (fD a0 a1) fun y => aC σ 0 (f9.val y) (f9.aN y) k
  | _ => none
 nat := fun args σ k => by
  repeat' split
  all_goals simp only [av, ai, UA, Uz, aC, Uy]
 pure := false
 pok := fun h => by cases h
theorem xT : aX U2 18 kX := by
 intro args σ r σ' h
 simp only [kX] at h
 split at h
 ·rename_i a0 a1
  obtain ⟨y, hy, h⟩ := bE_ h
  exact lifted (xs := []) (ls := []) (cargs := [.int .i64 a0, .int .i64 a1]) (bC.of trivial) rfl (xc a0 a1 y hy) rfl rfl rfl rfl h
 ·cases h
def vR : CH := (CH.add 18 kX (CH.add 17 wX (CH.add 6 oV (CH.add 19 HD CH.none))))
theorem sY : aG U2 vR := (CH.ak xT (CH.ak Hs (CH.ak sQ (CH.ak CK CH.aF))))
def jE : Option (Bool) :=
 (Option.bind (bR ([.int .i64 2, .int .i64 (-9), .int .i64 0, .int .i64 2, .int .i64 9, .int .i64 0, .int .i64 5, .int .i64 0, .int .i64 0, .int .i64 9, .int .i64 1, .int .i64 1] : LA_) 4) fun r1 => (Option.bind (fD 0 2) fun r2 => (Option.bind (nh r2.1 r2.2 ([.int .i64 1, .int .i64 1, .int .i64 1] : LA_) 1) fun r3 => (cond r3.1 (Option.bind (fD 0 2) fun r4 => (Option.bind (nh r4.1 r4.2 ([.int .i64 3, .int .i64 3, .int .i64 3] : LA_) 1) fun r5 => (cond r5.1 (Option.bind (bR ([] : LA_) 0) fun r6 => (cond (r1.2.2.2.2.1 == 0) (Option.bind (cOf 2) fun r7 => (cond ((aa r1.1 0) == (aa r7 0) && ((aa r1.1 1) == (aa r7 1) && ((aa r1.1 2) == (aa r7 2) && ((aa r1.1 3) == (aa r7 3) && ((aa r1.1 4) == (aa r7 4) && ((aa r1.1 5) == (aa r7 5) && ((aa r1.1 6) == (aa r7 6) && ((aa r1.1 7) == (aa r7 7) && ((aa r1.2.1 0) == 0 && ((aa r1.2.1 1) == 0 && ((aa r1.2.1 2) == 0 && ((aa r1.2.1 3) == 0 && ((aa r1.2.1 4) == 0 && ((aa r1.2.1 5) == 0 && ((aa r1.2.1 6) == 0 && ((aa r1.2.1 7) == 0 && ((aa r1.2.2.1 0) == 0 && ((aa r1.2.2.1 1) == 0 && ((aa r1.2.2.1 2) == 0 && ((aa r1.2.2.1 3) == 0 && ((aa r1.2.2.1 4) == 0 && ((aa r1.2.2.1 5) == 0 && ((aa r1.2.2.1 6) == 0 && ((aa r1.2.2.1 7) == 0 && true)))))))))))))))))))))))) (Option.bind (cOf 1) fun r8 => (cond ((aa r1.2.2.2.1 0) == (aa r8 0) && ((aa r1.2.2.2.1 1) == (aa r8 1) && ((aa r1.2.2.2.1 2) == (aa r8 2) && ((aa r1.2.2.2.1 3) == (aa r8 3) && ((aa r1.2.2.2.1 4) == (aa r8 4) && ((aa r1.2.2.2.1 5) == (aa r8 5) && ((aa r1.2.2.2.1 6) == (aa r8 6) && ((aa r1.2.2.2.1 7) == (aa r8 7) && true)))))))) (cond (r3.2 == 0) (some false) (some false)) (some false))) (some false))) (some false))) (Option.bind (bR ([] : LA_) 0) fun r9 => (cond (r1.2.2.2.2.1 == 0) (Option.bind (cOf 2) fun r10 => (cond ((aa r1.1 0) == (aa r10 0) && ((aa r1.1 1) == (aa r10 1) && ((aa r1.1 2) == (aa r10 2) && ((aa r1.1 3) == (aa r10 3) && ((aa r1.1 4) == (aa r10 4) && ((aa r1.1 5) == (aa r10 5) && ((aa r1.1 6) == (aa r10 6) && ((aa r1.1 7) == (aa r10 7) && ((aa r1.2.1 0) == 0 && ((aa r1.2.1 1) == 0 && ((aa r1.2.1 2) == 0 && ((aa r1.2.1 3) == 0 && ((aa r1.2.1 4) == 0 && ((aa r1.2.1 5) == 0 && ((aa r1.2.1 6) == 0 && ((aa r1.2.1 7) == 0 && ((aa r1.2.2.1 0) == 0 && ((aa r1.2.2.1 1) == 0 && ((aa r1.2.2.1 2) == 0 && ((aa r1.2.2.1 3) == 0 && ((aa r1.2.2.1 4) == 0 && ((aa r1.2.2.1 5) == 0 && ((aa r1.2.2.1 6) == 0 && ((aa r1.2.2.1 7) == 0 && true)))))))))))))))))))))))) (Option.bind (cOf 1) fun r11 => (cond ((aa r1.2.2.2.1 0) == (aa r11 0) && ((aa r1.2.2.2.1 1) == (aa r11 1) && ((aa r1.2.2.2.1 2) == (aa r11 2) && ((aa r1.2.2.2.1 3) == (aa r11 3) && ((aa r1.2.2.2.1 4) == (aa r11 4) && ((aa r1.2.2.2.1 5) == (aa r11 5) && ((aa r1.2.2.2.1 6) == (aa r11 6) && ((aa r1.2.2.2.1 7) == (aa r11 7) && true)))))))) (cond (r3.2 == 0) (cond (r5.2 == 0) (cond (r9.2.2.2.2.1 == 2) (some true) (some false)) (some false)) (some false)) (some false))) (some false))) (some false)))))) (Option.bind (fD 0 2) fun r12 => (Option.bind (nh r12.1 r12.2 ([.int .i64 3, .int .i64 3, .int .i64 3] : LA_) 1) fun r13 => (cond r13.1 (Option.bind (bR ([] : LA_) 0) fun r14 => (cond (r1.2.2.2.2.1 == 0) (Option.bind (cOf 2) fun r15 => (cond ((aa r1.1 0) == (aa r15 0) && ((aa r1.1 1) == (aa r15 1) && ((aa r1.1 2) == (aa r15 2) && ((aa r1.1 3) == (aa r15 3) && ((aa r1.1 4) == (aa r15 4) && ((aa r1.1 5) == (aa r15 5) && ((aa r1.1 6) == (aa r15 6) && ((aa r1.1 7) == (aa r15 7) && ((aa r1.2.1 0) == 0 && ((aa r1.2.1 1) == 0 && ((aa r1.2.1 2) == 0 && ((aa r1.2.1 3) == 0 && ((aa r1.2.1 4) == 0 && ((aa r1.2.1 5) == 0 && ((aa r1.2.1 6) == 0 && ((aa r1.2.1 7) == 0 && ((aa r1.2.2.1 0) == 0 && ((aa r1.2.2.1 1) == 0 && ((aa r1.2.2.1 2) == 0 && ((aa r1.2.2.1 3) == 0 && ((aa r1.2.2.1 4) == 0 && ((aa r1.2.2.1 5) == 0 && ((aa r1.2.2.1 6) == 0 && ((aa r1.2.2.1 7) == 0 && true)))))))))))))))))))))))) (Option.bind (cOf 1) fun r16 => (cond ((aa r1.2.2.2.1 0) == (aa r16 0) && ((aa r1.2.2.2.1 1) == (aa r16 1) && ((aa r1.2.2.2.1 2) == (aa r16 2) && ((aa r1.2.2.2.1 3) == (aa r16 3) && ((aa r1.2.2.2.1 4) == (aa r16 4) && ((aa r1.2.2.2.1 5) == (aa r16 5) && ((aa r1.2.2.2.1 6) == (aa r16 6) && ((aa r1.2.2.2.1 7) == (aa r16 7) && true)))))))) (some false) (some false))) (some false))) (some false))) (Option.bind (bR ([] : LA_) 0) fun r17 => (cond (r1.2.2.2.2.1 == 0) (Option.bind (cOf 2) fun r18 => (cond ((aa r1.1 0) == (aa r18 0) && ((aa r1.1 1) == (aa r18 1) && ((aa r1.1 2) == (aa r18 2) && ((aa r1.1 3) == (aa r18 3) && ((aa r1.1 4) == (aa r18 4) && ((aa r1.1 5) == (aa r18 5) && ((aa r1.1 6) == (aa r18 6) && ((aa r1.1 7) == (aa r18 7) && ((aa r1.2.1 0) == 0 && ((aa r1.2.1 1) == 0 && ((aa r1.2.1 2) == 0 && ((aa r1.2.1 3) == 0 && ((aa r1.2.1 4) == 0 && ((aa r1.2.1 5) == 0 && ((aa r1.2.1 6) == 0 && ((aa r1.2.1 7) == 0 && ((aa r1.2.2.1 0) == 0 && ((aa r1.2.2.1 1) == 0 && ((aa r1.2.2.1 2) == 0 && ((aa r1.2.2.1 3) == 0 && ((aa r1.2.2.1 4) == 0 && ((aa r1.2.2.1 5) == 0 && ((aa r1.2.2.1 6) == 0 && ((aa r1.2.2.1 7) == 0 && true)))))))))))))))))))))))) (Option.bind (cOf 1) fun r19 => (cond ((aa r1.2.2.2.1 0) == (aa r19 0) && ((aa r1.2.2.2.1 1) == (aa r19 1) && ((aa r1.2.2.2.1 2) == (aa r19 2) && ((aa r1.2.2.2.1 3) == (aa r19 3) && ((aa r1.2.2.2.1 4) == (aa r19 4) && ((aa r1.2.2.2.1 5) == (aa r19 5) && ((aa r1.2.2.2.1 6) == (aa r19 6) && ((aa r1.2.2.2.1 7) == (aa r19 7) && true)))))))) (some false) (some false))) (some false))) (some false))))))))))
def ft : FD where
 X := Bool
 k := 0
 pre := []
 F := fun s => []
 M := .bool
 B := []
 toL := fun x => [.B x]
 ofL := fun ls => match ls with
  | [.B x0] => some x0
  | _ => none
 au := fun ls x h => by
  split at h
  ·cases h; rfl
  ·cases h
theorem uZ (x : Bool) (h : jE = some x) : bg U2 7 0 [] [] ft x :=
 FD.semA ft sY Try.func7 (fuel := 60) (by kernel_rfl) (by kernel_rfl)
  (by kernel_rfl) (Eq.trans (by kernel_rfl) h)
def jF : HK where
 call := fun args σ k => match args with
  | [] => Option.bind (jE) fun y => aC σ 0 (ft.val y) (ft.aN y) k
  | _ => none
 nat := fun args σ k => by
  repeat' split
  all_goals simp only [av, ai, UA, Uz, aC, Uy]
 pure := true
 pok := fun _ args σ r σ' h => by
  split at h
  ·exact bq h (fun y => rfl) (fun y f => rfl)
  ·cases h
theorem vS : aX U2 7 jF := by
 intro args σ r σ' h
 simp only [jF] at h
 split at h
 ·skip
  obtain ⟨y, hy, h⟩ := bE_ h
  exact lifted (xs := []) (ls := []) (cargs := []) (bC.of trivial) rfl (uZ y hy) rfl rfl rfl rfl h
 ·cases h
theorem R3 : jE = some true := by kernel_rfl
def io : Option Unit := some ()
def HE : HK where
 call := fun args σ k => match args with
  | [] => Option.bind io fun r => k (.ret (.bool true)) σ
  | _ => none
 nat := fun args σ k => by
  repeat' split
  all_goals simp only [UA, Uz, Uy]
 pure := true
 pok := fun _ args σ r σ' h => by
  split at h
  ·obtain ⟨q, h1, h2⟩ := bE_ h
   simp only [UB, UD] at h2
   obtain ⟨rfl, rfl⟩ := h2
   exact ⟨rfl, ⟨_, rfl⟩, fun σ2 => by simp only [h1, Uy]⟩
  ·cases h
theorem Ms : aX U2 7 HE := vS.cO fun args σ x h => by
 simp only [HE] at h
 split at h
 ·obtain ⟨r, h1, h2⟩ := bE_ h
  simp only [jF, R3, Uy]
  exact h2
 ·cases h
def kc : CH := (CH.add 6 oV (CH.add 7 HE CH.none))
def t6 : CH := uJ U2 iQ [8] 60 kc 5
theorem qB : aG U2 kc := (CH.ak sQ (CH.ak Ms CH.aF))
theorem rf : aG U2 t6 := ik aJ mixed bK qB 5
def iH (cs0 : LA_) (n1 : Nat) (a2 : Int) : Option (Bool) :=
 (Option.bind (bR cs0 n1) fun r1 => (cond (r1.2.2.2.2.1 != 0) (Option.bind (io) fun r2 => (some true)) (cond (decide (((n1 : Nat) : Int) > 40)) (Option.bind (io) fun r3 => (some true)) (af (!decide (((n1 : Nat) : Int) = 0)) (cond (decide ((Int.tmod a2 ((n1 : Nat) : Int)) < 0)) (af ((decide (0 ≤ (IntKind.wrap .i64 ((Int.tmod a2 ((n1 : Nat) : Int)) + ((n1 : Nat) : Int))))) && (true && (decide ((Int.toNat (IntKind.wrap .i64 ((Int.tmod a2 ((n1 : Nat) : Int)) + ((n1 : Nat) : Int)))) ≤ n1) && (decide (n1 ≤ n1) && decide ((Int.toNat (IntKind.wrap .i64 ((Int.tmod a2 ((n1 : Nat) : Int)) + ((n1 : Nat) : Int)))) < n1))))) (af (decide (((Int.toNat (IntKind.wrap .i64 ((Int.tmod a2 ((n1 : Nat) : Int)) + ((n1 : Nat) : Int)))) * 3) + (n1 - (Int.toNat (IntKind.wrap .i64 ((Int.tmod a2 ((n1 : Nat) : Int)) + ((n1 : Nat) : Int))))) * 3 ≤ List.length cs0)) (af (decide (2 * (0 + (n1 - (Int.toNat (IntKind.wrap .i64 ((Int.tmod a2 ((n1 : Nat) : Int)) + ((n1 : Nat) : Int)))))) * 24 ≤ 2 ^ 48)) (af (true && ((decide (0 ≤ (IntKind.wrap .i64 ((Int.tmod a2 ((n1 : Nat) : Int)) + ((n1 : Nat) : Int))))) && (decide (0 ≤ (Int.toNat (IntKind.wrap .i64 ((Int.tmod a2 ((n1 : Nat) : Int)) + ((n1 : Nat) : Int))))) && (decide ((Int.toNat (IntKind.wrap .i64 ((Int.tmod a2 ((n1 : Nat) : Int)) + ((n1 : Nat) : Int)))) ≤ n1) && decide (0 < n1))))) (af (decide ((0 * 3) + ((Int.toNat (IntKind.wrap .i64 ((Int.tmod a2 ((n1 : Nat) : Int)) + ((n1 : Nat) : Int)))) - 0) * 3 ≤ List.length cs0)) (af (decide (2 * ((n1 - (Int.toNat (IntKind.wrap .i64 ((Int.tmod a2 ((n1 : Nat) : Int)) + ((n1 : Nat) : Int))))) + ((Int.toNat (IntKind.wrap .i64 ((Int.tmod a2 ((n1 : Nat) : Int)) + ((n1 : Nat) : Int)))) - 0)) * 24 ≤ 2 ^ 48)) (Option.bind (bR ((List.take ((n1 - (Int.toNat (IntKind.wrap .i64 ((Int.tmod a2 ((n1 : Nat) : Int)) + ((n1 : Nat) : Int))))) * 3) (List.drop ((Int.toNat (IntKind.wrap .i64 ((Int.tmod a2 ((n1 : Nat) : Int)) + ((n1 : Nat) : Int)))) * 3) cs0)) ++ (List.take (((Int.toNat (IntKind.wrap .i64 ((Int.tmod a2 ((n1 : Nat) : Int)) + ((n1 : Nat) : Int)))) - 0) * 3) (List.drop (0 * 3) cs0))) ((n1 - (Int.toNat (IntKind.wrap .i64 ((Int.tmod a2 ((n1 : Nat) : Int)) + ((n1 : Nat) : Int))))) + ((Int.toNat (IntKind.wrap .i64 ((Int.tmod a2 ((n1 : Nat) : Int)) + ((n1 : Nat) : Int)))) - 0))) fun r4 => (cond (r4.2.2.2.2.1 != 0) (some false) (cond ((aa r1.1 0) == (aa r4.1 0) && ((aa r1.1 1) == (aa r4.1 1) && ((aa r1.1 2) == (aa r4.1 2) && ((aa r1.1 3) == (aa r4.1 3) && ((aa r1.1 4) == (aa r4.1 4) && ((aa r1.1 5) == (aa r4.1 5) && ((aa r1.1 6) == (aa r4.1 6) && ((aa r1.1 7) == (aa r4.1 7) && ((aa r1.2.1 0) == (aa r4.2.1 0) && ((aa r1.2.1 1) == (aa r4.2.1 1) && ((aa r1.2.1 2) == (aa r4.2.1 2) && ((aa r1.2.1 3) == (aa r4.2.1 3) && ((aa r1.2.1 4) == (aa r4.2.1 4) && ((aa r1.2.1 5) == (aa r4.2.1 5) && ((aa r1.2.1 6) == (aa r4.2.1 6) && ((aa r1.2.1 7) == (aa r4.2.1 7) && ((aa r1.2.2.1 0) == (aa r4.2.2.1 0) && ((aa r1.2.2.1 1) == (aa r4.2.2.1 1) && ((aa r1.2.2.1 2) == (aa r4.2.2.1 2) && ((aa r1.2.2.1 3) == (aa r4.2.2.1 3) && ((aa r1.2.2.1 4) == (aa r4.2.2.1 4) && ((aa r1.2.2.1 5) == (aa r4.2.2.1 5) && ((aa r1.2.2.1 6) == (aa r4.2.2.1 6) && ((aa r1.2.2.1 7) == (aa r4.2.2.1 7) && true)))))))))))))))))))))))) (cond ((aa r1.2.2.2.1 0) == (aa r4.2.2.2.1 0) && ((aa r1.2.2.2.1 1) == (aa r4.2.2.2.1 1) && ((aa r1.2.2.2.1 2) == (aa r4.2.2.2.1 2) && ((aa r1.2.2.2.1 3) == (aa r4.2.2.2.1 3) && ((aa r1.2.2.2.1 4) == (aa r4.2.2.2.1 4) && ((aa r1.2.2.2.1 5) == (aa r4.2.2.2.1 5) && ((aa r1.2.2.2.1 6) == (aa r4.2.2.2.1 6) && ((aa r1.2.2.2.1 7) == (aa r4.2.2.2.1 7) && true)))))))) (af (decide (0 ≤ 0) && decide (0 < ((n1 : Nat) : Int))) (af (aq kK cs0 (Int.toNat 0 * 3)) (af (decide (0 ≤ (IntKind.wrap .i64 ((Int.tmod a2 ((n1 : Nat) : Int)) + ((n1 : Nat) : Int)))) && decide ((IntKind.wrap .i64 ((Int.tmod a2 ((n1 : Nat) : Int)) + ((n1 : Nat) : Int))) < ((n1 : Nat) : Int))) (af (aq kK cs0 (Int.toNat (IntKind.wrap .i64 ((Int.tmod a2 ((n1 : Nat) : Int)) + ((n1 : Nat) : Int))) * 3)) (cond ((Int.tmod (IntKind.wrap .i64 ((ac cs0 ((Int.toNat 0 * 3) + 0)) + (ac cs0 ((Int.toNat (IntKind.wrap .i64 ((Int.tmod a2 ((n1 : Nat) : Int)) + ((n1 : Nat) : Int))) * 3) + 0)))) 2) != 0) (Option.bind (io) fun r5 => (some true)) (cond ((Int.tmod (IntKind.wrap .i64 ((ac cs0 ((Int.toNat 0 * 3) + 1)) + (ac cs0 ((Int.toNat (IntKind.wrap .i64 ((Int.tmod a2 ((n1 : Nat) : Int)) + ((n1 : Nat) : Int))) * 3) + 1)))) 2) != 0) (Option.bind (io) fun r6 => (some true)) (cond ((Int.tmod (IntKind.wrap .i64 ((ac cs0 ((Int.toNat 0 * 3) + 2)) + (ac cs0 ((Int.toNat (IntKind.wrap .i64 ((Int.tmod a2 ((n1 : Nat) : Int)) + ((n1 : Nat) : Int))) * 3) + 2)))) 2) != 0) (Option.bind (io) fun r7 => (some true)) (af (decide (2 * (((n1 - (Int.toNat (IntKind.wrap .i64 ((Int.tmod a2 ((n1 : Nat) : Int)) + ((n1 : Nat) : Int))))) + ((Int.toNat (IntKind.wrap .i64 ((Int.tmod a2 ((n1 : Nat) : Int)) + ((n1 : Nat) : Int)))) - 0)) + 1) * 24 ≤ 2 ^ 48)) (Option.bind (bR (((List.take ((n1 - (Int.toNat (IntKind.wrap .i64 ((Int.tmod a2 ((n1 : Nat) : Int)) + ((n1 : Nat) : Int))))) * 3) (List.drop ((Int.toNat (IntKind.wrap .i64 ((Int.tmod a2 ((n1 : Nat) : Int)) + ((n1 : Nat) : Int)))) * 3) cs0)) ++ (List.take (((Int.toNat (IntKind.wrap .i64 ((Int.tmod a2 ((n1 : Nat) : Int)) + ((n1 : Nat) : Int)))) - 0) * 3) (List.drop (0 * 3) cs0))) ++ [.int .i64 (IntKind.wrap .i64 (Int.tdiv (IntKind.wrap .i64 ((ac cs0 ((Int.toNat 0 * 3) + 0)) + (ac cs0 ((Int.toNat (IntKind.wrap .i64 ((Int.tmod a2 ((n1 : Nat) : Int)) + ((n1 : Nat) : Int))) * 3) + 0)))) 2)), .int .i64 (IntKind.wrap .i64 (Int.tdiv (IntKind.wrap .i64 ((ac cs0 ((Int.toNat 0 * 3) + 1)) + (ac cs0 ((Int.toNat (IntKind.wrap .i64 ((Int.tmod a2 ((n1 : Nat) : Int)) + ((n1 : Nat) : Int))) * 3) + 1)))) 2)), .int .i64 (IntKind.wrap .i64 (Int.tdiv (IntKind.wrap .i64 ((ac cs0 ((Int.toNat 0 * 3) + 2)) + (ac cs0 ((Int.toNat (IntKind.wrap .i64 ((Int.tmod a2 ((n1 : Nat) : Int)) + ((n1 : Nat) : Int))) * 3) + 2)))) 2))]) (((n1 - (Int.toNat (IntKind.wrap .i64 ((Int.tmod a2 ((n1 : Nat) : Int)) + ((n1 : Nat) : Int))))) + ((Int.toNat (IntKind.wrap .i64 ((Int.tmod a2 ((n1 : Nat) : Int)) + ((n1 : Nat) : Int)))) - 0)) + 1)) fun r8 => (cond (r8.2.2.2.2.1 == 0) (cond ((aa r1.1 0) == (aa r8.1 0) && ((aa r1.1 1) == (aa r8.1 1) && ((aa r1.1 2) == (aa r8.1 2) && ((aa r1.1 3) == (aa r8.1 3) && ((aa r1.1 4) == (aa r8.1 4) && ((aa r1.1 5) == (aa r8.1 5) && ((aa r1.1 6) == (aa r8.1 6) && ((aa r1.1 7) == (aa r8.1 7) && ((aa r1.2.1 0) == (aa r8.2.1 0) && ((aa r1.2.1 1) == (aa r8.2.1 1) && ((aa r1.2.1 2) == (aa r8.2.1 2) && ((aa r1.2.1 3) == (aa r8.2.1 3) && ((aa r1.2.1 4) == (aa r8.2.1 4) && ((aa r1.2.1 5) == (aa r8.2.1 5) && ((aa r1.2.1 6) == (aa r8.2.1 6) && ((aa r1.2.1 7) == (aa r8.2.1 7) && ((aa r1.2.2.1 0) == (aa r8.2.2.1 0) && ((aa r1.2.2.1 1) == (aa r8.2.2.1 1) && ((aa r1.2.2.1 2) == (aa r8.2.2.1 2) && ((aa r1.2.2.1 3) == (aa r8.2.2.1 3) && ((aa r1.2.2.1 4) == (aa r8.2.2.1 4) && ((aa r1.2.2.1 5) == (aa r8.2.2.1 5) && ((aa r1.2.2.1 6) == (aa r8.2.2.1 6) && ((aa r1.2.2.1 7) == (aa r8.2.2.1 7) && true)))))))))))))))))))))))) (cond ((aa r1.2.2.2.1 0) == (aa r8.2.2.2.1 0) && ((aa r1.2.2.2.1 1) == (aa r8.2.2.2.1 1) && ((aa r1.2.2.2.1 2) == (aa r8.2.2.2.1 2) && ((aa r1.2.2.2.1 3) == (aa r8.2.2.2.1 3) && ((aa r1.2.2.2.1 4) == (aa r8.2.2.2.1 4) && ((aa r1.2.2.2.1 5) == (aa r8.2.2.2.1 5) && ((aa r1.2.2.2.1 6) == (aa r8.2.2.2.1 6) && ((aa r1.2.2.2.1 7) == (aa r8.2.2.2.1 7) && true)))))))) (Option.bind (io) fun r9 => (some true)) (some false)) (some false)) (some false))))))))))) (some false)) (some false)))))))))) (af ((decide (0 ≤ (Int.tmod a2 ((n1 : Nat) : Int)))) && (true && (decide ((Int.toNat (Int.tmod a2 ((n1 : Nat) : Int))) ≤ n1) && (decide (n1 ≤ n1) && decide ((Int.toNat (Int.tmod a2 ((n1 : Nat) : Int))) < n1))))) (af (decide (((Int.toNat (Int.tmod a2 ((n1 : Nat) : Int))) * 3) + (n1 - (Int.toNat (Int.tmod a2 ((n1 : Nat) : Int)))) * 3 ≤ List.length cs0)) (af (decide (2 * (0 + (n1 - (Int.toNat (Int.tmod a2 ((n1 : Nat) : Int))))) * 24 ≤ 2 ^ 48)) (af (true && ((decide (0 ≤ (Int.tmod a2 ((n1 : Nat) : Int)))) && (decide (0 ≤ (Int.toNat (Int.tmod a2 ((n1 : Nat) : Int)))) && (decide ((Int.toNat (Int.tmod a2 ((n1 : Nat) : Int))) ≤ n1) && decide (0 < n1))))) (af (decide ((0 * 3) + ((Int.toNat (Int.tmod a2 ((n1 : Nat) : Int))) - 0) * 3 ≤ List.length cs0)) (af (decide (2 * ((n1 - (Int.toNat (Int.tmod a2 ((n1 : Nat) : Int)))) + ((Int.toNat (Int.tmod a2 ((n1 : Nat) : Int))) - 0)) * 24 ≤ 2 ^ 48)) (Option.bind (bR ((List.take ((n1 - (Int.toNat (Int.tmod a2 ((n1 : Nat) : Int)))) * 3) (List.drop ((Int.toNat (Int.tmod a2 ((n1 : Nat) : Int))) * 3) cs0)) ++ (List.take (((Int.toNat (Int.tmod a2 ((n1 : Nat) : Int))) - 0) * 3) (List.drop (0 * 3) cs0))) ((n1 - (Int.toNat (Int.tmod a2 ((n1 : Nat) : Int)))) + ((Int.toNat (Int.tmod a2 ((n1 : Nat) : Int))) - 0))) fun r10 => (cond (r10.2.2.2.2.1 != 0) (some false) (cond ((aa r1.1 0) == (aa r10.1 0) && ((aa r1.1 1) == (aa r10.1 1) && ((aa r1.1 2) == (aa r10.1 2) && ((aa r1.1 3) == (aa r10.1 3) && ((aa r1.1 4) == (aa r10.1 4) && ((aa r1.1 5) == (aa r10.1 5) && ((aa r1.1 6) == (aa r10.1 6) && ((aa r1.1 7) == (aa r10.1 7) && ((aa r1.2.1 0) == (aa r10.2.1 0) && ((aa r1.2.1 1) == (aa r10.2.1 1) && ((aa r1.2.1 2) == (aa r10.2.1 2) && ((aa r1.2.1 3) == (aa r10.2.1 3) && ((aa r1.2.1 4) == (aa r10.2.1 4) && ((aa r1.2.1 5) == (aa r10.2.1 5) && ((aa r1.2.1 6) == (aa r10.2.1 6) && ((aa r1.2.1 7) == (aa r10.2.1 7) && ((aa r1.2.2.1 0) == (aa r10.2.2.1 0) && ((aa r1.2.2.1 1) == (aa r10.2.2.1 1) && ((aa r1.2.2.1 2) == (aa r10.2.2.1 2) && ((aa r1.2.2.1 3) == (aa r10.2.2.1 3) && ((aa r1.2.2.1 4) == (aa r10.2.2.1 4) && ((aa r1.2.2.1 5) == (aa r10.2.2.1 5) && ((aa r1.2.2.1 6) == (aa r10.2.2.1 6) && ((aa r1.2.2.1 7) == (aa r10.2.2.1 7) && true)))))))))))))))))))))))) (cond ((aa r1.2.2.2.1 0) == (aa r10.2.2.2.1 0) && ((aa r1.2.2.2.1 1) == (aa r10.2.2.2.1 1) && ((aa r1.2.2.2.1 2) == (aa r10.2.2.2.1 2) && ((aa r1.2.2.2.1 3) == (aa r10.2.2.2.1 3) && ((aa r1.2.2.2.1 4) == (aa r10.2.2.2.1 4) && ((aa r1.2.2.2.1 5) == (aa r10.2.2.2.1 5) && ((aa r1.2.2.2.1 6) == (aa r10.2.2.2.1 6) && ((aa r1.2.2.2.1 7) == (aa r10.2.2.2.1 7) && true)))))))) (af (decide (0 ≤ 0) && decide (0 < ((n1 : Nat) : Int))) (af (aq kK cs0 (Int.toNat 0 * 3)) (af (decide (0 ≤ (Int.tmod a2 ((n1 : Nat) : Int))) && decide ((Int.tmod a2 ((n1 : Nat) : Int)) < ((n1 : Nat) : Int))) (af (aq kK cs0 (Int.toNat (Int.tmod a2 ((n1 : Nat) : Int)) * 3)) (cond ((Int.tmod (IntKind.wrap .i64 ((ac cs0 ((Int.toNat 0 * 3) + 0)) + (ac cs0 ((Int.toNat (Int.tmod a2 ((n1 : Nat) : Int)) * 3) + 0)))) 2) != 0) (Option.bind (io) fun r11 => (some true)) (cond ((Int.tmod (IntKind.wrap .i64 ((ac cs0 ((Int.toNat 0 * 3) + 1)) + (ac cs0 ((Int.toNat (Int.tmod a2 ((n1 : Nat) : Int)) * 3) + 1)))) 2) != 0) (Option.bind (io) fun r12 => (some true)) (cond ((Int.tmod (IntKind.wrap .i64 ((ac cs0 ((Int.toNat 0 * 3) + 2)) + (ac cs0 ((Int.toNat (Int.tmod a2 ((n1 : Nat) : Int)) * 3) + 2)))) 2) != 0) (Option.bind (io) fun r13 => (some true)) (af (decide (2 * (((n1 - (Int.toNat (Int.tmod a2 ((n1 : Nat) : Int)))) + ((Int.toNat (Int.tmod a2 ((n1 : Nat) : Int))) - 0)) + 1) * 24 ≤ 2 ^ 48)) (Option.bind (bR (((List.take ((n1 - (Int.toNat (Int.tmod a2 ((n1 : Nat) : Int)))) * 3) (List.drop ((Int.toNat (Int.tmod a2 ((n1 : Nat) : Int))) * 3) cs0)) ++ (List.take (((Int.toNat (Int.tmod a2 ((n1 : Nat) : Int))) - 0) * 3) (List.drop (0 * 3) cs0))) ++ [.int .i64 (IntKind.wrap .i64 (Int.tdiv (IntKind.wrap .i64 ((ac cs0 ((Int.toNat 0 * 3) + 0)) + (ac cs0 ((Int.toNat (Int.tmod a2 ((n1 : Nat) : Int)) * 3) + 0)))) 2)), .int .i64 (IntKind.wrap .i64 (Int.tdiv (IntKind.wrap .i64 ((ac cs0 ((Int.toNat 0 * 3) + 1)) + (ac cs0 ((Int.toNat (Int.tmod a2 ((n1 : Nat) : Int)) * 3) + 1)))) 2)), .int .i64 (IntKind.wrap .i64 (Int.tdiv (IntKind.wrap .i64 ((ac cs0 ((Int.toNat 0 * 3) + 2)) + (ac cs0 ((Int.toNat (Int.tmod a2 ((n1 : Nat) : Int)) * 3) + 2)))) 2))]) (((n1 - (Int.toNat (Int.tmod a2 ((n1 : Nat) : Int)))) + ((Int.toNat (Int.tmod a2 ((n1 : Nat) : Int))) - 0)) + 1)) fun r14 => (cond (r14.2.2.2.2.1 == 0) (cond ((aa r1.1 0) == (aa r14.1 0) && ((aa r1.1 1) == (aa r14.1 1) && ((aa r1.1 2) == (aa r14.1 2) && ((aa r1.1 3) == (aa r14.1 3) && ((aa r1.1 4) == (aa r14.1 4) && ((aa r1.1 5) == (aa r14.1 5) && ((aa r1.1 6) == (aa r14.1 6) && ((aa r1.1 7) == (aa r14.1 7) && ((aa r1.2.1 0) == (aa r14.2.1 0) && ((aa r1.2.1 1) == (aa r14.2.1 1) && ((aa r1.2.1 2) == (aa r14.2.1 2) && ((aa r1.2.1 3) == (aa r14.2.1 3) && ((aa r1.2.1 4) == (aa r14.2.1 4) && ((aa r1.2.1 5) == (aa r14.2.1 5) && ((aa r1.2.1 6) == (aa r14.2.1 6) && ((aa r1.2.1 7) == (aa r14.2.1 7) && ((aa r1.2.2.1 0) == (aa r14.2.2.1 0) && ((aa r1.2.2.1 1) == (aa r14.2.2.1 1) && ((aa r1.2.2.1 2) == (aa r14.2.2.1 2) && ((aa r1.2.2.1 3) == (aa r14.2.2.1 3) && ((aa r1.2.2.1 4) == (aa r14.2.2.1 4) && ((aa r1.2.2.1 5) == (aa r14.2.2.1 5) && ((aa r1.2.2.1 6) == (aa r14.2.2.1 6) && ((aa r1.2.2.1 7) == (aa r14.2.2.1 7) && true)))))))))))))))))))))))) (cond ((aa r1.2.2.2.1 0) == (aa r14.2.2.2.1 0) && ((aa r1.2.2.2.1 1) == (aa r14.2.2.2.1 1) && ((aa r1.2.2.2.1 2) == (aa r14.2.2.2.1 2) && ((aa r1.2.2.2.1 3) == (aa r14.2.2.2.1 3) && ((aa r1.2.2.2.1 4) == (aa r14.2.2.2.1 4) && ((aa r1.2.2.2.1 5) == (aa r14.2.2.2.1 5) && ((aa r1.2.2.2.1 6) == (aa r14.2.2.2.1 6) && ((aa r1.2.2.2.1 7) == (aa r14.2.2.2.1 7) && true)))))))) (Option.bind (io) fun r15 => (some true)) (some false)) (some false)) (some false))))))))))) (some false)) (some false)))))))))))))))
def ld : FD where
 X := Bool
 k := 1
 pre := []
 F := fun s => [0]
 M := .bool
 B := []
 toL := fun x => [.B x]
 ofL := fun ls => match ls with
  | [.B x0] => some x0
  | _ => none
 au := fun ls x h => by
  split at h
  ·cases h; rfl
  ·cases h
theorem sZ (cs0 : LA_) (n1 : Nat) (a2 : Int) (x : Bool) (h : iH cs0 n1 a2 = some x) : bg U2 3 1 [.vec 0, .int .i64 a2] [.vec cs0 n1 3 false] ld x :=
 FD.semA ld rf Try.func3 (fuel := 60) (by kernel_rfl) (by kernel_rfl)
  (by kernel_rfl) (Eq.trans (by kernel_rfl) h)
theorem K0 : ∀ (k : Nat) (l : List Pt), (pcs l).drop (k * 3) = pcs (l.drop k)
 | 0, l => by simp
 | k + 1, [] => by simp [pcs]
 | k + 1, p :: l => by
  rw [show (k + 1) * 3 = k * 3 + 3 by omega, List.drop_succ_cons]
  show ((pcs l).drop (k * 3)) = _
  exact K0 k l
theorem Fu : ∀ (k : Nat) (l : List Pt), (pcs l).take (k * 3) = pcs (l.take k)
 | 0, l => by simp [pcs]
 | k + 1, [] => by simp [pcs]
 | k + 1, p :: l => by
  rw [show (k + 1) * 3 = k * 3 + 3 by omega, List.take_succ_cons]
  show _ :: _ :: _ :: ((pcs l).take (k * 3)) = _
  rw [Fu k l]; rfl
def bM (l : List Pt) (k : Nat) : List Pt := l.drop k ++ l.take k
theorem Aw {l : List Pt} {k : Nat} (p : Pt) : p ∈ l ↔ p ∈ bM l k := by
 unfold bM
 conv => lhs; rw [← List.take_append_drop k l]
 simp only [U1]
 exact Or.comm
theorem vM {l : List Pt} {k : Nat} (h : k < l.length) : (bM l k).length = l.length := by
 unfold bM
 rw [UQ, List.length_drop, List.length_take]; omega
theorem K1 {l : List Pt} {k : Nat} (h : k < l.length) : ((pcs l).drop (k * 3)).take ((l.length - k) * 3) ++ (pcs l).take (k * 3) = pcs (bM l k) := by
 rw [K0, Fu, Fu]
 unfold bM
 rw [yL, List.take_of_length_le (by rw [List.length_drop]; exact Nat.le_refl _)]
theorem Me {l : List Pt} {k : Nat} (h : bd l = true) : bd (bM l k) = true := by
 unfold bd at *
 rw [List.all_eq_true] at *
 exact fun p hp => h p ((Aw p).2 hp)
theorem R0 (t : Int) {n : Nat} (h : 0 < n) (h40 : n ≤ 40) : ∃ k : Nat, k < n ∧ ((t.tmod n < 0 ∧ IntKind.wrap .i64 (t.tmod n + n) = k) ∨ (¬ t.tmod n < 0 ∧ t.tmod n = k)) := by
 have n0 : (0 : Int) < n := by omega
 have hb : -(n : Int) < t.tmod n ∧ t.tmod n < n := by
  rcases Int.lt_or_le t 0 with c | c
  ·have e : t.tmod n = -((-t).tmod n) := by rw [Int.neg_tmod, Int.neg_neg]
   rw [e, Int.tmod_eq_emod_of_nonneg (by omega)]
   have a := Int.emod_nonneg (-t) (Int.ne_of_gt n0)
   have b := Int.emod_lt_of_pos (-t) n0
   omega
  ·rw [Int.tmod_eq_emod_of_nonneg c]
   have a := Int.emod_nonneg t (Int.ne_of_gt n0)
   have b := Int.emod_lt_of_pos t n0
   omega
 rcases Int.lt_or_le (t.tmod n) 0 with c | c
 ·refine ⟨(t.tmod n + n).toNat, by omega, .inl ⟨c, ?_⟩⟩
  rw [ce (by omega)]; omega
 ·exact ⟨(t.tmod n).toNat, by omega, .inr ⟨by omega, by omega⟩⟩
theorem P9 (l : List Pt) (t : Int) (hl : l.length < 9223372036854775808) (hr : IntKind.i64.has t) : iH (pcs l) l.length t = some true := by
 unfold iH
 by_cases h0 : iF l = 0
 ·obtain ⟨hok, h1, hl2⟩ : bd l = true ∧ 1 ≤ l.length ∧ l.length ≤ 256 := by
   rcases LG l with h | h | h | h
   ·rw [h] at h0; cases h0
   ·rw [h] at h0; cases h0
   ·rw [h] at h0; cases h0
   ·exact h.2
  obtain ⟨o, N, D, hN, e⟩ := Ia hok h1 hl2
  have z0 : ((0 : Int) != 0) = false := rfl
  rw [e, Uy]
  simp only [z0, cond_false]
  by_cases h40 : l.length > 40
  ·rw [UH (show ((l.length : Nat) : Int) > 40 by omega)]; rfl
  rw [UG (show ¬ ((l.length : Nat) : Int) > 40 by omega), cond_false]
  rw [UG (show ¬ ((l.length : Nat) : Int) = 0 by omega)]
  simp only [Bool.not_false, aw]
  obtain ⟨k, hk, hc⟩ := R0 t (n := l.length) (by omega) (by omega)
  obtain ⟨o', N', D', hN', e'⟩ := Ia (Me (k := k) hok) (by rw [vM hk]; omega) (by rw [vM hk]; omega)
  obtain ⟨q1, q2⟩ := hN.same hN' fun p => Aw p
  subst q1 q2
  have pl := Mf l
  have a1 : decide ((0 : Int) ≤ (k : Int)) = true := UH (by omega)
  have a2 : decide (k ≤ l.length) = true := UH (by omega)
  have a3 : decide (l.length ≤ l.length) = true := UH (by omega)
  have a4 : decide (k < l.length) = true := UH (by omega)
  have a5 : decide (0 ≤ k) = true := UH (by omega)
  have a6 : decide (0 < l.length) = true := UH (by omega)
  have a7 : decide (k * 3 + (l.length - k) * 3 ≤ (pcs l).length) = true := UH (by omega)
  have a8 : decide (2 * (0 + (l.length - k)) * 24 ≤ 2 ^ 48) = true := UH (by omega)
  have a9 : decide (0 * 3 + k * 3 ≤ (pcs l).length) = true := UH (by omega)
  have a10 : decide (2 * (l.length - k + k) * 24 ≤ 2 ^ 48) = true := UH (by omega)
  have a11 : decide (2 * (l.length - k + k + 1) * 24 ≤ 2 ^ 48) = true := UH (by omega)
  have b1 : decide ((0 : Int) < (l.length : Int)) = true := UH (by omega)
  have b2 : aq kK (pcs l) (Int.toNat 0 * 3) = true := pro (i := 0) (by omega)
  have b3 : decide ((k : Int) < (l.length : Int)) = true := UH (by omega)
  have b4 : aq kK (pcs l) (k * 3) = true := pro hk
  have b5 : decide ((0 : Nat) ≤ 0) = true := rfl
  have g0 : ac (pcs l) (Int.toNat 0 * 3 + 0) = (pat l 0).1 := pg0 (i := 0) (by omega)
  have g1 : ac (pcs l) (Int.toNat 0 * 3 + 1) = (pat l 0).2.1 := pg1 (i := 0) (by omega)
  have g2 : ac (pcs l) (Int.toNat 0 * 3 + 2) = (pat l 0).2.2 := pg2 (i := 0) (by omega)
  have eN : bR (List.take ((l.length - k) * 3) (List.drop (k * 3) (pcs l)) ++ List.take (k * 3) (List.drop (0 * 3) (pcs l))) (l.length - k + k) = some (N.1, N.2.1, N.2.2, D, 0, cn o', o'.length) := by
   rw [Nat.zero_mul, List.drop_zero, K1 hk, show l.length - k + k = (bM l k).length by rw [vM hk]; omega]
   exact e'
  have pa : pat l 0 ∈ l := by unfold pat; rw [UK, UJ (by omega)]; exact List.getElem_mem _
  have pb : pat l k ∈ l := by unfold pat; rw [UK, UJ hk]; exact List.getElem_mem _
  have oa := eI hok (i := 0) (by omega)
  have ob := eI hok hk
  have na : lev l o ≤ ae (pat l 0) (bp (pick l o)) := hN.none _ pa
  have nb : lev l o ≤ ae (pat l k) (bp (pick l o)) := hN.none _ pb
  generalize ha : pat l 0 = a at *
  generalize hb : pat l k = b at *
  obtain ⟨ax, ay, az⟩ := a
  obtain ⟨bx, by', bz⟩ := b
  have ra := vK.1 oa
  have rb := vK.1 ob
  simp only [oQ] at ra rb
  have wx : IntKind.wrap .i64 (ax + bx) = ax + bx := ce (by omega)
  have wy : IntKind.wrap .i64 (ay + by') = ay + by' := ce (by omega)
  have wz : IntKind.wrap .i64 (az + bz) = az + bz := ce (by omega)
  have h0' : ac (pcs l) (k * 3 + 0) = bx := by rw [pg0 hk, hb]
  have h1' : ac (pcs l) (k * 3 + 1) = by' := by rw [pg1 hk, hb]
  have h2' : ac (pcs l) (k * 3 + 2) = bz := by rw [pg2 hk, hb]
  have mid : Int.tmod (ax + bx) 2 = 0 → Int.tmod (ay + by') 2 = 0 → Int.tmod (az + bz) 2 = 0 → ∃ o2, bR (List.take ((l.length - k) * 3) (List.drop (k * 3) (pcs l)) ++ List.take (k * 3) (List.drop (0 * 3) (pcs l)) ++
    [.int .i64 (IntKind.wrap .i64 (Int.tdiv (ax + bx) 2)), .int .i64 (IntKind.wrap .i64 (Int.tdiv (ay + by') 2)), .int .i64 (IntKind.wrap .i64 (Int.tdiv (az + bz) 2))]) (l.length - k + k + 1) = some (N.1, N.2.1, N.2.2, D, 0, cn o2, o2.length) := by
   intro ex ey ez
   have mx := Int.mul_tdiv_add_tmod (ax + bx) 2
   have my := Int.mul_tdiv_add_tmod (ay + by') 2
   have mz := Int.mul_tdiv_add_tmod (az + bz) 2
   rw [ex] at mx
   rw [ey] at my
   rw [ez] at mz
   generalize (ax + bx).tdiv 2 = x at *
   generalize (ay + by').tdiv 2 = y at *
   generalize (az + bz).tdiv 2 = z at *
   have om : bP (x, y, z) = true := by
    simp only [bP, UC, oQ]
    omega
   have hok2 : bd (bM l k ++ [(x, y, z)]) = true := by
    have := Me (k := k) hok
    unfold bd at *
    rw [List.all_append, this]; simp [om]
   obtain ⟨o2, N2, D2, hN2, e2⟩ := Ia hok2 (by simp) (by rw [UQ, vM hk]; simp; omega)
   have hmem : ∀ p, p ∈ l → p ∈ bM l k ++ [(x, y, z)] := fun p hp => List.mem_append_left _ ((Aw p).1 hp)
   obtain ⟨q1, q2⟩ := hN.only hN2 (fun q hq => hN2.none q (hmem q (Av hN.own.b q hq))) (fun q hq => by
    rcases U1.1 (Av hN2.own.b q hq) with j | j
    ·exact hN.none q ((Aw q).2 j)
    ·obtain rfl := List.mem_singleton.1 j
     have e : 2 * ae (x, y, z) (bp (pick l o)) = ae (ax, ay, az) (bp (pick l o)) + ae (bx, by', bz) (bp (pick l o)) := by
      have e1 : 2 * x = ax + bx := by omega
      have e2 : 2 * y = ay + by' := by omega
      have e3 : 2 * z = az + bz := by omega
      simp only [ae]
      grind
     omega)
   subst q1 q2
   refine ⟨o2, ?_⟩
   rw [ce (show _ by omega), ce (show _ by omega), ce (show _ by omega), Nat.zero_mul, List.drop_zero, K1 hk, show l.length - k + k + 1 = (bM l k ++ [(x, y, z)]).length by rw [UQ, vM hk]; simp; omega]
   rw [yL] at e2
   exact e2
  have fin : ∀ {x : Int}, ¬ x = 0 → (x != 0) = true := fun h => by simpa using h
  have fin0 : ∀ {x : Int}, x = 0 → (x != 0) = false := fun h => by subst h; rfl
  have zz : ((0 : Int) == 0) = true := rfl
  rcases hc with ⟨c, hK⟩ | ⟨c, hK⟩
  ·rw [UH c, cond_true]
   simp only [hK, Int.toNat_natCast, Nat.sub_zero, a1, a2, a3, a4, a5, a6, a7, a8, a9, a10, a11, Bool.and_true, aw, eN, Uy, z0, cond_false, beq_self_eq_true, UF, cond_true, b1, b2, b3, b4, b5, g0, g1, g2, h0', h1', h2', wx, wy, wz]
   by_cases ex : Int.tmod (ax + bx) 2 = 0
   rotate_left
   ·rw [fin ex]; rfl
   by_cases ey : Int.tmod (ay + by') 2 = 0
   rotate_left
   ·rw [fin0 ex, fin ey]; rfl
   by_cases ez : Int.tmod (az + bz) 2 = 0
   rotate_left
   ·rw [fin0 ex, fin0 ey, fin ez]; rfl
   obtain ⟨o2, e2⟩ := mid ex ey ez
   rw [fin0 ex, fin0 ey, fin0 ez, cond_false, cond_false, cond_false, e2, Uy]
   simp only [zz, beq_self_eq_true, UF, cond_true, io, Uy]
  ·rw [UG c, cond_false]
   simp only [hK, Int.toNat_natCast, Nat.sub_zero, a1, a2, a3, a4, a5, a6, a7, a8, a9, a10, a11, Bool.and_true, aw, eN, Uy, z0, cond_false, beq_self_eq_true, UF, cond_true, b1, b2, b3, b4, b5, g0, g1, g2, h0', h1', h2', wx, wy, wz]
   by_cases ex : Int.tmod (ax + bx) 2 = 0
   rotate_left
   ·rw [fin ex]; rfl
   by_cases ey : Int.tmod (ay + by') 2 = 0
   rotate_left
   ·rw [fin0 ex, fin ey]; rfl
   by_cases ez : Int.tmod (az + bz) 2 = 0
   rotate_left
   ·rw [fin0 ex, fin0 ey, fin ez]; rfl
   obtain ⟨o2, e2⟩ := mid ex ey ez
   rw [fin0 ex, fin0 ey, fin0 ez, cond_false, cond_false, cond_false, e2, Uy]
   simp only [zz, beq_self_eq_true, UF, cond_true, io, Uy]
 ·have e := Ni hl h0
  have z1 : (iF l != 0) = true := by simpa using h0
  rw [e, Uy]
  simp only [z1, cond_true, io, Uy]
end Go.Ev
namespace Go.Ev
open Go.ChangeShapes Go.WideShapes Go.ChangeAt Go.RowKit Go.Deep
def allI (P : Program) : Nat → TypeId → Bool
 | 0, _ => false
 | d + 1, t => match P.underlying t with
  | some (.int .i64) => true
  | some (.struct fs) => fs.toList.all (fun f => allI P d f.type) && (List.range (P.cellsOf t)).all fun i => fs.toList.any fun f => decide (f.offset ≤ i ∧ i < f.offset + P.cellsOf f.type)
  | _ => false
section
variable {H : Type} {enc : TypeId × Value → H} {P : Program} {w : World} {base : Nat} {spare : Nat → Bool} {held : Bool}
theorem Oe : ∀ (d : Nat) (t : TypeId), allI P d t = true → ∀ (n : Nat) (cs : List Value) (x : DataW H × List MemPlace), DataW.trod enc P w base spare held n t cs = some x → ∀ (i : Nat) (v : Value), cs[i]? = some v → ∃ z, v = Value.int .i64 z := by
 intro d
 induction d with
 | zero => intro t h; cases h
 | succ d ih =>
  intro t h n cs x hx i v hv
  unfold allI at h
  split at h
  ·rename_i ht
   obtain ⟨z, rfl, _⟩ := DataW.trod_int ht hx
   cases i with
   | zero => simp only [List.getElem?_cons_zero, UB] at hv; exact ⟨z, hv.symm⟩
   | succ i => simp at hv
  ·rename_i fs ht
   rw [UC] at h
   obtain ⟨h1, h2⟩ := h
   obtain ⟨xs, m, _, _, hlen, hxl, hf⟩ := DataW.trod_struct ht hx
   have hi : i < P.cellsOf t := by rw [← hlen]; exact (UL.1 hv).1
   have h3 := List.all_eq_true.1 h2 i (List.mem_range.2 hi)
   obtain ⟨f, hfm, hfi⟩ := List.any_eq_true.1 h3
   rw [UI] at hfi
   obtain ⟨k, hk⟩ := List.mem_iff_getElem?.1 hfm
   rw [UX] at hk
   have h4 := hf k f hk
   have hk' : k < xs.length := by rw [hxl]; exact (Array.getElem?_eq_some_iff.1 hk).1
   rw [UJ hk'] at h4
   refine ih f.type (List.all_eq_true.1 h1 f hfm) m _ _ h4 (i - f.offset) v ?_
   rw [List.getElem?_take, if_pos (by omega), List.getElem?_drop, show f.offset + (i - f.offset) = i by omega]
   exact hv
  ·cases h
theorem Of {t e : TypeId} {C d : Nat} {a : Option Addr} {len cap : Nat} {dd : DataW H} {ps : List MemPlace} (ht : P.underlying t = some (.slice e)) (ha : allI P d e = true) (hC : P.cellsOf e = C) (hC0 : 0 < C)
  (h : DataW.Trod enc P w base (fun _ => true) held t (.slice a len cap) dd ps) :
  len = 0 ∨ ∃ (x : Addr) (Z : Nat → Int), a = some x ∧ ∀ k, k < len * C → w.cell? (x.add k) = some (.int .i64 (Z k)) := by
 obtain ⟨fuel, hf⟩ := h
 rcases open_slice ht hf with ⟨h0, _⟩ | ⟨x, l, c, m, n, D, Pl, hcs, _, hl, _, hm, _, hi⟩
 ·simp [Value.cells] at h0
  exact .inl h0.2.1
 ·simp [Value.cells] at hcs
  obtain ⟨rfl, rfl, rfl⟩ := hcs
  simp only [if_true] at hm
  subst hm
  right
  have key : ∀ k, ∃ z : Int, k < len * C → w.cell? (x.add k) = some (.int .i64 z) := by
   intro k
   by_cases hk : k < len * C
   ·have hq : k / C < len := (Nat.div_lt_iff_lt_mul hC0).2 hk
    obtain ⟨cs', h1, h2⟩ := hi (k / C) (by omega)
    rw [hC] at h1
    obtain ⟨_, hcl, hat⟩ := World.cells?_some h1
    have hr : k % C < C := Nat.mod_lt _ hC0
    have h3 := hat (k % C) hr
    have h4 : cs'[k % C]? = some (cs'[k % C]'(by omega)) := UJ (by omega)
    obtain ⟨z, hz⟩ := Oe d e ha n cs' _ h2 (k % C) _ h4
    refine ⟨z, fun _ => ?_⟩
    rw [h4, hz, Go.Deep.add_add, Nat.div_add_mod' k C] at h3
    exact h3
   ·exact ⟨0, fun h => absurd h hk⟩
  exact ⟨x, fun k => (key k).choose, rfl, fun k hk => (key k).choose_spec hk⟩
end
theorem Rl {A B : Type} (f : A → List B) (m : Nat) (hm : ∀ a, (f a).length = m) (l : List A) (i j : Nat) (hj : j < m) : (l.flatMap f)[i * m + j]? = (l[i]?).bind fun a => (f a)[j]? := by
 induction l generalizing i with
 | nil => simp
 | cons a l ih =>
  cases i with
  | zero => simp [List.flatMap_cons, List.getElem?_append, hm, hj]
  | succ i =>
   have h1 : (i + 1) * m + j = m + (i * m + j) := by rw [Nat.add_mul]; omega
   rw [h1, List.flatMap_cons, List.getElem?_append_right (by rw [hm]; omega), hm]
   have h2 : m + (i * m + j) - m = i * m + j := by omega
   rw [h2, ih]
   simp
theorem Rm {A B : Type} (f : A → List B) (m : Nat) (hm : ∀ a, (f a).length = m) (l : List A) : (l.flatMap f).length = l.length * m := by
 induction l with
 | nil => simp
 | cons a l ih => rw [List.flatMap_cons, UQ, hm, ih, UW, Nat.add_mul]; omega
theorem Pv {w : World} {A : Type} (f : A → LA_) (row : (Nat → Int) → A) (C : Nat) (hC : 0 < C) (hlen : ∀ a, (f a).length = C) (hrow : ∀ Z j, j < C → (f (row Z))[j]? = some (.int .i64 (Z j))) {a : Option Addr} {len cap : Nat} (hlc : len ≤ cap)
  (h : len = 0 ∨ ∃ (x : Addr) (Z : Nat → Int), a = some x ∧ ∀ k, k < len * C → w.cell? (x.add k) = some (.int .i64 (Z k))) :
  ∃ (l : List A) (L : Loc), l.length = len ∧ L.sp = a ∧ L.sl = len ∧ L.sk = cap ∧ (∀ ρ, BOk ρ L w (.vec (l.flatMap f) l.length C false)) ∧ (l.flatMap f ≠ [] → L.blk < w.heap.size) ∧ scC 0 (l.flatMap f) = true := by
 by_cases h0 : len = 0
 ·subst h0
  exact ⟨[], ⟨0, 0, 0, ⟨0, 0, none⟩, .nilIface, a, 0, cap, default⟩, rfl, rfl, rfl, rfl, fun ρ => ⟨rfl, .inl ⟨rfl, rfl, fun h => by cases h⟩⟩, fun h => absurd rfl h, rfl⟩
 obtain ⟨x, Z, rfl, hx⟩ := h.resolve_left h0
 have hpos : 0 < len * C := Nat.mul_pos (by omega) hC
 let l : List A := (List.range len).map fun i => row fun j => Z (i * C + j)
 have hll : l.length = len := by simp [l]
 have hfl : (l.flatMap f).length = len * C := by rw [Rm f C hlen, hll]
 have hcell : ∀ k, k < len * C → (l.flatMap f)[k]? = some (.int .i64 (Z k)) := by
  intro k hk
  have hr : k % C < C := Nat.mod_lt _ hC
  have hq : k / C < len := (Nat.div_lt_iff_lt_mul hC).2 hk
  have h1 := Rl f C hlen l (k / C) (k % C) hr
  rw [Nat.div_add_mod' k C] at h1
  rw [h1]
  have h2 : l[k / C]? = some (row fun j => Z (k / C * C + j)) := by simp [l, hq]
  rw [h2]
  show (f _)[k % C]? = _
  rw [hrow _ _ hr, Nat.div_add_mod' k C]
 have h1 := hx 0 hpos
 have hx0 : x.add 0 = x := rfl
 rw [hx0] at h1
 unfold World.cell? at h1
 split at h1
 ·rename_i c e fz hb
  split at h1
  ·cases h1
  ·rename_i hspot
   have hsp : x.spot = none := by simpa using hspot
   have hat : ∀ k, k < len * C → c[x.off + k]? = some (.int .i64 (Z k)) := by
    intro k hk
    have h2 := hx k hk
    unfold World.cell? at h2
    have hb2 : (x.add k).block = x.block := by unfold Addr.add; split <;> rfl
    have ho2 : (x.add k).off = x.off + k := by unfold Addr.add; split <;> simp_all
    rw [hb2, hb] at h2
    simp only at h2
    split at h2
    ·cases h2
    ·rw [ho2] at h2; exact h2
   have hne : l.flatMap f ≠ [] := by intro hn; rw [hn] at hfl; simp at hfl; omega
   have hsz : x.off + len * C ≤ c.size := by
    have := (Array.getElem?_eq_some_iff.1 (hat (len * C - 1) (by omega))).1
    omega
   have hadr : x = ⟨x.block, x.off, none⟩ := by cases x; simp_all
   refine ⟨l, ⟨x.block, x.off, cap, ⟨0, 0, none⟩, .nilIface, some x, len, cap, default⟩, hll, rfl, rfl, rfl, fun ρ => ⟨hll.symm, .inr ⟨hne, congrArg some hadr, by rw [hfl, hll], c, e, fz, hb, ⟨c.toList.take x.off, c.toList.drop (x.off + len * C), ?_, ?_⟩, (fun h => by cases h), by rw [hll]; exact hlc, rfl⟩⟩, fun _ => ?_, ?_⟩
   ·apply List.ext_getElem?
    intro i
    rw [UV, List.getElem?_append, List.length_take, Array.length_toList, Nat.min_eq_left (by omega)]
    split
    ·rename_i hi; rw [List.getElem?_take, if_pos hi]
    ·rename_i hi
     rw [List.getElem?_append, aU, hfl]
     split
     ·rename_i hi2
      rw [gZ, hcell _ hi2, UX]
      have := hat (i - x.off) hi2
      rw [show x.off + (i - x.off) = i by omega] at this
      rw [this]; rfl
     ·rename_i hi2
      rw [List.getElem?_drop, show x.off + len * C + (i - x.off - len * C) = i by omega]
   ·rw [List.length_take, Array.length_toList, Nat.min_eq_left (by omega)]
   ·exact (Array.getElem?_eq_some_iff.1 hb).1
   ·rw [fe]
    intro v hv
    obtain ⟨i, hi⟩ := List.mem_iff_getElem?.1 hv
    have hil : i < len * C := by rw [← hfl]; exact (UL.1 hi).1
    rw [hcell i hil] at hi
    cases hi
    exact ⟨rfl, rfl⟩
 ·cases h1
theorem Og {cs : LA_} {n sz : Nat} {own : Bool} (h : (am.vec cs n sz own).alive = true) : cs ≠ [] := by
 rintro rfl; cases h
theorem Oh {w : World} {ρ : Nat → Loc} {ls : List am} (h : ∀ i b, ls[i]? = some b → BOk ρ (ρ i) w b ∧ b.owned = false ∧ scB ls.length b = true ∧ (b.alive = true → (ρ i).blk < w.heap.size)) : Rel (W0.all w) ρ ⟨ls.length, cS 0 ls⟩ w := by
 have hbk : ∀ i b, (⟨ls.length, cS 0 ls⟩ : Mem).get i = some b → i < ls.length ∧ ls[i]? = some b := by
  intro i b hi
  obtain ⟨_, h2, h3⟩ := Fh _ (lN hi)
  simp only [Nat.zero_add, Nat.sub_zero] at h2 h3
  exact ⟨h2, h3⟩
 refine ⟨fun i b hi => (hbk i b hi).1, fun i b hi => (h i b (hbk i b hi).2).2.2.1, fun i b hi => (h i b (hbk i b hi).2).1, fun i b hi => (h i b (hbk i b hi).2).2.2.2, ?_, ?_, rfl, rfl, rfl, Nat.le_refl _, fun _ _ => rfl⟩
 ·intro i j bi bj hi hj hij ho _
  rw [(h i bi (hbk i bi hi).2).2.1] at ho; cases ho
 ·intro i b hi ho
  rw [(h i b (hbk i b hi).2).2.1] at ho; cases ho
theorem cE.row {P : Program} {g : FuncId} {cargs : LA_} {ls : List am} {b : Bool} {σ' : Mem} {w : World} {ρ : Nat → Loc} (h : cE P g cargs ⟨ls.length, cS 0 ls⟩ (.ret (.bool b)) σ') (R : Rel (W0.all w) ρ ⟨ls.length, cS 0 ls⟩ w)
  (hs : scL ls.length cargs = true) : Calls P g (γL ρ cargs).toArray w fun e w' => e = .returned (.bool b) ∧ Below w.heap.size w w' := by
 refine (h _ ρ w R hs).mono ?_
 rintro e w' ⟨ρ', rfl, k, _⟩
 exact ⟨rfl, k.rel.os, k.rel.tape, k.rel.output, k.rel.size, fun q hq => k.rel.old q hq⟩
end Go.Ev
