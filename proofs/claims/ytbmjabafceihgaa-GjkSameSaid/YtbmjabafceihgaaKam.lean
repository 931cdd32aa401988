import Derived.Test.YtbmjabafceihgaaKal
set_option linter.unusedVariables false
set_option linter.unusedSimpArgs false
set_option maxRecDepth 100000
noncomputable section
namespace Go.Ev
open Go.Proofs
abbrev fp := (I8 (I8 (I8 (I8 (LA_ × Nat × Nat × LA_ × Nat × Int)))))
def nU : CH := (CH.add 21 Jj (CH.add 20 y8 CH.none))
theorem qC : aG U2 nU := (CH.ak JF (CH.ak DS CH.aF))
def cJ {R : Type} (cc : fp) (v : Int × LA_ × Int) (kn : (Int × LA_ × Int) → Option R) (ke : ((Int)) → Option R) : Option R :=
 (cond (decide (v.2.2 < cc.2.2.2.2.2.2.2.2.2.2.2.2.2.2.2.2.2.2.2.2.2.2.2.2.2.2.2.2.2.2.2.2.2.2.2.2.2)) (af (decide (0 ≤ v.2.2) && decide (v.2.2 < ((cc.2.2.2.2.2.2.2.2.2.2.2.2.2.2.2.2.2.2.2.2.2.2.2.2.2.2.2.2.2.2.2.2.2.2.2.2.1 : Nat) : Int))) (af (aq kK cc.2.2.2.2.2.2.2.2.2.2.2.2.2.2.2.2.2.2.2.2.2.2.2.2.2.2.2.2.2.2.2.2.2.2.2.1 (Int.toNat v.2.2 * 3)) (Option.bind (lY cc.1 cc.2.1 cc.2.2.1 cc.2.2.2.1 cc.2.2.2.2.1 cc.2.2.2.2.2.1 cc.2.2.2.2.2.2.1 cc.2.2.2.2.2.2.2.1 cc.2.2.2.2.2.2.2.2.1 cc.2.2.2.2.2.2.2.2.2.1 cc.2.2.2.2.2.2.2.2.2.2.1 cc.2.2.2.2.2.2.2.2.2.2.2.1 cc.2.2.2.2.2.2.2.2.2.2.2.2.1 cc.2.2.2.2.2.2.2.2.2.2.2.2.2.1 cc.2.2.2.2.2.2.2.2.2.2.2.2.2.2.1 cc.2.2.2.2.2.2.2.2.2.2.2.2.2.2.2.1 cc.2.2.2.2.2.2.2.2.2.2.2.2.2.2.2.2.1 cc.2.2.2.2.2.2.2.2.2.2.2.2.2.2.2.2.2.1 cc.2.2.2.2.2.2.2.2.2.2.2.2.2.2.2.2.2.2.1 cc.2.2.2.2.2.2.2.2.2.2.2.2.2.2.2.2.2.2.2.1 cc.2.2.2.2.2.2.2.2.2.2.2.2.2.2.2.2.2.2.2.2.1 cc.2.2.2.2.2.2.2.2.2.2.2.2.2.2.2.2.2.2.2.2.2.1 cc.2.2.2.2.2.2.2.2.2.2.2.2.2.2.2.2.2.2.2.2.2.2.1 cc.2.2.2.2.2.2.2.2.2.2.2.2.2.2.2.2.2.2.2.2.2.2.2.1 (ac cc.2.2.2.2.2.2.2.2.2.2.2.2.2.2.2.2.2.2.2.2.2.2.2.2.2.2.2.2.2.2.2.2.2.2.2.1 ((Int.toNat v.2.2 * 3) + 0)) (ac cc.2.2.2.2.2.2.2.2.2.2.2.2.2.2.2.2.2.2.2.2.2.2.2.2.2.2.2.2.2.2.2.2.2.2.2.1 ((Int.toNat v.2.2 * 3) + 1)) (ac cc.2.2.2.2.2.2.2.2.2.2.2.2.2.2.2.2.2.2.2.2.2.2.2.2.2.2.2.2.2.2.2.2.2.2.2.1 ((Int.toNat v.2.2 * 3) + 2))) fun r1 => (cond (decide (v.1 < 0)) (af (decide (0 + 8 ≤ List.length v.2.1)) (kn (v.2.2, (spliced v.2.1 0 (v8 (aa r1 0) (aa r1 1) (aa r1 2) (aa r1 3) (aa r1 4) (aa r1 5) (aa r1 6) (aa r1 7) [])), (IntKind.wrap .i64 (v.2.2 + 1))))) (af (aq fL v.2.1 0) (Option.bind (Ez (aa r1 0) (aa r1 1) (aa r1 2) (aa r1 3) (aa r1 4) (aa r1 5) (aa r1 6) (aa r1 7) (ac v.2.1 0) (ac v.2.1 1) (ac v.2.1 2) (ac v.2.1 3) (ac v.2.1 4) (ac v.2.1 5) (ac v.2.1 6) (ac v.2.1 7)) fun r2 => (cond (decide (r2 < 0)) (af (decide (0 + 8 ≤ List.length v.2.1)) (kn (v.2.2, (spliced v.2.1 0 (v8 (aa r1 0) (aa r1 1) (aa r1 2) (aa r1 3) (aa r1 4) (aa r1 5) (aa r1 6) (aa r1 7) [])), (IntKind.wrap .i64 (v.2.2 + 1))))) (kn (v.1, v.2.1, (IntKind.wrap .i64 (v.2.2 + 1))))))))))) (ke v.1))
def eK (cc : fp) (v : Int × LA_ × Int) : Option ((Int × LA_ × Int) ⊕ ((Int))) := cJ cc v (fun v => some (Sum.inl v)) fun e => some (Sum.inr e)
def uS (cc : fp) (v : Int × LA_ × Int) : Option ((Int)) := dZ (eK cc) v
def AS (cc : fp) (v : Int × LA_ × Int) : List ah := [.I v.1, .I cc.s16.s16.s4.2, .I v.2.2, .I cc.1, .I cc.2.1, .I cc.2.2.1, .I cc.2.2.2.1, .I cc.s4.1, .I cc.s4.2.1, .I cc.s4.2.2.1, .I cc.s4.2.2.2.1, .I cc.s8.1, .I cc.s8.2.1, .I cc.s8.2.2.1, .I cc.s8.2.2.2.1, .I cc.s8.s4.1, .I cc.s8.s4.2.1, .I cc.s8.s4.2.2.1, .I cc.s8.s4.2.2.2.1, .I cc.s16.1, .I cc.s16.2.1, .I cc.s16.2.2.1, .I cc.s16.2.2.2.1, .I cc.s16.s4.1, .I cc.s16.s4.2.1, .I cc.s16.s4.2.2.1, .I cc.s16.s4.2.2.2.1, .I cc.s16.s8.1, .I cc.s16.s8.2.1, .I cc.s16.s8.2.2.1, .I cc.s16.s8.2.2.2.1, .I cc.s16.s8.s4.1, .I cc.s16.s8.s4.2.1, .I cc.s16.s8.s4.2.2.1, .I cc.s16.s8.s4.2.2.2.1, .C cc.s16.s16.1, .N cc.s16.s16.2.1, .C v.2.1, .N cc.s16.s16.2.2.1, .C cc.s16.s16.2.2.2.1, .N cc.s16.s16.s4.1]
def qD (ls : List ah) : Option ((fp) × (Int × LA_ × Int)) := match ls with
 | (.I x0 :: .I x1 :: .I x2 :: .I x3 :: .I x4 :: .I x5 :: .I x6 :: .I x7 :: .I x8 :: .I x9 :: .I x10 :: .I x11 :: .I x12 :: .I x13 :: .I x14 :: .I x15 :: .I x16 :: .I x17 :: .I x18 :: .I x19 :: .I x20 :: .I x21 :: .I x22 :: .I x23 :: .I x24 :: .I x25 :: .I x26 :: .I x27 :: .I x28 :: .I x29 :: .I x30 :: .I x31 :: .I x32 :: .I x33 :: .I x34 :: .C x35 :: .N x36 :: .C x37 :: .N x38 :: .C x39 :: .N x40 :: []) => some ((x3, x4, x5, x6, x7, x8, x9, x10, x11, x12, x13, x14, x15, x16, x17, x18, x19, x20, x21, x22, x23, x24, x25, x26, x27, x28, x29, x30, x31, x32, x33, x34, x35, x36, x38, x39, x40, x1), (x0, x37, x2))
 | _ => none
def qE (e : (Int)) : an := ((fun e => .exit 0) e)
def qF (cc : fp) (e : (Int)) : List ah := ((fun e => [.I e]) e)
def pj (cc : fp) (e : (Int)) : List ah := ((fun e => []) e)
def kB (o : an) (ls : List ah) : Option (((Int)) × List ah) := match o with
 | .exit 0 => (match ls with
  | [.I x0] => some (x0, [])
  | _ => none)
 | _ => none
theorem wY : ∀ o ls e cl cc, kB o ls = some (e, cl) → cl = pj cc e → ls = qF cc e ∧ qE e = o ∧ o ≠ .normal ∧ ∀ v, o = .pan v → sc 0 v = true := by
 intro o ls e cl cc h hc
 unfold kB at h
 split at h
 ·split at h
  ·cases h
   exact ⟨rfl, rfl, by simp, by intro v hv; cases hv <;> rfl⟩
  ·cases h
 ·cases h
def Bq (o : an) : ExS := match o with
 | .exit 0 => ⟨3, (none :: none :: none :: none :: some (.int .i64) :: (rl none 32 [])), [], fun s => [0, 1, 2], [], []⟩
 | _ => ⟨0, [], [], fun _ => [], [], []⟩
theorem AT {R : Type} (cc : fp) (v : Int × LA_ × Int) (kn : (Int × LA_ × Int) → Option R) (ke : ((Int)) → Option R) : cJ cc v kn ke = (cJ cc v (fun v => some (Sum.inl v)) fun e => some (Sum.inr e)).bind (Sum.elim kn ke) := by
 simp only [cJ, bX, ai, UA, cu, bS, Uy, Uz, UZ, UY]
def tK : LD where
 CC := fp
 V := Int × LA_ × Int
 E := (Int)
 n := 3
 K := 5
 M := (none :: none :: some (.ptr 3 0) :: none :: some (.int .i64) :: some (.ptr 4 0) :: (rl none 5 (some (.vec 2) :: some (.int .i64) :: some (.int .i64) :: (rl none 23 []))))
 B := [(3, .cells (rl (.int .u64) 32 [.vec 0]) true none), (0, .vec 1 false), (4, .vec 8 true), (2, .vec 3 false)]
 D := []
 pre := []
 F := fun s => [0, 1, 2, nameAt s 2 [], nameAt s 5 []]
 toL := AS
 ofL := qD
 au := fun ls c v h => by
  unfold qD at h
  split at h
  ·cases h; rfl
  ·cases h
 cw := cJ
 nat := AT
 sh := Bq
 out := qE
 toE := qF
 fQ := pj
 ofE := kB
 dn := wY
 post := fun cc e k => ((fun e => k (.exit 0) (bo 3 (none :: none :: none :: none :: some (.int .i64 e) :: (rl none 32 [])) [] [])) e)
 cv := fun cc e k => by rfl
theorem AU : cX U2 3 tK.la (aO Try.f52 0) :=
 LD.ok (ch := nU) (A := bD) aJ qC mixed (fuel := 60) ⟨by kernel_rfl, fun e => by kernel_rfl, fun cc v => by kernel_rfl, aK (l := []) (by kernel_rfl) trivial⟩
def nA (a0 a1 a2 a3 a4 a5 a6 a7 a8 a9 a10 a11 a12 a13 a14 a15 a16 a17 a18 a19 a20 a21 a22 a23 a24 a25 a26 a27 a28 a29 a30 a31 : Int) (cs32 : LA_) (n33 : Nat) (cs34 : LA_) (n35 : Nat) : Option (Int) :=
 (Option.bind (uS (a0, a1, a2, a3, a4, a5, a6, a7, a8, a9, a10, a11, a12, a13, a14, a15, a16, a17, a18, a19, a20, a21, a22, a23, a24, a25, a26, a27, a28, a29, a30, a31, cs32, n33, 1, cs34, n35, ((n35 : Nat) : Int)) ((-1), ((v8 0 0 0 0 0 0 0 0 []) : LA_), 0)) fun e1 => (some e1))
def kM : FD where
 X := Int
 k := 3
 pre := []
 F := fun s => [0, 1, 2]
 M := .int .i64
 B := []
 toL := fun x => [.I x]
 ofL := fun ls => match ls with
  | [.I x0] => some x0
  | _ => none
 au := fun ls x h => by
  split at h
  ·cases h; rfl
  ·cases h
theorem Dq (a0 a1 a2 a3 a4 a5 a6 a7 a8 a9 a10 a11 a12 a13 a14 a15 a16 a17 a18 a19 a20 a21 a22 a23 a24 a25 a26 a27 a28 a29 a30 a31 : Int) (cs32 : LA_) (n33 : Nat) (cs34 : LA_) (n35 : Nat) (x : Int) (h : nA a0 a1 a2 a3 a4 a5 a6 a7 a8 a9 a10 a11 a12 a13 a14 a15 a16 a17 a18 a19 a20 a21 a22 a23 a24 a25 a26 a27 a28 a29 a30 a31 cs32 n33 cs34 n35 = some x) : bg U2 52 3 [.agg (v8 a0 a1 a2 a3 a4 a5 a6 a7 (v8 a8 a9 a10 a11 a12 a13 a14 a15 (v8 a16 a17 a18 a19 a20 a21 a22 a23 (v8 a24 a25 a26 a27 a28 a29 a30 a31 [.vec 0])))), .ptr 1 0] [.vec cs32 n33 1 false, .cells [.vec 2] false none, .vec cs34 n35 3 false] kM x :=
 FD.sem (ch := nU) (A := eT [(3, tK.la)]) (fn := Try.f52) (c := bu Try.f52) (fuel := 60) aJ qC mixed bK kM Try.func52 (by kernel_rfl) (aK (l := [aO Try.f52 0]) (by kernel_rfl) ⟨ci (by kernel_rfl) AU, trivial⟩)
  (by kernel_rfl) (Eq.trans (by kernel_rfl) h)
def sW (z0 z8 z16 z24 : Int) (cs32 : LA_) (n33 : Nat) (cs34 : LA_) (n35 : Nat) : Option (Int) := nA (aa z0 0) (aa z0 1) (aa z0 2) (aa z0 3) (aa z0 4) (aa z0 5) (aa z0 6) (aa z0 7) (aa z8 0) (aa z8 1) (aa z8 2) (aa z8 3) (aa z8 4) (aa z8 5) (aa z8 6) (aa z8 7) (aa z16 0) (aa z16 1) (aa z16 2) (aa z16 3) (aa z16 4) (aa z16 5) (aa z16 6) (aa z16 7) (aa z24 0) (aa z24 1) (aa z24 2) (aa z24 3) (aa z24 4) (aa z24 5) (aa z24 6) (aa z24 7) cs32 n33 cs34 n35
def sV : HK where
 call := fun args σ k => match args with
  | [.agg (.int .u64 a0 :: .int .u64 a1 :: .int .u64 a2 :: .int .u64 a3 :: .int .u64 a4 :: .int .u64 a5 :: .int .u64 a6 :: .int .u64 a7 :: .int .u64 a8 :: .int .u64 a9 :: .int .u64 a10 :: .int .u64 a11 :: .int .u64 a12 :: .int .u64 a13 :: .int .u64 a14 :: .int .u64 a15 :: .int .u64 a16 :: .int .u64 a17 :: .int .u64 a18 :: .int .u64 a19 :: .int .u64 a20 :: .int .u64 a21 :: .int .u64 a22 :: .int .u64 a23 :: .int .u64 a24 :: .int .u64 a25 :: .int .u64 a26 :: .int .u64 a27 :: .int .u64 a28 :: .int .u64 a29 :: .int .u64 a30 :: .int .u64 a31 :: x0 :: []), .ptr b1 0] => cW σ 1 x0 fun cs32 n33 => match σ.get b1 with | some (.cells [x2] _ _) => (cW σ 3 x2 fun cs34 n35 => Option.bind (nA a0 a1 a2 a3 a4 a5 a6 a7 a8 a9 a10 a11 a12 a13 a14 a15 a16 a17 a18 a19 a20 a21 a22 a23 a24 a25 a26 a27 a28 a29 a30 a31 cs32 n33 cs34 n35) fun y => aC σ 3 (kM.val y) (kM.aN y) k) | _ => none
  | _ => none
 nat := fun args σ k => by
  repeat' split
  all_goals simp only [av, ai, UA, Uz, aC, Uy]
 pure := false
 pok := fun h => by cases h
theorem Er : aX U2 52 sV := by
 intro args σ r σ' h
 simp only [sV] at h
 split at h
 ·rename_i a0 a1 a2 a3 a4 a5 a6 a7 a8 a9 a10 a11 a12 a13 a14 a15 a16 a17 a18 a19 a20 a21 a22 a23 a24 a25 a26 a27 a28 a29 a30 a31 x0 b1
  obtain ⟨cs32, n33, he0, hf0, h⟩ := bE h
  split at h
  ·rename_i x2 own1 gr1 hb1
   obtain ⟨cs34, n35, he2, hf2, h⟩ := bE h
   obtain ⟨y, hy, h⟩ := bE_ h
   exact lifted (xs := [x0, .ptr b1 0, x2]) (ls := [.vec cs32 n33 1 false, .cells [.vec 2] false none, .vec cs34 n35 3 false]) (cargs := [.agg (v8 a0 a1 a2 a3 a4 a5 a6 a7 (v8 a8 a9 a10 a11 a12 a13 a14 a15 (v8 a16 a17 a18 a19 a20 a21 a22 a23 (v8 a24 a25 a26 a27 a28 a29 a30 a31 [.vec 0])))), .ptr 1 0]) (bC.of ⟨⟨rfl, he0, hf0, by decide⟩, ⟨rfl, rfl, by simp, rfl, b1, 0, rfl, by simp [cC, hb1, re, sub]⟩, ⟨rfl, he2, hf2, by decide⟩, trivial⟩) rfl (Dq a0 a1 a2 a3 a4 a5 a6 a7 a8 a9 a10 a11 a12 a13 a14 a15 a16 a17 a18 a19 a20 a21 a22 a23 a24 a25 a26 a27 a28 a29 a30 a31 cs32 n33 cs34 n35 y hy) rfl rfl rfl rfl h
  ·cases h
 ·cases h
abbrev ie := LA_ × Nat × Int × LA_ × Nat × Int × Int × Int × Int × Int × Int × Int × Int × Int × Int × Int × Int × Int × Int × Int × Int × Int × Int × Int × Int × Int × Int × Int × Int × Int × Int × Int × Int × Int × Int × Int × Int × LA_ × Nat × Int
abbrev ii := (I8 (I8 (I8 (I8 (LA_ × Nat × Int)))))
abbrev Bp := (I8 (I8 (I8 (I8 (Int × LA_ × Nat)))))
abbrev ij := LA_ × Nat × Int × LA_ × Nat × Int
abbrev wk := Int × Int × Int × Int × Int × LA_ × Nat
def xO : CH := (CH.add 94 qY (CH.add 53 yZ (CH.add 52 sV (CH.add 12 lU (CH.add 10 lW (CH.add 54 Hw CH.none))))))
def j9 : CH := uJ U2 iQ [55, 77, 78, 86, 88] 60 xO 5
theorem Dn : aG U2 xO := (CH.ak De (CH.ak IT (CH.ak Er (CH.ak tD (CH.ak tE (CH.ak Mr CH.aF))))))
theorem jC : aG U2 j9 := ik aJ mixed bK Dn 5
def eZ {R : Type} (cc : ij) (v : LA_ × Nat × Int) (kn : (LA_ × Nat × Int) → Option R) (ke : ((LA_ × Nat)) → Option R) : Option R :=
 (cond (decide (v.2.2 < cc.2.2.2.2.2)) (af (decide (0 ≤ v.2.2) && decide (v.2.2 < ((cc.2.2.2.2.1 : Nat) : Int))) (af (aq [.int .i64] cc.2.2.2.1 (Int.toNat v.2.2 * 1)) (af (decide (0 ≤ (ac cc.2.2.2.1 ((Int.toNat v.2.2 * 1) + 0))) && decide ((ac cc.2.2.2.1 ((Int.toNat v.2.2 * 1) + 0)) < ((cc.2.1 : Nat) : Int))) (af (aq kK cc.1 (Int.toNat (ac cc.2.2.2.1 ((Int.toNat v.2.2 * 1) + 0)) * 3)) (af (decide (2 * (v.2.1 + 1) * 24 ≤ 2 ^ 48)) (kn ((v.1 ++ [.int .i64 (ac cc.1 ((Int.toNat (ac cc.2.2.2.1 ((Int.toNat v.2.2 * 1) + 0)) * 3) + 0)), .int .i64 (ac cc.1 ((Int.toNat (ac cc.2.2.2.1 ((Int.toNat v.2.2 * 1) + 0)) * 3) + 1)), .int .i64 (ac cc.1 ((Int.toNat (ac cc.2.2.2.1 ((Int.toNat v.2.2 * 1) + 0)) * 3) + 2))]), (v.2.1 + 1), (IntKind.wrap .i64 (v.2.2 + 1))))))))) (ke (v.1, v.2.1)))
def lX (cc : ij) (v : LA_ × Nat × Int) : Option ((LA_ × Nat × Int) ⊕ ((LA_ × Nat))) := eZ cc v (fun v => some (Sum.inl v)) fun e => some (Sum.inr e)
def AE (cc : ij) (v : LA_ × Nat × Int) : Option ((LA_ × Nat)) := dZ (lX cc) v
def Es (cc : ij) (v : LA_ × Nat × Int) : List ah := [.I cc.2.2.1, .I cc.s4.2, .I v.2.2, .C cc.1, .N cc.2.1, .C cc.2.2.2.1, .N cc.s4.1, .C v.1, .N v.2.1]
def uK (ls : List ah) : Option ((ij) × (LA_ × Nat × Int)) := match ls with
 | [.I x0, .I x1, .I x2, .C x3, .N x4, .C x5, .N x6, .C x7, .N x8] => some ((x3, x4, x0, x5, x6, x1), (x7, x8, x2))
 | _ => none
def uL (e : (LA_ × Nat)) : an := ((fun e => .exit 2) e)
def uM (cc : ij) (e : (LA_ × Nat)) : List ah := ((fun e => [.I cc.2.2.1, .C cc.1, .N cc.2.1, .C cc.2.2.2.1, .N cc.s4.1, .C e.1, .N e.2]) e)
def mJ (cc : ij) (e : (LA_ × Nat)) : List ah := ((fun e => [.I cc.2.2.1, .C cc.1, .N cc.2.1, .C cc.2.2.2.1, .N cc.s4.1]) e)
def nS (o : an) (ls : List ah) : Option (((LA_ × Nat)) × List ah) := match o with
 | .exit 2 => (match ls with
  | [.I x0, .C x1, .N x2, .C x3, .N x4, .C x5, .N x6] => some ((x5, x6), [.I x0, .C x1, .N x2, .C x3, .N x4])
  | _ => none)
 | _ => none
theorem AQ : ∀ o ls e cl cc, nS o ls = some (e, cl) → cl = mJ cc e → ls = uM cc e ∧ uL e = o ∧ o ≠ .normal ∧ ∀ v, o = .pan v → sc 0 v = true := by
 intro o ls e cl cc h hc
 unfold nS at h
 split at h
 ·split at h
  ·cases h
   simp only [mJ, List.cons.injEq, ah.I.injEq, ah.N.injEq, ah.C.injEq, and_true] at hc
   obtain ⟨rfl, rfl, rfl, rfl, rfl⟩ := hc
   exact ⟨rfl, rfl, by simp, by intro v hv; cases hv <;> rfl⟩
  ·cases h
 ·cases h
def FO (o : an) : ExS := match o with
 | .exit 2 => ⟨5, (none :: some (.ptr 1 0) :: some (.ptr 2 0) :: some (.int .i64) :: some (.func 52 [] [.ptr 1 0]) :: some (.vec 3) :: some (.vec 4) :: (rl none 74 [])), [(1, .cells [.vec 0] true none), (0, .vec 3 false), (2, .cells (rl (.fP .u64 0) 32 [.aL]) true none), (3, .vec 1 false), (4, .vec 3 true)], fun s => [0, nameAt s 1 [], nameAt s 2 [], nameAt s 5 [], nameAt s 6 []], [], []⟩
 | _ => ⟨0, [], [], fun _ => [], [], []⟩
theorem Et {R : Type} (cc : ij) (v : LA_ × Nat × Int) (kn : (LA_ × Nat × Int) → Option R) (ke : ((LA_ × Nat)) → Option R) : eZ cc v kn ke = (eZ cc v (fun v => some (Sum.inl v)) fun e => some (Sum.inr e)).bind (Sum.elim kn ke) := by
 simp only [eZ, bX, ai, UA, cu, bS, Uy, Uz, UZ, UY]
def qZ : LD where
 CC := ij
 V := LA_ × Nat × Int
 E := (LA_ × Nat)
 n := 1
 K := 5
 M := (none :: some (.ptr 1 0) :: some (.ptr 2 0) :: some (.int .i64) :: some (.func 52 [] [.ptr 1 0]) :: some (.vec 3) :: some (.vec 4) :: (rl none 10 (some (.vec 3) :: some (.int .i64) :: some (.int .i64) :: (rl none 61 []))))
 B := [(1, .cells [.vec 0] true none), (0, .vec 3 false), (2, .cells (rl (.fP .u64 0) 32 [.aL]) true none), (3, .vec 1 false), (4, .vec 3 true)]
 D := []
 pre := [(6, 3)]
 F := fun s => [0, nameAt s 1 [], nameAt s 2 [], nameAt s 5 [], nameAt s 6 []]
 toL := Es
 ofL := uK
 au := fun ls c v h => by
  unfold uK at h
  split at h
  ·cases h; rfl
  ·cases h
 cw := eZ
 nat := Et
 sh := FO
 out := uL
 toE := uM
 fQ := mJ
 ofE := nS
 dn := AQ
 post := fun cc e k => ((fun e => k (.exit 2) (bo 5 (none :: some (.ptr 1 0) :: some (.ptr 2 0) :: some (.int .i64 cc.2.2.1) :: some (.func 52 [] [.ptr 1 0]) :: some (.vec 3) :: some (.vec 4) :: (rl none 74 [])) [(1, .cells [.vec 0] true none), (0, .vec cc.1 cc.2.1 3 false), (2, .cells (rl (.int .u64 0) 32 [.aL]) true none), (3, .vec cc.2.2.2.1 cc.s4.1 1 false), (4, .vec e.1 e.2 3 true)] [])) e)
 cv := fun cc e k => by rfl
theorem uN : cX U2 1 qZ.la (aO Try.f31 1) :=
 LD.ok (ch := j9) (A := bD) aJ jC mixed (fuel := 60) ⟨by kernel_rfl, fun e => by kernel_rfl, fun cc v => by kernel_rfl, aK (l := []) (by kernel_rfl) trivial⟩
def eA {R : Type} (cc : ie) (v : LA_ × Nat × Int) (kn : (LA_ × Nat × Int) → Option R) (ke : ((LA_ × Nat)) → Option R) : Option R :=
 (cond (decide (v.2.2 < cc.2.2.2.2.2.2.2.2.2.2.2.2.2.2.2.2.2.2.2.2.2.2.2.2.2.2.2.2.2.2.2.2.2.2.2.2.2.2.2)) (af (decide (0 ≤ v.2.2) && decide (v.2.2 < ((cc.2.2.2.2.2.2.2.2.2.2.2.2.2.2.2.2.2.2.2.2.2.2.2.2.2.2.2.2.2.2.2.2.2.2.2.2.2.2.1 : Nat) : Int))) (af (aq [.int .i64] cc.2.2.2.2.2.2.2.2.2.2.2.2.2.2.2.2.2.2.2.2.2.2.2.2.2.2.2.2.2.2.2.2.2.2.2.2.2.1 (Int.toNat v.2.2 * 1)) (af (decide (0 ≤ (ac cc.2.2.2.2.2.2.2.2.2.2.2.2.2.2.2.2.2.2.2.2.2.2.2.2.2.2.2.2.2.2.2.2.2.2.2.2.2.1 ((Int.toNat v.2.2 * 1) + 0))) && decide ((ac cc.2.2.2.2.2.2.2.2.2.2.2.2.2.2.2.2.2.2.2.2.2.2.2.2.2.2.2.2.2.2.2.2.2.2.2.2.2.1 ((Int.toNat v.2.2 * 1) + 0)) < ((cc.2.2.2.2.1 : Nat) : Int))) (af (aq [.int .i64] cc.2.2.2.1 (Int.toNat (ac cc.2.2.2.2.2.2.2.2.2.2.2.2.2.2.2.2.2.2.2.2.2.2.2.2.2.2.2.2.2.2.2.2.2.2.2.2.2.1 ((Int.toNat v.2.2 * 1) + 0)) * 1)) (af (decide (2 * (v.2.1 + 1) * 8 ≤ 2 ^ 48)) (kn ((v.1 ++ [.int .i64 (ac cc.2.2.2.1 ((Int.toNat (ac cc.2.2.2.2.2.2.2.2.2.2.2.2.2.2.2.2.2.2.2.2.2.2.2.2.2.2.2.2.2.2.2.2.2.2.2.2.2.1 ((Int.toNat v.2.2 * 1) + 0)) * 1) + 0))]), (v.2.1 + 1), (IntKind.wrap .i64 (v.2.2 + 1))))))))) (ke (v.1, v.2.1)))
def kL (cc : ie) (v : LA_ × Nat × Int) : Option ((LA_ × Nat × Int) ⊕ ((LA_ × Nat))) := eA cc v (fun v => some (Sum.inl v)) fun e => some (Sum.inr e)
def xP (cc : ie) (v : LA_ × Nat × Int) : Option ((LA_ × Nat)) := dZ (kL cc) v
def Do (cc : ie) (v : LA_ × Nat × Int) : List ah := [.I cc.2.2.1, .I cc.s16.s16.s4.2.2.2, .I v.2.2, .C cc.1, .N cc.2.1, .C cc.2.2.2.1, .N cc.s4.1, .I cc.s4.2.1, .I cc.s4.2.2.1, .I cc.s4.2.2.2.1, .I cc.s8.1, .I cc.s8.2.1, .I cc.s8.2.2.1, .I cc.s8.2.2.2.1, .I cc.s8.s4.1, .I cc.s8.s4.2.1, .I cc.s8.s4.2.2.1, .I cc.s8.s4.2.2.2.1, .I cc.s16.1, .I cc.s16.2.1, .I cc.s16.2.2.1, .I cc.s16.2.2.2.1, .I cc.s16.s4.1, .I cc.s16.s4.2.1, .I cc.s16.s4.2.2.1, .I cc.s16.s4.2.2.2.1, .I cc.s16.s8.1, .I cc.s16.s8.2.1, .I cc.s16.s8.2.2.1, .I cc.s16.s8.2.2.2.1, .I cc.s16.s8.s4.1, .I cc.s16.s8.s4.2.1, .I cc.s16.s8.s4.2.2.1, .I cc.s16.s8.s4.2.2.2.1, .I cc.s16.s16.1, .I cc.s16.s16.2.1, .I cc.s16.s16.2.2.1, .I cc.s16.s16.2.2.2.1, .I cc.s16.s16.s4.1, .C cc.s16.s16.s4.2.1, .N cc.s16.s16.s4.2.2.1, .C v.1, .N v.2.1]
def tF (ls : List ah) : Option ((ie) × (LA_ × Nat × Int)) := match ls with
 | (.I x0 :: .I x1 :: .I x2 :: .C x3 :: .N x4 :: .C x5 :: .N x6 :: .I x7 :: .I x8 :: .I x9 :: .I x10 :: .I x11 :: .I x12 :: .I x13 :: .I x14 :: .I x15 :: .I x16 :: .I x17 :: .I x18 :: .I x19 :: .I x20 :: .I x21 :: .I x22 :: .I x23 :: .I x24 :: .I x25 :: .I x26 :: .I x27 :: .I x28 :: .I x29 :: .I x30 :: .I x31 :: .I x32 :: .I x33 :: .I x34 :: .I x35 :: .I x36 :: .I x37 :: .I x38 :: .C x39 :: .N x40 :: .C x41 :: .N x42 :: []) => some ((x3, x4, x0, x5, x6, x7, x8, x9, x10, x11, x12, x13, x14, x15, x16, x17, x18, x19, x20, x21, x22, x23, x24, x25, x26, x27, x28, x29, x30, x31, x32, x33, x34, x35, x36, x37, x38, x39, x40, x1), (x41, x42, x2))
 | _ => none
def tG (e : (LA_ × Nat)) : an := ((fun e => .exit 4) e)
def tH (cc : ie) (e : (LA_ × Nat)) : List ah := ((fun e => [.I cc.2.2.1, .C cc.1, .N cc.2.1, .I cc.s4.2.1, .I cc.s4.2.2.1, .I cc.s4.2.2.2.1, .I cc.s8.1, .I cc.s8.2.1, .I cc.s8.2.2.1, .I cc.s8.2.2.2.1, .I cc.s8.s4.1, .I cc.s8.s4.2.1, .I cc.s8.s4.2.2.1, .I cc.s8.s4.2.2.2.1, .I cc.s16.1, .I cc.s16.2.1, .I cc.s16.2.2.1, .I cc.s16.2.2.2.1, .I cc.s16.s4.1, .I cc.s16.s4.2.1, .I cc.s16.s4.2.2.1, .I cc.s16.s4.2.2.2.1, .I cc.s16.s8.1, .I cc.s16.s8.2.1, .I cc.s16.s8.2.2.1, .I cc.s16.s8.2.2.2.1, .I cc.s16.s8.s4.1, .I cc.s16.s8.s4.2.1, .I cc.s16.s8.s4.2.2.1, .I cc.s16.s8.s4.2.2.2.1, .I cc.s16.s16.1, .I cc.s16.s16.2.1, .I cc.s16.s16.2.2.1, .I cc.s16.s16.2.2.2.1, .I cc.s16.s16.s4.1, .C cc.s16.s16.s4.2.1, .N cc.s16.s16.s4.2.2.1, .C e.1, .N e.2]) e)
def kV (cc : ie) (e : (LA_ × Nat)) : List ah := ((fun e => [.I cc.2.2.1, .C cc.1, .N cc.2.1, .I cc.s4.2.1, .I cc.s4.2.2.1, .I cc.s4.2.2.2.1, .I cc.s8.1, .I cc.s8.2.1, .I cc.s8.2.2.1, .I cc.s8.2.2.2.1, .I cc.s8.s4.1, .I cc.s8.s4.2.1, .I cc.s8.s4.2.2.1, .I cc.s8.s4.2.2.2.1, .I cc.s16.1, .I cc.s16.2.1, .I cc.s16.2.2.1, .I cc.s16.2.2.2.1, .I cc.s16.s4.1, .I cc.s16.s4.2.1, .I cc.s16.s4.2.2.1, .I cc.s16.s4.2.2.2.1, .I cc.s16.s8.1, .I cc.s16.s8.2.1, .I cc.s16.s8.2.2.1, .I cc.s16.s8.2.2.2.1, .I cc.s16.s8.s4.1, .I cc.s16.s8.s4.2.1, .I cc.s16.s8.s4.2.2.1, .I cc.s16.s8.s4.2.2.2.1, .I cc.s16.s16.1, .I cc.s16.s16.2.1, .I cc.s16.s16.2.2.1, .I cc.s16.s16.2.2.2.1, .I cc.s16.s16.s4.1, .C cc.s16.s16.s4.2.1, .N cc.s16.s16.s4.2.2.1]) e)
def mK (o : an) (ls : List ah) : Option (((LA_ × Nat)) × List ah) := match o with
 | .exit 4 => (match ls with
  | (.I x0 :: .C x1 :: .N x2 :: .I x3 :: .I x4 :: .I x5 :: .I x6 :: .I x7 :: .I x8 :: .I x9 :: .I x10 :: .I x11 :: .I x12 :: .I x13 :: .I x14 :: .I x15 :: .I x16 :: .I x17 :: .I x18 :: .I x19 :: .I x20 :: .I x21 :: .I x22 :: .I x23 :: .I x24 :: .I x25 :: .I x26 :: .I x27 :: .I x28 :: .I x29 :: .I x30 :: .I x31 :: .I x32 :: .I x33 :: .I x34 :: .C x35 :: .N x36 :: .C x37 :: .N x38 :: []) => some ((x37, x38), [.I x0, .C x1, .N x2, .I x3, .I x4, .I x5, .I x6, .I x7, .I x8, .I x9, .I x10, .I x11, .I x12, .I x13, .I x14, .I x15, .I x16, .I x17, .I x18, .I x19, .I x20, .I x21, .I x22, .I x23, .I x24, .I x25, .I x26, .I x27, .I x28, .I x29, .I x30, .I x31, .I x32, .I x33, .I x34, .C x35, .N x36])
  | _ => none)
 | _ => none
theorem y7 : ∀ o ls e cl cc, mK o ls = some (e, cl) → cl = kV cc e → ls = tH cc e ∧ tG e = o ∧ o ≠ .normal ∧ ∀ v, o = .pan v → sc 0 v = true := by
 intro o ls e cl cc h hc
 unfold mK at h
 split at h
 ·split at h
  ·cases h
   simp only [kV, List.cons.injEq, ah.I.injEq, ah.N.injEq, ah.C.injEq, and_true] at hc
   obtain ⟨rfl, rfl, rfl, rfl, rfl, rfl, rfl, rfl, rfl, rfl, rfl, rfl, rfl, rfl, rfl, rfl, rfl, rfl, rfl, rfl, rfl, rfl, rfl, rfl, rfl, rfl, rfl, rfl, rfl, rfl, rfl, rfl, rfl, rfl, rfl, rfl, rfl⟩ := hc
   exact ⟨rfl, rfl, by simp, by intro v hv; cases hv <;> rfl⟩
  ·cases h
 ·cases h
def Eu (o : an) : ExS := match o with
 | .exit 4 => ⟨6, (none :: some (.ptr 1 0) :: some (.ptr 2 0) :: some (.int .i64) :: some (.func 52 [] [.ptr 1 0]) :: none :: none :: none :: none :: some (.ptr 3 0) :: none :: some (.vec 5) :: (rl none 69 [])), [(1, .cells [.vec 0] true none), (0, .vec 3 false), (2, .cells (rl (.fP .u64 0) 32 [.aL]) true none), (3, .cells (rl (.int .u64) 32 [.vec 4]) true none), (4, .vec 1 true), (5, .vec 1 true)], fun s => [0, nameAt s 1 [], nameAt s 2 [], nameAt s 9 [], nameAt s 9 [.d 32], nameAt s 11 []], [], []⟩
 | _ => ⟨0, [], [], fun _ => [], [], []⟩
theorem Dp {R : Type} (cc : ie) (v : LA_ × Nat × Int) (kn : (LA_ × Nat × Int) → Option R) (ke : ((LA_ × Nat)) → Option R) : eA cc v kn ke = (eA cc v (fun v => some (Sum.inl v)) fun e => some (Sum.inr e)).bind (Sum.elim kn ke) := by
 simp only [eA, bX, ai, UA, cu, bS, Uy, Uz, UZ, UY]
def pi : LD where
 CC := ie
 V := LA_ × Nat × Int
 E := (LA_ × Nat)
 n := 1
 K := 7
 M := (none :: some (.ptr 1 0) :: some (.ptr 2 0) :: some (.int .i64) :: some (.func 52 [] [.ptr 1 0]) :: some (.vec 3) :: none :: none :: none :: some (.ptr 4 0) :: none :: some (.vec 6) :: (rl none 25 (some (.vec 5) :: some (.int .i64) :: some (.int .i64) :: (rl none 41 []))))
 B := [(1, .cells [.vec 0] true none), (0, .vec 3 false), (2, .cells (rl (.fP .u64 0) 32 [.aL]) true none), (3, .vec 1 false), (4, .cells (rl (.int .u64) 32 [.vec 5]) true none), (5, .vec 1 true), (6, .vec 1 true)]
 D := []
 pre := [(11, 1)]
 F := fun s => [0, nameAt s 1 [], nameAt s 2 [], nameAt s 5 [], nameAt s 9 [], nameAt s 9 [.d 32], nameAt s 11 []]
 toL := Do
 ofL := tF
 au := fun ls c v h => by
  unfold tF at h
  split at h
  ·cases h; rfl
  ·cases h
 cw := eA
 nat := Dp
 sh := Eu
 out := tG
 toE := tH
 fQ := kV
 ofE := mK
 dn := y7
 post := fun cc e k => ((fun e => k (.exit 4) (bo 6 (none :: some (.ptr 1 0) :: some (.ptr 2 0) :: some (.int .i64 cc.2.2.1) :: some (.func 52 [] [.ptr 1 0]) :: none :: none :: none :: none :: some (.ptr 3 0) :: none :: some (.vec 5) :: (rl none 69 [])) [(1, .cells [.vec 0] true none), (0, .vec cc.1 cc.2.1 3 false), (2, .cells (rl (.int .u64 0) 32 [.aL]) true none), (3, .cells (v8 cc.s4.2.1 cc.s4.2.2.1 cc.s4.2.2.2.1 cc.s8.1 cc.s8.2.1 cc.s8.2.2.1 cc.s8.2.2.2.1 cc.s8.s4.1 (v8 cc.s8.s4.2.1 cc.s8.s4.2.2.1 cc.s8.s4.2.2.2.1 cc.s16.1 cc.s16.2.1 cc.s16.2.2.1 cc.s16.2.2.2.1 cc.s16.s4.1 (v8 cc.s16.s4.2.1 cc.s16.s4.2.2.1 cc.s16.s4.2.2.2.1 cc.s16.s8.1 cc.s16.s8.2.1 cc.s16.s8.2.2.1 cc.s16.s8.2.2.2.1 cc.s16.s8.s4.1 (v8 cc.s16.s8.s4.2.1 cc.s16.s8.s4.2.2.1 cc.s16.s8.s4.2.2.2.1 cc.s16.s16.1 cc.s16.s16.2.1 cc.s16.s16.2.2.1 cc.s16.s16.2.2.2.1 cc.s16.s16.s4.1 [.vec 4])))) true none), (4, .vec cc.s16.s16.s4.2.1 cc.s16.s16.s4.2.2.1 1 true), (5, .vec e.1 e.2 1 true)] [])) e)
 cv := fun cc e k => by rfl
theorem tI : cX U2 1 pi.la (aO Try.f31 2) :=
 LD.ok (ch := j9) (A := bD) aJ jC mixed (fuel := 60) ⟨by kernel_rfl, fun e => by kernel_rfl, fun cc v => by kernel_rfl, aK (l := []) (by kernel_rfl) trivial⟩
def dB {R : Type} (cc : LA_ × Nat) (v : Int × LA_ × Nat) (kn : (Int × LA_ × Nat) → Option R) (ke : ((Int) ⊕ (ii)) → Option R) : Option R :=
 (Option.bind (AE (cc.1, cc.2, v.1, v.2.1, v.2.2, ((v.2.2 : Nat) : Int)) (([] : LA_), 0, 0)) fun e1 => (Option.bind (dA e1.1 e1.2) fun r2 => (Option.bind (xP (cc.1, cc.2, v.1, v.2.1, v.2.2, (aa r2.1 0), (aa r2.1 1), (aa r2.1 2), (aa r2.1 3), (aa r2.1 4), (aa r2.1 5), (aa r2.1 6), (aa r2.1 7), (aa r2.2.1 0), (aa r2.2.1 1), (aa r2.2.1 2), (aa r2.2.1 3), (aa r2.2.1 4), (aa r2.2.1 5), (aa r2.2.1 6), (aa r2.2.1 7), (aa r2.2.2.1 0), (aa r2.2.2.1 1), (aa r2.2.2.1 2), (aa r2.2.2.1 3), (aa r2.2.2.1 4), (aa r2.2.2.1 5), (aa r2.2.2.1 6), (aa r2.2.2.1 7), (aa r2.2.2.2.1 0), (aa r2.2.2.2.1 1), (aa r2.2.2.2.1 2), (aa r2.2.2.2.1 3), (aa r2.2.2.2.1 4), (aa r2.2.2.2.1 5), (aa r2.2.2.2.1 6), (aa r2.2.2.2.1 7), r2.2.2.2.2.2.1, r2.2.2.2.2.2.2, ((r2.2.2.2.2.2.2 : Nat) : Int)) (([] : LA_), 0, 0)) fun e3 => (Option.bind (pd ((cc.2 : Nat) : Int)) fun r4 => (cond (decide ((IntKind.wrap .i64 (v.1 + 1)) > r4)) (ke (.inl (IntKind.wrap .i64 (v.1 + 1)))) (Option.bind (sW r2.1 r2.2.1 r2.2.2.1 r2.2.2.2.1 e3.1 e3.2 cc.1 cc.2) fun r5 => (af (decide (0 ≤ r5) && decide (r5 < ((cc.2 : Nat) : Int))) (af (aq kK cc.1 (Int.toNat r5 * 3)) (Option.bind (q9 r2.1 r2.2.1 r2.2.2.1 r2.2.2.2.1 e3.1 e3.2 (ac cc.1 ((Int.toNat r5 * 3) + 0)) (ac cc.1 ((Int.toNat r5 * 3) + 1)) (ac cc.1 ((Int.toNat r5 * 3) + 2))) fun r6 => (cond r6 (cond (Nat.beq e3.2 1) (af (aq [.int .i64] e3.1 0 && Nat.beq (List.length e3.1) 1) (Option.bind (aE r5 (ac e3.1 0)) fun r35 => (cond r35 (kn ((IntKind.wrap .i64 (v.1 + 1)), ([.int .i64 r5, .int .i64 (ac e3.1 0)] : LA_), 2)) (kn ((IntKind.wrap .i64 (v.1 + 1)), ([.int .i64 (ac e3.1 0), .int .i64 r5] : LA_), 2))))) (cond (Nat.beq e3.2 2) (af (aq [.int .i64, .int .i64] e3.1 0 && Nat.beq (List.length e3.1) 2) (Option.bind (aE (ac e3.1 1) (ac e3.1 0)) fun r30 => (cond r30 (Option.bind (aE r5 (ac e3.1 0)) fun r31 => (cond r31 (Option.bind (aE r5 (ac e3.1 1)) fun r32 => (cond r32 (kn ((IntKind.wrap .i64 (v.1 + 1)), ([.int .i64 r5, .int .i64 (ac e3.1 1), .int .i64 (ac e3.1 0)] : LA_), 3)) (kn ((IntKind.wrap .i64 (v.1 + 1)), ([.int .i64 (ac e3.1 1), .int .i64 r5, .int .i64 (ac e3.1 0)] : LA_), 3)))) (kn ((IntKind.wrap .i64 (v.1 + 1)), ([.int .i64 (ac e3.1 1), .int .i64 (ac e3.1 0), .int .i64 r5] : LA_), 3)))) (Option.bind (aE r5 (ac e3.1 1)) fun r33 => (cond r33 (Option.bind (aE r5 (ac e3.1 0)) fun r34 => (cond r34 (kn ((IntKind.wrap .i64 (v.1 + 1)), ([.int .i64 r5, .int .i64 (ac e3.1 0), .int .i64 (ac e3.1 1)] : LA_), 3)) (kn ((IntKind.wrap .i64 (v.1 + 1)), ([.int .i64 (ac e3.1 0), .int .i64 r5, .int .i64 (ac e3.1 1)] : LA_), 3)))) (kn ((IntKind.wrap .i64 (v.1 + 1)), ([.int .i64 (ac e3.1 0), .int .i64 (ac e3.1 1), .int .i64 r5] : LA_), 3))))))) (cond (Nat.beq e3.2 3) (af (aq kK e3.1 0 && Nat.beq (List.length e3.1) 3) (Option.bind (aE (ac e3.1 1) (ac e3.1 0)) fun r7 => (cond r7 (Option.bind (aE (ac e3.1 2) (ac e3.1 0)) fun r8 => (cond r8 (Option.bind (aE (ac e3.1 2) (ac e3.1 1)) fun r9 => (cond r9 (Option.bind (aE r5 (ac e3.1 0)) fun r10 => (cond r10 (Option.bind (aE r5 (ac e3.1 1)) fun r11 => (cond r11 (Option.bind (aE r5 (ac e3.1 2)) fun r12 => (cond r12 (kn ((IntKind.wrap .i64 (v.1 + 1)), ([.int .i64 r5, .int .i64 (ac e3.1 2), .int .i64 (ac e3.1 1), .int .i64 (ac e3.1 0)] : LA_), 4)) (kn ((IntKind.wrap .i64 (v.1 + 1)), ([.int .i64 (ac e3.1 2), .int .i64 r5, .int .i64 (ac e3.1 1), .int .i64 (ac e3.1 0)] : LA_), 4)))) (kn ((IntKind.wrap .i64 (v.1 + 1)), ([.int .i64 (ac e3.1 2), .int .i64 (ac e3.1 1), .int .i64 r5, .int .i64 (ac e3.1 0)] : LA_), 4)))) (kn ((IntKind.wrap .i64 (v.1 + 1)), ([.int .i64 (ac e3.1 2), .int .i64 (ac e3.1 1), .int .i64 (ac e3.1 0), .int .i64 r5] : LA_), 4)))) (Option.bind (aE r5 (ac e3.1 0)) fun r13 => (cond r13 (Option.bind (aE r5 (ac e3.1 2)) fun r14 => (cond r14 (Option.bind (aE r5 (ac e3.1 1)) fun r15 => (cond r15 (kn ((IntKind.wrap .i64 (v.1 + 1)), ([.int .i64 r5, .int .i64 (ac e3.1 1), .int .i64 (ac e3.1 2), .int .i64 (ac e3.1 0)] : LA_), 4)) (kn ((IntKind.wrap .i64 (v.1 + 1)), ([.int .i64 (ac e3.1 1), .int .i64 r5, .int .i64 (ac e3.1 2), .int .i64 (ac e3.1 0)] : LA_), 4)))) (kn ((IntKind.wrap .i64 (v.1 + 1)), ([.int .i64 (ac e3.1 1), .int .i64 (ac e3.1 2), .int .i64 r5, .int .i64 (ac e3.1 0)] : LA_), 4)))) (kn ((IntKind.wrap .i64 (v.1 + 1)), ([.int .i64 (ac e3.1 1), .int .i64 (ac e3.1 2), .int .i64 (ac e3.1 0), .int .i64 r5] : LA_), 4)))))) (Option.bind (aE r5 (ac e3.1 2)) fun r16 => (cond r16 (Option.bind (aE r5 (ac e3.1 0)) fun r17 => (cond r17 (Option.bind (aE r5 (ac e3.1 1)) fun r18 => (cond r18 (kn ((IntKind.wrap .i64 (v.1 + 1)), ([.int .i64 r5, .int .i64 (ac e3.1 1), .int .i64 (ac e3.1 0), .int .i64 (ac e3.1 2)] : LA_), 4)) (kn ((IntKind.wrap .i64 (v.1 + 1)), ([.int .i64 (ac e3.1 1), .int .i64 r5, .int .i64 (ac e3.1 0), .int .i64 (ac e3.1 2)] : LA_), 4)))) (kn ((IntKind.wrap .i64 (v.1 + 1)), ([.int .i64 (ac e3.1 1), .int .i64 (ac e3.1 0), .int .i64 r5, .int .i64 (ac e3.1 2)] : LA_), 4)))) (kn ((IntKind.wrap .i64 (v.1 + 1)), ([.int .i64 (ac e3.1 1), .int .i64 (ac e3.1 0), .int .i64 (ac e3.1 2), .int .i64 r5] : LA_), 4)))))) (Option.bind (aE (ac e3.1 2) (ac e3.1 1)) fun r19 => (cond r19 (Option.bind (aE (ac e3.1 2) (ac e3.1 0)) fun r20 => (cond r20 (Option.bind (aE r5 (ac e3.1 1)) fun r21 => (cond r21 (Option.bind (aE r5 (ac e3.1 0)) fun r22 => (cond r22 (Option.bind (aE r5 (ac e3.1 2)) fun r23 => (cond r23 (kn ((IntKind.wrap .i64 (v.1 + 1)), ([.int .i64 r5, .int .i64 (ac e3.1 2), .int .i64 (ac e3.1 0), .int .i64 (ac e3.1 1)] : LA_), 4)) (kn ((IntKind.wrap .i64 (v.1 + 1)), ([.int .i64 (ac e3.1 2), .int .i64 r5, .int .i64 (ac e3.1 0), .int .i64 (ac e3.1 1)] : LA_), 4)))) (kn ((IntKind.wrap .i64 (v.1 + 1)), ([.int .i64 (ac e3.1 2), .int .i64 (ac e3.1 0), .int .i64 r5, .int .i64 (ac e3.1 1)] : LA_), 4)))) (kn ((IntKind.wrap .i64 (v.1 + 1)), ([.int .i64 (ac e3.1 2), .int .i64 (ac e3.1 0), .int .i64 (ac e3.1 1), .int .i64 r5] : LA_), 4)))) (Option.bind (aE r5 (ac e3.1 1)) fun r24 => (cond r24 (Option.bind (aE r5 (ac e3.1 2)) fun r25 => (cond r25 (Option.bind (aE r5 (ac e3.1 0)) fun r26 => (cond r26 (kn ((IntKind.wrap .i64 (v.1 + 1)), ([.int .i64 r5, .int .i64 (ac e3.1 0), .int .i64 (ac e3.1 2), .int .i64 (ac e3.1 1)] : LA_), 4)) (kn ((IntKind.wrap .i64 (v.1 + 1)), ([.int .i64 (ac e3.1 0), .int .i64 r5, .int .i64 (ac e3.1 2), .int .i64 (ac e3.1 1)] : LA_), 4)))) (kn ((IntKind.wrap .i64 (v.1 + 1)), ([.int .i64 (ac e3.1 0), .int .i64 (ac e3.1 2), .int .i64 r5, .int .i64 (ac e3.1 1)] : LA_), 4)))) (kn ((IntKind.wrap .i64 (v.1 + 1)), ([.int .i64 (ac e3.1 0), .int .i64 (ac e3.1 2), .int .i64 (ac e3.1 1), .int .i64 r5] : LA_), 4)))))) (Option.bind (aE r5 (ac e3.1 2)) fun r27 => (cond r27 (Option.bind (aE r5 (ac e3.1 1)) fun r28 => (cond r28 (Option.bind (aE r5 (ac e3.1 0)) fun r29 => (cond r29 (kn ((IntKind.wrap .i64 (v.1 + 1)), ([.int .i64 r5, .int .i64 (ac e3.1 0), .int .i64 (ac e3.1 1), .int .i64 (ac e3.1 2)] : LA_), 4)) (kn ((IntKind.wrap .i64 (v.1 + 1)), ([.int .i64 (ac e3.1 0), .int .i64 r5, .int .i64 (ac e3.1 1), .int .i64 (ac e3.1 2)] : LA_), 4)))) (kn ((IntKind.wrap .i64 (v.1 + 1)), ([.int .i64 (ac e3.1 0), .int .i64 (ac e3.1 1), .int .i64 r5, .int .i64 (ac e3.1 2)] : LA_), 4)))) (kn ((IntKind.wrap .i64 (v.1 + 1)), ([.int .i64 (ac e3.1 0), .int .i64 (ac e3.1 1), .int .i64 (ac e3.1 2), .int .i64 r5] : LA_), 4))))))))) none))) (ke (.inr (aY r2.1 (aY r2.2.1 (aY r2.2.2.1 (aY r2.2.2.2.1 (e3.1, e3.2, (IntKind.wrap .i64 (v.1 + 1)))))))))))))))))))
def dc (cc : LA_ × Nat) (v : Int × LA_ × Nat) : Option ((Int × LA_ × Nat) ⊕ ((Int) ⊕ (ii))) := dB cc v (fun v => some (Sum.inl v)) fun e => some (Sum.inr e)
def sX (cc : LA_ × Nat) (v : Int × LA_ × Nat) : Option ((Int) ⊕ (ii)) := dZ (dc cc) v
def Ew (cc : LA_ × Nat) (v : Int × LA_ × Nat) : List ah := [.I v.1, .C cc.1, .N cc.2, .C v.2.1, .N v.2.2]
def uO (ls : List ah) : Option ((LA_ × Nat) × (Int × LA_ × Nat)) := match ls with
 | [.I x0, .C x1, .N x2, .C x3, .N x4] => some ((x1, x2), (x0, x3, x4))
 | _ => none
def uP (e : (Int) ⊕ (ii)) : an := ((Sum.elim (fun e => .pan (.iface 101 (.agg []))) (fun e => .ret)) e)
def uQ (cc : LA_ × Nat) (e : (Int) ⊕ (ii)) : List ah := ((Sum.elim (fun e => [.I e]) (fun e => [.I e.s16.s16.2.2, .I e.1, .I e.2.1, .I e.2.2.1, .I e.2.2.2.1, .I e.s4.1, .I e.s4.2.1, .I e.s4.2.2.1, .I e.s4.2.2.2.1, .I e.s8.1, .I e.s8.2.1, .I e.s8.2.2.1, .I e.s8.2.2.2.1, .I e.s8.s4.1, .I e.s8.s4.2.1, .I e.s8.s4.2.2.1, .I e.s8.s4.2.2.2.1, .I e.s16.1, .I e.s16.2.1, .I e.s16.2.2.1, .I e.s16.2.2.2.1, .I e.s16.s4.1, .I e.s16.s4.2.1, .I e.s16.s4.2.2.1, .I e.s16.s4.2.2.2.1, .I e.s16.s8.1, .I e.s16.s8.2.1, .I e.s16.s8.2.2.1, .I e.s16.s8.2.2.2.1, .I e.s16.s8.s4.1, .I e.s16.s8.s4.2.1, .I e.s16.s8.s4.2.2.1, .I e.s16.s8.s4.2.2.2.1, .C e.s16.s16.1, .N e.s16.s16.2.1])) e)
def tJ (cc : LA_ × Nat) (e : (Int) ⊕ (ii)) : List ah := ((Sum.elim (fun e => []) (fun e => [])) e)
def nT (o : an) (ls : List ah) : Option (((Int) ⊕ (ii)) × List ah) := match o with
 | .pan (.iface 101 (.agg [])) => (match ls with
  | [.I x0] => some ((.inl x0), [])
  | _ => none)
 | .ret => (match ls with
  | (.I x0 :: .I x1 :: .I x2 :: .I x3 :: .I x4 :: .I x5 :: .I x6 :: .I x7 :: .I x8 :: .I x9 :: .I x10 :: .I x11 :: .I x12 :: .I x13 :: .I x14 :: .I x15 :: .I x16 :: .I x17 :: .I x18 :: .I x19 :: .I x20 :: .I x21 :: .I x22 :: .I x23 :: .I x24 :: .I x25 :: .I x26 :: .I x27 :: .I x28 :: .I x29 :: .I x30 :: .I x31 :: .I x32 :: .C x33 :: .N x34 :: []) => some ((.inr (x1, x2, x3, x4, x5, x6, x7, x8, x9, x10, x11, x12, x13, x14, x15, x16, x17, x18, x19, x20, x21, x22, x23, x24, x25, x26, x27, x28, x29, x30, x31, x32, x33, x34, x0)), [])
  | _ => none)
 | _ => none
theorem AR : ∀ o ls e cl cc, nT o ls = some (e, cl) → cl = tJ cc e → ls = uQ cc e ∧ uP e = o ∧ o ≠ .normal ∧ ∀ v, o = .pan v → sc 0 v = true := by
 intro o ls e cl cc h hc
 unfold nT at h
 split at h
 ·split at h
  ·cases h
   exact ⟨rfl, rfl, by simp, by intro v hv; cases hv <;> rfl⟩
  ·cases h
 ·split at h
  ·cases h
   exact ⟨rfl, rfl, by simp, by intro v hv; cases hv <;> rfl⟩
  ·cases h
 ·cases h
def FP (o : an) : ExS := match o with
 | .pan (.iface 101 (.agg [])) => ⟨2, (none :: none :: some (.ptr 1 0) :: some (.int .i64) :: (rl none 77 [])), [(1, .cells (rl (.fP .u64 0) 32 [.aL]) true none)], fun s => [0, nameAt s 2 []], [], []⟩
 | .ret => ⟨3, (none :: none :: some (.ptr 1 0) :: some (.int .i64) :: (rl none 77 [])), [(1, .cells (rl (.int .u64) 32 [.vec 2]) true none), (2, .vec 1 true)], fun s => [0, nameAt s 2 [], nameAt s 2 [.d 32]], [], []⟩
 | _ => ⟨0, [], [], fun _ => [], [], []⟩
theorem Ex {R : Type} (cc : LA_ × Nat) (v : Int × LA_ × Nat) (kn : (Int × LA_ × Nat) → Option R) (ke : ((Int) ⊕ (ii)) → Option R) : dB cc v kn ke = (dB cc v (fun v => some (Sum.inl v)) fun e => some (Sum.inr e)).bind (Sum.elim kn ke) := by
 simp only [dB, bX, ai, UA, cu, bS, Uy, Uz, UZ, UY]
def xQ : LD where
 CC := LA_ × Nat
 V := Int × LA_ × Nat
 E := (Int) ⊕ (ii)
 n := 1
 K := 4
 M := (none :: some (.ptr 1 0) :: some (.ptr 2 0) :: some (.int .i64) :: some (.func 52 [] [.ptr 1 0]) :: some (.vec 3) :: (rl none 75 []))
 B := [(1, .cells [.vec 0] true none), (0, .vec 3 false), (2, .cells (rl (.fP .u64 0) 32 [.aL]) true none), (3, .vec 1 false)]
 D := []
 pre := [(1000000000005, 1)]
 F := fun s => [0, nameAt s 1 [], nameAt s 2 [], nameAt s 5 []]
 toL := Ew
 ofL := uO
 au := fun ls c v h => by
  unfold uO at h
  split at h
  ·cases h; rfl
  ·cases h
 cw := dB
 nat := Ex
 sh := FP
 out := uP
 toE := uQ
 fQ := tJ
 ofE := nT
 dn := AR
 post := fun cc e k => ((Sum.elim (fun e => k (.pan (.iface 101 (.agg []))) (bo 2 (none :: none :: some (.ptr 1 0) :: some (.int .i64 e) :: (rl none 77 [])) [(1, .cells (rl (.int .u64 0) 32 [.aL]) true none)] [])) (fun e => k (.ret) (bo 3 (none :: none :: some (.ptr 1 0) :: some (.int .i64 e.s16.s16.2.2) :: (rl none 77 [])) [(1, .cells (v8 e.1 e.2.1 e.2.2.1 e.2.2.2.1 e.s4.1 e.s4.2.1 e.s4.2.2.1 e.s4.2.2.2.1 (v8 e.s8.1 e.s8.2.1 e.s8.2.2.1 e.s8.2.2.2.1 e.s8.s4.1 e.s8.s4.2.1 e.s8.s4.2.2.1 e.s8.s4.2.2.2.1 (v8 e.s16.1 e.s16.2.1 e.s16.2.2.1 e.s16.2.2.2.1 e.s16.s4.1 e.s16.s4.2.1 e.s16.s4.2.2.1 e.s16.s4.2.2.2.1 (v8 e.s16.s8.1 e.s16.s8.2.1 e.s16.s8.2.2.1 e.s16.s8.2.2.2.1 e.s16.s8.s4.1 e.s16.s8.s4.2.1 e.s16.s8.s4.2.2.1 e.s16.s8.s4.2.2.2.1 [.vec 2])))) true none), (2, .vec e.s16.s16.1 e.s16.s16.2.1 1 true)] []))) e)
 cv := fun cc e k => by rcases e with e | e <;> rfl
theorem Ey : cX U2 1 xQ.la (aO Try.f31 0) :=
 LD.ok (ch := j9) (A := eT [(5, qZ.la), (12, pi.la)]) aJ jC mixed (fuel := 60) ⟨by kernel_rfl, fun e => by (rcases e with e | e <;> kernel_rfl), fun cc v => by kernel_rfl, aK (l := [aO Try.f31 1, aO Try.f31 2]) (by kernel_rfl) ⟨ci (by kernel_rfl) uN, ci (by kernel_rfl) tI, trivial⟩⟩
def tZ (cs0 : LA_) (n1 : Nat) : Option (Bp) :=
 (Option.bind (sX (cs0, n1) (0, ([.int .i64 0] : LA_), 1)) (Sum.elim (fun e1 => none) (fun e1 => (some (e1.1, e1.2.1, e1.2.2.1, e1.2.2.2.1, e1.2.2.2.2.1, e1.2.2.2.2.2.1, e1.2.2.2.2.2.2.1, e1.2.2.2.2.2.2.2.1, e1.2.2.2.2.2.2.2.2.1, e1.2.2.2.2.2.2.2.2.2.1, e1.2.2.2.2.2.2.2.2.2.2.1, e1.2.2.2.2.2.2.2.2.2.2.2.1, e1.2.2.2.2.2.2.2.2.2.2.2.2.1, e1.2.2.2.2.2.2.2.2.2.2.2.2.2.1, e1.2.2.2.2.2.2.2.2.2.2.2.2.2.2.1, e1.2.2.2.2.2.2.2.2.2.2.2.2.2.2.2.1, e1.2.2.2.2.2.2.2.2.2.2.2.2.2.2.2.2.1, e1.2.2.2.2.2.2.2.2.2.2.2.2.2.2.2.2.2.1, e1.2.2.2.2.2.2.2.2.2.2.2.2.2.2.2.2.2.2.1, e1.2.2.2.2.2.2.2.2.2.2.2.2.2.2.2.2.2.2.2.1, e1.2.2.2.2.2.2.2.2.2.2.2.2.2.2.2.2.2.2.2.2.1, e1.2.2.2.2.2.2.2.2.2.2.2.2.2.2.2.2.2.2.2.2.2.1, e1.2.2.2.2.2.2.2.2.2.2.2.2.2.2.2.2.2.2.2.2.2.2.1, e1.2.2.2.2.2.2.2.2.2.2.2.2.2.2.2.2.2.2.2.2.2.2.2.1, e1.2.2.2.2.2.2.2.2.2.2.2.2.2.2.2.2.2.2.2.2.2.2.2.2.1, e1.2.2.2.2.2.2.2.2.2.2.2.2.2.2.2.2.2.2.2.2.2.2.2.2.2.1, e1.2.2.2.2.2.2.2.2.2.2.2.2.2.2.2.2.2.2.2.2.2.2.2.2.2.2.1, e1.2.2.2.2.2.2.2.2.2.2.2.2.2.2.2.2.2.2.2.2.2.2.2.2.2.2.2.1, e1.2.2.2.2.2.2.2.2.2.2.2.2.2.2.2.2.2.2.2.2.2.2.2.2.2.2.2.2.1, e1.2.2.2.2.2.2.2.2.2.2.2.2.2.2.2.2.2.2.2.2.2.2.2.2.2.2.2.2.2.1, e1.2.2.2.2.2.2.2.2.2.2.2.2.2.2.2.2.2.2.2.2.2.2.2.2.2.2.2.2.2.2.1, e1.2.2.2.2.2.2.2.2.2.2.2.2.2.2.2.2.2.2.2.2.2.2.2.2.2.2.2.2.2.2.2.1, e1.2.2.2.2.2.2.2.2.2.2.2.2.2.2.2.2.2.2.2.2.2.2.2.2.2.2.2.2.2.2.2.2.2.2, e1.2.2.2.2.2.2.2.2.2.2.2.2.2.2.2.2.2.2.2.2.2.2.2.2.2.2.2.2.2.2.2.2.1, e1.2.2.2.2.2.2.2.2.2.2.2.2.2.2.2.2.2.2.2.2.2.2.2.2.2.2.2.2.2.2.2.2.2.1)))))
def fB : FD where
 X := Bp
 k := 1
 pre := []
 F := fun s => [0, nameAt s 0 [.c 0, .c 32]]
 M := .tup [.agg (rl (.int .u64) 32 [.vec 1]), .int .i64]
 B := [.vec 1 true]
 toL := fun x => [.I x.1, .I x.2.1, .I x.2.2.1, .I x.2.2.2.1, .I x.s4.1, .I x.s4.2.1, .I x.s4.2.2.1, .I x.s4.2.2.2.1, .I x.s8.1, .I x.s8.2.1, .I x.s8.2.2.1, .I x.s8.2.2.2.1, .I x.s8.s4.1, .I x.s8.s4.2.1, .I x.s8.s4.2.2.1, .I x.s8.s4.2.2.2.1, .I x.s16.1, .I x.s16.2.1, .I x.s16.2.2.1, .I x.s16.2.2.2.1, .I x.s16.s4.1, .I x.s16.s4.2.1, .I x.s16.s4.2.2.1, .I x.s16.s4.2.2.2.1, .I x.s16.s8.1, .I x.s16.s8.2.1, .I x.s16.s8.2.2.1, .I x.s16.s8.2.2.2.1, .I x.s16.s8.s4.1, .I x.s16.s8.s4.2.1, .I x.s16.s8.s4.2.2.1, .I x.s16.s8.s4.2.2.2.1, .I x.s16.s16.1, .C x.s16.s16.2.1, .N x.s16.s16.2.2]
 ofL := fun ls => match ls with
  | (.I x0 :: .I x1 :: .I x2 :: .I x3 :: .I x4 :: .I x5 :: .I x6 :: .I x7 :: .I x8 :: .I x9 :: .I x10 :: .I x11 :: .I x12 :: .I x13 :: .I x14 :: .I x15 :: .I x16 :: .I x17 :: .I x18 :: .I x19 :: .I x20 :: .I x21 :: .I x22 :: .I x23 :: .I x24 :: .I x25 :: .I x26 :: .I x27 :: .I x28 :: .I x29 :: .I x30 :: .I x31 :: .I x32 :: .C x33 :: .N x34 :: []) => some (x0, x1, x2, x3, x4, x5, x6, x7, x8, x9, x10, x11, x12, x13, x14, x15, x16, x17, x18, x19, x20, x21, x22, x23, x24, x25, x26, x27, x28, x29, x30, x31, x32, x33, x34)
  | _ => none
 au := fun ls x h => by
  split at h
  ·cases h; rfl
  ·cases h
theorem Hx (cs0 : LA_) (n1 : Nat) (x : Bp) (h : tZ cs0 n1 = some x) : bg U2 31 1 [.vec 0] [.vec cs0 n1 3 false] fB x :=
 FD.sem (ch := j9) (A := eT [(5, qZ.la), (12, pi.la), (3, xQ.la)]) (fn := Try.f31) (c := bu Try.f31) (fuel := 60) aJ jC mixed bK fB Try.func31 (by kernel_rfl) (aK (l := [aO Try.f31 0, aO Try.f31 1, aO Try.f31 2]) (by kernel_rfl) ⟨ci (by kernel_rfl) Ey, ci (by kernel_rfl) uN, ci (by kernel_rfl) tI, trivial⟩)
  (by kernel_rfl) (Eq.trans (by kernel_rfl) h)
def jA (cs0 : LA_) (n1 : Nat) : Option (wk) := Option.bind (tZ cs0 n1) fun (x0, x1, x2, x3, x4, x5, x6, x7, x8, x9, x10, x11, x12, x13, x14, x15, x16, x17, x18, x19, x20, x21, x22, x23, x24, x25, x26, x27, x28, x29, x30, x31, x32, x33, x34) => af (ok8 x0 x1 x2 x3 x4 x5 x6 x7 && ok8 x8 x9 x10 x11 x12 x13 x14 x15 && ok8 x16 x17 x18 x19 x20 x21 x22 x23 && ok8 x24 x25 x26 x27 x28 x29 x30 x31) (some ((num x0 x1 x2 x3 x4 x5 x6 x7), (num x8 x9 x10 x11 x12 x13 x14 x15), (num x16 x17 x18 x19 x20 x21 x22 x23), (num x24 x25 x26 x27 x28 x29 x30 x31), x32, x33, x34))
def uR : FD := ⟨wk, fB.k, fB.pre, fB.F, fB.M, fB.B, fun y => fB.toL (aY y.1 (aY y.2.1 (aY y.2.2.1 (aY y.2.2.2.1 (y.s4.1, y.s4.2.1, y.s4.2.2))))), fun _ => none, fun _ _ h => by cases h⟩
theorem IW (cs0 : LA_) (n1 : Nat) {y : wk} (h : jA cs0 n1 = some y) : tZ cs0 n1 = some (aY y.1 (aY y.2.1 (aY y.2.2.1 (aY y.2.2.2.1 (y.s4.1, y.s4.2.1, y.s4.2.2))))) := by
 unfold jA at h
 obtain ⟨⟨x0, x1, x2, x3, x4, x5, x6, x7, x8, x9, x10, x11, x12, x13, x14, x15, x16, x17, x18, x19, x20, x21, x22, x23, x24, x25, x26, x27, x28, x29, x30, x31, x32, x33, x34⟩, h1, h2⟩ := bE_ h
 obtain ⟨h3, h4⟩ := aH h2
 simp only [UC, and_assoc] at h3
 simp only [UB] at h4
 subst h4
 obtain ⟨o0, o1, o2, o3⟩ := h3
 have q0 := aQ o0
 have q1 := aQ o1
 have q2 := aQ o2
 have q3 := aQ o3
 rw [h1]
 simp only [aY, q0, q1, q2, q3]
theorem Hy (cs0 : LA_) (n1 : Nat) (y : wk) (h : jA cs0 n1 = some y) : bg U2 31 1 [.vec 0] [.vec cs0 n1 3 false] uR y := Hx cs0 n1 _ (IW cs0 n1 h)
def yW : HK where
 call := fun args σ k => match args with
  | [x0] => cW σ 3 x0 fun cs0 n1 => Option.bind (jA cs0 n1) fun y => aC σ 1 (uR.val y) (uR.aN y) k
  | _ => none
 nat := fun args σ k => by
  repeat' split
  all_goals simp only [av, ai, UA, Uz, aC, Uy]
 pure := false
 pok := fun h => by cases h
theorem IQ : aX U2 31 yW := by
 intro args σ r σ' h
 simp only [yW] at h
 split at h
 ·rename_i x0
  obtain ⟨cs0, n1, he0, hf0, h⟩ := bE h
  obtain ⟨y, hy, h⟩ := bE_ h
  exact lifted (xs := [x0]) (ls := [.vec cs0 n1 3 false]) (cargs := [.vec 0]) (bC.of ⟨⟨rfl, he0, hf0, by decide⟩, trivial⟩) rfl (Hy cs0 n1 y hy) rfl rfl rfl rfl h
 ·cases h
def cn (l : List Nat) : LA_ := ics (l.map fun i => ((i : Nat) : Int))
theorem L8 {l : List Nat} {i : Nat} (h : i < l.length) : (cn l)[i * 1 + 0]? = some (.int .i64 ((l.getD i 0 : Nat) : Int)) := by
 simp [cn, ics, List.getElem?_map, UJ h, UK]
theorem nig {l : List Nat} {i : Nat} (h : i < l.length) : ac (cn l) (i * 1 + 0) = ((l.getD i 0 : Nat) : Int) := by unfold ac; rw [L8 h]
theorem P0 {l : List Nat} {i : Nat} (h : i < l.length) : aq [.int .i64] (cn l) (i * 1) = true := by
 have := L8 h
 simp only [Nat.mul_one, Nat.add_zero] at this
 simp [aq, this, isK]
theorem P1 (a b : List Nat) : cn (a ++ b) = cn a ++ cn b := by simp [cn, ics]
theorem P2 (l : List Pt) (a b : List Nat) : pick l (a ++ b) = pick l a ++ pick l b := by simp [pick]
theorem L9 {l : List Nat} {n i : Nat} (hb : ∀ x ∈ l, x < n) (h : i < l.length) : l.getD i 0 < n := by
 rw [UK, UJ h]; exact hb _ (List.getElem_mem h)
theorem take_succ {l : List Nat} {i : Nat} (h : i < l.length) : l.take (i + 1) = l.take i ++ [l.getD i 0] := by
 rw [List.take_add_one, UJ h]; simp [UK, UJ h]
theorem OG {l : List Pt} {at_ : List Nat} (hb : ∀ x ∈ at_, x < l.length) (h5 : at_.length ≤ 100) (st : Int) :
  AE (pcs l, l.length, st, cn at_, at_.length, ((at_.length : Nat) : Int)) ([], 0, 0) = some (pcs (pick l at_), at_.length) := by
 have key : ∀ (n i : Nat), at_.length - i = n → i ≤ at_.length → iter (lX (pcs l, l.length, st, cn at_, at_.length, ((at_.length : Nat) : Int))) (n + 1) (pcs (pick l (at_.take i)), i, (i : Int)) = some (pcs (pick l at_), at_.length) := by
  intro n
  induction n with
  | zero =>
   intro i hn hi
   have he : i = at_.length := by omega
   subst he
   refine gK 0 ?_
   simp only [lX, eZ, UG (show ¬ ((at_.length : Int) < ((at_.length : Nat) : Int)) by omega), cond_false, List.take_length]
  | succ n ih =>
   intro i hn hi
   have h : i < at_.length := by omega
   have wr : IntKind.wrap .i64 ((i : Int) + 1) = ((i + 1 : Nat) : Int) := by rw [ce (by omega)]; omega
   have hk := L9 hb h
   have d2 : decide (2 * (i + 1) * 24 ≤ 2 ^ 48) = true := UH (by omega)
   refine dL ?_ (ih (i + 1) (by omega) (by omega))
   simp only [lX, eZ, decLt h, gt, cond_true, UF, aw, iY, P0 h, nig h, decLt hk, pro hk, pg0 hk, pg1 hk, pg2 hk, d2, wr, take_succ h, P2, yL]
   rfl
 have := key at_.length 0 (by omega) (by omega)
 exact lO (by unfold vI; omega) this
theorem P3 {l : List Pt} {at_ ch : List Nat} (hb : ∀ x ∈ ch, x < at_.length) (h5 : ch.length ≤ 100) (st : Int) (N : Pt) (D : Int) :
  xP (pcs l, l.length, st, cn at_, at_.length, aa N.1 0, aa N.1 1, aa N.1 2, aa N.1 3, aa N.1 4, aa N.1 5, aa N.1 6, aa N.1 7, aa N.2.1 0, aa N.2.1 1, aa N.2.1 2, aa N.2.1 3, aa N.2.1 4, aa N.2.1 5, aa N.2.1 6, aa N.2.1 7, aa N.2.2 0, aa N.2.2 1, aa N.2.2 2, aa N.2.2 3, aa N.2.2 4, aa N.2.2 5, aa N.2.2 6, aa N.2.2 7, aa D 0, aa D 1, aa D 2, aa D 3, aa D 4, aa D 5, aa D 6, aa D 7, cn ch, ch.length, ((ch.length : Nat) : Int)) ([], 0, 0) = some (cn (ch.map fun i => at_.getD i 0), ch.length) := by
 have key : ∀ (n i : Nat), ch.length - i = n → i ≤ ch.length → iter (kL (pcs l, l.length, st, cn at_, at_.length, aa N.1 0, aa N.1 1, aa N.1 2, aa N.1 3, aa N.1 4, aa N.1 5, aa N.1 6, aa N.1 7, aa N.2.1 0, aa N.2.1 1, aa N.2.1 2, aa N.2.1 3, aa N.2.1 4, aa N.2.1 5, aa N.2.1 6, aa N.2.1 7, aa N.2.2 0, aa N.2.2 1, aa N.2.2 2, aa N.2.2 3, aa N.2.2 4, aa N.2.2 5, aa N.2.2 6, aa N.2.2 7, aa D 0, aa D 1, aa D 2, aa D 3, aa D 4, aa D 5, aa D 6, aa D 7, cn ch, ch.length, ((ch.length : Nat) : Int))) (n + 1) (cn ((ch.take i).map fun i => at_.getD i 0), i, (i : Int)) = some (cn (ch.map fun i => at_.getD i 0), ch.length) := by
  intro n
  induction n with
  | zero =>
   intro i hn hi
   have he : i = ch.length := by omega
   subst he
   refine gK 0 ?_
   simp only [kL, eA, UG (show ¬ ((ch.length : Int) < ((ch.length : Nat) : Int)) by omega), cond_false, List.take_length]
  | succ n ih =>
   intro i hn hi
   have h : i < ch.length := by omega
   have wr : IntKind.wrap .i64 ((i : Int) + 1) = ((i + 1 : Nat) : Int) := by rw [ce (by omega)]; omega
   have hk := L9 hb h
   have d2 : decide (2 * (i + 1) * 8 ≤ 2 ^ 48) = true := UH (by omega)
   refine dL ?_ (ih (i + 1) (by omega) (by omega))
   simp only [kL, eA, decLt h, gt, cond_true, UF, aw, iY, P0 h, nig h, decLt hk, P0 hk, nig hk, d2, wr, take_succ h, List.map_append, P1]
   rfl
 have := key ch.length 0 (by omega) (by omega)
 exact lO (by unfold vI; omega) this
theorem OH {l : List Pt} {N : Pt} {D : Int} (hok : bd l = true) (h1 : 1 ≤ l.length) (hl : l.length < 1000000000) (hN : PtB 240 N) (cs : LA_) (n : Nat) :
  ∃ k : Nat, k < l.length ∧ sW N.1 N.2.1 N.2.2 D cs n (pcs l) l.length = some (k : Int) ∧ ∀ p ∈ l, ae N (pat l k) ≤ ae N p := by
 haveI n1 : Sm 240 N.1 := ⟨hN.h.1⟩
 haveI n2 : Sm 240 N.2.1 := ⟨hN.h.2.1⟩
 haveI n3 : Sm 240 N.2.2 := ⟨hN.h.2.2⟩
 have along : ∀ {i : Nat}, i < l.length → lY (aa N.1 0) (aa N.1 1) (aa N.1 2) (aa N.1 3) (aa N.1 4) (aa N.1 5) (aa N.1 6) (aa N.1 7) (aa N.2.1 0) (aa N.2.1 1) (aa N.2.1 2) (aa N.2.1 3) (aa N.2.1 4) (aa N.2.1 5) (aa N.2.1 6) (aa N.2.1 7) (aa N.2.2 0) (aa N.2.2 1) (aa N.2.2 2) (aa N.2.2 3) (aa N.2.2 4) (aa N.2.2 5) (aa N.2.2 6) (aa N.2.2 7) (pat l i).1 (pat l i).2.1 (pat l i).2.2 = some (ae N (pat l i)) ∧ fit (ae N (pat l i)) := by
  intro i h
  have hq := PtB.of (eI hok h)
  haveI p1 : Sm 28 (pat l i).1 := ⟨hq.h.1⟩
  haveI p2 : Sm 28 (pat l i).2.1 := ⟨hq.h.2.1⟩
  haveI p3 : Sm 28 (pat l i).2.2 := ⟨hq.h.2.2⟩
  exact ⟨IN (Sm.fit (by decide)) (Sm.fit (by decide)) (Sm.fit (by decide)) (p1.rng (by decide)) (p2.rng (by decide)) (p3.rng (by decide)) (Sm.fit (by decide)) (Sm.fit (by decide)) (Sm.fit (by decide)) (Sm.fit (by decide)) (Sm.fit (by decide)), Sm.fit (k := 270) (by decide)⟩
 have e0 : (([.int .u64 0, .int .u64 0, .int .u64 0, .int .u64 0, .int .u64 0, .int .u64 0, .int .u64 0, .int .u64 0] : LA_)) = wcs [0] := by simp only [wcs, fy]
 have main : ∃ e, uS (aa N.1 0, aa N.1 1, aa N.1 2, aa N.1 3, aa N.1 4, aa N.1 5, aa N.1 6, aa N.1 7, aa N.2.1 0, aa N.2.1 1, aa N.2.1 2, aa N.2.1 3, aa N.2.1 4, aa N.2.1 5, aa N.2.1 6, aa N.2.1 7, aa N.2.2 0, aa N.2.2 1, aa N.2.2 2, aa N.2.2 3, aa N.2.2 4, aa N.2.2 5, aa N.2.2 6, aa N.2.2 7, aa D 0, aa D 1, aa D 2, aa D 3, aa D 4, aa D 5, aa D 6, aa D 7, cs, n, 1, pcs l, l.length, ((l.length : Nat) : Int)) (-1, wcs [0], 0) = some e ∧ ∃ k : Nat, e = (k : Int) ∧ k < l.length ∧ ∀ p ∈ l, ae N (pat l k) ≤ ae N p := by
  refine gv (step := eK (aa N.1 0, aa N.1 1, aa N.1 2, aa N.1 3, aa N.1 4, aa N.1 5, aa N.1 6, aa N.1 7, aa N.2.1 0, aa N.2.1 1, aa N.2.1 2, aa N.2.1 3, aa N.2.1 4, aa N.2.1 5, aa N.2.1 6, aa N.2.1 7, aa N.2.2 0, aa N.2.2 1, aa N.2.2 2, aa N.2.2 3, aa N.2.2 4, aa N.2.2 5, aa N.2.2 6, aa N.2.2 7, aa D 0, aa D 1, aa D 2, aa D 3, aa D 4, aa D 5, aa D 6, aa D 7, cs, n, 1, pcs l, l.length, ((l.length : Nat) : Int)))
   (fun v => ∃ i : Nat, v.2.2 = (i : Int) ∧ i ≤ l.length ∧ ((i = 0 ∧ v.1 = -1 ∧ v.2.1 = wcs [0]) ∨ ∃ k : Nat, v.1 = (k : Int) ∧ k < i ∧ v.2.1 = wcs [ae N (pat l k)] ∧ ∀ j, j < i → ae N (pat l k) ≤ ae N (pat l j))) (fun v => ((l.length : Int) - v.2.2).toNat) _ ?_
   (Nat.lt_of_le_of_lt (show ((l.length : Int) - 0).toNat ≤ 1000000000 by omega) (by decide)) ⟨0, rfl, by omega, .inl ⟨rfl, rfl, rfl⟩⟩
  rintro ⟨b, far, v⟩ ⟨i, rfl, hi, hinv⟩
  by_cases h : i < l.length
  ·obtain ⟨ha, hfit⟩ := along h
   have wr : IntKind.wrap .i64 ((i : Int) + 1) = ((i + 1 : Nat) : Int) := by rw [ce (by omega)]; omega
   have s1 : ∀ x r : Int, spliced (wcs [x]) 0 [.int .u64 (aa r 0), .int .u64 (aa r 1), .int .u64 (aa r 2), .int .u64 (aa r 3), .int .u64 (aa r 4), .int .u64 (aa r 5), .int .u64 (aa r 6), .int .u64 (aa r 7)] = wcs [r] := fun _ _ => rfl
   have l8 : ∀ z : Int, decide (0 + 8 ≤ List.length (wcs [z])) = true := fun _ => rfl
   have r0 : ∀ z : Int, aq k8 (wcs [z]) 0 = true := fun z => wro (l := [z]) (i := 0) (by simp)
   rcases hinv with ⟨rfl, rfl, rfl⟩ | ⟨k, hk, hki, rfl, hmin⟩
   ·refine .inl ⟨(((0 : Nat) : Int), wcs [ae N (pat l 0)], ((0 + 1 : Nat) : Int)), ?_, ⟨1, rfl, by omega, .inr ⟨0, rfl, by omega, rfl, fun j hj => ?_⟩⟩, by simp only; omega⟩
    ·simp only [eK, cJ, decLt h, gt, cond_true, UF, aw, iY, pro h, pg0 h, pg1 h, pg2 h, ha, Uy, show decide ((-1 : Int) < 0) = true from rfl, l8, s1, wr]
    ·obtain rfl : j = 0 := by omega
     exact Int.le_refl _
   ·simp only at hk
    subst hk
    have hfk := (along (show k < l.length by omega)).2
    have hc := L5 hfit hfk
    have hc' : Ez (aa (ae N (pat l i)) 0) (aa (ae N (pat l i)) 1) (aa (ae N (pat l i)) 2) (aa (ae N (pat l i)) 3) (aa (ae N (pat l i)) 4) (aa (ae N (pat l i)) 5) (aa (ae N (pat l i)) 6) (aa (ae N (pat l i)) 7) (ac (wcs [ae N (pat l k)]) 0) (ac (wcs [ae N (pat l k)]) 1) (ac (wcs [ae N (pat l k)]) 2) (ac (wcs [ae N (pat l k)]) 3) (ac (wcs [ae N (pat l k)]) 4) (ac (wcs [ae N (pat l k)]) 5) (ac (wcs [ae N (pat l k)]) 6) (ac (wcs [ae N (pat l k)]) 7) = some (sgn (ae N (pat l i) - ae N (pat l k))) := hc
    have kneg : decide (((k : Nat) : Int) < 0) = false := UG (by omega)
    by_cases hlt : ae N (pat l i) < ae N (pat l k)
    ·have hs : decide (sgn (ae N (pat l i) - ae N (pat l k)) < 0) = true := by
      have : ae N (pat l i) - ae N (pat l k) < 0 := by omega
      simp [sgn, this]
     refine .inl ⟨(((i : Nat) : Int), wcs [ae N (pat l i)], ((i + 1 : Nat) : Int)), ?_, ⟨i + 1, rfl, by omega, .inr ⟨i, rfl, by omega, rfl, fun j hj => ?_⟩⟩, by simp only; omega⟩
     ·simp only [eK, cJ, decLt h, gt, cond_true, cond_false, UF, aw, iY, pro h, pg0 h, pg1 h, pg2 h, ha, Uy, kneg, l8, s1, wr, r0, hc', hs]
     ·rcases Nat.lt_or_ge j i with q | q
      ·have := hmin j q; omega
      ·obtain rfl : j = i := by omega
       exact Int.le_refl _
    ·have hs : decide (sgn (ae N (pat l i) - ae N (pat l k)) < 0) = false := by
      have h1 : ¬ ae N (pat l i) - ae N (pat l k) < 0 := by omega
      unfold sgn
      rw [UG h1, cond_false]
      by_cases h0 : ae N (pat l i) - ae N (pat l k) = 0
      ·rw [UH h0]; rfl
      ·rw [UG h0]; rfl
     refine .inl ⟨(((k : Nat) : Int), wcs [ae N (pat l k)], ((i + 1 : Nat) : Int)), ?_, ⟨i + 1, rfl, by omega, .inr ⟨k, rfl, by omega, rfl, fun j hj => ?_⟩⟩, by simp only; omega⟩
     ·simp only [eK, cJ, decLt h, gt, cond_true, cond_false, UF, aw, iY, pro h, pg0 h, pg1 h, pg2 h, ha, Uy, kneg, wr, r0, hc', hs]
     ·rcases Nat.lt_or_ge j i with q | q
      ·exact hmin j q
      ·obtain rfl : j = i := by omega
       omega
  ·have hi' : i = l.length := by omega
   subst hi'
   rcases hinv with ⟨h0, _⟩ | ⟨k, hk, hki, rfl, hmin⟩
   ·omega
   ·simp only at hk
    subst hk
    refine .inr ⟨((k : Nat) : Int), ?_, k, rfl, hki, fun p hp => ?_⟩
    ·simp only [eK, cJ, UG (show ¬ ((l.length : Int) < ((l.length : Nat) : Int)) by omega), cond_false]
    ·obtain ⟨j, hj, rfl⟩ := List.getElem_of_mem hp
     have := hmin j hj
     simpa [pat, UK, UJ hj] using this
 obtain ⟨e, he, k, rfl, hk, hmin⟩ := main
 refine ⟨k, hk, ?_, hmin⟩
 unfold sW nA
 unfold v8
 rw [e0, he]
 rfl
theorem RV {n : Nat} (h1 : 1 ≤ n) (h : n ≤ 256) : pd ((n : Nat) : Int) = some ((jr n).length : Int) := by
 have c1 := Jy n
 have c2 := Jz n
 have c3 := JA n
 have c4 := Nc n
 have hn0 : (0 : Int) ≤ n := by omega
 have hn1 : (0 : Int) ≤ (n : Int) - 1 := by omega
 have b2 : (n : Int) * (n - 1) ≤ 256 * 256 := Int.mul_le_mul (by omega) (by omega) hn1 (by decide)
 have e3 : ((comb n 2).length : Int) * (n - 2) = 3 * ((comb n 3).length : Int) := by
  have : 2 * (((comb n 2).length : Int) * (n - 2)) = 2 * (3 * ((comb n 3).length : Int)) := by grind
  omega
 have e4 : ((comb n 3).length : Int) * (n - 3) = 4 * ((comb n 4).length : Int) := by
  have : 6 * (((comb n 3).length : Int) * (n - 3)) = 6 * (4 * ((comb n 4).length : Int)) := by grind
  omega
 have u2 : ((comb n 2).length : Int) ≤ 32768 := by omega
 have b3 : ((comb n 2).length : Int) * (n - 2) ≤ 32768 * 256 := by
  rcases Int.le_total 0 ((n : Int) - 2) with q | q
  ·exact Int.mul_le_mul u2 (by omega) q (by decide)
  ·have := Int.mul_nonpos_of_nonneg_of_nonpos (show (0 : Int) ≤ ((comb n 2).length : Int) by omega) q
   omega
 have u3 : ((comb n 3).length : Int) ≤ 2800000 := by omega
 have b4 : ((comb n 3).length : Int) * (n - 3) ≤ 2800000 * 256 := by
  rcases Int.le_total 0 ((n : Int) - 3) with q | q
  ·exact Int.mul_le_mul u3 (by omega) q (by decide)
  ·have := Int.mul_nonpos_of_nonneg_of_nonpos (show (0 : Int) ≤ ((comb n 3).length : Int) by omega) q
   omega
 have u4 : ((comb n 4).length : Int) ≤ 180000000 := by omega
 have w : ∀ {x : Int}, 0 ≤ x → x ≤ 1000000000 → IntKind.wrap .i64 x = x := fun {x} q1 q2 => ce (by omega)
 have w' : ∀ {x : Int}, -100 ≤ x → x ≤ 1000000000 → IntKind.wrap .i64 x = x := fun {x} q1 q2 => ce (by omega)
 have t2 : Int.tdiv ((n : Int) * (n - 1)) 2 = ((comb n 2).length : Int) := by rw [← c2]; exact Int.mul_tdiv_cancel_left _ (by decide)
 have t3 : Int.tdiv (((comb n 2).length : Int) * (n - 2)) 3 = ((comb n 3).length : Int) := by rw [e3]; exact Int.mul_tdiv_cancel_left _ (by decide)
 have t4 : Int.tdiv (((comb n 3).length : Int) * (n - 3)) 4 = ((comb n 4).length : Int) := by rw [e4]; exact Int.mul_tdiv_cancel_left _ (by decide)
 unfold pd
 rw [w' (x := (n : Int) - 1) (by omega) (by omega), w (x := (n : Int) * (n - 1)) (by omega) (by omega), t2, w (x := ((comb n 2).length : Int)) (by omega) (by omega),
  w' (x := (n : Int) - 2) (by omega) (by omega), w' (x := ((comb n 2).length : Int) * (n - 2)) (by omega) (by omega), t3, w (x := ((comb n 3).length : Int)) (by omega) (by omega),
  w' (x := (n : Int) - 3) (by omega) (by omega), w' (x := ((comb n 3).length : Int) * (n - 3)) (by omega) (by omega), t4, w (x := ((comb n 4).length : Int)) (by omega) (by omega),
  w (x := (n : Int) + ((comb n 2).length : Int)) (by omega) (by omega), w (x := (n : Int) + ((comb n 2).length : Int) + ((comb n 3).length : Int)) (by omega) (by omega),
  w (x := (n : Int) + ((comb n 2).length : Int) + ((comb n 3).length : Int) + ((comb n 4).length : Int)) (by omega) (by omega)]
 unfold jr
 simp only [UQ, Int.natCast_add, c1]
theorem Fr (a b : Int) : aE a b = some (decide (a < b)) := by
 have n : ∀ x : Int, fK x = some false := by intro x; simp [fK]
 unfold aE
 rw [n, Uy]
 cases decide (a < b) <;> rfl
def qv (l : List Pt) (o : List Nat) : Int := ae (bp (pick l o)) (bp (pick l o))
def dvv (l : List Pt) (o : List Nat) : Int := (wts (pick l o)).2
theorem uy {l : List Pt} {o : List Nat} (h : val (pick l o)) : 0 < dvv l o := oR h.1
def nlt (l : List Pt) (u o : List Nat) : Prop := val (pick l u) ∧ qv l u * (dvv l o * dvv l o) < qv l o * (dvv l u * dvv l u)
theorem Ma {l : List Pt} {o : List Nat} : ¬ nlt l o o := fun h => Int.lt_irrefl _ h.2
theorem OI {l : List Pt} {u v o : List Nat} (hv : val (pick l v)) (ho : val (pick l o)) (h1 : nlt l u v) (h2 : nlt l v o) : nlt l u o := by
 refine ⟨h1.1, ?_⟩
 have a := Int.mul_pos (uy h1.1) (uy h1.1)
 have b := Int.mul_pos (uy hv) (uy hv)
 have c := Int.mul_pos (uy ho) (uy ho)
 have k1 := Int.mul_lt_mul_of_pos_right h1.2 c
 have k2 := Int.mul_lt_mul_of_pos_right h2.2 a
 generalize dvv l u * dvv l u = A at *
 generalize dvv l v * dvv l v = B at *
 generalize dvv l o * dvv l o = C at *
 have e1 : qv l u * B * C = (qv l u * C) * B := by grind
 have e2 : qv l v * A * C = qv l v * C * A := by grind
 have e3 : qv l o * B * A = (qv l o * A) * B := by grind
 exact Int.lt_of_mul_lt_mul_right (show (qv l u * C) * B < (qv l o * A) * B by omega) (Int.le_of_lt b)
open Classical in
def vL (l : List Pt) (o : List Nat) : Nat := (jr l.length).countP fun u => decide (nlt l u o)
theorem OJ {l : List Pt} {o o' : List Nat} (ho : val (pick l o)) (ho' : val (pick l o')) (hm : o' ∈ jr l.length) (h : nlt l o' o) : vL l o' < vL l o := by
 unfold vL
 refine Fs (x := o') (fun y _ hy => ?_) hm (by simpa using h) (by simpa using Ma)
 simp only [UI] at hy ⊢
 exact OI ho' ho hy h
theorem OK {T : List Pt} (hi : ind T) (h4 : T.length = 4) (p : Pt) : ae p (bp T) = ae (T.headD (0, 0, 0)) (bp T) := by
 by_cases h : ae p (bp T) = ae (T.headD (0, 0, 0)) (bp T)
 ·exact h
 ·exfalso
  have := KX (p := p) hi (wR T (by omega) (by omega)) h
  match T, h4 with
  | [_, _, _, _], _ => exact this
theorem OL {m : Nat} {ch : List Nat} (h : ch ∈ chs m) : 1 ≤ ch.length ∧ ch.length ≤ m ∧ m ≤ 4 ∧ dh ch ∧ ∀ x ∈ ch, x < m := by
 unfold dh
 have key : ∀ m ≤ 4, ∀ ch ∈ chs m, 1 ≤ ch.length ∧ ch.length ≤ m ∧ m ≤ 4 ∧ ch.Pairwise (· < ·) ∧ ∀ x ∈ ch, x < m := by decide
 have hm : m ≤ 4 := by
  unfold chs at h
  split at h <;> first | omega | (simp at h)
 exact key m hm ch h
def sel (at_ ch : List Nat) : List Nat := ch.map fun i => at_.getD i 0
theorem RW (at_ ch : List Nat) : (sel at_ ch).length = ch.length := by simp [sel]
theorem RX {at_ ch : List Nat} (hb : ∀ x ∈ ch, x < at_.length) : ∀ x ∈ sel at_ ch, x ∈ at_ := by
 intro x hx
 simp only [sel, List.mem_map] at hx
 obtain ⟨i, hi, rfl⟩ := hx
 rw [UK, UJ (hb i hi)]
 exact List.getElem_mem _
theorem Nd {at_ ch : List Nat} (ha : dh at_) (hc : dh ch) (hb : ∀ x ∈ ch, x < at_.length) : dh (sel at_ ch) := by
 unfold dh sel at *
 rw [List.pairwise_map]
 refine List.Pairwise.imp_of_mem ?_ hc
 intro a b hma hmb hlt
 have h1 := hb a hma
 have h2 := hb b hmb
 rw [UK, UK, UJ h1, UJ h2]
 exact List.pairwise_iff_getElem.1 ha a b h1 h2 hlt
theorem P4 {l : List Pt} {at_ ch : List Nat} (hb : ∀ x ∈ ch, x < at_.length) : pick (pick l at_) ch = pick l (sel at_ ch) := by
 unfold pick sel
 rw [List.map_map]
 refine List.map_congr_left fun i hi => ?_
 have h := hb i hi
 simp [pat, UK, List.getElem?_map, UJ h]
theorem KY (l : List Pt) (o : List Nat) : (pick l o).length = o.length := by simp [pick]
theorem RY {l : List Pt} {o : List Nat} (hok : bd l = true) (hb : ∀ x ∈ o, x < l.length) : bd (pick l o) = true := by
 unfold bd pick
 rw [List.all_eq_true]
 intro p hp
 obtain ⟨i, hi, rfl⟩ := List.mem_map.1 hp
 exact eI hok (hb i hi)
theorem Ft {l : List Pt} {o : List Nat} {k : Nat} (h : k ∈ o) : pat l k ∈ pick l o := List.mem_map.2 ⟨k, h, rfl⟩
structure Own (l : List Pt) (o : List Nat) : Prop where
 v : val (pick l o)
 r : dh o
 b : ∀ x ∈ o, x < l.length
 n1 : 1 ≤ o.length
 n4 : o.length ≤ 4
theorem Own.mem {l : List Pt} {o : List Nat} (h : Own l o) : o ∈ jr l.length := P5 h.n1 h.n4 h.r h.b
def lev (l : List Pt) (o : List Nat) : Int := ae ((pick l o).headD (0, 0, 0)) (bp (pick l o))
structure Hd (l : List Pt) (st : Nat) (at_ : List Nat) : Prop where
 r : dh at_
 b : ∀ x ∈ at_, x < l.length
 n1 : 1 ≤ at_.length
 n4 : at_.length ≤ 4
 c : st = 0 ∨ ∃ o k, Own l o ∧ at_ = ins k o ∧ ae (pat l k) (bp (pick l o)) < lev l o ∧ st + vL l o ≤ (jr l.length).length
theorem Hd.Nf {l : List Pt} {st : Nat} {at_ o' : List Nat} (h : Hd l st at_) (ho : Own l o') (hn : rG (pick l at_) (pick l o')) : st + 1 + vL l o' ≤ (jr l.length).length := by
 rcases h.c with rfl | ⟨o, k, hO, rfl, hp, hc⟩
 ·have : vL l o' < (jr l.length).length := by
   unfold vL
   have hle := List.countP_le_length (p := fun u => (Classical.propDecidable (nlt l u o')).decide) (l := jr l.length)
   have := Fs (p := fun u => (Classical.propDecidable (nlt l u o')).decide) (q := fun _ => true) (l := jr l.length) (x := o') (fun _ _ _ => rfl) ho.mem rfl (by simpa using Ma)
   simp only [List.countP_true] at this
   exact this
  omega
 ·have f := Go.Ev.Nf (Nst.of hO.v.1 hO.v.2) (Nst.of ho.v.1 ho.v.2) (k := pat l k) (fun p hpm => by
    obtain ⟨i, hi, rfl⟩ := List.mem_map.1 hpm
    exact hn _ (Ft (yM.2 (.inr hi)))) (hn _ (Ft (yM.2 (.inl rfl)))) hp
  have : nlt l o' o := ⟨ho.v, f⟩
  have := OJ hO.v ho.v ho.mem this
  omega
structure Wk (l : List Pt) (o : List Nat) (N : Pt) (D : Int) (st : Nat) : Prop where
 own : Own l o
 KZ : Prim (bp (pick l o)) (wts (pick l o)).2 N D
 none : rG l (pick l o)
 sN : PtB 240 N
 sD : sm 190 D
 s1 : 1 ≤ st
 sU : st ≤ (jr l.length).length
theorem Mb {l : List Pt} (h1 : 1 ≤ l.length) (h64 : l.length ≤ 256) : (jr l.length).length ≤ 200000000 := by
 have e := P6 l.length
 have b1 : (l.length : Int) * ((l.length : Int) - 1) ≤ 256 * 256 := Int.mul_le_mul (by omega) (by omega) (by omega) (by decide)
 have b2 : (l.length : Int) * ((l.length : Int) - 1) * ((l.length : Int) - 2) ≤ 256 * 256 * 256 := by
  rcases Int.le_total 0 ((l.length : Int) - 2) with q | q
  ·exact Int.mul_le_mul b1 (by omega) q (by decide)
  ·have := Int.mul_nonpos_of_nonneg_of_nonpos (Int.mul_nonneg (show (0 : Int) ≤ l.length by omega) (show (0 : Int) ≤ (l.length : Int) - 1 by omega)) q
   omega
 have b3 : (l.length : Int) * ((l.length : Int) - 1) * ((l.length : Int) - 2) * ((l.length : Int) - 3) ≤ 256 * 256 * 256 * 253 := by
  rcases Int.le_total 0 ((l.length : Int) - 3) with q | q
  ·exact Int.mul_le_mul b2 (by omega) q (by decide)
  ·have := Int.mul_nonpos_of_nonneg_of_nonpos (Int.mul_nonneg (Int.mul_nonneg (show (0 : Int) ≤ l.length by omega) (show (0 : Int) ≤ (l.length : Int) - 1 by omega)) (show (0 : Int) ≤ (l.length : Int) - 2 + 1 by omega)) q
   by_cases h2 : (l.length : Int) - 2 < 0
   ·have hl1 : (l.length : Int) = 1 := by omega
    rw [hl1]; decide
   ·have := Int.mul_nonpos_of_nonneg_of_nonpos (Int.mul_nonneg (Int.mul_nonneg (show (0 : Int) ≤ l.length by omega) (show (0 : Int) ≤ (l.length : Int) - 1 by omega)) (show (0 : Int) ≤ (l.length : Int) - 2 by omega)) q
    omega
 omega
theorem OM {l : List Pt} (hok : bd l = true) (h1 : 1 ≤ l.length) (h64 : l.length ≤ 256) {st : Nat} {at_ : List Nat} (h : Hd l st at_) :
  (∃ at', dc (pcs l, l.length) (((st : Nat) : Int), cn at_, at_.length) = some (.inl (((st + 1 : Nat) : Int), cn at', at'.length)) ∧ Hd l (st + 1) at' ∧ st + 1 ≤ (jr l.length).length) ∨
  (∃ o N D, Wk l o N D (st + 1) ∧ dc (pcs l, l.length) (((st : Nat) : Int), cn at_, at_.length) = some (.inr (.inr (aa N.1 0, aa N.1 1, aa N.1 2, aa N.1 3, aa N.1 4, aa N.1 5, aa N.1 6, aa N.1 7, aa N.2.1 0, aa N.2.1 1, aa N.2.1 2, aa N.2.1 3, aa N.2.1 4, aa N.2.1 5, aa N.2.1 6, aa N.2.1 7, aa N.2.2 0, aa N.2.2 1, aa N.2.2 2, aa N.2.2 3, aa N.2.2 4, aa N.2.2 5, aa N.2.2 6, aa N.2.2 7, aa D 0, aa D 1, aa D 2, aa D 3, aa D 4, aa D 5, aa D 6, aa D 7, cn o, o.length, ((st + 1 : Nat) : Int))))) := by
 have hS := RY hok h.b
 have hlen := KY l at_
 obtain ⟨ch, hch, N, D, hnear, hi, ⟨hw, hnp⟩, hP, hN, hD⟩ := OF hS (by rw [hlen]; exact h.n1) (by rw [hlen]; exact h.n4)
 rw [hlen] at hch hnear
 replace hnear : dA (pcs (pick l at_)) at_.length = some (N.1, N.2.1, N.2.2, D, 0, cn ch, ch.length) := hnear
 obtain ⟨c1, c2, c3, c4, c5⟩ := OL hch
 rw [P4 c5] at hi hw hnp hP
 have hsl := RW at_ ch
 generalize ho : sel at_ ch = o at *
 have hO : Own l o := by
  subst ho
  exact ⟨⟨hi, hw⟩, Nd h.r c4 c5, fun x hx => h.b x (RX c5 x hx), by omega, by omega⟩
 have hfall := h.Nf hO hnp
 have hsome := OG (st := ((st : Nat) : Int)) h.b (by have := h.n4; omega)
 have hown := P3 (l := l) (at_ := at_) (ch := ch) c5 (by omega) ((st : Nat) : Int) N D
 have hown' : (ch.map fun i => at_.getD i 0) = o := ho
 rw [hown'] at hown
 have hmost := RV h1 h64
 obtain ⟨k, hk, hback, hmin⟩ := OH (D := D) hok h1 (by omega) hN (cn o) ch.length
 have hpast := OD hN hD (eI hok hk) (cn o) ch.length
 have hst := Mb h1 h64
 have wr : IntKind.wrap .i64 (((st : Nat) : Int) + 1) = ((st + 1 : Nat) : Int) := by rw [ce (by omega)]; omega
 have hgt : decide (((st + 1 : Nat) : Int) > ((jr l.length).length : Int)) = false := UG (by omega)
 have hz : Nst (pick l o) (wts (pick l o)).1 (bp (pick l o)) (wts (pick l o)).2 (lev l o) := Nst.of hi hw
 have hpi : ∀ p, iE N D p = true ↔ ae p (bp (pick l o)) < lev l o := fun p => hP.Nb hz.Au hz.sq
 have base : ∀ X, dc (pcs l, l.length) (((st : Nat) : Int), cn at_, at_.length) = X ↔ dc (pcs l, l.length) (((st : Nat) : Int), cn at_, at_.length) = X := fun _ => Iff.rfl
 cases hb : iE N D (pat l k) with
 | false =>
  rw [hb] at hpast
  refine .inr ⟨o, N, D, ⟨hO, hP, fun p hp => ?_, hN, hD, by omega, by omega⟩, ?_⟩
  ·
   have hk' : ¬ ae (pat l k) (bp (pick l o)) < lev l o := fun q => by rw [(hpi _).2 q] at hb; cases hb
   obtain ⟨g, g0, e, _⟩ := hP.ex
   have e2 : ∀ q : Pt, ae q (bp (pick l o)) = g * ae N q := by
    intro q; rw [e]; simp only [ae]; grind
   have := UU (hmin p hp) (Int.le_of_lt g0)
   rw [← e2, ← e2] at this
   show lev l o ≤ _
   omega
  ·rw [hsl]
   simp only [dc, dB, hsome, Uy, hnear, hown, hmost, wr, hgt, cond_false, hback, gt, decLt hk, UF, aw, iY, pro hk, pg0 hk, pg1 hk, pg2 hk, hpast]
 | true =>
  rw [hb] at hpast
  have hp := (hpi _).1 hb
  have hko : k ∉ o := by
   intro hm
   have := hz.lev _ (Ft (l := l) hm)
   omega
  have h3 : o.length ≤ 3 := by
   have := hO.n4
   rcases Nat.lt_or_ge o.length 4 with q | q
   ·omega
   ·have := OK hi (by rw [KY]; omega) (pat l k)
    unfold lev at hp
    omega
  have H' : Hd l (st + 1) (ins k o) := by
   refine ⟨GV hO.r hko, fun x hx => ?_, by rw [C9]; omega, by rw [C9]; omega, .inr ⟨o, k, hO, rfl, hp, by omega⟩⟩
   rcases yM.1 hx with rfl | hx
   ·exact hk
   ·exact hO.b x hx
  refine .inl ⟨ins k o, ?_, H', by omega⟩
  rw [C9]
  have hcl : ch.length = o.length := hsl.symm
  rw [hcl] at hown hnear hback hpast
  have hr := hO.r
  have hn1 := hO.n1
  clear hP hpi hz hfall hO H' hi hw hnp base
  match o, hn1, h3 with
  | [a], _, _ =>
   simp only [dc, dB, hsome, Uy, hnear, hown, hmost, wr, hgt, cond_false, hback, gt, decLt hk, UF, aw, iY, pro hk, pg0 hk, pg1 hk, pg2 hk, hpast, cond_true, Fr]
   have e1 : Nat.beq [a].length 1 = true := rfl
   have g0 : ac (cn [a]) 0 = (a : Int) := rfl
   have ro : (aq [.int .i64] (cn [a]) 0 && Nat.beq (List.length (cn [a])) 1) = true := rfl
   rw [e1, cond_true, ro, aw, g0]
   unfold ins
   by_cases q : k < a
   ·rw [if_pos q, UH (show ((k : Nat) : Int) < (a : Int) by omega)]; rfl
   ·rw [if_neg q, UG (show ¬ ((k : Nat) : Int) < (a : Int) by omega)]; rfl
  | [a, b], _, _ =>
   simp only [dc, dB, hsome, Uy, hnear, hown, hmost, wr, hgt, cond_false, hback, gt, decLt hk, UF, aw, iY, pro hk, pg0 hk, pg1 hk, pg2 hk, hpast, cond_true, Fr]
   have e1 : Nat.beq [a, b].length 1 = false := rfl
   have e2 : Nat.beq [a, b].length 2 = true := rfl
   have g0 : ac (cn [a, b]) 0 = (a : Int) := rfl
   have g1 : ac (cn [a, b]) 1 = (b : Int) := rfl
   have ro : (aq [.int .i64, .int .i64] (cn [a, b]) 0 && Nat.beq (List.length (cn [a, b])) 2) = true := rfl
   have hab : a < b := by unfold dh at hr; simp at hr; exact hr
   simp only [List.mem_cons, List.not_mem_nil, or_false, not_or] at hko
   rw [e1, cond_false, e2, cond_true, ro, aw, g0, g1, UG (show ¬ (b : Int) < (a : Int) by omega), cond_false]
   unfold ins ins
   by_cases q : k < a
   ·rw [if_pos q, UH (show ((k : Nat) : Int) < (b : Int) by omega), UH (show ((k : Nat) : Int) < (a : Int) by omega)]; rfl
   ·rw [if_neg q]
    by_cases q2 : k < b
    ·rw [if_pos q2, UH (show ((k : Nat) : Int) < (b : Int) by omega), UG (show ¬ ((k : Nat) : Int) < (a : Int) by omega)]; rfl
    ·rw [if_neg q2, UG (show ¬ ((k : Nat) : Int) < (b : Int) by omega)]; rfl
  | [a, b, c], _, _ =>
   simp only [dc, dB, hsome, Uy, hnear, hown, hmost, wr, hgt, cond_false, hback, gt, decLt hk, UF, aw, iY, pro hk, pg0 hk, pg1 hk, pg2 hk, hpast, cond_true, Fr]
   have e1 : Nat.beq [a, b, c].length 1 = false := rfl
   have e2 : Nat.beq [a, b, c].length 2 = false := rfl
   have e3 : Nat.beq [a, b, c].length 3 = true := rfl
   have g0 : ac (cn [a, b, c]) 0 = (a : Int) := rfl
   have g1 : ac (cn [a, b, c]) 1 = (b : Int) := rfl
   have g2 : ac (cn [a, b, c]) 2 = (c : Int) := rfl
   have ro : (aq kK (cn [a, b, c]) 0 && Nat.beq (List.length (cn [a, b, c])) 3) = true := rfl
   have hab : (a < b ∧ a < c) ∧ b < c := by unfold dh at hr; simp at hr; exact hr
   simp only [List.mem_cons, List.not_mem_nil, or_false, not_or] at hko
   rw [e1, cond_false, e2, cond_false, e3, cond_true, ro, aw, g0, g1, g2, UG (show ¬ (b : Int) < (a : Int) by omega), cond_false, UG (show ¬ (c : Int) < (b : Int) by omega), cond_false]
   unfold ins ins ins
   by_cases q : k < a
   ·rw [if_pos q, UH (show ((k : Nat) : Int) < (c : Int) by omega), UH (show ((k : Nat) : Int) < (b : Int) by omega), UH (show ((k : Nat) : Int) < (a : Int) by omega)]; rfl
   ·rw [if_neg q]
    by_cases q2 : k < b
    ·rw [if_pos q2, UH (show ((k : Nat) : Int) < (c : Int) by omega), UH (show ((k : Nat) : Int) < (b : Int) by omega), UG (show ¬ ((k : Nat) : Int) < (a : Int) by omega)]; rfl
    ·rw [if_neg q2]
     by_cases q3 : k < c
     ·rw [if_pos q3, UH (show ((k : Nat) : Int) < (c : Int) by omega), UG (show ¬ ((k : Nat) : Int) < (b : Int) by omega)]; rfl
     ·rw [if_neg q3, UG (show ¬ ((k : Nat) : Int) < (c : Int) by omega)]; rfl
  | _ :: _ :: _ :: _ :: _, _, h => simp at h
theorem Tn {l : List Pt} (hok : bd l = true) (h1 : 1 ≤ l.length) (h64 : l.length ≤ 256) :
  ∃ o N D st, Wk l o N D st ∧ jA (pcs l) l.length = some (N.1, N.2.1, N.2.2, D, ((st : Nat) : Int), cn o, o.length) := by
 have main : ∃ e, sX (pcs l, l.length) (((0 : Nat) : Int), cn [0], [0].length) = some e ∧ ∃ o N D st, Wk l o N D st ∧ e = .inr (aa N.1 0, aa N.1 1, aa N.1 2, aa N.1 3, aa N.1 4, aa N.1 5, aa N.1 6, aa N.1 7, aa N.2.1 0, aa N.2.1 1, aa N.2.1 2, aa N.2.1 3, aa N.2.1 4, aa N.2.1 5, aa N.2.1 6, aa N.2.1 7, aa N.2.2 0, aa N.2.2 1, aa N.2.2 2, aa N.2.2 3, aa N.2.2 4, aa N.2.2 5, aa N.2.2 6, aa N.2.2 7, aa D 0, aa D 1, aa D 2, aa D 3, aa D 4, aa D 5, aa D 6, aa D 7, cn o, o.length, ((st : Nat) : Int)) := by
  refine gv (step := dc (pcs l, l.length)) (fun v => ∃ st at_, v = (((st : Nat) : Int), cn at_, at_.length) ∧ Hd l st at_ ∧ st ≤ (jr l.length).length) (fun v => ((jr l.length).length : Int).toNat - v.1.toNat) _ ?_ ?_ ⟨0, [0], rfl, ⟨by simp [dh], by simp; omega, by simp, by simp, .inl rfl⟩, by omega⟩
  ·rintro v ⟨st, at_, rfl, h, hs⟩
   rcases OM hok h1 h64 h with ⟨at', e1, e2, e3⟩ | ⟨o, N, D, e1, e2⟩
   ·refine .inl ⟨_, e1, ⟨st + 1, at', rfl, e2, e3⟩, ?_⟩
    simp only [Int.toNat_natCast]
    omega
   ·exact .inr ⟨_, e2, o, N, D, st + 1, e1, rfl⟩
  ·have := Mb h1 h64
   simp only [Int.toNat_natCast]
   omega
 obtain ⟨e, he, o, N, D, st, hW, rfl⟩ := main
 refine ⟨o, N, D, st, hW, ?_⟩
 have z : sX (pcs l, l.length) (0, ([.int .i64 0] : LA_), 1) = some (.inr (aa N.1 0, aa N.1 1, aa N.1 2, aa N.1 3, aa N.1 4, aa N.1 5, aa N.1 6, aa N.1 7, aa N.2.1 0, aa N.2.1 1, aa N.2.1 2, aa N.2.1 3, aa N.2.1 4, aa N.2.1 5, aa N.2.1 6, aa N.2.1 7, aa N.2.2 0, aa N.2.2 1, aa N.2.2 2, aa N.2.2 3, aa N.2.2 4, aa N.2.2 5, aa N.2.2 6, aa N.2.2 7, aa D 0, aa D 1, aa D 2, aa D 3, aa D 4, aa D 5, aa D 6, aa D 7, cn o, o.length, ((st : Nat) : Int))) := he
 unfold jA tZ
 rw [z]
 simp only [Uy, UY, bA, UF, aw]
 rw [aI (bf hW.sN.h.1 (by decide)), aI (bf hW.sN.h.2.1 (by decide)), aI (bf hW.sN.h.2.2 (by decide)), aI (bf hW.sD (by decide))]
def sS : CH := (CH.add 14 oW CH.none)
theorem uB : aG U2 sS := (CH.ak we CH.aF)
def eY {R : Type} (cc : LA_ × Nat × Int) (v : Int) (kn : (Int) → Option R) (ke : ((Unit) ⊕ (Unit)) → Option R) : Option R :=
 (cond (decide (v < cc.2.2)) (af (decide (0 ≤ v) && decide (v < ((cc.2.1 : Nat) : Int))) (af (aq kK cc.1 (Int.toNat v * 3)) (Option.bind (iZ (ac cc.1 ((Int.toNat v * 3) + 0)) (ac cc.1 ((Int.toNat v * 3) + 1)) (ac cc.1 ((Int.toNat v * 3) + 2))) fun r1 => (cond (r1 != 0) (ke (.inl ())) (kn (IntKind.wrap .i64 (v + 1))))))) (ke (.inr ())))
def ja (cc : LA_ × Nat × Int) (v : Int) : Option ((Int) ⊕ ((Unit) ⊕ (Unit))) := eY cc v (fun v => some (Sum.inl v)) fun e => some (Sum.inr e)
def AC (cc : LA_ × Nat × Int) (v : Int) : Option ((Unit) ⊕ (Unit)) := dZ (ja cc) v
def Eg (cc : LA_ × Nat × Int) (v : Int) : List ah := [.I cc.2.2, .I v, .C cc.1, .N cc.2.1]
def uC (ls : List ah) : Option ((LA_ × Nat × Int) × (Int)) := match ls with
 | [.I x0, .I x1, .C x2, .N x3] => some ((x2, x3, x0), x1)
 | _ => none
def uD (e : (Unit) ⊕ (Unit)) : an := ((Sum.elim (fun e => .ret) (fun e => .exit 0)) e)
def uE (cc : LA_ × Nat × Int) (e : (Unit) ⊕ (Unit)) : List ah := ((Sum.elim (fun e => []) (fun e => [.C cc.1, .N cc.2.1])) e)
def mF (cc : LA_ × Nat × Int) (e : (Unit) ⊕ (Unit)) : List ah := ((Sum.elim (fun e => []) (fun e => [.C cc.1, .N cc.2.1])) e)
def nQ (o : an) (ls : List ah) : Option (((Unit) ⊕ (Unit)) × List ah) := match o with
 | .ret => (match ls with
  | [] => some ((.inl ()), [])
  | _ => none)
 | .exit 0 => (match ls with
  | [.C x0, .N x1] => some ((.inr ()), [.C x0, .N x1])
  | _ => none)
 | _ => none
theorem AO : ∀ o ls e cl cc, nQ o ls = some (e, cl) → cl = mF cc e → ls = uE cc e ∧ uD e = o ∧ o ≠ .normal ∧ ∀ v, o = .pan v → sc 0 v = true := by
 intro o ls e cl cc h hc
 unfold nQ at h
 split at h
 ·split at h
  ·cases h
   exact ⟨rfl, rfl, by simp, by intro v hv; cases hv <;> rfl⟩
  ·cases h
 ·split at h
  ·cases h
   simp only [mF, UZ, UY, List.cons.injEq, ah.N.injEq, ah.C.injEq, and_true] at hc
   obtain ⟨rfl, rfl⟩ := hc
   exact ⟨rfl, rfl, by simp, by intro v hv; cases hv <;> rfl⟩
  ·cases h
 ·cases h
def FG (o : an) : ExS := match o with
 | .ret => ⟨1, (none :: none :: some (.fP .i64 7) :: (rl none 20 [])), [], fun s => [0], [], []⟩
 | .exit 0 => ⟨1, (some (.vec 0) :: (rl none 22 [])), [(0, .vec 3 false)], fun s => [0], [], []⟩
 | _ => ⟨0, [], [], fun _ => [], [], []⟩
theorem Eh {R : Type} (cc : LA_ × Nat × Int) (v : Int) (kn : (Int) → Option R) (ke : ((Unit) ⊕ (Unit)) → Option R) : eY cc v kn ke = (eY cc v (fun v => some (Sum.inl v)) fun e => some (Sum.inr e)).bind (Sum.elim kn ke) := by
 simp only [eY, bX, ai, UA, cu, bS, Uy, Uz, UZ, UY]
def xL : LD where
 CC := LA_ × Nat × Int
 V := Int
 E := (Unit) ⊕ (Unit)
 n := 1
 K := 1
 M := (some (.vec 0) :: none :: none :: none :: none :: some (.vec 0) :: some (.int .i64) :: some (.int .i64) :: (rl none 15 []))
 B := [(0, .vec 3 false)]
 D := []
 pre := []
 F := fun s => [0]
 toL := Eg
 ofL := uC
 au := fun ls c v h => by
  unfold uC at h
  split at h
  ·cases h; rfl
  ·cases h
 cw := eY
 nat := Eh
 sh := FG
 out := uD
 toE := uE
 fQ := mF
 ofE := nQ
 dn := AO
 post := fun cc e k => ((Sum.elim (fun e => k (.ret) (bo 1 (none :: none :: some (.int .i64 7) :: (rl none 20 [])) [] [])) (fun e => k (.exit 0) (bo 1 (some (.vec 0) :: (rl none 22 [])) [(0, .vec cc.1 cc.2.1 3 false)] []))) e)
 cv := fun cc e k => by rcases e with e | e <;> rfl
theorem Ei : cX U2 1 xL.la (aO Try.f29 0) :=
 LD.ok (ch := sS) (A := bD) aJ uB mixed (fuel := 60) ⟨by kernel_rfl, fun e => by (rcases e with e | e <;> kernel_rfl), fun cc v => by kernel_rfl, aK (l := []) (by kernel_rfl) trivial⟩
def g9 (cs0 : LA_) (n1 : Nat) : Option (Int) :=
 (Option.bind (AC (cs0, n1, ((n1 : Nat) : Int)) 0) (Sum.elim (fun e1 => (some 7)) (fun e1 => (cond (decide (((n1 : Nat) : Int) > 256)) (some 3) (cond (((n1 : Nat) : Int) == 0) (some 2) (some 0))))))
def oX : FD where
 X := Int
 k := 1
 pre := []
 F := fun s => [0]
 M := .int .i64
 B := []
 toL := fun x => [.I x]
 ofL := fun ls => match ls with
  | [.I x0] => some x0
  | _ => none
 au := fun ls x h => by
  split at h
  ·cases h; rfl
  ·cases h
theorem Hj (cs0 : LA_) (n1 : Nat) (x : Int) (h : g9 cs0 n1 = some x) : bg U2 29 1 [.vec 0] [.vec cs0 n1 3 false] oX x :=
 FD.sem (ch := sS) (A := eT [(2, xL.la)]) (fn := Try.f29) (c := bu Try.f29) (fuel := 60) aJ uB mixed bK oX Try.func29 (by kernel_rfl) (aK (l := [aO Try.f29 0]) (by kernel_rfl) ⟨ci (by kernel_rfl) Ei, trivial⟩)
  (by kernel_rfl) (Eq.trans (by kernel_rfl) h)
def tX : HK where
 call := fun args σ k => match args with
  | [x0] => cW σ 3 x0 fun cs0 n1 => Option.bind (g9 cs0 n1) fun y => aC σ 1 (oX.val y) (oX.aN y) k
  | _ => none
 nat := fun args σ k => by
  repeat' split
  all_goals simp only [av, ai, UA, Uz, aC, Uy]
 pure := false
 pok := fun h => by cases h
theorem AD : aX U2 29 tX := by
 intro args σ r σ' h
 simp only [tX] at h
 split at h
 ·rename_i x0
  obtain ⟨cs0, n1, he0, hf0, h⟩ := bE h
  obtain ⟨y, hy, h⟩ := bE_ h
  exact lifted (xs := [x0]) (ls := [.vec cs0 n1 3 false]) (cargs := [.vec 0]) (bC.of ⟨⟨rfl, he0, hf0, by decide⟩, trivial⟩) rfl (Hj cs0 n1 y hy) rfl rfl rfl rfl h
 ·cases h
abbrev yV := (I8 (I8 (I8 (I8 (Int × Int × LA_ × Nat)))))
abbrev tY := Int × Int × Int × Int × Int × Int × LA_ × Nat
def xM : CH := (CH.add 31 yW (CH.add 29 tX CH.none))
theorem Dg : aG U2 xM := (CH.ak IQ (CH.ak AD CH.aF))
def ng (cs0 : LA_) (n1 : Nat) : Option (yV) :=
 (Option.bind (g9 cs0 n1) fun r1 => (cond (r1 != 0) (some (0, 0, 0, 0, 0, 0, 0, 0, 0, 0, 0, 0, 0, 0, 0, 0, 0, 0, 0, 0, 0, 0, 0, 0, 0, 0, 0, 0, 0, 0, 0, 0, 0, r1, ([] : LA_), 0)) (Option.bind (jA cs0 n1) fun r2 => (some (aY r2.1 (aY r2.2.1 (aY r2.2.2.1 (aY r2.2.2.2.1 (r2.2.2.2.2.1, 0, r2.2.2.2.2.2.1, r2.2.2.2.2.2.2)))))))))
def eQ : FD where
 X := yV
 k := 1
 pre := [(33000002, 1)]
 F := fun s => [0, nameAt s 0 [.c 0, .c 32]]
 M := .tup [.agg (rl (.int .u64) 32 [.vec 1]), .int .i64, .int .i64]
 B := [.vec 1 true]
 toL := fun x => [.I x.1, .I x.2.1, .I x.2.2.1, .I x.2.2.2.1, .I x.s4.1, .I x.s4.2.1, .I x.s4.2.2.1, .I x.s4.2.2.2.1, .I x.s8.1, .I x.s8.2.1, .I x.s8.2.2.1, .I x.s8.2.2.2.1, .I x.s8.s4.1, .I x.s8.s4.2.1, .I x.s8.s4.2.2.1, .I x.s8.s4.2.2.2.1, .I x.s16.1, .I x.s16.2.1, .I x.s16.2.2.1, .I x.s16.2.2.2.1, .I x.s16.s4.1, .I x.s16.s4.2.1, .I x.s16.s4.2.2.1, .I x.s16.s4.2.2.2.1, .I x.s16.s8.1, .I x.s16.s8.2.1, .I x.s16.s8.2.2.1, .I x.s16.s8.2.2.2.1, .I x.s16.s8.s4.1, .I x.s16.s8.s4.2.1, .I x.s16.s8.s4.2.2.1, .I x.s16.s8.s4.2.2.2.1, .I x.s16.s16.1, .I x.s16.s16.2.1, .C x.s16.s16.2.2.1, .N x.s16.s16.2.2.2]
 ofL := fun ls => match ls with
  | (.I x0 :: .I x1 :: .I x2 :: .I x3 :: .I x4 :: .I x5 :: .I x6 :: .I x7 :: .I x8 :: .I x9 :: .I x10 :: .I x11 :: .I x12 :: .I x13 :: .I x14 :: .I x15 :: .I x16 :: .I x17 :: .I x18 :: .I x19 :: .I x20 :: .I x21 :: .I x22 :: .I x23 :: .I x24 :: .I x25 :: .I x26 :: .I x27 :: .I x28 :: .I x29 :: .I x30 :: .I x31 :: .I x32 :: .I x33 :: .C x34 :: .N x35 :: []) => some (x0, x1, x2, x3, x4, x5, x6, x7, x8, x9, x10, x11, x12, x13, x14, x15, x16, x17, x18, x19, x20, x21, x22, x23, x24, x25, x26, x27, x28, x29, x30, x31, x32, x33, x34, x35)
  | _ => none
 au := fun ls x h => by
  split at h
  ·cases h; rfl
  ·cases h
theorem FH : wh U2 30 Try.f30 0 (Mp (Mq (bu Try.f30))) (Hk (bu Try.f30) 0) (Hk (bu Try.f30) 1) (O7 (bu Try.f30)) 4 3 :=
 ⟨Try.func30, ⟨_, Try.func30, bK 30 _ Try.func30, by kernel_rfl⟩, by kernel_rfl, by kernel_rfl, by kernel_rfl, by kernel_rfl, by kernel_rfl, by kernel_rfl, by kernel_rfl, by kernel_rfl, by kernel_rfl, (by decide)⟩
theorem FI (cs0 : LA_) (n1 : Nat) (x : yV) (h : ng cs0 n1 = some x) : bg U2 16 1 [.vec 0] [.vec cs0 n1 3 false] eQ x :=
 FD.TS (ch := xM) (A := bD) (fn := Try.f16) (c := bu Try.f16) (fuel := 60) aJ Dg mixed bK eQ Try.func16 (by kernel_rfl) (aK (l := []) (by kernel_rfl) trivial)
  (by kernel_rfl) FH (by kernel_rfl) (Eq.trans (by kernel_rfl) h)
def fk (cs0 : LA_) (n1 : Nat) : Option (tY) := Option.bind (ng cs0 n1) fun (x0, x1, x2, x3, x4, x5, x6, x7, x8, x9, x10, x11, x12, x13, x14, x15, x16, x17, x18, x19, x20, x21, x22, x23, x24, x25, x26, x27, x28, x29, x30, x31, x32, x33, x34, x35) => af (ok8 x0 x1 x2 x3 x4 x5 x6 x7 && ok8 x8 x9 x10 x11 x12 x13 x14 x15 && ok8 x16 x17 x18 x19 x20 x21 x22 x23 && ok8 x24 x25 x26 x27 x28 x29 x30 x31) (some ((num x0 x1 x2 x3 x4 x5 x6 x7), (num x8 x9 x10 x11 x12 x13 x14 x15), (num x16 x17 x18 x19 x20 x21 x22 x23), (num x24 x25 x26 x27 x28 x29 x30 x31), x32, x33, x34, x35))
def sT : FD := ⟨tY, eQ.k, eQ.pre, eQ.F, eQ.M, eQ.B, fun y => eQ.toL (aY y.1 (aY y.2.1 (aY y.2.2.1 (aY y.2.2.2.1 (y.s4.1, y.s4.2.1, y.s4.2.2.1, y.s4.2.2.2))))), fun _ => none, fun _ _ h => by cases h⟩
theorem Hl (cs0 : LA_) (n1 : Nat) {y : tY} (h : fk cs0 n1 = some y) : ng cs0 n1 = some (aY y.1 (aY y.2.1 (aY y.2.2.1 (aY y.2.2.2.1 (y.s4.1, y.s4.2.1, y.s4.2.2.1, y.s4.2.2.2))))) := by
 unfold fk at h
 obtain ⟨⟨x0, x1, x2, x3, x4, x5, x6, x7, x8, x9, x10, x11, x12, x13, x14, x15, x16, x17, x18, x19, x20, x21, x22, x23, x24, x25, x26, x27, x28, x29, x30, x31, x32, x33, x34, x35⟩, h1, h2⟩ := bE_ h
 obtain ⟨h3, h4⟩ := aH h2
 simp only [UC, and_assoc] at h3
 simp only [UB] at h4
 subst h4
 obtain ⟨o0, o1, o2, o3⟩ := h3
 have q0 := aQ o0
 have q1 := aQ o1
 have q2 := aQ o2
 have q3 := aQ o3
 rw [h1]
 simp only [aY, q0, q1, q2, q3]
theorem FJ (cs0 : LA_) (n1 : Nat) (y : tY) (h : fk cs0 n1 = some y) : bg U2 16 1 [.vec 0] [.vec cs0 n1 3 false] sT y := FI cs0 n1 _ (Hl cs0 n1 h)
def wW : HK where
 call := fun args σ k => match args with
  | [x0] => cW σ 3 x0 fun cs0 n1 => Option.bind (fk cs0 n1) fun y => aC σ 1 (sT.val y) (sT.aN y) k
  | _ => none
 nat := fun args σ k => by
  repeat' split
  all_goals simp only [av, ai, UA, Uz, aC, Uy]
 pure := false
 pok := fun h => by cases h
theorem Hm : aX U2 16 wW := by
 intro args σ r σ' h
 simp only [wW] at h
 split at h
 ·rename_i x0
  obtain ⟨cs0, n1, he0, hf0, h⟩ := bE h
  obtain ⟨y, hy, h⟩ := bE_ h
  exact lifted (xs := [x0]) (ls := [.vec cs0 n1 3 false]) (cargs := [.vec 0]) (bC.of ⟨⟨rfl, he0, hf0, by decide⟩, trivial⟩) rfl (FJ cs0 n1 y hy) rfl rfl rfl rfl h
 ·cases h
abbrev Bo := (I8 (I8 (I8 (I8 (Int × LA_ × Nat)))))
abbrev wj := Int × Int × Int × Int × Int × LA_ × Nat
def IU : CH := (CH.add 16 wW (CH.add 12 lU CH.none))
theorem Ep : aG U2 IU := (CH.ak Hm (CH.ak tD CH.aF))
def lV (cs0 : LA_) (n1 : Nat) : Option (Bo) :=
 (Option.bind (fk cs0 n1) fun r1 => (cond (r1.2.2.2.2.2.1 == 0) (cond (decide (((n1 : Nat) : Int) ≤ 4)) (Option.bind (dA cs0 n1) fun r2 => (some (aY r2.1 (aY r2.2.1 (aY r2.2.2.1 (aY r2.2.2.2.1 (r2.2.2.2.2.1, r2.2.2.2.2.2.1, r2.2.2.2.2.2.2))))))) (some (aY r1.1 (aY r1.2.1 (aY r1.2.2.1 (aY r1.2.2.2.1 (r1.2.2.2.2.2.1, r1.2.2.2.2.2.2.1, r1.2.2.2.2.2.2.2))))))) (some (aY r1.1 (aY r1.2.1 (aY r1.2.2.1 (aY r1.2.2.2.1 (r1.2.2.2.2.2.1, r1.2.2.2.2.2.2.1, r1.2.2.2.2.2.2.2))))))))
def fA : FD where
 X := Bo
 k := 1
 pre := []
 F := fun s => [0, nameAt s 0 [.c 0, .c 32]]
 M := .tup [.agg (rl (.int .u64) 32 [.vec 1]), .int .i64]
 B := [.vec 1 true]
 toL := fun x => [.I x.1, .I x.2.1, .I x.2.2.1, .I x.2.2.2.1, .I x.s4.1, .I x.s4.2.1, .I x.s4.2.2.1, .I x.s4.2.2.2.1, .I x.s8.1, .I x.s8.2.1, .I x.s8.2.2.1, .I x.s8.2.2.2.1, .I x.s8.s4.1, .I x.s8.s4.2.1, .I x.s8.s4.2.2.1, .I x.s8.s4.2.2.2.1, .I x.s16.1, .I x.s16.2.1, .I x.s16.2.2.1, .I x.s16.2.2.2.1, .I x.s16.s4.1, .I x.s16.s4.2.1, .I x.s16.s4.2.2.1, .I x.s16.s4.2.2.2.1, .I x.s16.s8.1, .I x.s16.s8.2.1, .I x.s16.s8.2.2.1, .I x.s16.s8.2.2.2.1, .I x.s16.s8.s4.1, .I x.s16.s8.s4.2.1, .I x.s16.s8.s4.2.2.1, .I x.s16.s8.s4.2.2.2.1, .I x.s16.s16.1, .C x.s16.s16.2.1, .N x.s16.s16.2.2]
 ofL := fun ls => match ls with
  | (.I x0 :: .I x1 :: .I x2 :: .I x3 :: .I x4 :: .I x5 :: .I x6 :: .I x7 :: .I x8 :: .I x9 :: .I x10 :: .I x11 :: .I x12 :: .I x13 :: .I x14 :: .I x15 :: .I x16 :: .I x17 :: .I x18 :: .I x19 :: .I x20 :: .I x21 :: .I x22 :: .I x23 :: .I x24 :: .I x25 :: .I x26 :: .I x27 :: .I x28 :: .I x29 :: .I x30 :: .I x31 :: .I x32 :: .C x33 :: .N x34 :: []) => some (x0, x1, x2, x3, x4, x5, x6, x7, x8, x9, x10, x11, x12, x13, x14, x15, x16, x17, x18, x19, x20, x21, x22, x23, x24, x25, x26, x27, x28, x29, x30, x31, x32, x33, x34)
  | _ => none
 au := fun ls x h => by
  split at h
  ·cases h; rfl
  ·cases h
theorem Hu (cs0 : LA_) (n1 : Nat) (x : Bo) (h : lV cs0 n1 = some x) : bg U2 6 1 [.vec 0] [.vec cs0 n1 3 false] fA x :=
 FD.semA fA Ep Try.func6 (fuel := 60) (by kernel_rfl) (by kernel_rfl)
  (by kernel_rfl) (Eq.trans (by kernel_rfl) h)
def bR (cs0 : LA_) (n1 : Nat) : Option (wj) := Option.bind (lV cs0 n1) fun (x0, x1, x2, x3, x4, x5, x6, x7, x8, x9, x10, x11, x12, x13, x14, x15, x16, x17, x18, x19, x20, x21, x22, x23, x24, x25, x26, x27, x28, x29, x30, x31, x32, x33, x34) => af (ok8 x0 x1 x2 x3 x4 x5 x6 x7 && ok8 x8 x9 x10 x11 x12 x13 x14 x15 && ok8 x16 x17 x18 x19 x20 x21 x22 x23 && ok8 x24 x25 x26 x27 x28 x29 x30 x31) (some ((num x0 x1 x2 x3 x4 x5 x6 x7), (num x8 x9 x10 x11 x12 x13 x14 x15), (num x16 x17 x18 x19 x20 x21 x22 x23), (num x24 x25 x26 x27 x28 x29 x30 x31), x32, x33, x34))
def uI : FD := ⟨wj, fA.k, fA.pre, fA.F, fA.M, fA.B, fun y => fA.toL (aY y.1 (aY y.2.1 (aY y.2.2.1 (aY y.2.2.2.1 (y.s4.1, y.s4.2.1, y.s4.2.2))))), fun _ => none, fun _ _ h => by cases h⟩
theorem IV (cs0 : LA_) (n1 : Nat) {y : wj} (h : bR cs0 n1 = some y) : lV cs0 n1 = some (aY y.1 (aY y.2.1 (aY y.2.2.1 (aY y.2.2.2.1 (y.s4.1, y.s4.2.1, y.s4.2.2))))) := by
 unfold bR at h
 obtain ⟨⟨x0, x1, x2, x3, x4, x5, x6, x7, x8, x9, x10, x11, x12, x13, x14, x15, x16, x17, x18, x19, x20, x21, x22, x23, x24, x25, x26, x27, x28, x29, x30, x31, x32, x33, x34⟩, h1, h2⟩ := bE_ h
 obtain ⟨h3, h4⟩ := aH h2
 simp only [UC, and_assoc] at h3
 simp only [UB] at h4
 subst h4
 obtain ⟨o0, o1, o2, o3⟩ := h3
 have q0 := aQ o0
 have q1 := aQ o1
 have q2 := aQ o2
 have q3 := aQ o3
 rw [h1]
 simp only [aY, q0, q1, q2, q3]
theorem Hv (cs0 : LA_) (n1 : Nat) (y : wj) (h : bR cs0 n1 = some y) : bg U2 6 1 [.vec 0] [.vec cs0 n1 3 false] uI y := Hu cs0 n1 _ (IV cs0 n1 h)
def oV : HK where
 call := fun args σ k => match args with
  | [x0] => cW σ 3 x0 fun cs0 n1 => Option.bind (bR cs0 n1) fun y => aC σ 1 (uI.val y) (uI.aN y) k
  | _ => none
 nat := fun args σ k => by
  repeat' split
  all_goals simp only [av, ai, UA, Uz, aC, Uy]
 pure := false
 pok := fun h => by cases h
theorem sQ : aX U2 6 oV := by
 intro args σ r σ' h
 simp only [oV] at h
 split at h
 ·rename_i x0
  obtain ⟨cs0, n1, he0, hf0, h⟩ := bE h
  obtain ⟨y, hy, h⟩ := bE_ h
  exact lifted (xs := [x0]) (ls := [.vec cs0 n1 3 false]) (cargs := [.vec 0]) (bC.of ⟨⟨rfl, he0, hf0, by decide⟩, trivial⟩) rfl (Hv cs0 n1 y hy) rfl rfl rfl rfl h
 ·cases h
def iF (l : List Pt) : Int := cond (bd l) (cond (decide (((l.length : Nat) : Int) > 256)) 3 (cond (((l.length : Nat) : Int) == 0) 2 0)) 7
theorem Ng {l : List Pt} {i : Nat} (h : i < l.length) : bd (l.take (i + 1)) = (bd (l.take i) && bP (pat l i)) := by
 have : l.take (i + 1) = l.take i ++ [pat l i] := by
  rw [List.take_add_one, UJ h]; simp [pat, UK, UJ h]
 unfold bd
 rw [this, List.all_append]; simp
theorem LF {l : List Pt} {i : Nat} (h : i < l.length) (hb : bP (pat l i) = false) : bd l = false := by
 cases hc : bd l with
 | false => rfl
 | true => rw [eI hc h] at hb; cases hb
theorem Mc {l : List Pt} (hl : l.length < 9223372036854775808) : g9 (pcs l) l.length = some (iF l) := by
 have key : ∃ e, AC (pcs l, l.length, ((l.length : Nat) : Int)) 0 = some e ∧ (match e with | .inl () => bd l = false | .inr () => bd l = true) := by
  refine gv (step := ja (pcs l, l.length, ((l.length : Nat) : Int))) (fun v => ∃ i : Nat, v = (i : Int) ∧ i ≤ l.length ∧ bd (l.take i) = true) (fun v => ((l.length : Int) - v).toNat) _ ?_
   (Nat.lt_of_le_of_lt (show ((l.length : Int) - 0).toNat ≤ 9223372036854775808 by omega) (by decide)) ⟨0, rfl, by omega, rfl⟩
  rintro v ⟨i, rfl, hi, hok⟩
  by_cases h : i < l.length
  ·have w : IntKind.wrap .i64 ((i : Int) + 1) = ((i + 1 : Nat) : Int) := by rw [ce (by omega)]; omega
   have st : ja (pcs l, l.length, ((l.length : Nat) : Int)) (i : Int) = cond (cond (bP (pat l i)) (0 : Int) 7 != 0) (some (.inr (.inl ()))) (some (.inl ((i + 1 : Nat) : Int))) := by
    have hb' : (bnd (pat l i).1 && bnd (pat l i).2.1 && bnd (pat l i).2.2) = bP (pat l i) := rfl
    simp only [ja, eY, decLt h, gt, cond_true, UF, aw, iY, pro h, pg0 h, pg1 h, pg2 h, Md, Uy, w, hb']
   cases hb : bP (pat l i) with
   | true =>
    rw [hb] at st
    exact .inl ⟨_, st, ⟨i + 1, rfl, by omega, by rw [Ng h, hok, hb]; rfl⟩, by omega⟩
   | false =>
    rw [hb] at st
    exact .inr ⟨.inl (), st, LF h hb⟩
  ·have hi' : i = l.length := by omega
   subst hi'
   rw [List.take_length] at hok
   exact .inr ⟨.inr (), by simp only [ja, eY, UG (show ¬ ((l.length : Int) < ((l.length : Nat) : Int)) by omega), cond_false], hok⟩
 obtain ⟨e, he, h⟩ := key
 unfold g9 iF
 rw [he, Uy]
 rcases e with ⟨⟩ | ⟨⟩
 ·simp only at h; rw [h]; rfl
 ·simp only at h
  rw [h]
  simp only [UY, cond_true]
  cases decide (((l.length : Nat) : Int) > 256) <;> cases (((l.length : Nat) : Int) == 0) <;> rfl
theorem P8 {l : List Pt} (hok : bd l = true) (h1 : 1 ≤ l.length) (h : l.length ≤ 256) : iF l = 0 := by
 unfold iF
 rw [hok, cond_true, UG (by omega), cond_false]
 have : (((l.length : Nat) : Int) == 0) = false := beq_eq_false_iff_ne.2 (by omega)
 rw [this]; rfl
theorem RZ {l : List Pt} (hok : bd l = true) (h1 : 1 ≤ l.length) (h64 : l.length ≤ 256) :
  ∃ o N D st, Wk l o N D st ∧ fk (pcs l) l.length = some (N.1, N.2.1, N.2.2, D, ((st : Nat) : Int), 0, cn o, o.length) := by
 obtain ⟨o, N, D, st, hW, e⟩ := Tn hok h1 h64
 refine ⟨o, N, D, st, hW, ?_⟩
 unfold fk ng
 unfold aY
 rw [Mc (by omega), P8 hok h1 (by omega), Uy, e]
 have z : ((0 : Int) != 0) = false := rfl
 simp only [z, cond_false, Uy, bA, UF, aw]
 rw [aI (bf hW.sN.h.1 (by decide)), aI (bf hW.sN.h.2.1 (by decide)), aI (bf hW.sN.h.2.2 (by decide)), aI (bf hW.sD (by decide))]
structure Nr (l : List Pt) (o : List Nat) (N : Pt) (D : Int) : Prop where
 own : Own l o
 KZ : Prim (bp (pick l o)) (wts (pick l o)).2 N D
 none : rG l (pick l o)
 sN : PtB 240 N
 sD : sm 190 D
theorem Ia {l : List Pt} (hok : bd l = true) (h1 : 1 ≤ l.length) (h64 : l.length ≤ 256) :
  ∃ o N D, Nr l o N D ∧ bR (pcs l) l.length = some (N.1, N.2.1, N.2.2, D, 0, cn o, o.length) := by
 obtain ⟨o, N, D, st, hW, e⟩ := RZ hok h1 h64
 have z : ((0 : Int) == 0) = true := rfl
 by_cases h4 : l.length ≤ 4
 ·obtain ⟨ch, hch, N', D', e2, hi, ⟨hw, hn⟩, hP, hN, hD⟩ := OF hok h1 h4
  obtain ⟨c1, c2, c3, c4, c5⟩ := OL hch
  refine ⟨ch, N', D', ⟨⟨⟨hi, hw⟩, c4, c5, c1, by omega⟩, hP, hn, hN, hD⟩, ?_⟩
  unfold bR lV
  unfold aY
  rw [e, Uy]
  have d4 : decide (((l.length : Nat) : Int) ≤ 4) = true := UH (by omega)
  simp only [z, cond_true, d4]
  rw [e2]
  simp only [Uy, bA, UF, aw]
  rw [aI (bf hN.h.1 (by decide)), aI (bf hN.h.2.1 (by decide)), aI (bf hN.h.2.2 (by decide)), aI (bf hD (by decide))]
  rfl
 ·refine ⟨o, N, D, ⟨hW.own, hW.KZ, hW.none, hW.sN, hW.sD⟩, ?_⟩
  unfold bR lV
  unfold aY
  rw [e, Uy]
  have d4 : decide (((l.length : Nat) : Int) ≤ 4) = false := UG (by omega)
  simp only [z, cond_true, d4, cond_false, Uy, bA, UF, aw]
  rw [aI (bf hW.sN.h.1 (by decide)), aI (bf hW.sN.h.2.1 (by decide)), aI (bf hW.sN.h.2.2 (by decide)), aI (bf hW.sD (by decide))]
theorem LG (l : List Pt) : iF l = 7 ∨ iF l = 3 ∨ iF l = 2 ∨ (iF l = 0 ∧ bd l = true ∧ 1 ≤ l.length ∧ l.length ≤ 256) := by
 unfold iF
 cases bd l with
 | false => exact .inl rfl
 | true =>
  by_cases h : ((l.length : Nat) : Int) > 256
  ·rw [UH h]; exact .inr (.inl rfl)
  ·rw [UG h]
   by_cases h0 : l.length = 0
   ·rw [h0]; exact .inr (.inr (.inl rfl))
   ·have : (((l.length : Nat) : Int) == 0) = false := beq_eq_false_iff_ne.2 (by omega)
    rw [this]
    exact .inr (.inr (.inr ⟨rfl, rfl, by omega, by omega⟩))
theorem Nh {l : List Pt} (hl : l.length < 9223372036854775808) (h : iF l ≠ 0) : fk (pcs l) l.length = some (0, 0, 0, 0, 0, iF l, [], 0) := by
 have z : (iF l != 0) = true := by simpa using h
 unfold fk ng
 unfold aY
 rw [Mc hl, Uy]
 simp only [z, cond_true, Uy]
 have o0 : ok8 0 0 0 0 0 0 0 0 = true := rfl
 have n0 : num 0 0 0 0 0 0 0 0 = 0 := rfl
 simp only [o0, n0, UF, aw]
theorem Ni {l : List Pt} (hl : l.length < 9223372036854775808) (h : iF l ≠ 0) : bR (pcs l) l.length = some (0, 0, 0, 0, iF l, [], 0) := by
 have z : (iF l == 0) = false := beq_eq_false_iff_ne.2 h
 have o0 : ok8 0 0 0 0 0 0 0 0 = true := rfl
 have n0 : num 0 0 0 0 0 0 0 0 = 0 := rfl
 unfold bR lV
 unfold aY
 rw [Nh hl h, Uy]
 simp only [z, cond_false, fy, Uy, o0, n0, UF, aw]
end Go.Ev
namespace Go.Ev
theorem Qb {a b c : Int} (h : a * a + b * b + c * c ≤ 0) : a = 0 ∧ b = 0 ∧ c = 0 := by
 have nn : ∀ x : Int, 0 ≤ x * x := fun x => by
  rcases Int.le_total 0 x with k | k
  ·exact Int.mul_nonneg k k
  ·exact Int.mul_nonneg_of_nonpos_of_nonpos k k
 have h1 := nn a
 have h2 := nn b
 have h3 := nn c
 refine ⟨?_, ?_, ?_⟩
 ·exact (Int.mul_eq_zero.1 (show a * a = 0 by omega)).elim id id
 ·exact (Int.mul_eq_zero.1 (show b * b = 0 by omega)).elim id id
 ·exact (Int.mul_eq_zero.1 (show c * c = 0 by omega)).elim id id
theorem P7 {T T' : List Pt} {w w' : List Int} {N N' : Pt} {d s d' s' : Int} (h : Nst T w N d s) (h' : Nst T' w' N' d' s') (hd : 0 < d) (hd' : 0 < d') (hT : ∀ p ∈ T, s' ≤ ae p N') (hT' : ∀ p ∈ T', s ≤ ae p N) :
  d' * N.1 = d * N'.1 ∧ d' * N.2.1 = d * N'.2.1 ∧ d' * N.2.2 = d * N'.2.2 := by
 have h1 := rU N' s' w T h.len (fun x hx => Int.le_of_lt (h.pos x hx)) hT
 have h2 := rU N s w' T' h'.len (fun x hx => Int.le_of_lt (h'.pos x hx)) hT'
 rw [← h.sum, h.div] at h1
 rw [← h'.sum, h'.div] at h2
 have q := h.sq
 have q' := h'.sq
 have e : (d' * N.1 - d * N'.1) * (d' * N.1 - d * N'.1) + (d' * N.2.1 - d * N'.2.1) * (d' * N.2.1 - d * N'.2.1) + (d' * N.2.2 - d * N'.2.2) * (d' * N.2.2 - d * N'.2.2) = d' * d' * ae N N - d * d' * ae N N' - d * d' * ae N' N + d * d * ae N' N' := by
  simp only [ae]; grind
 have hdd : 0 < d * d' := Int.mul_pos hd hd'
 have a1 : d * d' * (d * s') ≤ d * d' * ae N N' := UU h1 (Int.le_of_lt hdd)
 have a2 : d * d' * (d' * s) ≤ d * d' * ae N' N := UU h2 (Int.le_of_lt hdd)
 have e1 : d' * d' * ae N N = d * d' * (d' * s) := by rw [q]; grind
 have e2 : d * d * ae N' N' = d * d' * (d * s') := by rw [q']; grind
 obtain ⟨z1, z2, z3⟩ := Qb (a := d' * N.1 - d * N'.1) (b := d' * N.2.1 - d * N'.2.1) (c := d' * N.2.2 - d * N'.2.2) (by rw [e, e1, e2]; omega)
 exact ⟨by omega, by omega, by omega⟩
end Go.Ev
namespace Go.Ev
open Go.Proofs
theorem GW {a b c d m k : Int} (one : ∀ e, e ∣ a → e ∣ b → e ∣ c → e ∣ d → e ∣ 1) (ha : k ∣ m * a) (hb : k ∣ m * b) (hc : k ∣ m * c) (hd : k ∣ m * d) : k ∣ m := by
 have h1 : Nat.gcd (Nat.gcd a.natAbs b.natAbs) (Nat.gcd c.natAbs d.natAbs) = 1 := by
  have z := one ((Nat.gcd (Nat.gcd a.natAbs b.natAbs) (Nat.gcd c.natAbs d.natAbs) : Nat) : Int)
   (Int.ofNat_dvd_left.2 (Nat.dvd_trans (Nat.gcd_dvd_left _ _) (Nat.gcd_dvd_left _ _))) (Int.ofNat_dvd_left.2 (Nat.dvd_trans (Nat.gcd_dvd_left _ _) (Nat.gcd_dvd_right _ _)))
   (Int.ofNat_dvd_left.2 (Nat.dvd_trans (Nat.gcd_dvd_right _ _) (Nat.gcd_dvd_left _ _))) (Int.ofNat_dvd_left.2 (Nat.dvd_trans (Nat.gcd_dvd_right _ _) (Nat.gcd_dvd_right _ _)))
  have := Int.ofNat_dvd_left.1 z
  exact Nat.dvd_one.1 (by simpa using this)
 have n : ∀ {x : Int}, k ∣ m * x → k.natAbs ∣ m.natAbs * x.natAbs := fun {x} h => by
  rw [← Int.natAbs_mul]; exact Int.natAbs_dvd_natAbs.2 h
 have h2 : k.natAbs ∣ m.natAbs * Nat.gcd (Nat.gcd a.natAbs b.natAbs) (Nat.gcd c.natAbs d.natAbs) := by
  rw [← Nat.gcd_mul_left, ← Nat.gcd_mul_left, ← Nat.gcd_mul_left]
  exact Nat.dvd_gcd (Nat.dvd_gcd (n ha) (n hb)) (Nat.dvd_gcd (n hc) (n hd))
 rw [h1, Nat.mul_one] at h2
 exact Int.natAbs_dvd_natAbs.1 h2
theorem Prim.only {n n' N N' : Pt} {d d' D D' : Int} (h : Prim n d N D) (h' : Prim n' d' N' D') (hd : 0 < d) (hd' : 0 < d')
  (e : d' * n.1 = d * n'.1 ∧ d' * n.2.1 = d * n'.2.1 ∧ d' * n.2.2 = d * n'.2.2) : N = N' ∧ D = D' := by
 obtain ⟨g, hg, rfl, rfl⟩ := h.ex
 obtain ⟨g', hg', rfl, rfl⟩ := h'.ex
 have hD : 0 < D := by
  rcases Int.lt_or_le 0 D with k | k
  ·exact k
  ·have := Int.mul_nonpos_of_nonneg_of_nonpos (Int.le_of_lt hg) k; omega
 have hD' : 0 < D' := by
  rcases Int.lt_or_le 0 D' with k | k
  ·exact k
  ·have := Int.mul_nonpos_of_nonneg_of_nonpos (Int.le_of_lt hg') k; omega
 have gg : g * g' ≠ 0 := Int.ne_of_gt (Int.mul_pos hg hg')
 have c : ∀ {x y : Int}, g' * D' * (g * x) = g * D * (g' * y) → D' * x = D * y := fun {x y} q => Int.eq_of_mul_eq_mul_left gg (by grind)
 obtain ⟨e1, e2, e3⟩ := e
 have c1 := c e1
 have c2 := c e2
 have c3 := c e3
 have k1 : D ∣ D' := GW h.one ⟨_, c1⟩ ⟨_, c2⟩ ⟨_, c3⟩ ⟨D', Int.mul_comm _ _⟩
 have k2 : D' ∣ D := GW h'.one ⟨_, c1.symm⟩ ⟨_, c2.symm⟩ ⟨_, c3.symm⟩ ⟨D, Int.mul_comm _ _⟩
 have eD : D = D' := Int.le_antisymm (Int.le_of_dvd hD' k1) (Int.le_of_dvd hD k2)
 subst eD
 have nz : D ≠ 0 := Int.ne_of_gt hD
 refine ⟨?_, rfl⟩
 obtain ⟨a, b, c⟩ := N
 obtain ⟨a', b', c'⟩ := N'
 rw [show a = a' from Int.eq_of_mul_eq_mul_left nz c1, show b = b' from Int.eq_of_mul_eq_mul_left nz c2, show c = c' from Int.eq_of_mul_eq_mul_left nz c3]
theorem Nr.only {l l' : List Pt} {o o' : List Nat} {N N' : Pt} {D D' : Int} (h : Nr l o N D) (h' : Nr l' o' N' D') (hT : ∀ p ∈ pick l o, lev l' o' ≤ ae p (bp (pick l' o'))) (hT' : ∀ p ∈ pick l' o', lev l o ≤ ae p (bp (pick l o))) : N = N' ∧ D = D' := by
 have z : Nst (pick l o) (wts (pick l o)).1 (bp (pick l o)) (wts (pick l o)).2 (lev l o) := Nst.of h.own.v.1 h.own.v.2
 have z' : Nst (pick l' o') (wts (pick l' o')).1 (bp (pick l' o')) (wts (pick l' o')).2 (lev l' o') := Nst.of h'.own.v.1 h'.own.v.2
 exact h.KZ.only h'.KZ z.Au z'.Au (P7 z z' z.Au z'.Au hT hT')
theorem Av {l : List Pt} {o : List Nat} (h : ∀ x ∈ o, x < l.length) : ∀ p ∈ pick l o, p ∈ l := by
 intro p hp
 obtain ⟨i, hi, rfl⟩ := List.mem_map.1 hp
 have := h i hi
 unfold pat
 rw [UK, UJ this]
 exact List.getElem_mem this
theorem Nr.same {l l' : List Pt} {o o' : List Nat} {N N' : Pt} {D D' : Int} (h : Nr l o N D) (h' : Nr l' o' N' D') (e : ∀ p, p ∈ l ↔ p ∈ l') : N = N' ∧ D = D' :=
 h.only h' (fun p hp => h'.none p ((e p).1 (Av h.own.b p hp))) (fun p hp => h.none p ((e p).2 (Av h'.own.b p hp)))
end Go.Ev
namespace Go.Ev
open Go.Proofs
theorem Nr.Nb {l : List Pt} {o : List Nat} {N : Pt} {D : Int} (h : Nr l o N D) (p : Pt) : iE N D p = true ↔ ae p (bp (pick l o)) < lev l o := by
 have z : Nst (pick l o) (wts (pick l o)).1 (bp (pick l o)) (wts (pick l o)).2 (lev l o) := Nst.of h.own.v.1 h.own.v.2
 exact h.KZ.Nb z.Au z.sq
abbrev hU := LA_ × Nat × Int × Int × Int × LA_ × Nat × Int × Int × Int
abbrev h9 := LA_ × Nat × LA_ × Nat × Int × Int
abbrev ia := LA_ × Nat × LA_ × Nat × Int
def j8 : CH := (CH.add 29 tX CH.none)
theorem jB : aG U2 j8 := (CH.ak AD CH.aF)
def jb {R : Type} (cc : h9) (v : Int) (kn : (Int) → Option R) (ke : ((Int) ⊕ (Unit)) → Option R) : Option R :=
 (cond (decide (v < 3)) (let l3 := ([.int .i64 7, .int .i64 3, .int .i64 2] : LA_); (af (decide (0 ≤ v) && decide (v < ((3 : Nat) : Int)) && aq [.int .i64] l3 (Int.toNat v * 1)) (cond (cc.2.2.2.2.1 == (ac l3 ((Int.toNat v * 1) + 0))) (ke (.inl (ac l3 ((Int.toNat v * 1) + 0)))) (cond (cc.2.2.2.2.2 == (ac l3 ((Int.toNat v * 1) + 0))) (ke (.inl (ac l3 ((Int.toNat v * 1) + 0)))) (kn (IntKind.wrap .i64 (v + 1))))))) (ke (.inr ())))
def Hn (cc : h9) (v : Int) : Option ((Int) ⊕ ((Int) ⊕ (Unit))) := jb cc v (fun v => some (Sum.inl v)) fun e => some (Sum.inr e)
def IR (cc : h9) (v : Int) : Option ((Int) ⊕ (Unit)) := dZ (Hn cc) v
def Ej (cc : h9) (v : Int) : List ah := [.I cc.s4.1, .I cc.s4.2, .I v, .C cc.1, .N cc.2.1, .C cc.2.2.1, .N cc.2.2.2.1]
def uF (ls : List ah) : Option ((h9) × (Int)) := match ls with
 | [.I x0, .I x1, .I x2, .C x3, .N x4, .C x5, .N x6] => some ((x3, x4, x5, x6, x0, x1), x2)
 | _ => none
def uG (e : (Int) ⊕ (Unit)) : an := ((Sum.elim (fun e => .ret) (fun e => .exit 0)) e)
def uH (cc : h9) (e : (Int) ⊕ (Unit)) : List ah := ((Sum.elim (fun e => [.I e]) (fun e => [.C cc.1, .N cc.2.1, .C cc.2.2.1, .N cc.2.2.2.1])) e)
def mG (cc : h9) (e : (Int) ⊕ (Unit)) : List ah := ((Sum.elim (fun e => []) (fun e => [.C cc.1, .N cc.2.1, .C cc.2.2.1, .N cc.2.2.2.1])) e)
def nR (o : an) (ls : List ah) : Option (((Int) ⊕ (Unit)) × List ah) := match o with
 | .ret => (match ls with
  | [.I x0] => some ((.inl x0), [])
  | _ => none)
 | .exit 0 => (match ls with
  | [.C x0, .N x1, .C x2, .N x3] => some ((.inr ()), [.C x0, .N x1, .C x2, .N x3])
  | _ => none)
 | _ => none
theorem AP : ∀ o ls e cl cc, nR o ls = some (e, cl) → cl = mG cc e → ls = uH cc e ∧ uG e = o ∧ o ≠ .normal ∧ ∀ v, o = .pan v → sc 0 v = true := by
 intro o ls e cl cc h hc
 unfold nR at h
 split at h
 ·split at h
  ·cases h
   exact ⟨rfl, rfl, by simp, by intro v hv; cases hv <;> rfl⟩
  ·cases h
 ·split at h
  ·cases h
   simp only [mG, UZ, UY, List.cons.injEq, ah.N.injEq, ah.C.injEq, and_true] at hc
   obtain ⟨rfl, rfl, rfl, rfl⟩ := hc
   exact ⟨rfl, rfl, by simp, by intro v hv; cases hv <;> rfl⟩
  ·cases h
 ·cases h
def FK (o : an) : ExS := match o with
 | .ret => ⟨2, (none :: none :: none :: none :: some (.aL) :: some (.int .i64) :: (rl none 73 [])), [], fun s => [0, 1], [], []⟩
 | .exit 0 => ⟨2, (some (.vec 0) :: some (.vec 1) :: (rl none 77 [])), [(0, .vec 3 false), (1, .vec 3 false)], fun s => [0, 1], [], []⟩
 | _ => ⟨0, [], [], fun _ => [], [], []⟩
theorem Ek {R : Type} (cc : h9) (v : Int) (kn : (Int) → Option R) (ke : ((Int) ⊕ (Unit)) → Option R) : jb cc v kn ke = (jb cc v (fun v => some (Sum.inl v)) fun e => some (Sum.inr e)).bind (Sum.elim kn ke) := by
 simp only [jb, bX, ai, UA, cu, bS, Uy, Uz, UZ, UY]
def xN : LD where
 CC := h9
 V := Int
 E := (Int) ⊕ (Unit)
 n := 2
 K := 2
 M := (some (.vec 0) :: some (.vec 1) :: none :: none :: none :: none :: some (.int .i64) :: some (.int .i64) :: (rl none 12 (some (.agg [.fP .i64 7, .fP .i64 3, .fP .i64 2]) :: some (.int .i64) :: (rl none 57 []))))
 B := [(0, .vec 3 false), (1, .vec 3 false)]
 D := []
 pre := []
 F := fun s => [0, 1]
 toL := Ej
 ofL := uF
 au := fun ls c v h => by
  unfold uF at h
  split at h
  ·cases h; rfl
  ·cases h
 cw := jb
 nat := Ek
 sh := FK
 out := uG
 toE := uH
 fQ := mG
 ofE := nR
 dn := AP
 post := fun cc e k => ((Sum.elim (fun e => k (.ret) (bo 2 (none :: none :: none :: none :: some (.aL) :: some (.int .i64 e) :: (rl none 73 [])) [] [])) (fun e => k (.exit 0) (bo 2 (some (.vec 0) :: some (.vec 1) :: (rl none 77 [])) [(0, .vec cc.1 cc.2.1 3 false), (1, .vec cc.2.2.1 cc.2.2.2.1 3 false)] []))) e)
 cv := fun cc e k => by rcases e with e | e <;> rfl
theorem El : cX U2 2 xN.la (aO Try.f56 0) :=
 LD.ok (ch := j8) (A := bD) aJ jB mixed (fuel := 60) ⟨by kernel_rfl, fun e => by (rcases e with e | e <;> kernel_rfl), fun cc v => by kernel_rfl, aK (l := []) (by kernel_rfl) trivial⟩
def ib {R : Type} (cc : hU) (v : LA_ × Nat × Int) (kn : (LA_ × Nat × Int) → Option R) (ke : ((LA_ × Nat)) → Option R) : Option R :=
 (cond (decide (v.2.2 < cc.2.2.2.2.2.2.2.2.2)) (af (decide (0 ≤ v.2.2) && decide (v.2.2 < ((cc.2.1 : Nat) : Int))) (af (aq kK cc.1 (Int.toNat v.2.2 * 3)) (af (decide (2 * (v.2.1 + 1) * 24 ≤ 2 ^ 48)) (kn ((v.1 ++ [.int .i64 (IntKind.wrap .i64 (cc.2.2.1 - (ac cc.1 ((Int.toNat v.2.2 * 3) + 0)))), .int .i64 (IntKind.wrap .i64 (cc.2.2.2.1 - (ac cc.1 ((Int.toNat v.2.2 * 3) + 1)))), .int .i64 (IntKind.wrap .i64 (cc.2.2.2.2.1 - (ac cc.1 ((Int.toNat v.2.2 * 3) + 2))))]), (v.2.1 + 1), (IntKind.wrap .i64 (v.2.2 + 1))))))) (ke (v.1, v.2.1)))
def FL (cc : hU) (v : LA_ × Nat × Int) : Option ((LA_ × Nat × Int) ⊕ ((LA_ × Nat))) := ib cc v (fun v => some (Sum.inl v)) fun e => some (Sum.inr e)
def Ho (cc : hU) (v : LA_ × Nat × Int) : Option ((LA_ × Nat)) := dZ (FL cc) v
def Dh (cc : hU) (v : LA_ × Nat × Int) : List ah := [.I cc.s4.2.2.2.1, .I cc.s8.1, .I cc.s8.2, .I v.2.2, .C cc.1, .N cc.2.1, .C v.1, .N v.2.1, .I cc.2.2.1, .I cc.2.2.2.1, .I cc.s4.1, .C cc.s4.2.1, .N cc.s4.2.2.1]
def tv (ls : List ah) : Option ((hU) × (LA_ × Nat × Int)) := match ls with
 | [.I x0, .I x1, .I x2, .I x3, .C x4, .N x5, .C x6, .N x7, .I x8, .I x9, .I x10, .C x11, .N x12] => some ((x4, x5, x8, x9, x10, x11, x12, x0, x1, x2), (x6, x7, x3))
 | _ => none
def tw (e : (LA_ × Nat)) : an := ((fun e => .exit 4) e)
def tx (cc : hU) (e : (LA_ × Nat)) : List ah := ((fun e => [.I cc.s4.2.2.2.1, .I cc.s8.1, .C cc.1, .N cc.2.1, .C e.1, .N e.2, .C cc.s4.2.1, .N cc.s4.2.2.1]) e)
def kU (cc : hU) (e : (LA_ × Nat)) : List ah := ((fun e => [.I cc.s4.2.2.2.1, .I cc.s8.1, .C cc.1, .N cc.2.1, .C cc.s4.2.1, .N cc.s4.2.2.1]) e)
def mH (o : an) (ls : List ah) : Option (((LA_ × Nat)) × List ah) := match o with
 | .exit 4 => (match ls with
  | [.I x0, .I x1, .C x2, .N x3, .C x4, .N x5, .C x6, .N x7] => some ((x4, x5), [.I x0, .I x1, .C x2, .N x3, .C x6, .N x7])
  | _ => none)
 | _ => none
theorem yX : ∀ o ls e cl cc, mH o ls = some (e, cl) → cl = kU cc e → ls = tx cc e ∧ tw e = o ∧ o ≠ .normal ∧ ∀ v, o = .pan v → sc 0 v = true := by
 intro o ls e cl cc h hc
 unfold mH at h
 split at h
 ·split at h
  ·cases h
   simp only [kU, List.cons.injEq, ah.I.injEq, ah.N.injEq, ah.C.injEq, and_true] at hc
   obtain ⟨rfl, rfl, rfl, rfl, rfl, rfl⟩ := hc
   exact ⟨rfl, rfl, by simp, by intro v hv; cases hv <;> rfl⟩
  ·cases h
 ·cases h
def Em (o : an) : ExS := match o with
 | .exit 4 => ⟨3, (none :: some (.vec 1) :: (rl none 8 (some (.vec 2) :: (rl none 29 (some (.vec 0) :: some (.int .i64) :: some (.int .i64) :: (rl none 36 [])))))), [(1, .vec 3 false), (2, .vec 3 true), (0, .vec 3 false)], fun s => [0, 1, nameAt s 10 []], [], []⟩
 | _ => ⟨0, [], [], fun _ => [], [], []⟩
theorem Di {R : Type} (cc : hU) (v : LA_ × Nat × Int) (kn : (LA_ × Nat × Int) → Option R) (ke : ((LA_ × Nat)) → Option R) : ib cc v kn ke = (ib cc v (fun v => some (Sum.inl v)) fun e => some (Sum.inr e)).bind (Sum.elim kn ke) := by
 simp only [ib, bX, ai, UA, cu, bS, Uy, Uz, UZ, UY]
def oY : LD where
 CC := hU
 V := LA_ × Nat × Int
 E := (LA_ × Nat)
 n := 2
 K := 4
 M := (none :: some (.vec 1) :: (rl none 8 (some (.vec 2) :: none :: some (.ptr 3 0) :: (rl none 27 (some (.vec 0) :: some (.int .i64) :: some (.int .i64) :: none :: none :: none :: some (.vec 1) :: some (.int .i64) :: some (.int .i64) :: (rl none 30 []))))))
 B := [(1, .vec 3 false), (2, .vec 3 true), (3, .cells [.int .i64, .int .i64, .int .i64] true none), (0, .vec 3 false)]
 D := []
 pre := []
 F := fun s => [0, 1, nameAt s 10 [], nameAt s 12 []]
 toL := Dh
 ofL := tv
 au := fun ls c v h => by
  unfold tv at h
  split at h
  ·cases h; rfl
  ·cases h
 cw := ib
 nat := Di
 sh := Em
 out := tw
 toE := tx
 fQ := kU
 ofE := mH
 dn := yX
 post := fun cc e k => ((fun e => k (.exit 4) (bo 3 (none :: some (.vec 1) :: (rl none 8 (some (.vec 2) :: (rl none 29 (some (.vec 0) :: some (.int .i64 cc.s4.2.2.2.1) :: some (.int .i64 cc.s8.1) :: (rl none 36 [])))))) [(1, .vec cc.1 cc.2.1 3 false), (2, .vec e.1 e.2 3 true), (0, .vec cc.s4.2.1 cc.s4.2.2.1 3 false)] [])) e)
 cv := fun cc e k => by rfl
theorem tz : cX U2 2 oY.la (aO Try.f56 2) :=
 LD.ok (ch := j8) (A := bD) aJ jB mixed (fuel := 60) ⟨by kernel_rfl, fun e => by kernel_rfl, fun cc v => by kernel_rfl, aK (l := []) (by kernel_rfl) trivial⟩
def ic {R : Type} (cc : ia) (v : LA_ × Nat × Int) (kn : (LA_ × Nat × Int) → Option R) (ke : ((LA_ × Nat)) → Option R) : Option R :=
 (cond (decide (v.2.2 < cc.2.2.2.2)) (af (decide (0 ≤ v.2.2) && decide (v.2.2 < ((cc.2.2.2.1 : Nat) : Int))) (af (aq kK cc.2.2.1 (Int.toNat v.2.2 * 3)) (Option.bind (Ho (cc.1, cc.2.1, (ac cc.2.2.1 ((Int.toNat v.2.2 * 3) + 0)), (ac cc.2.2.1 ((Int.toNat v.2.2 * 3) + 1)), (ac cc.2.2.1 ((Int.toNat v.2.2 * 3) + 2)), cc.2.2.1, cc.2.2.2.1, cc.2.2.2.2, v.2.2, ((cc.2.1 : Nat) : Int)) (v.1, v.2.1, 0)) fun e5 => (kn (e5.1, e5.2, (IntKind.wrap .i64 (v.2.2 + 1))))))) (ke (v.1, v.2.1)))
def FM (cc : ia) (v : LA_ × Nat × Int) : Option ((LA_ × Nat × Int) ⊕ ((LA_ × Nat))) := ic cc v (fun v => some (Sum.inl v)) fun e => some (Sum.inr e)
def Hp (cc : ia) (v : LA_ × Nat × Int) : Option ((LA_ × Nat)) := dZ (FM cc) v
def Dj (cc : ia) (v : LA_ × Nat × Int) : List ah := [.I cc.s4, .I v.2.2, .C cc.1, .N cc.2.1, .C v.1, .N v.2.1, .C cc.2.2.1, .N cc.2.2.2.1]
def tA (ls : List ah) : Option ((ia) × (LA_ × Nat × Int)) := match ls with
 | [.I x0, .I x1, .C x2, .N x3, .C x4, .N x5, .C x6, .N x7] => some ((x2, x3, x6, x7, x0), (x4, x5, x1))
 | _ => none
def tB (e : (LA_ × Nat)) : an := ((fun e => .exit 2) e)
def tC (cc : ia) (e : (LA_ × Nat)) : List ah := ((fun e => [.C e.1, .N e.2]) e)
def rX (cc : ia) (e : (LA_ × Nat)) : List ah := ((fun e => []) e)
def mI (o : an) (ls : List ah) : Option (((LA_ × Nat)) × List ah) := match o with
 | .exit 2 => (match ls with
  | [.C x0, .N x1] => some ((x0, x1), [])
  | _ => none)
 | _ => none
theorem yY : ∀ o ls e cl cc, mI o ls = some (e, cl) → cl = rX cc e → ls = tC cc e ∧ tB e = o ∧ o ≠ .normal ∧ ∀ v, o = .pan v → sc 0 v = true := by
 intro o ls e cl cc h hc
 unfold mI at h
 split at h
 ·split at h
  ·cases h
   exact ⟨rfl, rfl, by simp, by intro v hv; cases hv <;> rfl⟩
  ·cases h
 ·cases h
def En (o : an) : ExS := match o with
 | .exit 2 => ⟨3, (rl none 10 (some (.vec 2) :: (rl none 68 []))), [(2, .vec 3 true)], fun s => [0, 1, nameAt s 10 []], [], []⟩
 | _ => ⟨0, [], [], fun _ => [], [], []⟩
theorem Dk {R : Type} (cc : ia) (v : LA_ × Nat × Int) (kn : (LA_ × Nat × Int) → Option R) (ke : ((LA_ × Nat)) → Option R) : ic cc v kn ke = (ic cc v (fun v => some (Sum.inl v)) fun e => some (Sum.inr e)).bind (Sum.elim kn ke) := by
 simp only [ic, bX, ai, UA, cu, bS, Uy, Uz, UZ, UY]
def wi : LD where
 CC := ia
 V := LA_ × Nat × Int
 E := (LA_ × Nat)
 n := 2
 K := 3
 M := (none :: some (.vec 1) :: (rl none 8 (some (.vec 2) :: (rl none 29 (some (.vec 0) :: some (.int .i64) :: some (.int .i64) :: (rl none 36 []))))))
 B := [(1, .vec 3 false), (2, .vec 3 true), (0, .vec 3 false)]
 D := []
 pre := [(10, 3)]
 F := fun s => [0, 1, nameAt s 10 []]
 toL := Dj
 ofL := tA
 au := fun ls c v h => by
  unfold tA at h
  split at h
  ·cases h; rfl
  ·cases h
 cw := ic
 nat := Dk
 sh := En
 out := tB
 toE := tC
 fQ := rX
 ofE := mI
 dn := yY
 post := fun cc e k => ((fun e => k (.exit 2) (bo 3 (rl none 10 (some (.vec 2) :: (rl none 68 []))) [(2, .vec e.1 e.2 3 true)] [])) e)
 cv := fun cc e k => by rfl
theorem Dl : cX U2 2 wi.la (aO Try.f56 1) :=
 LD.ok (ch := j8) (A := eT [(15, oY.la)]) aJ jB mixed (fuel := 60) ⟨by kernel_rfl, fun e => by kernel_rfl, fun cc v => by kernel_rfl, aK (l := [aO Try.f56 2]) (by kernel_rfl) ⟨ci (by kernel_rfl) tz, trivial⟩⟩
def yU (cs0 : LA_) (n1 : Nat) (cs2 : LA_) (n3 : Nat) : Option (Int × LA_ × Nat) :=
 (Option.bind (g9 cs0 n1) fun r1 => (Option.bind (g9 cs2 n3) fun r2 => (Option.bind (IR (cs0, n1, cs2, n3, r1, r2) 0) (Sum.elim (fun e3 => (some (e3, ([] : LA_), 0))) (fun e3 => (cond (decide ((IntKind.wrap .i64 (((n1 : Nat) : Int) * ((n3 : Nat) : Int))) > 256)) (some (3, ([] : LA_), 0)) (Option.bind (Hp (cs2, n3, cs0, n1, ((n1 : Nat) : Int)) (([] : LA_), 0, 0)) fun e4 => (Option.bind (g9 e4.1 e4.2) fun r5 => (cond (r5 != 0) (some (r5, ([] : LA_), 0)) (some (0, e4.1, e4.2)))))))))))
def oZ : FD where
 X := Int × LA_ × Nat
 k := 2
 pre := [(4, 3)]
 F := fun s => [0, 1, nameAt s 0 [.c 0]]
 M := .tup [.vec 2, .int .i64]
 B := [.vec 3 true]
 toL := fun x => [.I x.1, .C x.2.1, .N x.2.2]
 ofL := fun ls => match ls with
  | [.I x0, .C x1, .N x2] => some (x0, x1, x2)
  | _ => none
 au := fun ls x h => by
  split at h
  ·cases h; rfl
  ·cases h
theorem Hq (cs0 : LA_) (n1 : Nat) (cs2 : LA_) (n3 : Nat) (x : Int × LA_ × Nat) (h : yU cs0 n1 cs2 n3 = some x) : bg U2 56 2 [.vec 0, .vec 1] [.vec cs0 n1 3 false, .vec cs2 n3 3 false] oZ x :=
 FD.sem (ch := j8) (A := eT [(3, xN.la), (15, oY.la), (12, wi.la)]) (fn := Try.f56) (c := bu Try.f56) (fuel := 60) aJ jB mixed bK oZ Try.func56 (by kernel_rfl) (aK (l := [aO Try.f56 0, aO Try.f56 1, aO Try.f56 2]) (by kernel_rfl) ⟨ci (by kernel_rfl) El, ci (by kernel_rfl) Dl, ci (by kernel_rfl) tz, trivial⟩)
  (by kernel_rfl) (Eq.trans (by kernel_rfl) h)
def yT : HK where
 call := fun args σ k => match args with
  | [x0, x1] => cW σ 3 x0 fun cs0 n1 => cW σ 3 x1 fun cs2 n3 => Option.bind (yU cs0 n1 cs2 n3) fun y => aC σ 2 (oZ.val y) (oZ.aN y) k
  | _ => none
 nat := fun args σ k => by
  repeat' split
  all_goals simp only [av, ai, UA, Uz, aC, Uy]
 pure := false
 pok := fun h => by cases h
theorem IP : aX U2 56 yT := by
 intro args σ r σ' h
 simp only [yT] at h
 split at h
 ·rename_i x0 x1
  obtain ⟨cs0, n1, he0, hf0, h⟩ := bE h
  obtain ⟨cs2, n3, he1, hf1, h⟩ := bE h
  obtain ⟨y, hy, h⟩ := bE_ h
  exact lifted (xs := [x0, x1]) (ls := [.vec cs0 n1 3 false, .vec cs2 n3 3 false]) (cargs := [.vec 0, .vec 1]) (bC.of ⟨⟨rfl, he0, hf0, by decide⟩, ⟨rfl, he1, hf1, by decide⟩, trivial⟩) rfl (Hq cs0 n1 cs2 n3 y hy) rfl rfl rfl rfl h
 ·cases h
end Go.Ev
