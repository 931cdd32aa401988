import Derived.Test.YtbmjabafceihgaaGreatKal
set_option linter.unusedVariables false
set_option linter.unusedSimpArgs false
set_option maxRecDepth 100000
noncomputable section
namespace Go.Ev
open Go.Proofs
abbrev f9 := (I8 (I8 (I8 (I8 (LA_ × Nat × Nat × LA_ × Nat × Int)))))
def qa : CH := (CH.add 47 MS (CH.add 46 BO CH.none))
theorem th : aB YI qa := (CH.aj Nh (CH.aj Ht CH.ay))
def cV {R : Type} (cc : f9) (v : Int × LA_ × Int) (kn : (Int × LA_ × Int) → Option R) (ke : ((Int)) → Option R) : Option R :=
 (cond (decide (v.2.2 < cc.2.2.2.2.2.2.2.2.2.2.2.2.2.2.2.2.2.2.2.2.2.2.2.2.2.2.2.2.2.2.2.2.2.2.2.2.2)) (ah (decide (0 ≤ v.2.2) && decide (v.2.2 < ((cc.2.2.2.2.2.2.2.2.2.2.2.2.2.2.2.2.2.2.2.2.2.2.2.2.2.2.2.2.2.2.2.2.2.2.2.2.1 : Nat) : Int))) (ah (aw kR cc.2.2.2.2.2.2.2.2.2.2.2.2.2.2.2.2.2.2.2.2.2.2.2.2.2.2.2.2.2.2.2.2.2.2.2.1 (Int.toNat v.2.2 * 3)) (Option.bind (oc cc.1 cc.2.1 cc.2.2.1 cc.2.2.2.1 cc.2.2.2.2.1 cc.2.2.2.2.2.1 cc.2.2.2.2.2.2.1 cc.2.2.2.2.2.2.2.1 cc.2.2.2.2.2.2.2.2.1 cc.2.2.2.2.2.2.2.2.2.1 cc.2.2.2.2.2.2.2.2.2.2.1 cc.2.2.2.2.2.2.2.2.2.2.2.1 cc.2.2.2.2.2.2.2.2.2.2.2.2.1 cc.2.2.2.2.2.2.2.2.2.2.2.2.2.1 cc.2.2.2.2.2.2.2.2.2.2.2.2.2.2.1 cc.2.2.2.2.2.2.2.2.2.2.2.2.2.2.2.1 cc.2.2.2.2.2.2.2.2.2.2.2.2.2.2.2.2.1 cc.2.2.2.2.2.2.2.2.2.2.2.2.2.2.2.2.2.1 cc.2.2.2.2.2.2.2.2.2.2.2.2.2.2.2.2.2.2.1 cc.2.2.2.2.2.2.2.2.2.2.2.2.2.2.2.2.2.2.2.1 cc.2.2.2.2.2.2.2.2.2.2.2.2.2.2.2.2.2.2.2.2.1 cc.2.2.2.2.2.2.2.2.2.2.2.2.2.2.2.2.2.2.2.2.2.1 cc.2.2.2.2.2.2.2.2.2.2.2.2.2.2.2.2.2.2.2.2.2.2.1 cc.2.2.2.2.2.2.2.2.2.2.2.2.2.2.2.2.2.2.2.2.2.2.2.1 (ac cc.2.2.2.2.2.2.2.2.2.2.2.2.2.2.2.2.2.2.2.2.2.2.2.2.2.2.2.2.2.2.2.2.2.2.2.1 ((Int.toNat v.2.2 * 3) + 0)) (ac cc.2.2.2.2.2.2.2.2.2.2.2.2.2.2.2.2.2.2.2.2.2.2.2.2.2.2.2.2.2.2.2.2.2.2.2.1 ((Int.toNat v.2.2 * 3) + 1)) (ac cc.2.2.2.2.2.2.2.2.2.2.2.2.2.2.2.2.2.2.2.2.2.2.2.2.2.2.2.2.2.2.2.2.2.2.2.1 ((Int.toNat v.2.2 * 3) + 2))) fun r1 => (cond (decide (v.1 < 0)) (ah (decide (0 + 8 ≤ List.length v.2.1)) (kn (v.2.2, (spliced v.2.1 0 (v8 (aa r1 0) (aa r1 1) (aa r1 2) (aa r1 3) (aa r1 4) (aa r1 5) (aa r1 6) (aa r1 7) [])), (IntKind.wrap .i64 (v.2.2 + 1))))) (ah (aw gK v.2.1 0) (Option.bind (Ia (aa r1 0) (aa r1 1) (aa r1 2) (aa r1 3) (aa r1 4) (aa r1 5) (aa r1 6) (aa r1 7) (ac v.2.1 0) (ac v.2.1 1) (ac v.2.1 2) (ac v.2.1 3) (ac v.2.1 4) (ac v.2.1 5) (ac v.2.1 6) (ac v.2.1 7)) fun r2 => (cond (decide (r2 < 0)) (ah (decide (0 + 8 ≤ List.length v.2.1)) (kn (v.2.2, (spliced v.2.1 0 (v8 (aa r1 0) (aa r1 1) (aa r1 2) (aa r1 3) (aa r1 4) (aa r1 5) (aa r1 6) (aa r1 7) [])), (IntKind.wrap .i64 (v.2.2 + 1))))) (kn (v.1, v.2.1, (IntKind.wrap .i64 (v.2.2 + 1))))))))))) (ke v.1))
def fD (cc : f9) (v : Int × LA_ × Int) : Option ((Int × LA_ × Int) ⊕ ((Int))) := cV cc v (fun v => some (Sum.inl v)) fun e => some (Sum.inr e)
def xP (cc : f9) (v : Int × LA_ × Int) : Option ((Int)) := dz (fD cc) v
def DI (cc : f9) (v : Int × LA_ × Int) : List af := [.I v.1, .I cc.s16.s16.s4.2, .I v.2.2, .I cc.1, .I cc.2.1, .I cc.2.2.1, .I cc.2.2.2.1, .I cc.s4.1, .I cc.s4.2.1, .I cc.s4.2.2.1, .I cc.s4.2.2.2.1, .I cc.s8.1, .I cc.s8.2.1, .I cc.s8.2.2.1, .I cc.s8.2.2.2.1, .I cc.s8.s4.1, .I cc.s8.s4.2.1, .I cc.s8.s4.2.2.1, .I cc.s8.s4.2.2.2.1, .I cc.s16.1, .I cc.s16.2.1, .I cc.s16.2.2.1, .I cc.s16.2.2.2.1, .I cc.s16.s4.1, .I cc.s16.s4.2.1, .I cc.s16.s4.2.2.1, .I cc.s16.s4.2.2.2.1, .I cc.s16.s8.1, .I cc.s16.s8.2.1, .I cc.s16.s8.2.2.1, .I cc.s16.s8.2.2.2.1, .I cc.s16.s8.s4.1, .I cc.s16.s8.s4.2.1, .I cc.s16.s8.s4.2.2.1, .I cc.s16.s8.s4.2.2.2.1, .C cc.s16.s16.1, .N cc.s16.s16.2.1, .C v.2.1, .N cc.s16.s16.2.2.1, .C cc.s16.s16.2.2.2.1, .N cc.s16.s16.s4.1]
def tj (ls : List af) : Option ((f9) × (Int × LA_ × Int)) := match ls with
 | (.I x0 :: .I x1 :: .I x2 :: .I x3 :: .I x4 :: .I x5 :: .I x6 :: .I x7 :: .I x8 :: .I x9 :: .I x10 :: .I x11 :: .I x12 :: .I x13 :: .I x14 :: .I x15 :: .I x16 :: .I x17 :: .I x18 :: .I x19 :: .I x20 :: .I x21 :: .I x22 :: .I x23 :: .I x24 :: .I x25 :: .I x26 :: .I x27 :: .I x28 :: .I x29 :: .I x30 :: .I x31 :: .I x32 :: .I x33 :: .I x34 :: .C x35 :: .N x36 :: .C x37 :: .N x38 :: .C x39 :: .N x40 :: []) => some ((x3, x4, x5, x6, x7, x8, x9, x10, x11, x12, x13, x14, x15, x16, x17, x18, x19, x20, x21, x22, x23, x24, x25, x26, x27, x28, x29, x30, x31, x32, x33, x34, x35, x36, x38, x39, x40, x1), (x0, x37, x2))
 | _ => none
def tk (e : (Int)) : an := ((fun e => .exit 0) e)
def tl (cc : f9) (e : (Int)) : List af := ((fun e => [.I e]) e)
def rA (cc : f9) (e : (Int)) : List af := ((fun e => []) e)
def mo (o : an) (ls : List af) : Option (((Int)) × List af) := match o with
 | .exit 0 => (match ls with
  | [.I x0] => some (x0, [])
  | _ => none)
 | _ => none
theorem zT : ∀ o ls e cl cc, mo o ls = some (e, cl) → cl = rA cc e → ls = tl cc e ∧ tk e = o ∧ o ≠ .normal ∧ ∀ v, o = .pan v → sc 0 v = true := by
 intro o ls e cl cc h hc
 unfold mo at h
 split at h
 ·split at h
  ·cases h
   exact ⟨rfl, rfl, by simp, by intro v hv; cases hv <;> rfl⟩
  ·cases h
 ·cases h
def EG (o : an) : ExS := match o with
 | .exit 0 => ⟨3, (none :: none :: none :: none :: some (.int .i64) :: (rl none 32 [])), [], fun s => [0, 1, 2], [], []⟩
 | _ => ⟨0, [], [], fun _ => [], [], []⟩
theorem DJ {R : Type} (cc : f9) (v : Int × LA_ × Int) (kn : (Int × LA_ × Int) → Option R) (ke : ((Int)) → Option R) : cV cc v kn ke = (cV cc v (fun v => some (Sum.inl v)) fun e => some (Sum.inr e)).bind (Sum.elim kn ke) := by
 simp only [cV, bH, ai, Yg, bZ, bB, Ye, Yf, YF, YE]
def wv : LD where
 CC := f9
 V := Int × LA_ × Int
 E := (Int)
 n := 3
 K := 5
 M := (none :: none :: some (.ptr 3 0) :: none :: some (.int .i64) :: some (.ptr 4 0) :: (rl none 5 (some (.vec 2) :: some (.int .i64) :: some (.int .i64) :: (rl none 23 []))))
 B := [(3, .cells (rl (.int .u64) 32 [.vec 0]) true none), (0, .vec 1 false), (4, .vec 8 true), (2, .vec 3 false)]
 D := []
 pre := []
 F := fun s => [0, 1, 2, ak s 2 [], ak s 5 []]
 toL := DI
 ofL := tj
 ar := fun ls c v h => by
  unfold tj at h
  split at h
  ·cases h; rfl
  ·cases h
 ct := cV
 nat := DJ
 sh := EG
 out := tk
 toE := tl
 eY := rA
 ofE := mo
 cQ := zT
 post := fun cc e k => ((fun e => k (.exit 0) (bc 3 (none :: none :: none :: none :: some (.int .i64 e) :: (rl none 32 [])) [] [])) e)
 cd := fun cc e k => by rfl
theorem DK : cJ YI 3 wv.la (aJ Tryz.f45 0) :=
 LD.ok (ch := qa) (A := bw) aK th mixed (fuel := 60) ⟨by kernel_rfl, fun e => by kernel_rfl, fun cc v => by kernel_rfl, aH (l := []) (by kernel_rfl) trivial⟩
def pK (a0 a1 a2 a3 a4 a5 a6 a7 a8 a9 a10 a11 a12 a13 a14 a15 a16 a17 a18 a19 a20 a21 a22 a23 a24 a25 a26 a27 a28 a29 a30 a31 : Int) (cs32 : LA_) (n33 : Nat) (cs34 : LA_) (n35 : Nat) : Option (Int) :=
 (Option.bind (xP (a0, a1, a2, a3, a4, a5, a6, a7, a8, a9, a10, a11, a12, a13, a14, a15, a16, a17, a18, a19, a20, a21, a22, a23, a24, a25, a26, a27, a28, a29, a30, a31, cs32, n33, 1, cs34, n35, ((n35 : Nat) : Int)) ((-1), ((v8 0 0 0 0 0 0 0 0 []) : LA_), 0)) fun e1 => (some e1))
def mH : FD where
 X := Int
 k := 3
 pre := []
 F := fun s => [0, 1, 2]
 M := .int .i64
 B := []
 toL := fun x => [.I x]
 ofL := fun ls => match ls with
  | [.I x0] => some x0
  | _ => none
 ar := fun ls x h => by
  split at h
  ·cases h; rfl
  ·cases h
theorem GP (a0 a1 a2 a3 a4 a5 a6 a7 a8 a9 a10 a11 a12 a13 a14 a15 a16 a17 a18 a19 a20 a21 a22 a23 a24 a25 a26 a27 a28 a29 a30 a31 : Int) (cs32 : LA_) (n33 : Nat) (cs34 : LA_) (n35 : Nat) (x : Int) (h : pK a0 a1 a2 a3 a4 a5 a6 a7 a8 a9 a10 a11 a12 a13 a14 a15 a16 a17 a18 a19 a20 a21 a22 a23 a24 a25 a26 a27 a28 a29 a30 a31 cs32 n33 cs34 n35 = some x) : aP YI 45 3 [.agg (v8 a0 a1 a2 a3 a4 a5 a6 a7 (v8 a8 a9 a10 a11 a12 a13 a14 a15 (v8 a16 a17 a18 a19 a20 a21 a22 a23 (v8 a24 a25 a26 a27 a28 a29 a30 a31 [.vec 0])))), .ptr 1 0] [.vec cs32 n33 1 false, .cells [.vec 2] false none, .vec cs34 n35 3 false] mH x :=
 FD.sem (ch := qa) (A := dL [(3, wv.la)]) (fn := Tryz.f45) (c := br Tryz.f45) (fuel := 60) aK th mixed bI mH Tryz.func45 (by kernel_rfl) (aH (l := [aJ Tryz.f45 0]) (by kernel_rfl) ⟨bT (by kernel_rfl) DK, trivial⟩)
  (by kernel_rfl) (Eq.trans (by kernel_rfl) h)
def vu (z0 z8 z16 z24 : Int) (cs32 : LA_) (n33 : Nat) (cs34 : LA_) (n35 : Nat) : Option (Int) := pK (aa z0 0) (aa z0 1) (aa z0 2) (aa z0 3) (aa z0 4) (aa z0 5) (aa z0 6) (aa z0 7) (aa z8 0) (aa z8 1) (aa z8 2) (aa z8 3) (aa z8 4) (aa z8 5) (aa z8 6) (aa z8 7) (aa z16 0) (aa z16 1) (aa z16 2) (aa z16 3) (aa z16 4) (aa z16 5) (aa z16 6) (aa z16 7) (aa z24 0) (aa z24 1) (aa z24 2) (aa z24 3) (aa z24 4) (aa z24 5) (aa z24 6) (aa z24 7) cs32 n33 cs34 n35
def vt : HK where
 call := fun args σ k => match args with
  | [.agg (.int .u64 a0 :: .int .u64 a1 :: .int .u64 a2 :: .int .u64 a3 :: .int .u64 a4 :: .int .u64 a5 :: .int .u64 a6 :: .int .u64 a7 :: .int .u64 a8 :: .int .u64 a9 :: .int .u64 a10 :: .int .u64 a11 :: .int .u64 a12 :: .int .u64 a13 :: .int .u64 a14 :: .int .u64 a15 :: .int .u64 a16 :: .int .u64 a17 :: .int .u64 a18 :: .int .u64 a19 :: .int .u64 a20 :: .int .u64 a21 :: .int .u64 a22 :: .int .u64 a23 :: .int .u64 a24 :: .int .u64 a25 :: .int .u64 a26 :: .int .u64 a27 :: .int .u64 a28 :: .int .u64 a29 :: .int .u64 a30 :: .int .u64 a31 :: x0 :: []), .ptr b1 0] => cO σ 1 x0 fun cs32 n33 => match σ.get b1 with | some (.cells [x2] _ _) => (cO σ 3 x2 fun cs34 n35 => Option.bind (pK a0 a1 a2 a3 a4 a5 a6 a7 a8 a9 a10 a11 a12 a13 a14 a15 a16 a17 a18 a19 a20 a21 a22 a23 a24 a25 a26 a27 a28 a29 a30 a31 cs32 n33 cs34 n35) fun y => au σ 3 (mH.val y) (mH.aI y) k) | _ => none
  | _ => none
 nat := fun args σ k => by
  repeat' split
  all_goals simp only [ao, ai, Yg, Yf, au, Ye]
 pure := false
 pok := fun h => by cases h
theorem H3 : aN YI 45 vt := by
 intro args σ r σ' h
 simp only [vt] at h
 split at h
 ·rename_i a0 a1 a2 a3 a4 a5 a6 a7 a8 a9 a10 a11 a12 a13 a14 a15 a16 a17 a18 a19 a20 a21 a22 a23 a24 a25 a26 a27 a28 a29 a30 a31 x0 b1
  obtain ⟨cs32, n33, he0, hf0, h⟩ := bv h
  split at h
  ·rename_i x2 own1 gr1 hb1
   obtain ⟨cs34, n35, he2, hf2, h⟩ := bv h
   obtain ⟨y, hy, h⟩ := bE_ h
   exact aG (xs := [x0, .ptr b1 0, x2]) (ls := [.vec cs32 n33 1 false, .cells [.vec 2] false none, .vec cs34 n35 3 false]) (cargs := [.agg (v8 a0 a1 a2 a3 a4 a5 a6 a7 (v8 a8 a9 a10 a11 a12 a13 a14 a15 (v8 a16 a17 a18 a19 a20 a21 a22 a23 (v8 a24 a25 a26 a27 a28 a29 a30 a31 [.vec 0])))), .ptr 1 0]) (bg.of ⟨⟨rfl, he0, hf0, by decide⟩, ⟨rfl, rfl, by simp, rfl, b1, 0, rfl, by simp [cF, hb1, mQ, sub]⟩, ⟨rfl, he2, hf2, by decide⟩, trivial⟩) rfl (GP a0 a1 a2 a3 a4 a5 a6 a7 a8 a9 a10 a11 a12 a13 a14 a15 a16 a17 a18 a19 a20 a21 a22 a23 a24 a25 a26 a27 a28 a29 a30 a31 cs32 n33 cs34 n35 y hy) rfl rfl rfl rfl h
  ·cases h
 ·cases h
abbrev jr := LA_ × Nat × Int × LA_ × Nat × Int × Int × Int × Int × Int × Int × Int × Int × Int × Int × Int × Int × Int × Int × Int × Int × Int × Int × Int × Int × Int × Int × Int × Int × Int × Int × Int × Int × Int × Int × Int × Int × LA_ × Nat × Int
abbrev js := (I8 (I8 (I8 (I8 (LA_ × Nat × Int)))))
abbrev EF := (I8 (I8 (I8 (I8 (Int × LA_ × Nat)))))
abbrev jt := LA_ × Nat × Int × LA_ × Nat × Int
abbrev zm := Int × Int × Int × Int × Int × LA_ × Nat
def AN : CH := (CH.add 94 tK (CH.add 49 n8 (CH.add 48 BM (CH.add 45 vt (CH.add 25 n7 (CH.add 50 KW CH.none))))))
def lR : CH := xG YI kc [51, 68, 69, 88, 98] 60 AN 5
theorem GM : aB YI AN := (CH.aj GD (CH.aj wm (CH.aj Mr (CH.aj H3 (CH.aj wk (CH.aj Qg CH.ay))))))
theorem ld : aB YI lR := ju aK mixed bI GM 5
def fW {R : Type} (cc : jt) (v : LA_ × Nat × Int) (kn : (LA_ × Nat × Int) → Option R) (ke : ((LA_ × Nat)) → Option R) : Option R :=
 (cond (decide (v.2.2 < cc.2.2.2.2.2)) (ah (decide (0 ≤ v.2.2) && decide (v.2.2 < ((cc.2.2.2.2.1 : Nat) : Int))) (ah (aw [.int .i64] cc.2.2.2.1 (Int.toNat v.2.2 * 1)) (ah (decide (0 ≤ (ac cc.2.2.2.1 ((Int.toNat v.2.2 * 1) + 0))) && decide ((ac cc.2.2.2.1 ((Int.toNat v.2.2 * 1) + 0)) < ((cc.2.1 : Nat) : Int))) (ah (aw kR cc.1 (Int.toNat (ac cc.2.2.2.1 ((Int.toNat v.2.2 * 1) + 0)) * 3)) (ah (decide (2 * (v.2.1 + 1) * 24 ≤ 2 ^ 48)) (kn ((v.1 ++ [.int .i64 (ac cc.1 ((Int.toNat (ac cc.2.2.2.1 ((Int.toNat v.2.2 * 1) + 0)) * 3) + 0)), .int .i64 (ac cc.1 ((Int.toNat (ac cc.2.2.2.1 ((Int.toNat v.2.2 * 1) + 0)) * 3) + 1)), .int .i64 (ac cc.1 ((Int.toNat (ac cc.2.2.2.1 ((Int.toNat v.2.2 * 1) + 0)) * 3) + 2))]), (v.2.1 + 1), (IntKind.wrap .i64 (v.2.2 + 1))))))))) (ke (v.1, v.2.1)))
def n9 (cc : jt) (v : LA_ × Nat × Int) : Option ((LA_ × Nat × Int) ⊕ ((LA_ × Nat))) := fW cc v (fun v => some (Sum.inl v)) fun e => some (Sum.inr e)
def Dk (cc : jt) (v : LA_ × Nat × Int) : Option ((LA_ × Nat)) := dz (n9 cc) v
def H4 (cc : jt) (v : LA_ × Nat × Int) : List af := [.I cc.2.2.1, .I cc.s4.2, .I v.2.2, .C cc.1, .N cc.2.1, .C cc.2.2.2.1, .N cc.s4.1, .C v.1, .N v.2.1]
def xH (ls : List af) : Option ((jt) × (LA_ × Nat × Int)) := match ls with
 | [.I x0, .I x1, .I x2, .C x3, .N x4, .C x5, .N x6, .C x7, .N x8] => some ((x3, x4, x0, x5, x6, x1), (x7, x8, x2))
 | _ => none
def xI (e : (LA_ × Nat)) : an := ((fun e => .exit 2) e)
def xJ (cc : jt) (e : (LA_ × Nat)) : List af := ((fun e => [.I cc.2.2.1, .C cc.1, .N cc.2.1, .C cc.2.2.2.1, .N cc.s4.1, .C e.1, .N e.2]) e)
def oV (cc : jt) (e : (LA_ × Nat)) : List af := ((fun e => [.I cc.2.2.1, .C cc.1, .N cc.2.1, .C cc.2.2.2.1, .N cc.s4.1]) e)
def p8 (o : an) (ls : List af) : Option (((LA_ × Nat)) × List af) := match o with
 | .exit 2 => (match ls with
  | [.I x0, .C x1, .N x2, .C x3, .N x4, .C x5, .N x6] => some ((x5, x6), [.I x0, .C x1, .N x2, .C x3, .N x4])
  | _ => none)
 | _ => none
theorem DG : ∀ o ls e cl cc, p8 o ls = some (e, cl) → cl = oV cc e → ls = xJ cc e ∧ xI e = o ∧ o ≠ .normal ∧ ∀ v, o = .pan v → sc 0 v = true := by
 intro o ls e cl cc h hc
 unfold p8 at h
 split at h
 ·split at h
  ·cases h
   simp only [oV, List.cons.injEq, af.I.injEq, af.N.injEq, af.C.injEq, and_true] at hc
   obtain ⟨rfl, rfl, rfl, rfl, rfl⟩ := hc
   exact ⟨rfl, rfl, by simp, by intro v hv; cases hv <;> rfl⟩
  ·cases h
 ·cases h
def Jz (o : an) : ExS := match o with
 | .exit 2 => ⟨5, (none :: some (.ptr 1 0) :: some (.ptr 2 0) :: some (.int .i64) :: some (.func 45 [] [.ptr 1 0]) :: some (.vec 3) :: some (.vec 4) :: (rl none 74 [])), [(1, .cells [.vec 0] true none), (0, .vec 3 false), (2, .cells (rl (.cK .u64 0) 32 [.aM]) true none), (3, .vec 1 false), (4, .vec 3 true)], fun s => [0, ak s 1 [], ak s 2 [], ak s 5 [], ak s 6 []], [], []⟩
 | _ => ⟨0, [], [], fun _ => [], [], []⟩
theorem H5 {R : Type} (cc : jt) (v : LA_ × Nat × Int) (kn : (LA_ × Nat × Int) → Option R) (ke : ((LA_ × Nat)) → Option R) : fW cc v kn ke = (fW cc v (fun v => some (Sum.inl v)) fun e => some (Sum.inr e)).bind (Sum.elim kn ke) := by
 simp only [fW, bH, ai, Yg, bZ, bB, Ye, Yf, YF, YE]
def tL : LD where
 CC := jt
 V := LA_ × Nat × Int
 E := (LA_ × Nat)
 n := 1
 K := 5
 M := (none :: some (.ptr 1 0) :: some (.ptr 2 0) :: some (.int .i64) :: some (.func 45 [] [.ptr 1 0]) :: some (.vec 3) :: some (.vec 4) :: (rl none 10 (some (.vec 3) :: some (.int .i64) :: some (.int .i64) :: (rl none 61 []))))
 B := [(1, .cells [.vec 0] true none), (0, .vec 3 false), (2, .cells (rl (.cK .u64 0) 32 [.aM]) true none), (3, .vec 1 false), (4, .vec 3 true)]
 D := []
 pre := [(6, 3)]
 F := fun s => [0, ak s 1 [], ak s 2 [], ak s 5 [], ak s 6 []]
 toL := H4
 ofL := xH
 ar := fun ls c v h => by
  unfold xH at h
  split at h
  ·cases h; rfl
  ·cases h
 ct := fW
 nat := H5
 sh := Jz
 out := xI
 toE := xJ
 eY := oV
 ofE := p8
 cQ := DG
 post := fun cc e k => ((fun e => k (.exit 2) (bc 5 (none :: some (.ptr 1 0) :: some (.ptr 2 0) :: some (.int .i64 cc.2.2.1) :: some (.func 45 [] [.ptr 1 0]) :: some (.vec 3) :: some (.vec 4) :: (rl none 74 [])) [(1, .cells [.vec 0] true none), (0, .vec cc.1 cc.2.1 3 false), (2, .cells (rl (.int .u64 0) 32 [.aM]) true none), (3, .vec cc.2.2.2.1 cc.s4.1 1 false), (4, .vec e.1 e.2 3 true)] [])) e)
 cd := fun cc e k => by rfl
theorem xK : cJ YI 1 tL.la (aJ Tryz.f34 1) :=
 LD.ok (ch := lR) (A := bw) aK ld mixed (fuel := 60) ⟨by kernel_rfl, fun e => by kernel_rfl, fun cc v => by kernel_rfl, aH (l := []) (by kernel_rfl) trivial⟩
def fj {R : Type} (cc : jr) (v : LA_ × Nat × Int) (kn : (LA_ × Nat × Int) → Option R) (ke : ((LA_ × Nat)) → Option R) : Option R :=
 (cond (decide (v.2.2 < cc.2.2.2.2.2.2.2.2.2.2.2.2.2.2.2.2.2.2.2.2.2.2.2.2.2.2.2.2.2.2.2.2.2.2.2.2.2.2.2)) (ah (decide (0 ≤ v.2.2) && decide (v.2.2 < ((cc.2.2.2.2.2.2.2.2.2.2.2.2.2.2.2.2.2.2.2.2.2.2.2.2.2.2.2.2.2.2.2.2.2.2.2.2.2.2.1 : Nat) : Int))) (ah (aw [.int .i64] cc.2.2.2.2.2.2.2.2.2.2.2.2.2.2.2.2.2.2.2.2.2.2.2.2.2.2.2.2.2.2.2.2.2.2.2.2.2.1 (Int.toNat v.2.2 * 1)) (ah (decide (0 ≤ (ac cc.2.2.2.2.2.2.2.2.2.2.2.2.2.2.2.2.2.2.2.2.2.2.2.2.2.2.2.2.2.2.2.2.2.2.2.2.2.1 ((Int.toNat v.2.2 * 1) + 0))) && decide ((ac cc.2.2.2.2.2.2.2.2.2.2.2.2.2.2.2.2.2.2.2.2.2.2.2.2.2.2.2.2.2.2.2.2.2.2.2.2.2.1 ((Int.toNat v.2.2 * 1) + 0)) < ((cc.2.2.2.2.1 : Nat) : Int))) (ah (aw [.int .i64] cc.2.2.2.1 (Int.toNat (ac cc.2.2.2.2.2.2.2.2.2.2.2.2.2.2.2.2.2.2.2.2.2.2.2.2.2.2.2.2.2.2.2.2.2.2.2.2.2.1 ((Int.toNat v.2.2 * 1) + 0)) * 1)) (ah (decide (2 * (v.2.1 + 1) * 8 ≤ 2 ^ 48)) (kn ((v.1 ++ [.int .i64 (ac cc.2.2.2.1 ((Int.toNat (ac cc.2.2.2.2.2.2.2.2.2.2.2.2.2.2.2.2.2.2.2.2.2.2.2.2.2.2.2.2.2.2.2.2.2.2.2.2.2.1 ((Int.toNat v.2.2 * 1) + 0)) * 1) + 0))]), (v.2.1 + 1), (IntKind.wrap .i64 (v.2.2 + 1))))))))) (ke (v.1, v.2.1)))
def mG (cc : jr) (v : LA_ × Nat × Int) : Option ((LA_ × Nat × Int) ⊕ ((LA_ × Nat))) := fj cc v (fun v => some (Sum.inl v)) fun e => some (Sum.inr e)
def AO (cc : jr) (v : LA_ × Nat × Int) : Option ((LA_ × Nat)) := dz (mG cc) v
def GN (cc : jr) (v : LA_ × Nat × Int) : List af := [.I cc.2.2.1, .I cc.s16.s16.s4.2.2.2, .I v.2.2, .C cc.1, .N cc.2.1, .C cc.2.2.2.1, .N cc.s4.1, .I cc.s4.2.1, .I cc.s4.2.2.1, .I cc.s4.2.2.2.1, .I cc.s8.1, .I cc.s8.2.1, .I cc.s8.2.2.1, .I cc.s8.2.2.2.1, .I cc.s8.s4.1, .I cc.s8.s4.2.1, .I cc.s8.s4.2.2.1, .I cc.s8.s4.2.2.2.1, .I cc.s16.1, .I cc.s16.2.1, .I cc.s16.2.2.1, .I cc.s16.2.2.2.1, .I cc.s16.s4.1, .I cc.s16.s4.2.1, .I cc.s16.s4.2.2.1, .I cc.s16.s4.2.2.2.1, .I cc.s16.s8.1, .I cc.s16.s8.2.1, .I cc.s16.s8.2.2.1, .I cc.s16.s8.2.2.2.1, .I cc.s16.s8.s4.1, .I cc.s16.s8.s4.2.1, .I cc.s16.s8.s4.2.2.1, .I cc.s16.s8.s4.2.2.2.1, .I cc.s16.s16.1, .I cc.s16.s16.2.1, .I cc.s16.s16.2.2.1, .I cc.s16.s16.2.2.2.1, .I cc.s16.s16.s4.1, .C cc.s16.s16.s4.2.1, .N cc.s16.s16.s4.2.2.1, .C v.1, .N v.2.1]
def wn (ls : List af) : Option ((jr) × (LA_ × Nat × Int)) := match ls with
 | (.I x0 :: .I x1 :: .I x2 :: .C x3 :: .N x4 :: .C x5 :: .N x6 :: .I x7 :: .I x8 :: .I x9 :: .I x10 :: .I x11 :: .I x12 :: .I x13 :: .I x14 :: .I x15 :: .I x16 :: .I x17 :: .I x18 :: .I x19 :: .I x20 :: .I x21 :: .I x22 :: .I x23 :: .I x24 :: .I x25 :: .I x26 :: .I x27 :: .I x28 :: .I x29 :: .I x30 :: .I x31 :: .I x32 :: .I x33 :: .I x34 :: .I x35 :: .I x36 :: .I x37 :: .I x38 :: .C x39 :: .N x40 :: .C x41 :: .N x42 :: []) => some ((x3, x4, x0, x5, x6, x7, x8, x9, x10, x11, x12, x13, x14, x15, x16, x17, x18, x19, x20, x21, x22, x23, x24, x25, x26, x27, x28, x29, x30, x31, x32, x33, x34, x35, x36, x37, x38, x39, x40, x1), (x41, x42, x2))
 | _ => none
def wo (e : (LA_ × Nat)) : an := ((fun e => .exit 4) e)
def wq (cc : jr) (e : (LA_ × Nat)) : List af := ((fun e => [.I cc.2.2.1, .C cc.1, .N cc.2.1, .I cc.s4.2.1, .I cc.s4.2.2.1, .I cc.s4.2.2.2.1, .I cc.s8.1, .I cc.s8.2.1, .I cc.s8.2.2.1, .I cc.s8.2.2.2.1, .I cc.s8.s4.1, .I cc.s8.s4.2.1, .I cc.s8.s4.2.2.1, .I cc.s8.s4.2.2.2.1, .I cc.s16.1, .I cc.s16.2.1, .I cc.s16.2.2.1, .I cc.s16.2.2.2.1, .I cc.s16.s4.1, .I cc.s16.s4.2.1, .I cc.s16.s4.2.2.1, .I cc.s16.s4.2.2.2.1, .I cc.s16.s8.1, .I cc.s16.s8.2.1, .I cc.s16.s8.2.2.1, .I cc.s16.s8.2.2.2.1, .I cc.s16.s8.s4.1, .I cc.s16.s8.s4.2.1, .I cc.s16.s8.s4.2.2.1, .I cc.s16.s8.s4.2.2.2.1, .I cc.s16.s16.1, .I cc.s16.s16.2.1, .I cc.s16.s16.2.2.1, .I cc.s16.s16.2.2.2.1, .I cc.s16.s16.s4.1, .C cc.s16.s16.s4.2.1, .N cc.s16.s16.s4.2.2.1, .C e.1, .N e.2]) e)
def mU (cc : jr) (e : (LA_ × Nat)) : List af := ((fun e => [.I cc.2.2.1, .C cc.1, .N cc.2.1, .I cc.s4.2.1, .I cc.s4.2.2.1, .I cc.s4.2.2.2.1, .I cc.s8.1, .I cc.s8.2.1, .I cc.s8.2.2.1, .I cc.s8.2.2.2.1, .I cc.s8.s4.1, .I cc.s8.s4.2.1, .I cc.s8.s4.2.2.1, .I cc.s8.s4.2.2.2.1, .I cc.s16.1, .I cc.s16.2.1, .I cc.s16.2.2.1, .I cc.s16.2.2.2.1, .I cc.s16.s4.1, .I cc.s16.s4.2.1, .I cc.s16.s4.2.2.1, .I cc.s16.s4.2.2.2.1, .I cc.s16.s8.1, .I cc.s16.s8.2.1, .I cc.s16.s8.2.2.1, .I cc.s16.s8.2.2.2.1, .I cc.s16.s8.s4.1, .I cc.s16.s8.s4.2.1, .I cc.s16.s8.s4.2.2.1, .I cc.s16.s8.s4.2.2.2.1, .I cc.s16.s16.1, .I cc.s16.s16.2.1, .I cc.s16.s16.2.2.1, .I cc.s16.s16.2.2.2.1, .I cc.s16.s16.s4.1, .C cc.s16.s16.s4.2.1, .N cc.s16.s16.s4.2.2.1]) e)
def oW (o : an) (ls : List af) : Option (((LA_ × Nat)) × List af) := match o with
 | .exit 4 => (match ls with
  | (.I x0 :: .C x1 :: .N x2 :: .I x3 :: .I x4 :: .I x5 :: .I x6 :: .I x7 :: .I x8 :: .I x9 :: .I x10 :: .I x11 :: .I x12 :: .I x13 :: .I x14 :: .I x15 :: .I x16 :: .I x17 :: .I x18 :: .I x19 :: .I x20 :: .I x21 :: .I x22 :: .I x23 :: .I x24 :: .I x25 :: .I x26 :: .I x27 :: .I x28 :: .I x29 :: .I x30 :: .I x31 :: .I x32 :: .I x33 :: .I x34 :: .C x35 :: .N x36 :: .C x37 :: .N x38 :: []) => some ((x37, x38), [.I x0, .C x1, .N x2, .I x3, .I x4, .I x5, .I x6, .I x7, .I x8, .I x9, .I x10, .I x11, .I x12, .I x13, .I x14, .I x15, .I x16, .I x17, .I x18, .I x19, .I x20, .I x21, .I x22, .I x23, .I x24, .I x25, .I x26, .I x27, .I x28, .I x29, .I x30, .I x31, .I x32, .I x33, .I x34, .C x35, .N x36])
  | _ => none)
 | _ => none
theorem BN : ∀ o ls e cl cc, oW o ls = some (e, cl) → cl = mU cc e → ls = wq cc e ∧ wo e = o ∧ o ≠ .normal ∧ ∀ v, o = .pan v → sc 0 v = true := by
 intro o ls e cl cc h hc
 unfold oW at h
 split at h
 ·split at h
  ·cases h
   simp only [mU, List.cons.injEq, af.I.injEq, af.N.injEq, af.C.injEq, and_true] at hc
   obtain ⟨rfl, rfl, rfl, rfl, rfl, rfl, rfl, rfl, rfl, rfl, rfl, rfl, rfl, rfl, rfl, rfl, rfl, rfl, rfl, rfl, rfl, rfl, rfl, rfl, rfl, rfl, rfl, rfl, rfl, rfl, rfl, rfl, rfl, rfl, rfl, rfl, rfl⟩ := hc
   exact ⟨rfl, rfl, by simp, by intro v hv; cases hv <;> rfl⟩
  ·cases h
 ·cases h
def H6 (o : an) : ExS := match o with
 | .exit 4 => ⟨6, (none :: some (.ptr 1 0) :: some (.ptr 2 0) :: some (.int .i64) :: some (.func 45 [] [.ptr 1 0]) :: none :: none :: none :: none :: some (.ptr 3 0) :: none :: some (.vec 5) :: (rl none 69 [])), [(1, .cells [.vec 0] true none), (0, .vec 3 false), (2, .cells (rl (.cK .u64 0) 32 [.aM]) true none), (3, .cells (rl (.int .u64) 32 [.vec 4]) true none), (4, .vec 1 true), (5, .vec 1 true)], fun s => [0, ak s 1 [], ak s 2 [], ak s 9 [], ak s 9 [.d 32], ak s 11 []], [], []⟩
 | _ => ⟨0, [], [], fun _ => [], [], []⟩
theorem GO {R : Type} (cc : jr) (v : LA_ × Nat × Int) (kn : (LA_ × Nat × Int) → Option R) (ke : ((LA_ × Nat)) → Option R) : fj cc v kn ke = (fj cc v (fun v => some (Sum.inl v)) fun e => some (Sum.inr e)).bind (Sum.elim kn ke) := by
 simp only [fj, bH, ai, Yg, bZ, bB, Ye, Yf, YF, YE]
def rz : LD where
 CC := jr
 V := LA_ × Nat × Int
 E := (LA_ × Nat)
 n := 1
 K := 7
 M := (none :: some (.ptr 1 0) :: some (.ptr 2 0) :: some (.int .i64) :: some (.func 45 [] [.ptr 1 0]) :: some (.vec 3) :: none :: none :: none :: some (.ptr 4 0) :: none :: some (.vec 6) :: (rl none 25 (some (.vec 5) :: some (.int .i64) :: some (.int .i64) :: (rl none 41 []))))
 B := [(1, .cells [.vec 0] true none), (0, .vec 3 false), (2, .cells (rl (.cK .u64 0) 32 [.aM]) true none), (3, .vec 1 false), (4, .cells (rl (.int .u64) 32 [.vec 5]) true none), (5, .vec 1 true), (6, .vec 1 true)]
 D := []
 pre := [(11, 1)]
 F := fun s => [0, ak s 1 [], ak s 2 [], ak s 5 [], ak s 9 [], ak s 9 [.d 32], ak s 11 []]
 toL := GN
 ofL := wn
 ar := fun ls c v h => by
  unfold wn at h
  split at h
  ·cases h; rfl
  ·cases h
 ct := fj
 nat := GO
 sh := H6
 out := wo
 toE := wq
 eY := mU
 ofE := oW
 cQ := BN
 post := fun cc e k => ((fun e => k (.exit 4) (bc 6 (none :: some (.ptr 1 0) :: some (.ptr 2 0) :: some (.int .i64 cc.2.2.1) :: some (.func 45 [] [.ptr 1 0]) :: none :: none :: none :: none :: some (.ptr 3 0) :: none :: some (.vec 5) :: (rl none 69 [])) [(1, .cells [.vec 0] true none), (0, .vec cc.1 cc.2.1 3 false), (2, .cells (rl (.int .u64 0) 32 [.aM]) true none), (3, .cells (v8 cc.s4.2.1 cc.s4.2.2.1 cc.s4.2.2.2.1 cc.s8.1 cc.s8.2.1 cc.s8.2.2.1 cc.s8.2.2.2.1 cc.s8.s4.1 (v8 cc.s8.s4.2.1 cc.s8.s4.2.2.1 cc.s8.s4.2.2.2.1 cc.s16.1 cc.s16.2.1 cc.s16.2.2.1 cc.s16.2.2.2.1 cc.s16.s4.1 (v8 cc.s16.s4.2.1 cc.s16.s4.2.2.1 cc.s16.s4.2.2.2.1 cc.s16.s8.1 cc.s16.s8.2.1 cc.s16.s8.2.2.1 cc.s16.s8.2.2.2.1 cc.s16.s8.s4.1 (v8 cc.s16.s8.s4.2.1 cc.s16.s8.s4.2.2.1 cc.s16.s8.s4.2.2.2.1 cc.s16.s16.1 cc.s16.s16.2.1 cc.s16.s16.2.2.1 cc.s16.s16.2.2.2.1 cc.s16.s16.s4.1 [.vec 4])))) true none), (4, .vec cc.s16.s16.s4.2.1 cc.s16.s16.s4.2.2.1 1 true), (5, .vec e.1 e.2 1 true)] [])) e)
 cd := fun cc e k => by rfl
theorem wt : cJ YI 1 rz.la (aJ Tryz.f34 2) :=
 LD.ok (ch := lR) (A := bw) aK ld mixed (fuel := 60) ⟨by kernel_rfl, fun e => by kernel_rfl, fun cc v => by kernel_rfl, aH (l := []) (by kernel_rfl) trivial⟩
def dV {R : Type} (cc : LA_ × Nat) (v : Int × LA_ × Nat) (kn : (Int × LA_ × Nat) → Option R) (ke : ((Int) ⊕ (js)) → Option R) : Option R :=
 (Option.bind (Dk (cc.1, cc.2, v.1, v.2.1, v.2.2, ((v.2.2 : Nat) : Int)) (([] : LA_), 0, 0)) fun e1 => (Option.bind (dU e1.1 e1.2) fun r2 => (Option.bind (AO (cc.1, cc.2, v.1, v.2.1, v.2.2, (aa r2.1 0), (aa r2.1 1), (aa r2.1 2), (aa r2.1 3), (aa r2.1 4), (aa r2.1 5), (aa r2.1 6), (aa r2.1 7), (aa r2.2.1 0), (aa r2.2.1 1), (aa r2.2.1 2), (aa r2.2.1 3), (aa r2.2.1 4), (aa r2.2.1 5), (aa r2.2.1 6), (aa r2.2.1 7), (aa r2.2.2.1 0), (aa r2.2.2.1 1), (aa r2.2.2.1 2), (aa r2.2.2.1 3), (aa r2.2.2.1 4), (aa r2.2.2.1 5), (aa r2.2.2.1 6), (aa r2.2.2.1 7), (aa r2.2.2.2.1 0), (aa r2.2.2.2.1 1), (aa r2.2.2.2.1 2), (aa r2.2.2.2.1 3), (aa r2.2.2.2.1 4), (aa r2.2.2.2.1 5), (aa r2.2.2.2.1 6), (aa r2.2.2.2.1 7), r2.2.2.2.2.2.1, r2.2.2.2.2.2.2, ((r2.2.2.2.2.2.2 : Nat) : Int)) (([] : LA_), 0, 0)) fun e3 => (Option.bind (rv ((cc.2 : Nat) : Int)) fun r4 => (cond (decide ((IntKind.wrap .i64 (v.1 + 1)) > r4)) (ke (.inl (IntKind.wrap .i64 (v.1 + 1)))) (Option.bind (vu r2.1 r2.2.1 r2.2.2.1 r2.2.2.2.1 e3.1 e3.2 cc.1 cc.2) fun r5 => (ah (decide (0 ≤ r5) && decide (r5 < ((cc.2 : Nat) : Int))) (ah (aw kR cc.1 (Int.toNat r5 * 3)) (Option.bind (tM r2.1 r2.2.1 r2.2.2.1 r2.2.2.2.1 e3.1 e3.2 (ac cc.1 ((Int.toNat r5 * 3) + 0)) (ac cc.1 ((Int.toNat r5 * 3) + 1)) (ac cc.1 ((Int.toNat r5 * 3) + 2))) fun r6 => (cond r6 (cond (Nat.beq e3.2 1) (ah (aw [.int .i64] e3.1 0 && Nat.beq (List.length e3.1) 1) (Option.bind (aF r5 (ac e3.1 0)) fun r35 => (cond r35 (kn ((IntKind.wrap .i64 (v.1 + 1)), ([.int .i64 r5, .int .i64 (ac e3.1 0)] : LA_), 2)) (kn ((IntKind.wrap .i64 (v.1 + 1)), ([.int .i64 (ac e3.1 0), .int .i64 r5] : LA_), 2))))) (cond (Nat.beq e3.2 2) (ah (aw [.int .i64, .int .i64] e3.1 0 && Nat.beq (List.length e3.1) 2) (Option.bind (aF (ac e3.1 1) (ac e3.1 0)) fun r30 => (cond r30 (Option.bind (aF r5 (ac e3.1 0)) fun r31 => (cond r31 (Option.bind (aF r5 (ac e3.1 1)) fun r32 => (cond r32 (kn ((IntKind.wrap .i64 (v.1 + 1)), ([.int .i64 r5, .int .i64 (ac e3.1 1), .int .i64 (ac e3.1 0)] : LA_), 3)) (kn ((IntKind.wrap .i64 (v.1 + 1)), ([.int .i64 (ac e3.1 1), .int .i64 r5, .int .i64 (ac e3.1 0)] : LA_), 3)))) (kn ((IntKind.wrap .i64 (v.1 + 1)), ([.int .i64 (ac e3.1 1), .int .i64 (ac e3.1 0), .int .i64 r5] : LA_), 3)))) (Option.bind (aF r5 (ac e3.1 1)) fun r33 => (cond r33 (Option.bind (aF r5 (ac e3.1 0)) fun r34 => (cond r34 (kn ((IntKind.wrap .i64 (v.1 + 1)), ([.int .i64 r5, .int .i64 (ac e3.1 0), .int .i64 (ac e3.1 1)] : LA_), 3)) (kn ((IntKind.wrap .i64 (v.1 + 1)), ([.int .i64 (ac e3.1 0), .int .i64 r5, .int .i64 (ac e3.1 1)] : LA_), 3)))) (kn ((IntKind.wrap .i64 (v.1 + 1)), ([.int .i64 (ac e3.1 0), .int .i64 (ac e3.1 1), .int .i64 r5] : LA_), 3))))))) (cond (Nat.beq e3.2 3) (ah (aw kR e3.1 0 && Nat.beq (List.length e3.1) 3) (Option.bind (aF (ac e3.1 1) (ac e3.1 0)) fun r7 => (cond r7 (Option.bind (aF (ac e3.1 2) (ac e3.1 0)) fun r8 => (cond r8 (Option.bind (aF (ac e3.1 2) (ac e3.1 1)) fun r9 => (cond r9 (Option.bind (aF r5 (ac e3.1 0)) fun r10 => (cond r10 (Option.bind (aF r5 (ac e3.1 1)) fun r11 => (cond r11 (Option.bind (aF r5 (ac e3.1 2)) fun r12 => (cond r12 (kn ((IntKind.wrap .i64 (v.1 + 1)), ([.int .i64 r5, .int .i64 (ac e3.1 2), .int .i64 (ac e3.1 1), .int .i64 (ac e3.1 0)] : LA_), 4)) (kn ((IntKind.wrap .i64 (v.1 + 1)), ([.int .i64 (ac e3.1 2), .int .i64 r5, .int .i64 (ac e3.1 1), .int .i64 (ac e3.1 0)] : LA_), 4)))) (kn ((IntKind.wrap .i64 (v.1 + 1)), ([.int .i64 (ac e3.1 2), .int .i64 (ac e3.1 1), .int .i64 r5, .int .i64 (ac e3.1 0)] : LA_), 4)))) (kn ((IntKind.wrap .i64 (v.1 + 1)), ([.int .i64 (ac e3.1 2), .int .i64 (ac e3.1 1), .int .i64 (ac e3.1 0), .int .i64 r5] : LA_), 4)))) (Option.bind (aF r5 (ac e3.1 0)) fun r13 => (cond r13 (Option.bind (aF r5 (ac e3.1 2)) fun r14 => (cond r14 (Option.bind (aF r5 (ac e3.1 1)) fun r15 => (cond r15 (kn ((IntKind.wrap .i64 (v.1 + 1)), ([.int .i64 r5, .int .i64 (ac e3.1 1), .int .i64 (ac e3.1 2), .int .i64 (ac e3.1 0)] : LA_), 4)) (kn ((IntKind.wrap .i64 (v.1 + 1)), ([.int .i64 (ac e3.1 1), .int .i64 r5, .int .i64 (ac e3.1 2), .int .i64 (ac e3.1 0)] : LA_), 4)))) (kn ((IntKind.wrap .i64 (v.1 + 1)), ([.int .i64 (ac e3.1 1), .int .i64 (ac e3.1 2), .int .i64 r5, .int .i64 (ac e3.1 0)] : LA_), 4)))) (kn ((IntKind.wrap .i64 (v.1 + 1)), ([.int .i64 (ac e3.1 1), .int .i64 (ac e3.1 2), .int .i64 (ac e3.1 0), .int .i64 r5] : LA_), 4)))))) (Option.bind (aF r5 (ac e3.1 2)) fun r16 => (cond r16 (Option.bind (aF r5 (ac e3.1 0)) fun r17 => (cond r17 (Option.bind (aF r5 (ac e3.1 1)) fun r18 => (cond r18 (kn ((IntKind.wrap .i64 (v.1 + 1)), ([.int .i64 r5, .int .i64 (ac e3.1 1), .int .i64 (ac e3.1 0), .int .i64 (ac e3.1 2)] : LA_), 4)) (kn ((IntKind.wrap .i64 (v.1 + 1)), ([.int .i64 (ac e3.1 1), .int .i64 r5, .int .i64 (ac e3.1 0), .int .i64 (ac e3.1 2)] : LA_), 4)))) (kn ((IntKind.wrap .i64 (v.1 + 1)), ([.int .i64 (ac e3.1 1), .int .i64 (ac e3.1 0), .int .i64 r5, .int .i64 (ac e3.1 2)] : LA_), 4)))) (kn ((IntKind.wrap .i64 (v.1 + 1)), ([.int .i64 (ac e3.1 1), .int .i64 (ac e3.1 0), .int .i64 (ac e3.1 2), .int .i64 r5] : LA_), 4)))))) (Option.bind (aF (ac e3.1 2) (ac e3.1 1)) fun r19 => (cond r19 (Option.bind (aF (ac e3.1 2) (ac e3.1 0)) fun r20 => (cond r20 (Option.bind (aF r5 (ac e3.1 1)) fun r21 => (cond r21 (Option.bind (aF r5 (ac e3.1 0)) fun r22 => (cond r22 (Option.bind (aF r5 (ac e3.1 2)) fun r23 => (cond r23 (kn ((IntKind.wrap .i64 (v.1 + 1)), ([.int .i64 r5, .int .i64 (ac e3.1 2), .int .i64 (ac e3.1 0), .int .i64 (ac e3.1 1)] : LA_), 4)) (kn ((IntKind.wrap .i64 (v.1 + 1)), ([.int .i64 (ac e3.1 2), .int .i64 r5, .int .i64 (ac e3.1 0), .int .i64 (ac e3.1 1)] : LA_), 4)))) (kn ((IntKind.wrap .i64 (v.1 + 1)), ([.int .i64 (ac e3.1 2), .int .i64 (ac e3.1 0), .int .i64 r5, .int .i64 (ac e3.1 1)] : LA_), 4)))) (kn ((IntKind.wrap .i64 (v.1 + 1)), ([.int .i64 (ac e3.1 2), .int .i64 (ac e3.1 0), .int .i64 (ac e3.1 1), .int .i64 r5] : LA_), 4)))) (Option.bind (aF r5 (ac e3.1 1)) fun r24 => (cond r24 (Option.bind (aF r5 (ac e3.1 2)) fun r25 => (cond r25 (Option.bind (aF r5 (ac e3.1 0)) fun r26 => (cond r26 (kn ((IntKind.wrap .i64 (v.1 + 1)), ([.int .i64 r5, .int .i64 (ac e3.1 0), .int .i64 (ac e3.1 2), .int .i64 (ac e3.1 1)] : LA_), 4)) (kn ((IntKind.wrap .i64 (v.1 + 1)), ([.int .i64 (ac e3.1 0), .int .i64 r5, .int .i64 (ac e3.1 2), .int .i64 (ac e3.1 1)] : LA_), 4)))) (kn ((IntKind.wrap .i64 (v.1 + 1)), ([.int .i64 (ac e3.1 0), .int .i64 (ac e3.1 2), .int .i64 r5, .int .i64 (ac e3.1 1)] : LA_), 4)))) (kn ((IntKind.wrap .i64 (v.1 + 1)), ([.int .i64 (ac e3.1 0), .int .i64 (ac e3.1 2), .int .i64 (ac e3.1 1), .int .i64 r5] : LA_), 4)))))) (Option.bind (aF r5 (ac e3.1 2)) fun r27 => (cond r27 (Option.bind (aF r5 (ac e3.1 1)) fun r28 => (cond r28 (Option.bind (aF r5 (ac e3.1 0)) fun r29 => (cond r29 (kn ((IntKind.wrap .i64 (v.1 + 1)), ([.int .i64 r5, .int .i64 (ac e3.1 0), .int .i64 (ac e3.1 1), .int .i64 (ac e3.1 2)] : LA_), 4)) (kn ((IntKind.wrap .i64 (v.1 + 1)), ([.int .i64 (ac e3.1 0), .int .i64 r5, .int .i64 (ac e3.1 1), .int .i64 (ac e3.1 2)] : LA_), 4)))) (kn ((IntKind.wrap .i64 (v.1 + 1)), ([.int .i64 (ac e3.1 0), .int .i64 (ac e3.1 1), .int .i64 r5, .int .i64 (ac e3.1 2)] : LA_), 4)))) (kn ((IntKind.wrap .i64 (v.1 + 1)), ([.int .i64 (ac e3.1 0), .int .i64 (ac e3.1 1), .int .i64 (ac e3.1 2), .int .i64 r5] : LA_), 4))))))))) none))) (ke (.inr (be r2.1 (be r2.2.1 (be r2.2.2.1 (be r2.2.2.2.1 (e3.1, e3.2, (IntKind.wrap .i64 (v.1 + 1)))))))))))))))))))
def dB (cc : LA_ × Nat) (v : Int × LA_ × Nat) : Option ((Int × LA_ × Nat) ⊕ ((Int) ⊕ (js))) := dV cc v (fun v => some (Sum.inl v)) fun e => some (Sum.inr e)
def vv (cc : LA_ × Nat) (v : Int × LA_ × Nat) : Option ((Int) ⊕ (js)) := dz (dB cc) v
def H7 (cc : LA_ × Nat) (v : Int × LA_ × Nat) : List af := [.I v.1, .C cc.1, .N cc.2, .C v.2.1, .N v.2.2]
def xL (ls : List af) : Option ((LA_ × Nat) × (Int × LA_ × Nat)) := match ls with
 | [.I x0, .C x1, .N x2, .C x3, .N x4] => some ((x1, x2), (x0, x3, x4))
 | _ => none
def xM (e : (Int) ⊕ (js)) : an := ((Sum.elim (fun e => .pan (.iface 90 (.agg []))) (fun e => .ret)) e)
def xN (cc : LA_ × Nat) (e : (Int) ⊕ (js)) : List af := ((Sum.elim (fun e => [.I e]) (fun e => [.I e.s16.s16.2.2, .I e.1, .I e.2.1, .I e.2.2.1, .I e.2.2.2.1, .I e.s4.1, .I e.s4.2.1, .I e.s4.2.2.1, .I e.s4.2.2.2.1, .I e.s8.1, .I e.s8.2.1, .I e.s8.2.2.1, .I e.s8.2.2.2.1, .I e.s8.s4.1, .I e.s8.s4.2.1, .I e.s8.s4.2.2.1, .I e.s8.s4.2.2.2.1, .I e.s16.1, .I e.s16.2.1, .I e.s16.2.2.1, .I e.s16.2.2.2.1, .I e.s16.s4.1, .I e.s16.s4.2.1, .I e.s16.s4.2.2.1, .I e.s16.s4.2.2.2.1, .I e.s16.s8.1, .I e.s16.s8.2.1, .I e.s16.s8.2.2.1, .I e.s16.s8.2.2.2.1, .I e.s16.s8.s4.1, .I e.s16.s8.s4.2.1, .I e.s16.s8.s4.2.2.1, .I e.s16.s8.s4.2.2.2.1, .C e.s16.s16.1, .N e.s16.s16.2.1])) e)
def wu (cc : LA_ × Nat) (e : (Int) ⊕ (js)) : List af := ((Sum.elim (fun e => []) (fun e => [])) e)
def p9 (o : an) (ls : List af) : Option (((Int) ⊕ (js)) × List af) := match o with
 | .pan (.iface 90 (.agg [])) => (match ls with
  | [.I x0] => some ((.inl x0), [])
  | _ => none)
 | .ret => (match ls with
  | (.I x0 :: .I x1 :: .I x2 :: .I x3 :: .I x4 :: .I x5 :: .I x6 :: .I x7 :: .I x8 :: .I x9 :: .I x10 :: .I x11 :: .I x12 :: .I x13 :: .I x14 :: .I x15 :: .I x16 :: .I x17 :: .I x18 :: .I x19 :: .I x20 :: .I x21 :: .I x22 :: .I x23 :: .I x24 :: .I x25 :: .I x26 :: .I x27 :: .I x28 :: .I x29 :: .I x30 :: .I x31 :: .I x32 :: .C x33 :: .N x34 :: []) => some ((.inr (x1, x2, x3, x4, x5, x6, x7, x8, x9, x10, x11, x12, x13, x14, x15, x16, x17, x18, x19, x20, x21, x22, x23, x24, x25, x26, x27, x28, x29, x30, x31, x32, x33, x34, x0)), [])
  | _ => none)
 | _ => none
theorem DH : ∀ o ls e cl cc, p9 o ls = some (e, cl) → cl = wu cc e → ls = xN cc e ∧ xM e = o ∧ o ≠ .normal ∧ ∀ v, o = .pan v → sc 0 v = true := by
 intro o ls e cl cc h hc
 unfold p9 at h
 split at h
 ·split at h
  ·cases h
   exact ⟨rfl, rfl, by simp, by intro v hv; cases hv <;> rfl⟩
  ·cases h
 ·split at h
  ·cases h
   exact ⟨rfl, rfl, by simp, by intro v hv; cases hv <;> rfl⟩
  ·cases h
 ·cases h
def JA (o : an) : ExS := match o with
 | .pan (.iface 90 (.agg [])) => ⟨2, (none :: none :: some (.ptr 1 0) :: some (.int .i64) :: (rl none 77 [])), [(1, .cells (rl (.cK .u64 0) 32 [.aM]) true none)], fun s => [0, ak s 2 []], [], []⟩
 | .ret => ⟨3, (none :: none :: some (.ptr 1 0) :: some (.int .i64) :: (rl none 77 [])), [(1, .cells (rl (.int .u64) 32 [.vec 2]) true none), (2, .vec 1 true)], fun s => [0, ak s 2 [], ak s 2 [.d 32]], [], []⟩
 | _ => ⟨0, [], [], fun _ => [], [], []⟩
theorem H8 {R : Type} (cc : LA_ × Nat) (v : Int × LA_ × Nat) (kn : (Int × LA_ × Nat) → Option R) (ke : ((Int) ⊕ (js)) → Option R) : dV cc v kn ke = (dV cc v (fun v => some (Sum.inl v)) fun e => some (Sum.inr e)).bind (Sum.elim kn ke) := by
 simp only [dV, bH, ai, Yg, bZ, bB, Ye, Yf, YF, YE]
def AP : LD where
 CC := LA_ × Nat
 V := Int × LA_ × Nat
 E := (Int) ⊕ (js)
 n := 1
 K := 4
 M := (none :: some (.ptr 1 0) :: some (.ptr 2 0) :: some (.int .i64) :: some (.func 45 [] [.ptr 1 0]) :: some (.vec 3) :: (rl none 75 []))
 B := [(1, .cells [.vec 0] true none), (0, .vec 3 false), (2, .cells (rl (.cK .u64 0) 32 [.aM]) true none), (3, .vec 1 false)]
 D := []
 pre := [(1000000000005, 1)]
 F := fun s => [0, ak s 1 [], ak s 2 [], ak s 5 []]
 toL := H7
 ofL := xL
 ar := fun ls c v h => by
  unfold xL at h
  split at h
  ·cases h; rfl
  ·cases h
 ct := dV
 nat := H8
 sh := JA
 out := xM
 toE := xN
 eY := wu
 ofE := p9
 cQ := DH
 post := fun cc e k => ((Sum.elim (fun e => k (.pan (.iface 90 (.agg []))) (bc 2 (none :: none :: some (.ptr 1 0) :: some (.int .i64 e) :: (rl none 77 [])) [(1, .cells (rl (.int .u64 0) 32 [.aM]) true none)] [])) (fun e => k (.ret) (bc 3 (none :: none :: some (.ptr 1 0) :: some (.int .i64 e.s16.s16.2.2) :: (rl none 77 [])) [(1, .cells (v8 e.1 e.2.1 e.2.2.1 e.2.2.2.1 e.s4.1 e.s4.2.1 e.s4.2.2.1 e.s4.2.2.2.1 (v8 e.s8.1 e.s8.2.1 e.s8.2.2.1 e.s8.2.2.2.1 e.s8.s4.1 e.s8.s4.2.1 e.s8.s4.2.2.1 e.s8.s4.2.2.2.1 (v8 e.s16.1 e.s16.2.1 e.s16.2.2.1 e.s16.2.2.2.1 e.s16.s4.1 e.s16.s4.2.1 e.s16.s4.2.2.1 e.s16.s4.2.2.2.1 (v8 e.s16.s8.1 e.s16.s8.2.1 e.s16.s8.2.2.1 e.s16.s8.2.2.2.1 e.s16.s8.s4.1 e.s16.s8.s4.2.1 e.s16.s8.s4.2.2.1 e.s16.s8.s4.2.2.2.1 [.vec 2])))) true none), (2, .vec e.s16.s16.1 e.s16.s16.2.1 1 true)] []))) e)
 cd := fun cc e k => by rcases e with e | e <;> rfl
theorem H9 : cJ YI 1 AP.la (aJ Tryz.f34 0) :=
 LD.ok (ch := lR) (A := dL [(5, tL.la), (12, rz.la)]) aK ld mixed (fuel := 60) ⟨by kernel_rfl, fun e => by (rcases e with e | e <;> kernel_rfl), fun cc v => by kernel_rfl, aH (l := [aJ Tryz.f34 1, aJ Tryz.f34 2]) (by kernel_rfl) ⟨bT (by kernel_rfl) xK, bT (by kernel_rfl) wt, trivial⟩⟩
def wL (cs0 : LA_) (n1 : Nat) : Option (EF) :=
 (Option.bind (vv (cs0, n1) (0, ([.int .i64 0] : LA_), 1)) (Sum.elim (fun e1 => none) (fun e1 => (some (e1.1, e1.2.1, e1.2.2.1, e1.2.2.2.1, e1.2.2.2.2.1, e1.2.2.2.2.2.1, e1.2.2.2.2.2.2.1, e1.2.2.2.2.2.2.2.1, e1.2.2.2.2.2.2.2.2.1, e1.2.2.2.2.2.2.2.2.2.1, e1.2.2.2.2.2.2.2.2.2.2.1, e1.2.2.2.2.2.2.2.2.2.2.2.1, e1.2.2.2.2.2.2.2.2.2.2.2.2.1, e1.2.2.2.2.2.2.2.2.2.2.2.2.2.1, e1.2.2.2.2.2.2.2.2.2.2.2.2.2.2.1, e1.2.2.2.2.2.2.2.2.2.2.2.2.2.2.2.1, e1.2.2.2.2.2.2.2.2.2.2.2.2.2.2.2.2.1, e1.2.2.2.2.2.2.2.2.2.2.2.2.2.2.2.2.2.1, e1.2.2.2.2.2.2.2.2.2.2.2.2.2.2.2.2.2.2.1, e1.2.2.2.2.2.2.2.2.2.2.2.2.2.2.2.2.2.2.2.1, e1.2.2.2.2.2.2.2.2.2.2.2.2.2.2.2.2.2.2.2.2.1, e1.2.2.2.2.2.2.2.2.2.2.2.2.2.2.2.2.2.2.2.2.2.1, e1.2.2.2.2.2.2.2.2.2.2.2.2.2.2.2.2.2.2.2.2.2.2.1, e1.2.2.2.2.2.2.2.2.2.2.2.2.2.2.2.2.2.2.2.2.2.2.2.1, e1.2.2.2.2.2.2.2.2.2.2.2.2.2.2.2.2.2.2.2.2.2.2.2.2.1, e1.2.2.2.2.2.2.2.2.2.2.2.2.2.2.2.2.2.2.2.2.2.2.2.2.2.1, e1.2.2.2.2.2.2.2.2.2.2.2.2.2.2.2.2.2.2.2.2.2.2.2.2.2.2.1, e1.2.2.2.2.2.2.2.2.2.2.2.2.2.2.2.2.2.2.2.2.2.2.2.2.2.2.2.1, e1.2.2.2.2.2.2.2.2.2.2.2.2.2.2.2.2.2.2.2.2.2.2.2.2.2.2.2.2.1, e1.2.2.2.2.2.2.2.2.2.2.2.2.2.2.2.2.2.2.2.2.2.2.2.2.2.2.2.2.2.1, e1.2.2.2.2.2.2.2.2.2.2.2.2.2.2.2.2.2.2.2.2.2.2.2.2.2.2.2.2.2.2.1, e1.2.2.2.2.2.2.2.2.2.2.2.2.2.2.2.2.2.2.2.2.2.2.2.2.2.2.2.2.2.2.2.1, e1.2.2.2.2.2.2.2.2.2.2.2.2.2.2.2.2.2.2.2.2.2.2.2.2.2.2.2.2.2.2.2.2.2.2, e1.2.2.2.2.2.2.2.2.2.2.2.2.2.2.2.2.2.2.2.2.2.2.2.2.2.2.2.2.2.2.2.2.1, e1.2.2.2.2.2.2.2.2.2.2.2.2.2.2.2.2.2.2.2.2.2.2.2.2.2.2.2.2.2.2.2.2.2.1)))))
def gl : FD where
 X := EF
 k := 1
 pre := []
 F := fun s => [0, ak s 0 [.c 0, .c 32]]
 M := .tup [.agg (rl (.int .u64) 32 [.vec 1]), .int .i64]
 B := [.vec 1 true]
 toL := fun x => [.I x.1, .I x.2.1, .I x.2.2.1, .I x.2.2.2.1, .I x.s4.1, .I x.s4.2.1, .I x.s4.2.2.1, .I x.s4.2.2.2.1, .I x.s8.1, .I x.s8.2.1, .I x.s8.2.2.1, .I x.s8.2.2.2.1, .I x.s8.s4.1, .I x.s8.s4.2.1, .I x.s8.s4.2.2.1, .I x.s8.s4.2.2.2.1, .I x.s16.1, .I x.s16.2.1, .I x.s16.2.2.1, .I x.s16.2.2.2.1, .I x.s16.s4.1, .I x.s16.s4.2.1, .I x.s16.s4.2.2.1, .I x.s16.s4.2.2.2.1, .I x.s16.s8.1, .I x.s16.s8.2.1, .I x.s16.s8.2.2.1, .I x.s16.s8.2.2.2.1, .I x.s16.s8.s4.1, .I x.s16.s8.s4.2.1, .I x.s16.s8.s4.2.2.1, .I x.s16.s8.s4.2.2.2.1, .I x.s16.s16.1, .C x.s16.s16.2.1, .N x.s16.s16.2.2]
 ofL := fun ls => match ls with
  | (.I x0 :: .I x1 :: .I x2 :: .I x3 :: .I x4 :: .I x5 :: .I x6 :: .I x7 :: .I x8 :: .I x9 :: .I x10 :: .I x11 :: .I x12 :: .I x13 :: .I x14 :: .I x15 :: .I x16 :: .I x17 :: .I x18 :: .I x19 :: .I x20 :: .I x21 :: .I x22 :: .I x23 :: .I x24 :: .I x25 :: .I x26 :: .I x27 :: .I x28 :: .I x29 :: .I x30 :: .I x31 :: .I x32 :: .C x33 :: .N x34 :: []) => some (x0, x1, x2, x3, x4, x5, x6, x7, x8, x9, x10, x11, x12, x13, x14, x15, x16, x17, x18, x19, x20, x21, x22, x23, x24, x25, x26, x27, x28, x29, x30, x31, x32, x33, x34)
  | _ => none
 ar := fun ls x h => by
  split at h
  ·cases h; rfl
  ·cases h
theorem KX (cs0 : LA_) (n1 : Nat) (x : EF) (h : wL cs0 n1 = some x) : aP YI 34 1 [.vec 0] [.vec cs0 n1 3 false] gl x :=
 FD.sem (ch := lR) (A := dL [(5, tL.la), (12, rz.la), (3, AP.la)]) (fn := Tryz.f34) (c := br Tryz.f34) (fuel := 60) aK ld mixed bI gl Tryz.func34 (by kernel_rfl) (aH (l := [aJ Tryz.f34 0, aJ Tryz.f34 1, aJ Tryz.f34 2]) (by kernel_rfl) ⟨bT (by kernel_rfl) H9, bT (by kernel_rfl) xK, bT (by kernel_rfl) wt, trivial⟩)
  (by kernel_rfl) (Eq.trans (by kernel_rfl) h)
def k9 (cs0 : LA_) (n1 : Nat) : Option (zm) := Option.bind (wL cs0 n1) fun (x0, x1, x2, x3, x4, x5, x6, x7, x8, x9, x10, x11, x12, x13, x14, x15, x16, x17, x18, x19, x20, x21, x22, x23, x24, x25, x26, x27, x28, x29, x30, x31, x32, x33, x34) => ah (ok8 x0 x1 x2 x3 x4 x5 x6 x7 && ok8 x8 x9 x10 x11 x12 x13 x14 x15 && ok8 x16 x17 x18 x19 x20 x21 x22 x23 && ok8 x24 x25 x26 x27 x28 x29 x30 x31) (some ((num x0 x1 x2 x3 x4 x5 x6 x7), (num x8 x9 x10 x11 x12 x13 x14 x15), (num x16 x17 x18 x19 x20 x21 x22 x23), (num x24 x25 x26 x27 x28 x29 x30 x31), x32, x33, x34))
def xO : FD := ⟨zm, gl.k, gl.pre, gl.F, gl.M, gl.B, fun y => gl.toL (be y.1 (be y.2.1 (be y.2.2.1 (be y.2.2.2.1 (y.s4.1, y.s4.2.1, y.s4.2.2))))), fun _ => none, fun _ _ h => by cases h⟩
theorem Mu (cs0 : LA_) (n1 : Nat) {y : zm} (h : k9 cs0 n1 = some y) : wL cs0 n1 = some (be y.1 (be y.2.1 (be y.2.2.1 (be y.2.2.2.1 (y.s4.1, y.s4.2.1, y.s4.2.2))))) := by
 unfold k9 at h
 obtain ⟨⟨x0, x1, x2, x3, x4, x5, x6, x7, x8, x9, x10, x11, x12, x13, x14, x15, x16, x17, x18, x19, x20, x21, x22, x23, x24, x25, x26, x27, x28, x29, x30, x31, x32, x33, x34⟩, h1, h2⟩ := bE_ h
 obtain ⟨h3, h4⟩ := aL h2
 simp only [Yi, and_assoc] at h3
 simp only [Yh] at h4
 subst h4
 obtain ⟨o0, o1, o2, o3⟩ := h3
 have q0 := aR o0
 have q1 := aR o1
 have q2 := aR o2
 have q3 := aR o3
 rw [h1]
 simp only [be, q0, q1, q2, q3]
theorem KY (cs0 : LA_) (n1 : Nat) (y : zm) (h : k9 cs0 n1 = some y) : aP YI 34 1 [.vec 0] [.vec cs0 n1 3 false] xO y := KX cs0 n1 _ (Mu cs0 n1 h)
def BJ : HK where
 call := fun args σ k => match args with
  | [x0] => cO σ 3 x0 fun cs0 n1 => Option.bind (k9 cs0 n1) fun y => au σ 1 (xO.val y) (xO.aI y) k
  | _ => none
 nat := fun args σ k => by
  repeat' split
  all_goals simp only [ao, ai, Yg, Yf, au, Ye]
 pure := false
 pok := fun h => by cases h
theorem Mp : aN YI 34 BJ := by
 intro args σ r σ' h
 simp only [BJ] at h
 split at h
 ·rename_i x0
  obtain ⟨cs0, n1, he0, hf0, h⟩ := bv h
  obtain ⟨y, hy, h⟩ := bE_ h
  exact aG (xs := [x0]) (ls := [.vec cs0 n1 3 false]) (cargs := [.vec 0]) (bg.of ⟨⟨rfl, he0, hf0, by decide⟩, trivial⟩) rfl (KY cs0 n1 y hy) rfl rfl rfl rfl h
 ·cases h
def cI (l : List Nat) : LA_ := ics (l.map fun i => ((i : Nat) : Int))
theorem PX {l : List Nat} {i : Nat} (h : i < l.length) : (cI l)[i * 1 + 0]? = some (.int .i64 ((l.getD i 0 : Nat) : Int)) := by
 simp [cI, ics, List.getElem?_map, Yp h, Yq]
theorem nig {l : List Nat} {i : Nat} (h : i < l.length) : ac (cI l) (i * 1 + 0) = ((l.getD i 0 : Nat) : Int) := by unfold ac; rw [PX h]
theorem TA {l : List Nat} {i : Nat} (h : i < l.length) : aw [.int .i64] (cI l) (i * 1) = true := by
 have := PX h
 simp only [Nat.mul_one, Nat.add_zero] at this
 simp [aw, this, isK]
theorem TB (a b : List Nat) : cI (a ++ b) = cI a ++ cI b := by simp [cI, ics]
theorem TC (l : List Pt) (a b : List Nat) : pick l (a ++ b) = pick l a ++ pick l b := by simp [pick]
theorem PY {l : List Nat} {n i : Nat} (hb : ∀ x ∈ l, x < n) (h : i < l.length) : l.getD i 0 < n := by
 rw [Yq, Yp h]; exact hb _ (List.getElem_mem h)
theorem take_succ {l : List Nat} {i : Nat} (h : i < l.length) : l.take (i + 1) = l.take i ++ [l.getD i 0] := by
 rw [List.take_add_one, Yp h]; simp [Yq, Yp h]
theorem Sg {l : List Pt} {at_ : List Nat} (hb : ∀ x ∈ at_, x < l.length) (h5 : at_.length ≤ 100) (st : Int) :
  Dk (pcs l, l.length, st, cI at_, at_.length, ((at_.length : Nat) : Int)) ([], 0, 0) = some (pcs (pick l at_), at_.length) := by
 have key : ∀ (n i : Nat), at_.length - i = n → i ≤ at_.length → iter (n9 (pcs l, l.length, st, cI at_, at_.length, ((at_.length : Nat) : Int))) (n + 1) (pcs (pick l (at_.take i)), i, (i : Int)) = some (pcs (pick l at_), at_.length) := by
  intro n
  induction n with
  | zero =>
   intro i hn hi
   have he : i = at_.length := by omega
   subst he
   refine cw 0 ?_
   simp only [n9, fW, Ym (show ¬ ((at_.length : Int) < ((at_.length : Nat) : Int)) by omega), cond_false, List.take_length]
  | succ n ih =>
   intro i hn hi
   have h : i < at_.length := by omega
   have wr : IntKind.wrap .i64 ((i : Int) + 1) = ((i + 1 : Nat) : Int) := by rw [bM (by omega)]; omega
   have hk := PY hb h
   have d2 : decide (2 * (i + 1) * 24 ≤ 2 ^ 48) = true := Yn (by omega)
   refine bG ?_ (ih (i + 1) (by omega) (by omega))
   simp only [n9, fW, decLt h, eQ, cond_true, Yl, az, fB, TA h, nig h, decLt hk, pro hk, pg0 hk, pg1 hk, pg2 hk, d2, wr, take_succ h, TC, Bv]
   rfl
 have := key at_.length 0 (by omega) (by omega)
 exact dt (by unfold kM; omega) this
theorem TD {l : List Pt} {at_ ch : List Nat} (hb : ∀ x ∈ ch, x < at_.length) (h5 : ch.length ≤ 100) (st : Int) (N : Pt) (D : Int) :
  AO (pcs l, l.length, st, cI at_, at_.length, aa N.1 0, aa N.1 1, aa N.1 2, aa N.1 3, aa N.1 4, aa N.1 5, aa N.1 6, aa N.1 7, aa N.2.1 0, aa N.2.1 1, aa N.2.1 2, aa N.2.1 3, aa N.2.1 4, aa N.2.1 5, aa N.2.1 6, aa N.2.1 7, aa N.2.2 0, aa N.2.2 1, aa N.2.2 2, aa N.2.2 3, aa N.2.2 4, aa N.2.2 5, aa N.2.2 6, aa N.2.2 7, aa D 0, aa D 1, aa D 2, aa D 3, aa D 4, aa D 5, aa D 6, aa D 7, cI ch, ch.length, ((ch.length : Nat) : Int)) ([], 0, 0) = some (cI (ch.map fun i => at_.getD i 0), ch.length) := by
 have key : ∀ (n i : Nat), ch.length - i = n → i ≤ ch.length → iter (mG (pcs l, l.length, st, cI at_, at_.length, aa N.1 0, aa N.1 1, aa N.1 2, aa N.1 3, aa N.1 4, aa N.1 5, aa N.1 6, aa N.1 7, aa N.2.1 0, aa N.2.1 1, aa N.2.1 2, aa N.2.1 3, aa N.2.1 4, aa N.2.1 5, aa N.2.1 6, aa N.2.1 7, aa N.2.2 0, aa N.2.2 1, aa N.2.2 2, aa N.2.2 3, aa N.2.2 4, aa N.2.2 5, aa N.2.2 6, aa N.2.2 7, aa D 0, aa D 1, aa D 2, aa D 3, aa D 4, aa D 5, aa D 6, aa D 7, cI ch, ch.length, ((ch.length : Nat) : Int))) (n + 1) (cI ((ch.take i).map fun i => at_.getD i 0), i, (i : Int)) = some (cI (ch.map fun i => at_.getD i 0), ch.length) := by
  intro n
  induction n with
  | zero =>
   intro i hn hi
   have he : i = ch.length := by omega
   subst he
   refine cw 0 ?_
   simp only [mG, fj, Ym (show ¬ ((ch.length : Int) < ((ch.length : Nat) : Int)) by omega), cond_false, List.take_length]
  | succ n ih =>
   intro i hn hi
   have h : i < ch.length := by omega
   have wr : IntKind.wrap .i64 ((i : Int) + 1) = ((i + 1 : Nat) : Int) := by rw [bM (by omega)]; omega
   have hk := PY hb h
   have d2 : decide (2 * (i + 1) * 8 ≤ 2 ^ 48) = true := Yn (by omega)
   refine bG ?_ (ih (i + 1) (by omega) (by omega))
   simp only [mG, fj, decLt h, eQ, cond_true, Yl, az, fB, TA h, nig h, decLt hk, TA hk, nig hk, d2, wr, take_succ h, List.map_append, TB]
   rfl
 have := key ch.length 0 (by omega) (by omega)
 exact dt (by unfold kM; omega) this
theorem Sh {l : List Pt} {N : Pt} {D : Int} (hok : aQ l = true) (h1 : 1 ≤ l.length) (hl : l.length < 1000000000) (hN : PtB 240 N) (cs : LA_) (n : Nat) :
  ∃ k : Nat, k < l.length ∧ vu N.1 N.2.1 N.2.2 D cs n (pcs l) l.length = some (k : Int) ∧ ∀ p ∈ l, ae N (pat l k) ≤ ae N p := by
 haveI n1 : Sm 240 N.1 := ⟨hN.h.1⟩
 haveI n2 : Sm 240 N.2.1 := ⟨hN.h.2.1⟩
 haveI n3 : Sm 240 N.2.2 := ⟨hN.h.2.2⟩
 have along : ∀ {i : Nat}, i < l.length → oc (aa N.1 0) (aa N.1 1) (aa N.1 2) (aa N.1 3) (aa N.1 4) (aa N.1 5) (aa N.1 6) (aa N.1 7) (aa N.2.1 0) (aa N.2.1 1) (aa N.2.1 2) (aa N.2.1 3) (aa N.2.1 4) (aa N.2.1 5) (aa N.2.1 6) (aa N.2.1 7) (aa N.2.2 0) (aa N.2.2 1) (aa N.2.2 2) (aa N.2.2 3) (aa N.2.2 4) (aa N.2.2 5) (aa N.2.2 6) (aa N.2.2 7) (pat l i).1 (pat l i).2.1 (pat l i).2.2 = some (ae N (pat l i)) ∧ fit (ae N (pat l i)) := by
  intro i h
  have hq := PtB.of (dO hok h)
  haveI p1 : Sm 28 (pat l i).1 := ⟨hq.h.1⟩
  haveI p2 : Sm 28 (pat l i).2.1 := ⟨hq.h.2.1⟩
  haveI p3 : Sm 28 (pat l i).2.2 := ⟨hq.h.2.2⟩
  exact ⟨Mk (Sm.fit (by decide)) (Sm.fit (by decide)) (Sm.fit (by decide)) (p1.rng (by decide)) (p2.rng (by decide)) (p3.rng (by decide)) (Sm.fit (by decide)) (Sm.fit (by decide)) (Sm.fit (by decide)) (Sm.fit (by decide)) (Sm.fit (by decide)), Sm.fit (k := 270) (by decide)⟩
 have e0 : (([.int .u64 0, .int .u64 0, .int .u64 0, .int .u64 0, .int .u64 0, .int .u64 0, .int .u64 0, .int .u64 0] : LA_)) = wcs [0] := by simp only [wcs, gP]
 have main : ∃ e, xP (aa N.1 0, aa N.1 1, aa N.1 2, aa N.1 3, aa N.1 4, aa N.1 5, aa N.1 6, aa N.1 7, aa N.2.1 0, aa N.2.1 1, aa N.2.1 2, aa N.2.1 3, aa N.2.1 4, aa N.2.1 5, aa N.2.1 6, aa N.2.1 7, aa N.2.2 0, aa N.2.2 1, aa N.2.2 2, aa N.2.2 3, aa N.2.2 4, aa N.2.2 5, aa N.2.2 6, aa N.2.2 7, aa D 0, aa D 1, aa D 2, aa D 3, aa D 4, aa D 5, aa D 6, aa D 7, cs, n, 1, pcs l, l.length, ((l.length : Nat) : Int)) (-1, wcs [0], 0) = some e ∧ ∃ k : Nat, e = (k : Int) ∧ k < l.length ∧ ∀ p ∈ l, ae N (pat l k) ≤ ae N p := by
  refine gF (step := fD (aa N.1 0, aa N.1 1, aa N.1 2, aa N.1 3, aa N.1 4, aa N.1 5, aa N.1 6, aa N.1 7, aa N.2.1 0, aa N.2.1 1, aa N.2.1 2, aa N.2.1 3, aa N.2.1 4, aa N.2.1 5, aa N.2.1 6, aa N.2.1 7, aa N.2.2 0, aa N.2.2 1, aa N.2.2 2, aa N.2.2 3, aa N.2.2 4, aa N.2.2 5, aa N.2.2 6, aa N.2.2 7, aa D 0, aa D 1, aa D 2, aa D 3, aa D 4, aa D 5, aa D 6, aa D 7, cs, n, 1, pcs l, l.length, ((l.length : Nat) : Int)))
   (fun v => ∃ i : Nat, v.2.2 = (i : Int) ∧ i ≤ l.length ∧ ((i = 0 ∧ v.1 = -1 ∧ v.2.1 = wcs [0]) ∨ ∃ k : Nat, v.1 = (k : Int) ∧ k < i ∧ v.2.1 = wcs [ae N (pat l k)] ∧ ∀ j, j < i → ae N (pat l k) ≤ ae N (pat l j))) (fun v => ((l.length : Int) - v.2.2).toNat) _ ?_
   (Nat.lt_of_le_of_lt (show ((l.length : Int) - 0).toNat ≤ 1000000000 by omega) (by decide)) ⟨0, rfl, by omega, .inl ⟨rfl, rfl, rfl⟩⟩
  rintro ⟨b, far, v⟩ ⟨i, rfl, hi, hinv⟩
  by_cases h : i < l.length
  ·obtain ⟨ha, hfit⟩ := along h
   have wr : IntKind.wrap .i64 ((i : Int) + 1) = ((i + 1 : Nat) : Int) := by rw [bM (by omega)]; omega
   have s1 : ∀ x r : Int, spliced (wcs [x]) 0 [.int .u64 (aa r 0), .int .u64 (aa r 1), .int .u64 (aa r 2), .int .u64 (aa r 3), .int .u64 (aa r 4), .int .u64 (aa r 5), .int .u64 (aa r 6), .int .u64 (aa r 7)] = wcs [r] := fun _ _ => rfl
   have l8 : ∀ z : Int, decide (0 + 8 ≤ List.length (wcs [z])) = true := fun _ => rfl
   have r0 : ∀ z : Int, aw k8 (wcs [z]) 0 = true := fun z => wro (l := [z]) (i := 0) (by simp)
   rcases hinv with ⟨rfl, rfl, rfl⟩ | ⟨k, hk, hki, rfl, hmin⟩
   ·refine .inl ⟨(((0 : Nat) : Int), wcs [ae N (pat l 0)], ((0 + 1 : Nat) : Int)), ?_, ⟨1, rfl, by omega, .inr ⟨0, rfl, by omega, rfl, fun j hj => ?_⟩⟩, by simp only; omega⟩
    ·simp only [fD, cV, decLt h, eQ, cond_true, Yl, az, fB, pro h, pg0 h, pg1 h, pg2 h, ha, Ye, show decide ((-1 : Int) < 0) = true from rfl, l8, s1, wr]
    ·obtain rfl : j = 0 := by omega
     exact Int.le_refl _
   ·simp only at hk
    subst hk
    have hfk := (along (show k < l.length by omega)).2
    have hc := PU hfit hfk
    have hc' : Ia (aa (ae N (pat l i)) 0) (aa (ae N (pat l i)) 1) (aa (ae N (pat l i)) 2) (aa (ae N (pat l i)) 3) (aa (ae N (pat l i)) 4) (aa (ae N (pat l i)) 5) (aa (ae N (pat l i)) 6) (aa (ae N (pat l i)) 7) (ac (wcs [ae N (pat l k)]) 0) (ac (wcs [ae N (pat l k)]) 1) (ac (wcs [ae N (pat l k)]) 2) (ac (wcs [ae N (pat l k)]) 3) (ac (wcs [ae N (pat l k)]) 4) (ac (wcs [ae N (pat l k)]) 5) (ac (wcs [ae N (pat l k)]) 6) (ac (wcs [ae N (pat l k)]) 7) = some (sgn (ae N (pat l i) - ae N (pat l k))) := hc
    have kneg : decide (((k : Nat) : Int) < 0) = false := Ym (by omega)
    by_cases hlt : ae N (pat l i) < ae N (pat l k)
    ·have hs : decide (sgn (ae N (pat l i) - ae N (pat l k)) < 0) = true := by
      have : ae N (pat l i) - ae N (pat l k) < 0 := by omega
      simp [sgn, this]
     refine .inl ⟨(((i : Nat) : Int), wcs [ae N (pat l i)], ((i + 1 : Nat) : Int)), ?_, ⟨i + 1, rfl, by omega, .inr ⟨i, rfl, by omega, rfl, fun j hj => ?_⟩⟩, by simp only; omega⟩
     ·simp only [fD, cV, decLt h, eQ, cond_true, cond_false, Yl, az, fB, pro h, pg0 h, pg1 h, pg2 h, ha, Ye, kneg, l8, s1, wr, r0, hc', hs]
     ·rcases Nat.lt_or_ge j i with q | q
      ·have := hmin j q; omega
      ·obtain rfl : j = i := by omega
       exact Int.le_refl _
    ·have hs : decide (sgn (ae N (pat l i) - ae N (pat l k)) < 0) = false := by
      have h1 : ¬ ae N (pat l i) - ae N (pat l k) < 0 := by omega
      unfold sgn
      rw [Ym h1, cond_false]
      by_cases h0 : ae N (pat l i) - ae N (pat l k) = 0
      ·rw [Yn h0]; rfl
      ·rw [Ym h0]; rfl
     refine .inl ⟨(((k : Nat) : Int), wcs [ae N (pat l k)], ((i + 1 : Nat) : Int)), ?_, ⟨i + 1, rfl, by omega, .inr ⟨k, rfl, by omega, rfl, fun j hj => ?_⟩⟩, by simp only; omega⟩
     ·simp only [fD, cV, decLt h, eQ, cond_true, cond_false, Yl, az, fB, pro h, pg0 h, pg1 h, pg2 h, ha, Ye, kneg, wr, r0, hc', hs]
     ·rcases Nat.lt_or_ge j i with q | q
      ·exact hmin j q
      ·obtain rfl : j = i := by omega
       omega
  ·have hi' : i = l.length := by omega
   subst hi'
   rcases hinv with ⟨h0, _⟩ | ⟨k, hk, hki, rfl, hmin⟩
   ·omega
   ·simp only at hk
    subst hk
    refine .inr ⟨((k : Nat) : Int), ?_, k, rfl, hki, fun p hp => ?_⟩
    ·simp only [fD, cV, Ym (show ¬ ((l.length : Int) < ((l.length : Nat) : Int)) by omega), cond_false]
    ·obtain ⟨j, hj, rfl⟩ := List.getElem_of_mem hp
     have := hmin j hj
     simpa [pat, Yq, Yp hj] using this
 obtain ⟨e, he, k, rfl, hk, hmin⟩ := main
 refine ⟨k, hk, ?_, hmin⟩
 unfold vu pK
 unfold v8
 rw [e0, he]
 rfl
theorem Vz {n : Nat} (h1 : 1 ≤ n) (h : n ≤ 256) : rv ((n : Nat) : Int) = some ((kO n).length : Int) := by
 have c1 := M9 n
 have c2 := Na n
 have c3 := Nb n
 have c4 := QX n
 have hn0 : (0 : Int) ≤ n := by omega
 have hn1 : (0 : Int) ≤ (n : Int) - 1 := by omega
 have b2 : (n : Int) * (n - 1) ≤ 256 * 256 := Int.mul_le_mul (by omega) (by omega) hn1 (by decide)
 have e3 : ((comb n 2).length : Int) * (n - 2) = 3 * ((comb n 3).length : Int) := by
  have : 2 * (((comb n 2).length : Int) * (n - 2)) = 2 * (3 * ((comb n 3).length : Int)) := by grind
  omega
 have e4 : ((comb n 3).length : Int) * (n - 3) = 4 * ((comb n 4).length : Int) := by
  have : 6 * (((comb n 3).length : Int) * (n - 3)) = 6 * (4 * ((comb n 4).length : Int)) := by grind
  omega
 have u2 : ((comb n 2).length : Int) ≤ 32768 := by omega
 have b3 : ((comb n 2).length : Int) * (n - 2) ≤ 32768 * 256 := by
  rcases Int.le_total 0 ((n : Int) - 2) with q | q
  ·exact Int.mul_le_mul u2 (by omega) q (by decide)
  ·have := Int.mul_nonpos_of_nonneg_of_nonpos (show (0 : Int) ≤ ((comb n 2).length : Int) by omega) q
   omega
 have u3 : ((comb n 3).length : Int) ≤ 2800000 := by omega
 have b4 : ((comb n 3).length : Int) * (n - 3) ≤ 2800000 * 256 := by
  rcases Int.le_total 0 ((n : Int) - 3) with q | q
  ·exact Int.mul_le_mul u3 (by omega) q (by decide)
  ·have := Int.mul_nonpos_of_nonneg_of_nonpos (show (0 : Int) ≤ ((comb n 3).length : Int) by omega) q
   omega
 have u4 : ((comb n 4).length : Int) ≤ 180000000 := by omega
 have w : ∀ {x : Int}, 0 ≤ x → x ≤ 1000000000 → IntKind.wrap .i64 x = x := fun {x} q1 q2 => bM (by omega)
 have w' : ∀ {x : Int}, -100 ≤ x → x ≤ 1000000000 → IntKind.wrap .i64 x = x := fun {x} q1 q2 => bM (by omega)
 have t2 : Int.tdiv ((n : Int) * (n - 1)) 2 = ((comb n 2).length : Int) := by rw [← c2]; exact Int.mul_tdiv_cancel_left _ (by decide)
 have t3 : Int.tdiv (((comb n 2).length : Int) * (n - 2)) 3 = ((comb n 3).length : Int) := by rw [e3]; exact Int.mul_tdiv_cancel_left _ (by decide)
 have t4 : Int.tdiv (((comb n 3).length : Int) * (n - 3)) 4 = ((comb n 4).length : Int) := by rw [e4]; exact Int.mul_tdiv_cancel_left _ (by decide)
 unfold rv
 rw [w' (x := (n : Int) - 1) (by omega) (by omega), w (x := (n : Int) * (n - 1)) (by omega) (by omega), t2, w (x := ((comb n 2).length : Int)) (by omega) (by omega),
  w' (x := (n : Int) - 2) (by omega) (by omega), w' (x := ((comb n 2).length : Int) * (n - 2)) (by omega) (by omega), t3, w (x := ((comb n 3).length : Int)) (by omega) (by omega),
  w' (x := (n : Int) - 3) (by omega) (by omega), w' (x := ((comb n 3).length : Int) * (n - 3)) (by omega) (by omega), t4, w (x := ((comb n 4).length : Int)) (by omega) (by omega),
  w (x := (n : Int) + ((comb n 2).length : Int)) (by omega) (by omega), w (x := (n : Int) + ((comb n 2).length : Int) + ((comb n 3).length : Int)) (by omega) (by omega),
  w (x := (n : Int) + ((comb n 2).length : Int) + ((comb n 3).length : Int) + ((comb n 4).length : Int)) (by omega) (by omega)]
 unfold kO
 simp only [Yw, Int.natCast_add, c1]
theorem I2 (a b : Int) : aF a b = some (decide (a < b)) := by
 have n : ∀ x : Int, gJ x = some false := by intro x; simp [gJ]
 unfold aF
 rw [n, Ye]
 cases decide (a < b) <;> rfl
def qv (l : List Pt) (o : List Nat) : Int := ae (bA (pick l o)) (bA (pick l o))
def dvv (l : List Pt) (o : List Nat) : Int := (wts (pick l o)).2
theorem xj {l : List Pt} {o : List Nat} (h : val (pick l o)) : 0 < dvv l o := qX h.1
def nlt (l : List Pt) (u o : List Nat) : Prop := val (pick l u) ∧ qv l u * (dvv l o * dvv l o) < qv l o * (dvv l u * dvv l u)
theorem PZ {l : List Pt} {o : List Nat} : ¬ nlt l o o := fun h => Int.lt_irrefl _ h.2
theorem Si {l : List Pt} {u v o : List Nat} (hv : val (pick l v)) (ho : val (pick l o)) (h1 : nlt l u v) (h2 : nlt l v o) : nlt l u o := by
 refine ⟨h1.1, ?_⟩
 have a := Int.mul_pos (xj h1.1) (xj h1.1)
 have b := Int.mul_pos (xj hv) (xj hv)
 have c := Int.mul_pos (xj ho) (xj ho)
 have k1 := Int.mul_lt_mul_of_pos_right h1.2 c
 have k2 := Int.mul_lt_mul_of_pos_right h2.2 a
 generalize dvv l u * dvv l u = A at *
 generalize dvv l v * dvv l v = B at *
 generalize dvv l o * dvv l o = C at *
 have e1 : qv l u * B * C = (qv l u * C) * B := by grind
 have e2 : qv l v * A * C = qv l v * C * A := by grind
 have e3 : qv l o * B * A = (qv l o * A) * B := by grind
 exact Int.lt_of_mul_lt_mul_right (show (qv l u * C) * B < (qv l o * A) * B by omega) (Int.le_of_lt b)
open Classical in
def yM (l : List Pt) (o : List Nat) : Nat := (kO l.length).countP fun u => decide (nlt l u o)
theorem Sj {l : List Pt} {o o' : List Nat} (ho : val (pick l o)) (ho' : val (pick l o')) (hm : o' ∈ kO l.length) (h : nlt l o' o) : yM l o' < yM l o := by
 unfold yM
 refine I3 (x := o') (fun y _ hy => ?_) hm (by simpa using h) (by simpa using PZ)
 simp only [Yo] at hy ⊢
 exact Si ho' ho hy h
theorem Sk {T : List Pt} (hi : ind T) (h4 : T.length = 4) (p : Pt) : ae p (bA T) = ae (T.headD (0, 0, 0)) (bA T) := by
 by_cases h : ae p (bA T) = ae (T.headD (0, 0, 0)) (bA T)
 ·exact h
 ·exfalso
  have := OQ (p := p) hi (zN T (by omega) (by omega)) h
  match T, h4 with
  | [_, _, _, _], _ => exact this
theorem Sl {m : Nat} {ch : List Nat} (h : ch ∈ chs m) : 1 ≤ ch.length ∧ ch.length ≤ m ∧ m ≤ 4 ∧ dE ch ∧ ∀ x ∈ ch, x < m := by
 unfold dE
 have key : ∀ m ≤ 4, ∀ ch ∈ chs m, 1 ≤ ch.length ∧ ch.length ≤ m ∧ m ≤ 4 ∧ ch.Pairwise (· < ·) ∧ ∀ x ∈ ch, x < m := by decide
 have hm : m ≤ 4 := by
  unfold chs at h
  split at h <;> first | omega | (simp at h)
 exact key m hm ch h
def sel (at_ ch : List Nat) : List Nat := ch.map fun i => at_.getD i 0
theorem VA (at_ ch : List Nat) : (sel at_ ch).length = ch.length := by simp [sel]
theorem VB {at_ ch : List Nat} (hb : ∀ x ∈ ch, x < at_.length) : ∀ x ∈ sel at_ ch, x ∈ at_ := by
 intro x hx
 simp only [sel, List.mem_map] at hx
 obtain ⟨i, hi, rfl⟩ := hx
 rw [Yq, Yp (hb i hi)]
 exact List.getElem_mem _
theorem QY {at_ ch : List Nat} (ha : dE at_) (hc : dE ch) (hb : ∀ x ∈ ch, x < at_.length) : dE (sel at_ ch) := by
 unfold dE sel at *
 rw [List.pairwise_map]
 refine List.Pairwise.imp_of_mem ?_ hc
 intro a b hma hmb hlt
 have h1 := hb a hma
 have h2 := hb b hmb
 rw [Yq, Yq, Yp h1, Yp h2]
 exact List.pairwise_iff_getElem.1 ha a b h1 h2 hlt
theorem TE {l : List Pt} {at_ ch : List Nat} (hb : ∀ x ∈ ch, x < at_.length) : pick (pick l at_) ch = pick l (sel at_ ch) := by
 unfold pick sel
 rw [List.map_map]
 refine List.map_congr_left fun i hi => ?_
 have h := hb i hi
 simp [pat, Yq, List.getElem?_map, Yp h]
theorem OR (l : List Pt) (o : List Nat) : (pick l o).length = o.length := by simp [pick]
theorem VC {l : List Pt} {o : List Nat} (hok : aQ l = true) (hb : ∀ x ∈ o, x < l.length) : aQ (pick l o) = true := by
 unfold aQ pick
 rw [List.all_eq_true]
 intro p hp
 obtain ⟨i, hi, rfl⟩ := List.mem_map.1 hp
 exact dO hok (hb i hi)
theorem I4 {l : List Pt} {o : List Nat} {k : Nat} (h : k ∈ o) : pat l k ∈ pick l o := List.mem_map.2 ⟨k, h, rfl⟩
structure Own (l : List Pt) (o : List Nat) : Prop where
 v : val (pick l o)
 r : dE o
 b : ∀ x ∈ o, x < l.length
 n1 : 1 ≤ o.length
 n4 : o.length ≤ 4
theorem Own.mem {l : List Pt} {o : List Nat} (h : Own l o) : o ∈ kO l.length := TF h.n1 h.n4 h.r h.b
def lev (l : List Pt) (o : List Nat) : Int := ae ((pick l o).headD (0, 0, 0)) (bA (pick l o))
structure Hd (l : List Pt) (st : Nat) (at_ : List Nat) : Prop where
 r : dE at_
 b : ∀ x ∈ at_, x < l.length
 n1 : 1 ≤ at_.length
 n4 : at_.length ≤ 4
 c : st = 0 ∨ ∃ o k, Own l o ∧ at_ = ins k o ∧ ae (pat l k) (bA (pick l o)) < lev l o ∧ st + yM l o ≤ (kO l.length).length
theorem Hd.QZ {l : List Pt} {st : Nat} {at_ o' : List Nat} (h : Hd l st at_) (ho : Own l o') (hn : uf (pick l at_) (pick l o')) : st + 1 + yM l o' ≤ (kO l.length).length := by
 rcases h.c with rfl | ⟨o, k, hO, rfl, hp, hc⟩
 ·have : yM l o' < (kO l.length).length := by
   unfold yM
   have hle := List.countP_le_length (p := fun u => (Classical.propDecidable (nlt l u o')).decide) (l := kO l.length)
   have := I3 (p := fun u => (Classical.propDecidable (nlt l u o')).decide) (q := fun _ => true) (l := kO l.length) (x := o') (fun _ _ _ => rfl) ho.mem rfl (by simpa using PZ)
   simp only [List.countP_true] at this
   exact this
  omega
 ·have f := Go.Ev.QZ (Nst.of hO.v.1 hO.v.2) (Nst.of ho.v.1 ho.v.2) (k := pat l k) (fun p hpm => by
    obtain ⟨i, hi, rfl⟩ := List.mem_map.1 hpm
    exact hn _ (I4 (Bw.2 (.inr hi)))) (hn _ (I4 (Bw.2 (.inl rfl)))) hp
  have : nlt l o' o := ⟨ho.v, f⟩
  have := Sj hO.v ho.v ho.mem this
  omega
structure Wk (l : List Pt) (o : List Nat) (N : Pt) (D : Int) (st : Nat) : Prop where
 own : Own l o
 FU : Prim (bA (pick l o)) (wts (pick l o)).2 N D
 none : uf l (pick l o)
 sN : PtB 240 N
 sD : sm 190 D
 s1 : 1 ≤ st
 sU : st ≤ (kO l.length).length
theorem P0 {l : List Pt} (h1 : 1 ≤ l.length) (h64 : l.length ≤ 256) : (kO l.length).length ≤ 200000000 := by
 have e := TG l.length
 have b1 : (l.length : Int) * ((l.length : Int) - 1) ≤ 256 * 256 := Int.mul_le_mul (by omega) (by omega) (by omega) (by decide)
 have b2 : (l.length : Int) * ((l.length : Int) - 1) * ((l.length : Int) - 2) ≤ 256 * 256 * 256 := by
  rcases Int.le_total 0 ((l.length : Int) - 2) with q | q
  ·exact Int.mul_le_mul b1 (by omega) q (by decide)
  ·have := Int.mul_nonpos_of_nonneg_of_nonpos (Int.mul_nonneg (show (0 : Int) ≤ l.length by omega) (show (0 : Int) ≤ (l.length : Int) - 1 by omega)) q
   omega
 have b3 : (l.length : Int) * ((l.length : Int) - 1) * ((l.length : Int) - 2) * ((l.length : Int) - 3) ≤ 256 * 256 * 256 * 253 := by
  rcases Int.le_total 0 ((l.length : Int) - 3) with q | q
  ·exact Int.mul_le_mul b2 (by omega) q (by decide)
  ·have := Int.mul_nonpos_of_nonneg_of_nonpos (Int.mul_nonneg (Int.mul_nonneg (show (0 : Int) ≤ l.length by omega) (show (0 : Int) ≤ (l.length : Int) - 1 by omega)) (show (0 : Int) ≤ (l.length : Int) - 2 + 1 by omega)) q
   by_cases h2 : (l.length : Int) - 2 < 0
   ·have hl1 : (l.length : Int) = 1 := by omega
    rw [hl1]; decide
   ·have := Int.mul_nonpos_of_nonneg_of_nonpos (Int.mul_nonneg (Int.mul_nonneg (show (0 : Int) ≤ l.length by omega) (show (0 : Int) ≤ (l.length : Int) - 1 by omega)) (show (0 : Int) ≤ (l.length : Int) - 2 by omega)) q
    omega
 omega
theorem Sn {l : List Pt} (hok : aQ l = true) (h1 : 1 ≤ l.length) (h64 : l.length ≤ 256) {st : Nat} {at_ : List Nat} (h : Hd l st at_) :
  (∃ at', dB (pcs l, l.length) (((st : Nat) : Int), cI at_, at_.length) = some (.inl (((st + 1 : Nat) : Int), cI at', at'.length)) ∧ Hd l (st + 1) at' ∧ st + 1 ≤ (kO l.length).length) ∨
  (∃ o N D, Wk l o N D (st + 1) ∧ dB (pcs l, l.length) (((st : Nat) : Int), cI at_, at_.length) = some (.inr (.inr (aa N.1 0, aa N.1 1, aa N.1 2, aa N.1 3, aa N.1 4, aa N.1 5, aa N.1 6, aa N.1 7, aa N.2.1 0, aa N.2.1 1, aa N.2.1 2, aa N.2.1 3, aa N.2.1 4, aa N.2.1 5, aa N.2.1 6, aa N.2.1 7, aa N.2.2 0, aa N.2.2 1, aa N.2.2 2, aa N.2.2 3, aa N.2.2 4, aa N.2.2 5, aa N.2.2 6, aa N.2.2 7, aa D 0, aa D 1, aa D 2, aa D 3, aa D 4, aa D 5, aa D 6, aa D 7, cI o, o.length, ((st + 1 : Nat) : Int))))) := by
 have hS := VC hok h.b
 have hlen := OR l at_
 obtain ⟨ch, hch, N, D, hnear, hi, ⟨hw, hnp⟩, hP, hN, hD⟩ := Sf hS (by rw [hlen]; exact h.n1) (by rw [hlen]; exact h.n4)
 rw [hlen] at hch hnear
 replace hnear : dU (pcs (pick l at_)) at_.length = some (N.1, N.2.1, N.2.2, D, 0, cI ch, ch.length) := hnear
 obtain ⟨c1, c2, c3, c4, c5⟩ := Sl hch
 rw [TE c5] at hi hw hnp hP
 have hsl := VA at_ ch
 generalize ho : sel at_ ch = o at *
 have hO : Own l o := by
  subst ho
  exact ⟨⟨hi, hw⟩, QY h.r c4 c5, fun x hx => h.b x (VB c5 x hx), by omega, by omega⟩
 have hfall := h.QZ hO hnp
 have hsome := Sg (st := ((st : Nat) : Int)) h.b (by have := h.n4; omega)
 have hown := TD (l := l) (at_ := at_) (ch := ch) c5 (by omega) ((st : Nat) : Int) N D
 have hown' : (ch.map fun i => at_.getD i 0) = o := ho
 rw [hown'] at hown
 have hmost := Vz h1 h64
 obtain ⟨k, hk, hback, hmin⟩ := Sh (D := D) hok h1 (by omega) hN (cI o) ch.length
 have hpast := Sd hN hD (dO hok hk) (cI o) ch.length
 have hst := P0 h1 h64
 have wr : IntKind.wrap .i64 (((st : Nat) : Int) + 1) = ((st + 1 : Nat) : Int) := by rw [bM (by omega)]; omega
 have hgt : decide (((st + 1 : Nat) : Int) > ((kO l.length).length : Int)) = false := Ym (by omega)
 have hz : Nst (pick l o) (wts (pick l o)).1 (bA (pick l o)) (wts (pick l o)).2 (lev l o) := Nst.of hi hw
 have hpi : ∀ p, ko N D p = true ↔ ae p (bA (pick l o)) < lev l o := fun p => hP.WY hz.qE hz.sq
 have base : ∀ X, dB (pcs l, l.length) (((st : Nat) : Int), cI at_, at_.length) = X ↔ dB (pcs l, l.length) (((st : Nat) : Int), cI at_, at_.length) = X := fun _ => Iff.rfl
 cases hb : ko N D (pat l k) with
 | false =>
  rw [hb] at hpast
  refine .inr ⟨o, N, D, ⟨hO, hP, fun p hp => ?_, hN, hD, by omega, by omega⟩, ?_⟩
  ·
   have hk' : ¬ ae (pat l k) (bA (pick l o)) < lev l o := fun q => by rw [(hpi _).2 q] at hb; cases hb
   obtain ⟨g, g0, e, _⟩ := hP.ex
   have e2 : ∀ q : Pt, ae q (bA (pick l o)) = g * ae N q := by
    intro q; rw [e]; simp only [ae]; grind
   have := YA (hmin p hp) (Int.le_of_lt g0)
   rw [← e2, ← e2] at this
   show lev l o ≤ _
   omega
  ·rw [hsl]
   simp only [dB, dV, hsome, Ye, hnear, hown, hmost, wr, hgt, cond_false, hback, eQ, decLt hk, Yl, az, fB, pro hk, pg0 hk, pg1 hk, pg2 hk, hpast]
 | true =>
  rw [hb] at hpast
  have hp := (hpi _).1 hb
  have hko : k ∉ o := by
   intro hm
   have := hz.lev _ (I4 (l := l) hm)
   omega
  have h3 : o.length ≤ 3 := by
   have := hO.n4
   rcases Nat.lt_or_ge o.length 4 with q | q
   ·omega
   ·have := Sk hi (by rw [OR]; omega) (pat l k)
    unfold lev at hp
    omega
  have H' : Hd l (st + 1) (ins k o) := by
   refine ⟨KA hO.r hko, fun x hx => ?_, by rw [Gr]; omega, by rw [Gr]; omega, .inr ⟨o, k, hO, rfl, hp, by omega⟩⟩
   rcases Bw.1 hx with rfl | hx
   ·exact hk
   ·exact hO.b x hx
  refine .inl ⟨ins k o, ?_, H', by omega⟩
  rw [Gr]
  have hcl : ch.length = o.length := hsl.symm
  rw [hcl] at hown hnear hback hpast
  have hr := hO.r
  have hn1 := hO.n1
  clear hP hpi hz hfall hO H' hi hw hnp base
  match o, hn1, h3 with
  | [a], _, _ =>
   simp only [dB, dV, hsome, Ye, hnear, hown, hmost, wr, hgt, cond_false, hback, eQ, decLt hk, Yl, az, fB, pro hk, pg0 hk, pg1 hk, pg2 hk, hpast, cond_true, I2]
   have e1 : Nat.beq [a].length 1 = true := rfl
   have g0 : ac (cI [a]) 0 = (a : Int) := rfl
   have ro : (aw [.int .i64] (cI [a]) 0 && Nat.beq (List.length (cI [a])) 1) = true := rfl
   rw [e1, cond_true, ro, az, g0]
   unfold ins
   by_cases q : k < a
   ·rw [if_pos q, Yn (show ((k : Nat) : Int) < (a : Int) by omega)]; rfl
   ·rw [if_neg q, Ym (show ¬ ((k : Nat) : Int) < (a : Int) by omega)]; rfl
  | [a, b], _, _ =>
   simp only [dB, dV, hsome, Ye, hnear, hown, hmost, wr, hgt, cond_false, hback, eQ, decLt hk, Yl, az, fB, pro hk, pg0 hk, pg1 hk, pg2 hk, hpast, cond_true, I2]
   have e1 : Nat.beq [a, b].length 1 = false := rfl
   have e2 : Nat.beq [a, b].length 2 = true := rfl
   have g0 : ac (cI [a, b]) 0 = (a : Int) := rfl
   have g1 : ac (cI [a, b]) 1 = (b : Int) := rfl
   have ro : (aw [.int .i64, .int .i64] (cI [a, b]) 0 && Nat.beq (List.length (cI [a, b])) 2) = true := rfl
   have hab : a < b := by unfold dE at hr; simp at hr; exact hr
   simp only [List.mem_cons, List.not_mem_nil, or_false, not_or] at hko
   rw [e1, cond_false, e2, cond_true, ro, az, g0, g1, Ym (show ¬ (b : Int) < (a : Int) by omega), cond_false]
   unfold ins ins
   by_cases q : k < a
   ·rw [if_pos q, Yn (show ((k : Nat) : Int) < (b : Int) by omega), Yn (show ((k : Nat) : Int) < (a : Int) by omega)]; rfl
   ·rw [if_neg q]
    by_cases q2 : k < b
    ·rw [if_pos q2, Yn (show ((k : Nat) : Int) < (b : Int) by omega), Ym (show ¬ ((k : Nat) : Int) < (a : Int) by omega)]; rfl
    ·rw [if_neg q2, Ym (show ¬ ((k : Nat) : Int) < (b : Int) by omega)]; rfl
  | [a, b, c], _, _ =>
   simp only [dB, dV, hsome, Ye, hnear, hown, hmost, wr, hgt, cond_false, hback, eQ, decLt hk, Yl, az, fB, pro hk, pg0 hk, pg1 hk, pg2 hk, hpast, cond_true, I2]
   have e1 : Nat.beq [a, b, c].length 1 = false := rfl
   have e2 : Nat.beq [a, b, c].length 2 = false := rfl
   have e3 : Nat.beq [a, b, c].length 3 = true := rfl
   have g0 : ac (cI [a, b, c]) 0 = (a : Int) := rfl
   have g1 : ac (cI [a, b, c]) 1 = (b : Int) := rfl
   have g2 : ac (cI [a, b, c]) 2 = (c : Int) := rfl
   have ro : (aw kR (cI [a, b, c]) 0 && Nat.beq (List.length (cI [a, b, c])) 3) = true := rfl
   have hab : (a < b ∧ a < c) ∧ b < c := by unfold dE at hr; simp at hr; exact hr
   simp only [List.mem_cons, List.not_mem_nil, or_false, not_or] at hko
   rw [e1, cond_false, e2, cond_false, e3, cond_true, ro, az, g0, g1, g2, Ym (show ¬ (b : Int) < (a : Int) by omega), cond_false, Ym (show ¬ (c : Int) < (b : Int) by omega), cond_false]
   unfold ins ins ins
   by_cases q : k < a
   ·rw [if_pos q, Yn (show ((k : Nat) : Int) < (c : Int) by omega), Yn (show ((k : Nat) : Int) < (b : Int) by omega), Yn (show ((k : Nat) : Int) < (a : Int) by omega)]; rfl
   ·rw [if_neg q]
    by_cases q2 : k < b
    ·rw [if_pos q2, Yn (show ((k : Nat) : Int) < (c : Int) by omega), Yn (show ((k : Nat) : Int) < (b : Int) by omega), Ym (show ¬ ((k : Nat) : Int) < (a : Int) by omega)]; rfl
    ·rw [if_neg q2]
     by_cases q3 : k < c
     ·rw [if_pos q3, Yn (show ((k : Nat) : Int) < (c : Int) by omega), Ym (show ¬ ((k : Nat) : Int) < (b : Int) by omega)]; rfl
     ·rw [if_neg q3, Ym (show ¬ ((k : Nat) : Int) < (c : Int) by omega)]; rfl
  | _ :: _ :: _ :: _ :: _, _, h => simp at h
theorem W2 {l : List Pt} (hok : aQ l = true) (h1 : 1 ≤ l.length) (h64 : l.length ≤ 256) :
  ∃ o N D st, Wk l o N D st ∧ k9 (pcs l) l.length = some (N.1, N.2.1, N.2.2, D, ((st : Nat) : Int), cI o, o.length) := by
 have main : ∃ e, vv (pcs l, l.length) (((0 : Nat) : Int), cI [0], [0].length) = some e ∧ ∃ o N D st, Wk l o N D st ∧ e = .inr (aa N.1 0, aa N.1 1, aa N.1 2, aa N.1 3, aa N.1 4, aa N.1 5, aa N.1 6, aa N.1 7, aa N.2.1 0, aa N.2.1 1, aa N.2.1 2, aa N.2.1 3, aa N.2.1 4, aa N.2.1 5, aa N.2.1 6, aa N.2.1 7, aa N.2.2 0, aa N.2.2 1, aa N.2.2 2, aa N.2.2 3, aa N.2.2 4, aa N.2.2 5, aa N.2.2 6, aa N.2.2 7, aa D 0, aa D 1, aa D 2, aa D 3, aa D 4, aa D 5, aa D 6, aa D 7, cI o, o.length, ((st : Nat) : Int)) := by
  refine gF (step := dB (pcs l, l.length)) (fun v => ∃ st at_, v = (((st : Nat) : Int), cI at_, at_.length) ∧ Hd l st at_ ∧ st ≤ (kO l.length).length) (fun v => ((kO l.length).length : Int).toNat - v.1.toNat) _ ?_ ?_ ⟨0, [0], rfl, ⟨by simp [dE], by simp; omega, by simp, by simp, .inl rfl⟩, by omega⟩
  ·rintro v ⟨st, at_, rfl, h, hs⟩
   rcases Sn hok h1 h64 h with ⟨at', e1, e2, e3⟩ | ⟨o, N, D, e1, e2⟩
   ·refine .inl ⟨_, e1, ⟨st + 1, at', rfl, e2, e3⟩, ?_⟩
    simp only [Int.toNat_natCast]
    omega
   ·exact .inr ⟨_, e2, o, N, D, st + 1, e1, rfl⟩
  ·have := P0 h1 h64
   simp only [Int.toNat_natCast]
   omega
 obtain ⟨e, he, o, N, D, st, hW, rfl⟩ := main
 refine ⟨o, N, D, st, hW, ?_⟩
 have z : vv (pcs l, l.length) (0, ([.int .i64 0] : LA_), 1) = some (.inr (aa N.1 0, aa N.1 1, aa N.1 2, aa N.1 3, aa N.1 4, aa N.1 5, aa N.1 6, aa N.1 7, aa N.2.1 0, aa N.2.1 1, aa N.2.1 2, aa N.2.1 3, aa N.2.1 4, aa N.2.1 5, aa N.2.1 6, aa N.2.1 7, aa N.2.2 0, aa N.2.2 1, aa N.2.2 2, aa N.2.2 3, aa N.2.2 4, aa N.2.2 5, aa N.2.2 6, aa N.2.2 7, aa D 0, aa D 1, aa D 2, aa D 3, aa D 4, aa D 5, aa D 6, aa D 7, cI o, o.length, ((st : Nat) : Int))) := he
 unfold k9 wL
 rw [z]
 simp only [Ye, YE, bz, Yl, az]
 rw [aD (aT hW.sN.h.1 (by decide)), aD (aT hW.sN.h.2.1 (by decide)), aD (aT hW.sN.h.2.2 (by decide)), aD (aT hW.sD (by decide))]
def vq : CH := (CH.add 13 iz CH.none)
theorem xy : aB YI vq := (CH.aj jg CH.ay)
def fU {R : Type} (cc : LA_ × Nat × Int) (v : Int) (kn : (Int) → Option R) (ke : ((Unit) ⊕ (Unit)) → Option R) : Option R :=
 (cond (decide (v < cc.2.2)) (ah (decide (0 ≤ v) && decide (v < ((cc.2.1 : Nat) : Int))) (ah (aw kR cc.1 (Int.toNat v * 3)) (Option.bind (et (ac cc.1 ((Int.toNat v * 3) + 0)) (ac cc.1 ((Int.toNat v * 3) + 1)) (ac cc.1 ((Int.toNat v * 3) + 2))) fun r1 => (cond (r1 != 0) (ke (.inl ())) (kn (IntKind.wrap .i64 (v + 1))))))) (ke (.inr ())))
def kr (cc : LA_ × Nat × Int) (v : Int) : Option ((Int) ⊕ ((Unit) ⊕ (Unit))) := fU cc v (fun v => some (Sum.inl v)) fun e => some (Sum.inr e)
def Dh (cc : LA_ × Nat × Int) (v : Int) : Option ((Unit) ⊕ (Unit)) := dz (kr cc) v
def HT (cc : LA_ × Nat × Int) (v : Int) : List af := [.I cc.2.2, .I v, .C cc.1, .N cc.2.1]
def xz (ls : List af) : Option ((LA_ × Nat × Int) × (Int)) := match ls with
 | [.I x0, .I x1, .C x2, .N x3] => some ((x2, x3, x0), x1)
 | _ => none
def xA (e : (Unit) ⊕ (Unit)) : an := ((Sum.elim (fun e => .ret) (fun e => .exit 0)) e)
def xB (cc : LA_ × Nat × Int) (e : (Unit) ⊕ (Unit)) : List af := ((Sum.elim (fun e => []) (fun e => [.C cc.1, .N cc.2.1])) e)
def oR (cc : LA_ × Nat × Int) (e : (Unit) ⊕ (Unit)) : List af := ((Sum.elim (fun e => []) (fun e => [.C cc.1, .N cc.2.1])) e)
def p6 (o : an) (ls : List af) : Option (((Unit) ⊕ (Unit)) × List af) := match o with
 | .ret => (match ls with
  | [] => some ((.inl ()), [])
  | _ => none)
 | .exit 0 => (match ls with
  | [.C x0, .N x1] => some ((.inr ()), [.C x0, .N x1])
  | _ => none)
 | _ => none
theorem DE : ∀ o ls e cl cc, p6 o ls = some (e, cl) → cl = oR cc e → ls = xB cc e ∧ xA e = o ∧ o ≠ .normal ∧ ∀ v, o = .pan v → sc 0 v = true := by
 intro o ls e cl cc h hc
 unfold p6 at h
 split at h
 ·split at h
  ·cases h
   exact ⟨rfl, rfl, by simp, by intro v hv; cases hv <;> rfl⟩
  ·cases h
 ·split at h
  ·cases h
   simp only [oR, YF, YE, List.cons.injEq, af.N.injEq, af.C.injEq, and_true] at hc
   obtain ⟨rfl, rfl⟩ := hc
   exact ⟨rfl, rfl, by simp, by intro v hv; cases hv <;> rfl⟩
  ·cases h
 ·cases h
def Jt (o : an) : ExS := match o with
 | .ret => ⟨1, (none :: none :: some (.cK .i64 7) :: (rl none 20 [])), [], fun s => [0], [], []⟩
 | .exit 0 => ⟨1, (some (.vec 0) :: (rl none 22 [])), [(0, .vec 3 false)], fun s => [0], [], []⟩
 | _ => ⟨0, [], [], fun _ => [], [], []⟩
theorem HU {R : Type} (cc : LA_ × Nat × Int) (v : Int) (kn : (Int) → Option R) (ke : ((Unit) ⊕ (Unit)) → Option R) : fU cc v kn ke = (fU cc v (fun v => some (Sum.inl v)) fun e => some (Sum.inr e)).bind (Sum.elim kn ke) := by
 simp only [fU, bH, ai, Yg, bZ, bB, Ye, Yf, YF, YE]
def AI : LD where
 CC := LA_ × Nat × Int
 V := Int
 E := (Unit) ⊕ (Unit)
 n := 1
 K := 1
 M := (some (.vec 0) :: none :: none :: none :: none :: some (.vec 0) :: some (.int .i64) :: some (.int .i64) :: (rl none 15 []))
 B := [(0, .vec 3 false)]
 D := []
 pre := []
 F := fun s => [0]
 toL := HT
 ofL := xz
 ar := fun ls c v h => by
  unfold xz at h
  split at h
  ·cases h; rfl
  ·cases h
 ct := fU
 nat := HU
 sh := Jt
 out := xA
 toE := xB
 eY := oR
 ofE := p6
 cQ := DE
 post := fun cc e k => ((Sum.elim (fun e => k (.ret) (bc 1 (none :: none :: some (.int .i64 7) :: (rl none 20 [])) [] [])) (fun e => k (.exit 0) (bc 1 (some (.vec 0) :: (rl none 22 [])) [(0, .vec cc.1 cc.2.1 3 false)] []))) e)
 cd := fun cc e k => by rcases e with e | e <;> rfl
theorem HV : cJ YI 1 AI.la (aJ Tryz.f20 0) :=
 LD.ok (ch := vq) (A := bw) aK xy mixed (fuel := 60) ⟨by kernel_rfl, fun e => by (rcases e with e | e <;> kernel_rfl), fun cc v => by kernel_rfl, aH (l := []) (by kernel_rfl) trivial⟩
def jn (cs0 : LA_) (n1 : Nat) : Option (Int) :=
 (Option.bind (Dh (cs0, n1, ((n1 : Nat) : Int)) 0) (Sum.elim (fun e1 => (some 7)) (fun e1 => (cond (decide (((n1 : Nat) : Int) > 256)) (some 3) (cond (((n1 : Nat) : Int) == 0) (some 2) (some 0))))))
def rr : FD where
 X := Int
 k := 1
 pre := []
 F := fun s => [0]
 M := .int .i64
 B := []
 toL := fun x => [.I x]
 ofL := fun ls => match ls with
  | [.I x0] => some x0
  | _ => none
 ar := fun ls x h => by
  split at h
  ·cases h; rfl
  ·cases h
theorem KM (cs0 : LA_) (n1 : Nat) (x : Int) (h : jn cs0 n1 = some x) : aP YI 20 1 [.vec 0] [.vec cs0 n1 3 false] rr x :=
 FD.sem (ch := vq) (A := dL [(2, AI.la)]) (fn := Tryz.f20) (c := br Tryz.f20) (fuel := 60) aK xy mixed bI rr Tryz.func20 (by kernel_rfl) (aH (l := [aJ Tryz.f20 0]) (by kernel_rfl) ⟨bT (by kernel_rfl) HV, trivial⟩)
  (by kernel_rfl) (Eq.trans (by kernel_rfl) h)
def wJ : HK where
 call := fun args σ k => match args with
  | [x0] => cO σ 3 x0 fun cs0 n1 => Option.bind (jn cs0 n1) fun y => au σ 1 (rr.val y) (rr.aI y) k
  | _ => none
 nat := fun args σ k => by
  repeat' split
  all_goals simp only [ao, ai, Yg, Yf, au, Ye]
 pure := false
 pok := fun h => by cases h
theorem Di : aN YI 20 wJ := by
 intro args σ r σ' h
 simp only [wJ] at h
 split at h
 ·rename_i x0
  obtain ⟨cs0, n1, he0, hf0, h⟩ := bv h
  obtain ⟨y, hy, h⟩ := bE_ h
  exact aG (xs := [x0]) (ls := [.vec cs0 n1 3 false]) (cargs := [.vec 0]) (bg.of ⟨⟨rfl, he0, hf0, by decide⟩, trivial⟩) rfl (KM cs0 n1 y hy) rfl rfl rfl rfl h
 ·cases h
abbrev BI := (I8 (I8 (I8 (I8 (Int × Int × LA_ × Nat)))))
abbrev wK := Int × Int × Int × Int × Int × Int × LA_ × Nat
def AJ : CH := (CH.add 34 BJ (CH.add 20 wJ CH.none))
theorem GF : aB YI AJ := (CH.aj Mp (CH.aj Di CH.ay))
def uk (cs0 : LA_) (n1 : Nat) : Option (BI) :=
 (Option.bind (jn cs0 n1) fun r1 => (cond (r1 != 0) (some (0, 0, 0, 0, 0, 0, 0, 0, 0, 0, 0, 0, 0, 0, 0, 0, 0, 0, 0, 0, 0, 0, 0, 0, 0, 0, 0, 0, 0, 0, 0, 0, 0, r1, ([] : LA_), 0)) (Option.bind (k9 cs0 n1) fun r2 => (some (be r2.1 (be r2.2.1 (be r2.2.2.1 (be r2.2.2.2.1 (r2.2.2.2.2.1, 0, r2.2.2.2.2.2.1, r2.2.2.2.2.2.2)))))))))
def fI : FD where
 X := BI
 k := 1
 pre := [(33000002, 1)]
 F := fun s => [0, ak s 0 [.c 0, .c 32]]
 M := .tup [.agg (rl (.int .u64) 32 [.vec 1]), .int .i64, .int .i64]
 B := [.vec 1 true]
 toL := fun x => [.I x.1, .I x.2.1, .I x.2.2.1, .I x.2.2.2.1, .I x.s4.1, .I x.s4.2.1, .I x.s4.2.2.1, .I x.s4.2.2.2.1, .I x.s8.1, .I x.s8.2.1, .I x.s8.2.2.1, .I x.s8.2.2.2.1, .I x.s8.s4.1, .I x.s8.s4.2.1, .I x.s8.s4.2.2.1, .I x.s8.s4.2.2.2.1, .I x.s16.1, .I x.s16.2.1, .I x.s16.2.2.1, .I x.s16.2.2.2.1, .I x.s16.s4.1, .I x.s16.s4.2.1, .I x.s16.s4.2.2.1, .I x.s16.s4.2.2.2.1, .I x.s16.s8.1, .I x.s16.s8.2.1, .I x.s16.s8.2.2.1, .I x.s16.s8.2.2.2.1, .I x.s16.s8.s4.1, .I x.s16.s8.s4.2.1, .I x.s16.s8.s4.2.2.1, .I x.s16.s8.s4.2.2.2.1, .I x.s16.s16.1, .I x.s16.s16.2.1, .C x.s16.s16.2.2.1, .N x.s16.s16.2.2.2]
 ofL := fun ls => match ls with
  | (.I x0 :: .I x1 :: .I x2 :: .I x3 :: .I x4 :: .I x5 :: .I x6 :: .I x7 :: .I x8 :: .I x9 :: .I x10 :: .I x11 :: .I x12 :: .I x13 :: .I x14 :: .I x15 :: .I x16 :: .I x17 :: .I x18 :: .I x19 :: .I x20 :: .I x21 :: .I x22 :: .I x23 :: .I x24 :: .I x25 :: .I x26 :: .I x27 :: .I x28 :: .I x29 :: .I x30 :: .I x31 :: .I x32 :: .I x33 :: .C x34 :: .N x35 :: []) => some (x0, x1, x2, x3, x4, x5, x6, x7, x8, x9, x10, x11, x12, x13, x14, x15, x16, x17, x18, x19, x20, x21, x22, x23, x24, x25, x26, x27, x28, x29, x30, x31, x32, x33, x34, x35)
  | _ => none
 ar := fun ls x h => by
  split at h
  ·cases h; rfl
  ·cases h
theorem Ju : zi YI 33 Tryz.f33 0 (Qe (Qf (br Tryz.f33))) (KN (br Tryz.f33) 0) (KN (br Tryz.f33) 1) (SM (br Tryz.f33)) 4 3 :=
 ⟨Tryz.func33, ⟨_, Tryz.func33, bI 33 _ Tryz.func33, by kernel_rfl⟩, by kernel_rfl, by kernel_rfl, by kernel_rfl, by kernel_rfl, by kernel_rfl, by kernel_rfl, by kernel_rfl, by kernel_rfl, by kernel_rfl, (by decide)⟩
theorem Jv (cs0 : LA_) (n1 : Nat) (x : BI) (h : uk cs0 n1 = some x) : aP YI 24 1 [.vec 0] [.vec cs0 n1 3 false] fI x :=
 FD.Xx (ch := AJ) (A := bw) (fn := Tryz.f24) (c := br Tryz.f24) (fuel := 60) aK GF mixed bI fI Tryz.func24 (by kernel_rfl) (aH (l := []) (by kernel_rfl) trivial)
  (by kernel_rfl) Ju (by kernel_rfl) (Eq.trans (by kernel_rfl) h)
def jH (cs0 : LA_) (n1 : Nat) : Option (wK) := Option.bind (uk cs0 n1) fun (x0, x1, x2, x3, x4, x5, x6, x7, x8, x9, x10, x11, x12, x13, x14, x15, x16, x17, x18, x19, x20, x21, x22, x23, x24, x25, x26, x27, x28, x29, x30, x31, x32, x33, x34, x35) => ah (ok8 x0 x1 x2 x3 x4 x5 x6 x7 && ok8 x8 x9 x10 x11 x12 x13 x14 x15 && ok8 x16 x17 x18 x19 x20 x21 x22 x23 && ok8 x24 x25 x26 x27 x28 x29 x30 x31) (some ((num x0 x1 x2 x3 x4 x5 x6 x7), (num x8 x9 x10 x11 x12 x13 x14 x15), (num x16 x17 x18 x19 x20 x21 x22 x23), (num x24 x25 x26 x27 x28 x29 x30 x31), x32, x33, x34, x35))
def vr : FD := ⟨wK, fI.k, fI.pre, fI.F, fI.M, fI.B, fun y => fI.toL (be y.1 (be y.2.1 (be y.2.2.1 (be y.2.2.2.1 (y.s4.1, y.s4.2.1, y.s4.2.2.1, y.s4.2.2.2))))), fun _ => none, fun _ _ h => by cases h⟩
theorem KO (cs0 : LA_) (n1 : Nat) {y : wK} (h : jH cs0 n1 = some y) : uk cs0 n1 = some (be y.1 (be y.2.1 (be y.2.2.1 (be y.2.2.2.1 (y.s4.1, y.s4.2.1, y.s4.2.2.1, y.s4.2.2.2))))) := by
 unfold jH at h
 obtain ⟨⟨x0, x1, x2, x3, x4, x5, x6, x7, x8, x9, x10, x11, x12, x13, x14, x15, x16, x17, x18, x19, x20, x21, x22, x23, x24, x25, x26, x27, x28, x29, x30, x31, x32, x33, x34, x35⟩, h1, h2⟩ := bE_ h
 obtain ⟨h3, h4⟩ := aL h2
 simp only [Yi, and_assoc] at h3
 simp only [Yh] at h4
 subst h4
 obtain ⟨o0, o1, o2, o3⟩ := h3
 have q0 := aR o0
 have q1 := aR o1
 have q2 := aR o2
 have q3 := aR o3
 rw [h1]
 simp only [be, q0, q1, q2, q3]
theorem Jw (cs0 : LA_) (n1 : Nat) (y : wK) (h : jH cs0 n1 = some y) : aP YI 24 1 [.vec 0] [.vec cs0 n1 3 false] vr y := Jv cs0 n1 _ (KO cs0 n1 h)
def zR : HK where
 call := fun args σ k => match args with
  | [x0] => cO σ 3 x0 fun cs0 n1 => Option.bind (jH cs0 n1) fun y => au σ 1 (vr.val y) (vr.aI y) k
  | _ => none
 nat := fun args σ k => by
  repeat' split
  all_goals simp only [ao, ai, Yg, Yf, au, Ye]
 pure := false
 pok := fun h => by cases h
theorem KP : aN YI 24 zR := by
 intro args σ r σ' h
 simp only [zR] at h
 split at h
 ·rename_i x0
  obtain ⟨cs0, n1, he0, hf0, h⟩ := bv h
  obtain ⟨y, hy, h⟩ := bE_ h
  exact aG (xs := [x0]) (ls := [.vec cs0 n1 3 false]) (cargs := [.vec 0]) (bg.of ⟨⟨rfl, he0, hf0, by decide⟩, trivial⟩) rfl (Jw cs0 n1 y hy) rfl rfl rfl rfl h
 ·cases h
abbrev EE := (I8 (I8 (I8 (I8 (Int × LA_ × Nat)))))
abbrev zk := Int × Int × Int × Int × Int × LA_ × Nat
def Ms : CH := (CH.add 25 n7 (CH.add 24 zR CH.none))
theorem H2 : aB YI Ms := (CH.aj wk (CH.aj KP CH.ay))
def ry (cs0 : LA_) (n1 : Nat) : Option (EE) :=
 (Option.bind (jH cs0 n1) fun r1 => (cond (r1.2.2.2.2.2.1 == 0) (cond (decide (((n1 : Nat) : Int) ≤ 4)) (Option.bind (dU cs0 n1) fun r2 => (some (be r2.1 (be r2.2.1 (be r2.2.2.1 (be r2.2.2.2.1 (r2.2.2.2.2.1, r2.2.2.2.2.2.1, r2.2.2.2.2.2.2))))))) (some (be r1.1 (be r1.2.1 (be r1.2.2.1 (be r1.2.2.2.1 (r1.2.2.2.2.2.1, r1.2.2.2.2.2.2.1, r1.2.2.2.2.2.2.2))))))) (some (be r1.1 (be r1.2.1 (be r1.2.2.1 (be r1.2.2.2.1 (r1.2.2.2.2.2.1, r1.2.2.2.2.2.2.1, r1.2.2.2.2.2.2.2))))))))
def gk : FD where
 X := EE
 k := 1
 pre := []
 F := fun s => [0, ak s 0 [.c 0, .c 32]]
 M := .tup [.agg (rl (.int .u64) 32 [.vec 1]), .int .i64]
 B := [.vec 1 true]
 toL := fun x => [.I x.1, .I x.2.1, .I x.2.2.1, .I x.2.2.2.1, .I x.s4.1, .I x.s4.2.1, .I x.s4.2.2.1, .I x.s4.2.2.2.1, .I x.s8.1, .I x.s8.2.1, .I x.s8.2.2.1, .I x.s8.2.2.2.1, .I x.s8.s4.1, .I x.s8.s4.2.1, .I x.s8.s4.2.2.1, .I x.s8.s4.2.2.2.1, .I x.s16.1, .I x.s16.2.1, .I x.s16.2.2.1, .I x.s16.2.2.2.1, .I x.s16.s4.1, .I x.s16.s4.2.1, .I x.s16.s4.2.2.1, .I x.s16.s4.2.2.2.1, .I x.s16.s8.1, .I x.s16.s8.2.1, .I x.s16.s8.2.2.1, .I x.s16.s8.2.2.2.1, .I x.s16.s8.s4.1, .I x.s16.s8.s4.2.1, .I x.s16.s8.s4.2.2.1, .I x.s16.s8.s4.2.2.2.1, .I x.s16.s16.1, .C x.s16.s16.2.1, .N x.s16.s16.2.2]
 ofL := fun ls => match ls with
  | (.I x0 :: .I x1 :: .I x2 :: .I x3 :: .I x4 :: .I x5 :: .I x6 :: .I x7 :: .I x8 :: .I x9 :: .I x10 :: .I x11 :: .I x12 :: .I x13 :: .I x14 :: .I x15 :: .I x16 :: .I x17 :: .I x18 :: .I x19 :: .I x20 :: .I x21 :: .I x22 :: .I x23 :: .I x24 :: .I x25 :: .I x26 :: .I x27 :: .I x28 :: .I x29 :: .I x30 :: .I x31 :: .I x32 :: .C x33 :: .N x34 :: []) => some (x0, x1, x2, x3, x4, x5, x6, x7, x8, x9, x10, x11, x12, x13, x14, x15, x16, x17, x18, x19, x20, x21, x22, x23, x24, x25, x26, x27, x28, x29, x30, x31, x32, x33, x34)
  | _ => none
 ar := fun ls x h => by
  split at h
  ·cases h; rfl
  ·cases h
theorem KU (cs0 : LA_) (n1 : Nat) (x : EE) (h : ry cs0 n1 = some x) : aP YI 12 1 [.vec 0] [.vec cs0 n1 3 false] gk x :=
 FD.semA gk H2 Tryz.func12 (fuel := 60) (by kernel_rfl) (by kernel_rfl)
  (by kernel_rfl) (Eq.trans (by kernel_rfl) h)
def dI (cs0 : LA_) (n1 : Nat) : Option (zk) := Option.bind (ry cs0 n1) fun (x0, x1, x2, x3, x4, x5, x6, x7, x8, x9, x10, x11, x12, x13, x14, x15, x16, x17, x18, x19, x20, x21, x22, x23, x24, x25, x26, x27, x28, x29, x30, x31, x32, x33, x34) => ah (ok8 x0 x1 x2 x3 x4 x5 x6 x7 && ok8 x8 x9 x10 x11 x12 x13 x14 x15 && ok8 x16 x17 x18 x19 x20 x21 x22 x23 && ok8 x24 x25 x26 x27 x28 x29 x30 x31) (some ((num x0 x1 x2 x3 x4 x5 x6 x7), (num x8 x9 x10 x11 x12 x13 x14 x15), (num x16 x17 x18 x19 x20 x21 x22 x23), (num x24 x25 x26 x27 x28 x29 x30 x31), x32, x33, x34))
def xF : FD := ⟨zk, gk.k, gk.pre, gk.F, gk.M, gk.B, fun y => gk.toL (be y.1 (be y.2.1 (be y.2.2.1 (be y.2.2.2.1 (y.s4.1, y.s4.2.1, y.s4.2.2))))), fun _ => none, fun _ _ h => by cases h⟩
theorem Mt (cs0 : LA_) (n1 : Nat) {y : zk} (h : dI cs0 n1 = some y) : ry cs0 n1 = some (be y.1 (be y.2.1 (be y.2.2.1 (be y.2.2.2.1 (y.s4.1, y.s4.2.1, y.s4.2.2))))) := by
 unfold dI at h
 obtain ⟨⟨x0, x1, x2, x3, x4, x5, x6, x7, x8, x9, x10, x11, x12, x13, x14, x15, x16, x17, x18, x19, x20, x21, x22, x23, x24, x25, x26, x27, x28, x29, x30, x31, x32, x33, x34⟩, h1, h2⟩ := bE_ h
 obtain ⟨h3, h4⟩ := aL h2
 simp only [Yi, and_assoc] at h3
 simp only [Yh] at h4
 subst h4
 obtain ⟨o0, o1, o2, o3⟩ := h3
 have q0 := aR o0
 have q1 := aR o1
 have q2 := aR o2
 have q3 := aR o3
 rw [h1]
 simp only [be, q0, q1, q2, q3]
theorem KV (cs0 : LA_) (n1 : Nat) (y : zk) (h : dI cs0 n1 = some y) : aP YI 12 1 [.vec 0] [.vec cs0 n1 3 false] xF y := KU cs0 n1 _ (Mt cs0 n1 h)
def wI : HK where
 call := fun args σ k => match args with
  | [x0] => cO σ 3 x0 fun cs0 n1 => Option.bind (dI cs0 n1) fun y => au σ 1 (xF.val y) (xF.aI y) k
  | _ => none
 nat := fun args σ k => by
  repeat' split
  all_goals simp only [ao, ai, Yg, Yf, au, Ye]
 pure := false
 pok := fun h => by cases h
theorem Dg : aN YI 12 wI := by
 intro args σ r σ' h
 simp only [wI] at h
 split at h
 ·rename_i x0
  obtain ⟨cs0, n1, he0, hf0, h⟩ := bv h
  obtain ⟨y, hy, h⟩ := bE_ h
  exact aG (xs := [x0]) (ls := [.vec cs0 n1 3 false]) (cargs := [.vec 0]) (bg.of ⟨⟨rfl, he0, hf0, by decide⟩, trivial⟩) rfl (KV cs0 n1 y hy) rfl rfl rfl rfl h
 ·cases h
def dJ (l : List Pt) : Int := cond (aQ l) (cond (decide (((l.length : Nat) : Int) > 256)) 3 (cond (((l.length : Nat) : Int) == 0) 2 0)) 7
theorem Q3 {l : List Pt} {i : Nat} (h : i < l.length) : aQ (l.take (i + 1)) = (aQ (l.take i) && bP (pat l i)) := by
 have : l.take (i + 1) = l.take i ++ [pat l i] := by
  rw [List.take_add_one, Yp h]; simp [pat, Yq, Yp h]
 unfold aQ
 rw [this, List.all_append]; simp
theorem Pv {l : List Pt} {i : Nat} (h : i < l.length) (hb : bP (pat l i) = false) : aQ l = false := by
 cases hc : aQ l with
 | false => rfl
 | true => rw [dO hc h] at hb; cases hb
theorem Gs {l : List Pt} (hl : l.length < 9223372036854775808) : jn (pcs l) l.length = some (dJ l) := by
 have key : ∃ e, Dh (pcs l, l.length, ((l.length : Nat) : Int)) 0 = some e ∧ (match e with | .inl () => aQ l = false | .inr () => aQ l = true) := by
  refine gF (step := kr (pcs l, l.length, ((l.length : Nat) : Int))) (fun v => ∃ i : Nat, v = (i : Int) ∧ i ≤ l.length ∧ aQ (l.take i) = true) (fun v => ((l.length : Int) - v).toNat) _ ?_
   (Nat.lt_of_le_of_lt (show ((l.length : Int) - 0).toNat ≤ 9223372036854775808 by omega) (by decide)) ⟨0, rfl, by omega, rfl⟩
  rintro v ⟨i, rfl, hi, hok⟩
  by_cases h : i < l.length
  ·have w : IntKind.wrap .i64 ((i : Int) + 1) = ((i + 1 : Nat) : Int) := by rw [bM (by omega)]; omega
   have st : kr (pcs l, l.length, ((l.length : Nat) : Int)) (i : Int) = cond (cond (bP (pat l i)) (0 : Int) 7 != 0) (some (.inr (.inl ()))) (some (.inl ((i + 1 : Nat) : Int))) := by
    have hb' : (bnd (pat l i).1 && bnd (pat l i).2.1 && bnd (pat l i).2.2) = bP (pat l i) := rfl
    simp only [kr, fU, decLt h, eQ, cond_true, Yl, az, fB, pro h, pg0 h, pg1 h, pg2 h, xk, Ye, w, hb']
   cases hb : bP (pat l i) with
   | true =>
    rw [hb] at st
    exact .inl ⟨_, st, ⟨i + 1, rfl, by omega, by rw [Q3 h, hok, hb]; rfl⟩, by omega⟩
   | false =>
    rw [hb] at st
    exact .inr ⟨.inl (), st, Pv h hb⟩
  ·have hi' : i = l.length := by omega
   subst hi'
   rw [List.take_length] at hok
   exact .inr ⟨.inr (), by simp only [kr, fU, Ym (show ¬ ((l.length : Int) < ((l.length : Nat) : Int)) by omega), cond_false], hok⟩
 obtain ⟨e, he, h⟩ := key
 unfold jn dJ
 rw [he, Ye]
 rcases e with ⟨⟩ | ⟨⟩
 ·simp only at h; rw [h]; rfl
 ·simp only at h
  rw [h]
  simp only [YE, cond_true]
  cases decide (((l.length : Nat) : Int) > 256) <;> cases (((l.length : Nat) : Int) == 0) <;> rfl
theorem I7 {l : List Pt} (hok : aQ l = true) (h1 : 1 ≤ l.length) (h : l.length ≤ 256) : dJ l = 0 := by
 unfold dJ
 rw [hok, cond_true, Ym (by omega), cond_false]
 have : (((l.length : Nat) : Int) == 0) = false := beq_eq_false_iff_ne.2 (by omega)
 rw [this]; rfl
theorem VI {l : List Pt} (hok : aQ l = true) (h1 : 1 ≤ l.length) (h64 : l.length ≤ 256) :
  ∃ o N D st, Wk l o N D st ∧ jH (pcs l) l.length = some (N.1, N.2.1, N.2.2, D, ((st : Nat) : Int), 0, cI o, o.length) := by
 obtain ⟨o, N, D, st, hW, e⟩ := W2 hok h1 h64
 refine ⟨o, N, D, st, hW, ?_⟩
 unfold jH uk
 unfold be
 rw [Gs (by omega), I7 hok h1 (by omega), Ye, e]
 have z : ((0 : Int) != 0) = false := rfl
 simp only [z, cond_false, Ye, bz, Yl, az]
 rw [aD (aT hW.sN.h.1 (by decide)), aD (aT hW.sN.h.2.1 (by decide)), aD (aT hW.sN.h.2.2 (by decide)), aD (aT hW.sD (by decide))]
structure Nr (l : List Pt) (o : List Nat) (N : Pt) (D : Int) : Prop where
 own : Own l o
 FU : Prim (bA (pick l o)) (wts (pick l o)).2 N D
 none : uf l (pick l o)
 sN : PtB 240 N
 sD : sm 190 D
theorem P3 {l : List Pt} (hok : aQ l = true) (h1 : 1 ≤ l.length) (h64 : l.length ≤ 256) :
  ∃ o N D, Nr l o N D ∧ dI (pcs l) l.length = some (N.1, N.2.1, N.2.2, D, 0, cI o, o.length) := by
 obtain ⟨o, N, D, st, hW, e⟩ := VI hok h1 h64
 have z : ((0 : Int) == 0) = true := rfl
 by_cases h4 : l.length ≤ 4
 ·obtain ⟨ch, hch, N', D', e2, hi, ⟨hw, hn⟩, hP, hN, hD⟩ := Sf hok h1 h4
  obtain ⟨c1, c2, c3, c4, c5⟩ := Sl hch
  refine ⟨ch, N', D', ⟨⟨⟨hi, hw⟩, c4, c5, c1, by omega⟩, hP, hn, hN, hD⟩, ?_⟩
  unfold dI ry
  unfold be
  rw [e, Ye]
  have d4 : decide (((l.length : Nat) : Int) ≤ 4) = true := Yn (by omega)
  simp only [z, cond_true, d4]
  rw [e2]
  simp only [Ye, bz, Yl, az]
  rw [aD (aT hN.h.1 (by decide)), aD (aT hN.h.2.1 (by decide)), aD (aT hN.h.2.2 (by decide)), aD (aT hD (by decide))]
  rfl
 ·refine ⟨o, N, D, ⟨hW.own, hW.FU, hW.none, hW.sN, hW.sD⟩, ?_⟩
  unfold dI ry
  unfold be
  rw [e, Ye]
  have d4 : decide (((l.length : Nat) : Int) ≤ 4) = false := Ym (by omega)
  simp only [z, cond_true, d4, cond_false, Ye, bz, Yl, az]
  rw [aD (aT hW.sN.h.1 (by decide)), aD (aT hW.sN.h.2.1 (by decide)), aD (aT hW.sN.h.2.2 (by decide)), aD (aT hW.sD (by decide))]
theorem HE (l : List Pt) : dJ l = 7 ∨ dJ l = 3 ∨ dJ l = 2 ∨ (dJ l = 0 ∧ aQ l = true ∧ 1 ≤ l.length ∧ l.length ≤ 256) := by
 unfold dJ
 cases aQ l with
 | false => exact .inl rfl
 | true =>
  by_cases h : ((l.length : Nat) : Int) > 256
  ·rw [Yn h]; exact .inr (.inl rfl)
  ·rw [Ym h]
   by_cases h0 : l.length = 0
   ·rw [h0]; exact .inr (.inr (.inl rfl))
   ·have : (((l.length : Nat) : Int) == 0) = false := beq_eq_false_iff_ne.2 (by omega)
    rw [this]
    exact .inr (.inr (.inr ⟨rfl, rfl, by omega, by omega⟩))
end Go.Ev
namespace Go.Ev
theorem TQ {a b c : Int} (h : a * a + b * b + c * c ≤ 0) : a = 0 ∧ b = 0 ∧ c = 0 := by
 have nn : ∀ x : Int, 0 ≤ x * x := fun x => by
  rcases Int.le_total 0 x with k | k
  ·exact Int.mul_nonneg k k
  ·exact Int.mul_nonneg_of_nonpos_of_nonpos k k
 have h1 := nn a
 have h2 := nn b
 have h3 := nn c
 refine ⟨?_, ?_, ?_⟩
 ·exact (Int.mul_eq_zero.1 (show a * a = 0 by omega)).elim id id
 ·exact (Int.mul_eq_zero.1 (show b * b = 0 by omega)).elim id id
 ·exact (Int.mul_eq_zero.1 (show c * c = 0 by omega)).elim id id
theorem OS {T T' : List Pt} {w w' : List Int} {N N' : Pt} {d s d' s' : Int} (h : Nst T w N d s) (h' : Nst T' w' N' d' s') (hd : 0 < d) (hd' : 0 < d') (hT : ∀ p ∈ T, s' ≤ ae p N') (hT' : ∀ p ∈ T', s ≤ ae p N) :
  d' * N.1 = d * N'.1 ∧ d' * N.2.1 = d * N'.2.1 ∧ d' * N.2.2 = d * N'.2.2 := by
 have h1 := pG N' s' w T h.len (fun x hx => Int.le_of_lt (h.pos x hx)) hT
 have h2 := pG N s w' T' h'.len (fun x hx => Int.le_of_lt (h'.pos x hx)) hT'
 rw [← h.sum, h.div] at h1
 rw [← h'.sum, h'.div] at h2
 have q := h.sq
 have q' := h'.sq
 have e : (d' * N.1 - d * N'.1) * (d' * N.1 - d * N'.1) + (d' * N.2.1 - d * N'.2.1) * (d' * N.2.1 - d * N'.2.1) + (d' * N.2.2 - d * N'.2.2) * (d' * N.2.2 - d * N'.2.2) = d' * d' * ae N N - d * d' * ae N N' - d * d' * ae N' N + d * d * ae N' N' := by
  simp only [ae]; grind
 have hdd : 0 < d * d' := Int.mul_pos hd hd'
 have a1 : d * d' * (d * s') ≤ d * d' * ae N N' := YA h1 (Int.le_of_lt hdd)
 have a2 : d * d' * (d' * s) ≤ d * d' * ae N' N := YA h2 (Int.le_of_lt hdd)
 have e1 : d' * d' * ae N N = d * d' * (d' * s) := by rw [q]; grind
 have e2 : d * d * ae N' N' = d * d' * (d * s') := by rw [q']; grind
 obtain ⟨z1, z2, z3⟩ := TQ (a := d' * N.1 - d * N'.1) (b := d' * N.2.1 - d * N'.2.1) (c := d' * N.2.2 - d * N'.2.2) (by rw [e, e1, e2]; omega)
 exact ⟨by omega, by omega, by omega⟩
end Go.Ev
namespace Go.Ev
open Go.Proofs
theorem KB {a b c d m k : Int} (one : ∀ e, e ∣ a → e ∣ b → e ∣ c → e ∣ d → e ∣ 1) (ha : k ∣ m * a) (hb : k ∣ m * b) (hc : k ∣ m * c) (hd : k ∣ m * d) : k ∣ m := by
 have h1 : Nat.gcd (Nat.gcd a.natAbs b.natAbs) (Nat.gcd c.natAbs d.natAbs) = 1 := by
  have z := one ((Nat.gcd (Nat.gcd a.natAbs b.natAbs) (Nat.gcd c.natAbs d.natAbs) : Nat) : Int)
   (Int.ofNat_dvd_left.2 (Nat.dvd_trans (Nat.gcd_dvd_left _ _) (Nat.gcd_dvd_left _ _))) (Int.ofNat_dvd_left.2 (Nat.dvd_trans (Nat.gcd_dvd_left _ _) (Nat.gcd_dvd_right _ _)))
   (Int.ofNat_dvd_left.2 (Nat.dvd_trans (Nat.gcd_dvd_right _ _) (Nat.gcd_dvd_left _ _))) (Int.ofNat_dvd_left.2 (Nat.dvd_trans (Nat.gcd_dvd_right _ _) (Nat.gcd_dvd_right _ _)))
  have := Int.ofNat_dvd_left.1 z
  exact Nat.dvd_one.1 (by simpa using this)
 have n : ∀ {x : Int}, k ∣ m * x → k.natAbs ∣ m.natAbs * x.natAbs := fun {x} h => by
  rw [← Int.natAbs_mul]; exact Int.natAbs_dvd_natAbs.2 h
 have h2 : k.natAbs ∣ m.natAbs * Nat.gcd (Nat.gcd a.natAbs b.natAbs) (Nat.gcd c.natAbs d.natAbs) := by
  rw [← Nat.gcd_mul_left, ← Nat.gcd_mul_left, ← Nat.gcd_mul_left]
  exact Nat.dvd_gcd (Nat.dvd_gcd (n ha) (n hb)) (Nat.dvd_gcd (n hc) (n hd))
 rw [h1, Nat.mul_one] at h2
 exact Int.natAbs_dvd_natAbs.1 h2
theorem Prim.only {n n' N N' : Pt} {d d' D D' : Int} (h : Prim n d N D) (h' : Prim n' d' N' D') (hd : 0 < d) (hd' : 0 < d')
  (e : d' * n.1 = d * n'.1 ∧ d' * n.2.1 = d * n'.2.1 ∧ d' * n.2.2 = d * n'.2.2) : N = N' ∧ D = D' := by
 obtain ⟨g, hg, rfl, rfl⟩ := h.ex
 obtain ⟨g', hg', rfl, rfl⟩ := h'.ex
 have hD : 0 < D := by
  rcases Int.lt_or_le 0 D with k | k
  ·exact k
  ·have := Int.mul_nonpos_of_nonneg_of_nonpos (Int.le_of_lt hg) k; omega
 have hD' : 0 < D' := by
  rcases Int.lt_or_le 0 D' with k | k
  ·exact k
  ·have := Int.mul_nonpos_of_nonneg_of_nonpos (Int.le_of_lt hg') k; omega
 have gg : g * g' ≠ 0 := Int.ne_of_gt (Int.mul_pos hg hg')
 have c : ∀ {x y : Int}, g' * D' * (g * x) = g * D * (g' * y) → D' * x = D * y := fun {x y} q => Int.eq_of_mul_eq_mul_left gg (by grind)
 obtain ⟨e1, e2, e3⟩ := e
 have c1 := c e1
 have c2 := c e2
 have c3 := c e3
 have k1 : D ∣ D' := KB h.one ⟨_, c1⟩ ⟨_, c2⟩ ⟨_, c3⟩ ⟨D', Int.mul_comm _ _⟩
 have k2 : D' ∣ D := KB h'.one ⟨_, c1.symm⟩ ⟨_, c2.symm⟩ ⟨_, c3.symm⟩ ⟨D, Int.mul_comm _ _⟩
 have eD : D = D' := Int.le_antisymm (Int.le_of_dvd hD' k1) (Int.le_of_dvd hD k2)
 subst eD
 have nz : D ≠ 0 := Int.ne_of_gt hD
 refine ⟨?_, rfl⟩
 obtain ⟨a, b, c⟩ := N
 obtain ⟨a', b', c'⟩ := N'
 rw [show a = a' from Int.eq_of_mul_eq_mul_left nz c1, show b = b' from Int.eq_of_mul_eq_mul_left nz c2, show c = c' from Int.eq_of_mul_eq_mul_left nz c3]
theorem Nr.only {l l' : List Pt} {o o' : List Nat} {N N' : Pt} {D D' : Int} (h : Nr l o N D) (h' : Nr l' o' N' D') (hT : ∀ p ∈ pick l o, lev l' o' ≤ ae p (bA (pick l' o'))) (hT' : ∀ p ∈ pick l' o', lev l o ≤ ae p (bA (pick l o))) : N = N' ∧ D = D' := by
 have z : Nst (pick l o) (wts (pick l o)).1 (bA (pick l o)) (wts (pick l o)).2 (lev l o) := Nst.of h.own.v.1 h.own.v.2
 have z' : Nst (pick l' o') (wts (pick l' o')).1 (bA (pick l' o')) (wts (pick l' o')).2 (lev l' o') := Nst.of h'.own.v.1 h'.own.v.2
 exact h.FU.only h'.FU z.qE z'.qE (OS z z' z.qE z'.qE hT hT')
theorem I5 {l : List Pt} {o : List Nat} (h : ∀ x ∈ o, x < l.length) : ∀ p ∈ pick l o, p ∈ l := by
 intro p hp
 obtain ⟨i, hi, rfl⟩ := List.mem_map.1 hp
 have := h i hi
 unfold pat
 rw [Yq, Yp this]
 exact List.getElem_mem this
end Go.Ev
namespace Go.Ev
open Go.Proofs
abbrev jo := LA_ × Nat × Int × Int × Int × LA_ × Nat × Int × Int × Int
abbrev jp := LA_ × Nat × LA_ × Nat × Int × Int
abbrev jq := LA_ × Nat × LA_ × Nat × Int
def lQ : CH := (CH.add 20 wJ CH.none)
theorem lc : aB YI lQ := (CH.aj Di CH.ay)
def kw {R : Type} (cc : jp) (v : Int) (kn : (Int) → Option R) (ke : ((Int) ⊕ (Unit)) → Option R) : Option R :=
 (cond (decide (v < 3)) (let l3 := ([.int .i64 7, .int .i64 3, .int .i64 2] : LA_); (ah (decide (0 ≤ v) && decide (v < ((3 : Nat) : Int)) && aw [.int .i64] l3 (Int.toNat v * 1)) (cond (cc.2.2.2.2.1 == (ac l3 ((Int.toNat v * 1) + 0))) (ke (.inl (ac l3 ((Int.toNat v * 1) + 0)))) (cond (cc.2.2.2.2.2 == (ac l3 ((Int.toNat v * 1) + 0))) (ke (.inl (ac l3 ((Int.toNat v * 1) + 0)))) (kn (IntKind.wrap .i64 (v + 1))))))) (ke (.inr ())))
def fV (cc : jp) (v : Int) : Option ((Int) ⊕ ((Int) ⊕ (Unit))) := kw cc v (fun v => some (Sum.inl v)) fun e => some (Sum.inr e)
def Dj (cc : jp) (v : Int) : Option ((Int) ⊕ (Unit)) := dz (fV cc) v
def HW (cc : jp) (v : Int) : List af := [.I cc.s4.1, .I cc.s4.2, .I v, .C cc.1, .N cc.2.1, .C cc.2.2.1, .N cc.2.2.2.1]
def xC (ls : List af) : Option ((jp) × (Int)) := match ls with
 | [.I x0, .I x1, .I x2, .C x3, .N x4, .C x5, .N x6] => some ((x3, x4, x5, x6, x0, x1), x2)
 | _ => none
def xD (e : (Int) ⊕ (Unit)) : an := ((Sum.elim (fun e => .ret) (fun e => .exit 0)) e)
def xE (cc : jp) (e : (Int) ⊕ (Unit)) : List af := ((Sum.elim (fun e => [.I e]) (fun e => [.C cc.1, .N cc.2.1, .C cc.2.2.1, .N cc.2.2.2.1])) e)
def oS (cc : jp) (e : (Int) ⊕ (Unit)) : List af := ((Sum.elim (fun e => []) (fun e => [.C cc.1, .N cc.2.1, .C cc.2.2.1, .N cc.2.2.2.1])) e)
def p7 (o : an) (ls : List af) : Option (((Int) ⊕ (Unit)) × List af) := match o with
 | .ret => (match ls with
  | [.I x0] => some ((.inl x0), [])
  | _ => none)
 | .exit 0 => (match ls with
  | [.C x0, .N x1, .C x2, .N x3] => some ((.inr ()), [.C x0, .N x1, .C x2, .N x3])
  | _ => none)
 | _ => none
theorem DF : ∀ o ls e cl cc, p7 o ls = some (e, cl) → cl = oS cc e → ls = xE cc e ∧ xD e = o ∧ o ≠ .normal ∧ ∀ v, o = .pan v → sc 0 v = true := by
 intro o ls e cl cc h hc
 unfold p7 at h
 split at h
 ·split at h
  ·cases h
   exact ⟨rfl, rfl, by simp, by intro v hv; cases hv <;> rfl⟩
  ·cases h
 ·split at h
  ·cases h
   simp only [oS, YF, YE, List.cons.injEq, af.N.injEq, af.C.injEq, and_true] at hc
   obtain ⟨rfl, rfl, rfl, rfl⟩ := hc
   exact ⟨rfl, rfl, by simp, by intro v hv; cases hv <;> rfl⟩
  ·cases h
 ·cases h
def Jx (o : an) : ExS := match o with
 | .ret => ⟨2, (none :: none :: none :: none :: some (.aM) :: some (.int .i64) :: (rl none 73 [])), [], fun s => [0, 1], [], []⟩
 | .exit 0 => ⟨2, (some (.vec 0) :: some (.vec 1) :: (rl none 77 [])), [(0, .vec 3 false), (1, .vec 3 false)], fun s => [0, 1], [], []⟩
 | _ => ⟨0, [], [], fun _ => [], [], []⟩
theorem HX {R : Type} (cc : jp) (v : Int) (kn : (Int) → Option R) (ke : ((Int) ⊕ (Unit)) → Option R) : kw cc v kn ke = (kw cc v (fun v => some (Sum.inl v)) fun e => some (Sum.inr e)).bind (Sum.elim kn ke) := by
 simp only [kw, bH, ai, Yg, bZ, bB, Ye, Yf, YF, YE]
def AK : LD where
 CC := jp
 V := Int
 E := (Int) ⊕ (Unit)
 n := 2
 K := 2
 M := (some (.vec 0) :: some (.vec 1) :: none :: none :: none :: none :: some (.int .i64) :: some (.int .i64) :: (rl none 12 (some (.agg [.cK .i64 7, .cK .i64 3, .cK .i64 2]) :: some (.int .i64) :: (rl none 57 []))))
 B := [(0, .vec 3 false), (1, .vec 3 false)]
 D := []
 pre := []
 F := fun s => [0, 1]
 toL := HW
 ofL := xC
 ar := fun ls c v h => by
  unfold xC at h
  split at h
  ·cases h; rfl
  ·cases h
 ct := kw
 nat := HX
 sh := Jx
 out := xD
 toE := xE
 eY := oS
 ofE := p7
 cQ := DF
 post := fun cc e k => ((Sum.elim (fun e => k (.ret) (bc 2 (none :: none :: none :: none :: some (.aM) :: some (.int .i64 e) :: (rl none 73 [])) [] [])) (fun e => k (.exit 0) (bc 2 (some (.vec 0) :: some (.vec 1) :: (rl none 77 [])) [(0, .vec cc.1 cc.2.1 3 false), (1, .vec cc.2.2.1 cc.2.2.2.1 3 false)] []))) e)
 cd := fun cc e k => by rcases e with e | e <;> rfl
theorem HY : cJ YI 2 AK.la (aJ Tryz.f6 0) :=
 LD.ok (ch := lQ) (A := bw) aK lc mixed (fuel := 60) ⟨by kernel_rfl, fun e => by (rcases e with e | e <;> kernel_rfl), fun cc v => by kernel_rfl, aH (l := []) (by kernel_rfl) trivial⟩
def fe {R : Type} (cc : jo) (v : LA_ × Nat × Int) (kn : (LA_ × Nat × Int) → Option R) (ke : ((LA_ × Nat)) → Option R) : Option R :=
 (cond (decide (v.2.2 < cc.2.2.2.2.2.2.2.2.2)) (ah (decide (0 ≤ v.2.2) && decide (v.2.2 < ((cc.2.1 : Nat) : Int))) (ah (aw kR cc.1 (Int.toNat v.2.2 * 3)) (ah (decide (2 * (v.2.1 + 1) * 24 ≤ 2 ^ 48)) (kn ((v.1 ++ [.int .i64 (IntKind.wrap .i64 (cc.2.2.1 - (ac cc.1 ((Int.toNat v.2.2 * 3) + 0)))), .int .i64 (IntKind.wrap .i64 (cc.2.2.2.1 - (ac cc.1 ((Int.toNat v.2.2 * 3) + 1)))), .int .i64 (IntKind.wrap .i64 (cc.2.2.2.2.1 - (ac cc.1 ((Int.toNat v.2.2 * 3) + 2))))]), (v.2.1 + 1), (IntKind.wrap .i64 (v.2.2 + 1))))))) (ke (v.1, v.2.1)))
def mE (cc : jo) (v : LA_ × Nat × Int) : Option ((LA_ × Nat × Int) ⊕ ((LA_ × Nat))) := fe cc v (fun v => some (Sum.inl v)) fun e => some (Sum.inr e)
def AL (cc : jo) (v : LA_ × Nat × Int) : Option ((LA_ × Nat)) := dz (mE cc) v
def GG (cc : jo) (v : LA_ × Nat × Int) : List af := [.I cc.s4.2.2.2.1, .I cc.s8.1, .I cc.s8.2, .I v.2.2, .C cc.1, .N cc.2.1, .C v.1, .N v.2.1, .I cc.2.2.1, .I cc.2.2.2.1, .I cc.s4.1, .C cc.s4.2.1, .N cc.s4.2.2.1]
def wb (ls : List af) : Option ((jo) × (LA_ × Nat × Int)) := match ls with
 | [.I x0, .I x1, .I x2, .I x3, .C x4, .N x5, .C x6, .N x7, .I x8, .I x9, .I x10, .C x11, .N x12] => some ((x4, x5, x8, x9, x10, x11, x12, x0, x1, x2), (x6, x7, x3))
 | _ => none
def wd (e : (LA_ × Nat)) : an := ((fun e => .exit 4) e)
def we (cc : jo) (e : (LA_ × Nat)) : List af := ((fun e => [.I cc.s4.2.2.2.1, .I cc.s8.1, .C cc.1, .N cc.2.1, .C e.1, .N e.2, .C cc.s4.2.1, .N cc.s4.2.2.1]) e)
def mT (cc : jo) (e : (LA_ × Nat)) : List af := ((fun e => [.I cc.s4.2.2.2.1, .I cc.s8.1, .C cc.1, .N cc.2.1, .C cc.s4.2.1, .N cc.s4.2.2.1]) e)
def oT (o : an) (ls : List af) : Option (((LA_ × Nat)) × List af) := match o with
 | .exit 4 => (match ls with
  | [.I x0, .I x1, .C x2, .N x3, .C x4, .N x5, .C x6, .N x7] => some ((x4, x5), [.I x0, .I x1, .C x2, .N x3, .C x6, .N x7])
  | _ => none)
 | _ => none
theorem BK : ∀ o ls e cl cc, oT o ls = some (e, cl) → cl = mT cc e → ls = we cc e ∧ wd e = o ∧ o ≠ .normal ∧ ∀ v, o = .pan v → sc 0 v = true := by
 intro o ls e cl cc h hc
 unfold oT at h
 split at h
 ·split at h
  ·cases h
   simp only [mT, List.cons.injEq, af.I.injEq, af.N.injEq, af.C.injEq, and_true] at hc
   obtain ⟨rfl, rfl, rfl, rfl, rfl, rfl⟩ := hc
   exact ⟨rfl, rfl, by simp, by intro v hv; cases hv <;> rfl⟩
  ·cases h
 ·cases h
def HZ (o : an) : ExS := match o with
 | .exit 4 => ⟨3, (none :: some (.vec 1) :: (rl none 8 (some (.vec 2) :: (rl none 29 (some (.vec 0) :: some (.int .i64) :: some (.int .i64) :: (rl none 36 [])))))), [(1, .vec 3 false), (2, .vec 3 true), (0, .vec 3 false)], fun s => [0, 1, ak s 10 []], [], []⟩
 | _ => ⟨0, [], [], fun _ => [], [], []⟩
theorem GH {R : Type} (cc : jo) (v : LA_ × Nat × Int) (kn : (LA_ × Nat × Int) → Option R) (ke : ((LA_ × Nat)) → Option R) : fe cc v kn ke = (fe cc v (fun v => some (Sum.inl v)) fun e => some (Sum.inr e)).bind (Sum.elim kn ke) := by
 simp only [fe, bH, ai, Yg, bZ, bB, Ye, Yf, YF, YE]
def rt : LD where
 CC := jo
 V := LA_ × Nat × Int
 E := (LA_ × Nat)
 n := 2
 K := 4
 M := (none :: some (.vec 1) :: (rl none 8 (some (.vec 2) :: none :: some (.ptr 3 0) :: (rl none 27 (some (.vec 0) :: some (.int .i64) :: some (.int .i64) :: none :: none :: none :: some (.vec 1) :: some (.int .i64) :: some (.int .i64) :: (rl none 30 []))))))
 B := [(1, .vec 3 false), (2, .vec 3 true), (3, .cells [.int .i64, .int .i64, .int .i64] true none), (0, .vec 3 false)]
 D := []
 pre := []
 F := fun s => [0, 1, ak s 10 [], ak s 12 []]
 toL := GG
 ofL := wb
 ar := fun ls c v h => by
  unfold wb at h
  split at h
  ·cases h; rfl
  ·cases h
 ct := fe
 nat := GH
 sh := HZ
 out := wd
 toE := we
 eY := mT
 ofE := oT
 cQ := BK
 post := fun cc e k => ((fun e => k (.exit 4) (bc 3 (none :: some (.vec 1) :: (rl none 8 (some (.vec 2) :: (rl none 29 (some (.vec 0) :: some (.int .i64 cc.s4.2.2.2.1) :: some (.int .i64 cc.s8.1) :: (rl none 36 [])))))) [(1, .vec cc.1 cc.2.1 3 false), (2, .vec e.1 e.2 3 true), (0, .vec cc.s4.2.1 cc.s4.2.2.1 3 false)] [])) e)
 cd := fun cc e k => by rfl
theorem wf : cJ YI 2 rt.la (aJ Tryz.f6 2) :=
 LD.ok (ch := lQ) (A := bw) aK lc mixed (fuel := 60) ⟨by kernel_rfl, fun e => by kernel_rfl, fun cc v => by kernel_rfl, aH (l := []) (by kernel_rfl) trivial⟩
def fh {R : Type} (cc : jq) (v : LA_ × Nat × Int) (kn : (LA_ × Nat × Int) → Option R) (ke : ((LA_ × Nat)) → Option R) : Option R :=
 (cond (decide (v.2.2 < cc.2.2.2.2)) (ah (decide (0 ≤ v.2.2) && decide (v.2.2 < ((cc.2.2.2.1 : Nat) : Int))) (ah (aw kR cc.2.2.1 (Int.toNat v.2.2 * 3)) (Option.bind (AL (cc.1, cc.2.1, (ac cc.2.2.1 ((Int.toNat v.2.2 * 3) + 0)), (ac cc.2.2.1 ((Int.toNat v.2.2 * 3) + 1)), (ac cc.2.2.1 ((Int.toNat v.2.2 * 3) + 2)), cc.2.2.1, cc.2.2.2.1, cc.2.2.2.2, v.2.2, ((cc.2.1 : Nat) : Int)) (v.1, v.2.1, 0)) fun e5 => (kn (e5.1, e5.2, (IntKind.wrap .i64 (v.2.2 + 1))))))) (ke (v.1, v.2.1)))
def mF (cc : jq) (v : LA_ × Nat × Int) : Option ((LA_ × Nat × Int) ⊕ ((LA_ × Nat))) := fh cc v (fun v => some (Sum.inl v)) fun e => some (Sum.inr e)
def AM (cc : jq) (v : LA_ × Nat × Int) : Option ((LA_ × Nat)) := dz (mF cc) v
def GI (cc : jq) (v : LA_ × Nat × Int) : List af := [.I cc.s4, .I v.2.2, .C cc.1, .N cc.2.1, .C v.1, .N v.2.1, .C cc.2.2.1, .N cc.2.2.2.1]
def wh (ls : List af) : Option ((jq) × (LA_ × Nat × Int)) := match ls with
 | [.I x0, .I x1, .C x2, .N x3, .C x4, .N x5, .C x6, .N x7] => some ((x2, x3, x6, x7, x0), (x4, x5, x1))
 | _ => none
def wi (e : (LA_ × Nat)) : an := ((fun e => .exit 2) e)
def wj (cc : jq) (e : (LA_ × Nat)) : List af := ((fun e => [.C e.1, .N e.2]) e)
def uB (cc : jq) (e : (LA_ × Nat)) : List af := ((fun e => []) e)
def oU (o : an) (ls : List af) : Option (((LA_ × Nat)) × List af) := match o with
 | .exit 2 => (match ls with
  | [.C x0, .N x1] => some ((x0, x1), [])
  | _ => none)
 | _ => none
theorem BL : ∀ o ls e cl cc, oU o ls = some (e, cl) → cl = uB cc e → ls = wj cc e ∧ wi e = o ∧ o ≠ .normal ∧ ∀ v, o = .pan v → sc 0 v = true := by
 intro o ls e cl cc h hc
 unfold oU at h
 split at h
 ·split at h
  ·cases h
   exact ⟨rfl, rfl, by simp, by intro v hv; cases hv <;> rfl⟩
  ·cases h
 ·cases h
def H0 (o : an) : ExS := match o with
 | .exit 2 => ⟨3, (rl none 10 (some (.vec 2) :: (rl none 68 []))), [(2, .vec 3 true)], fun s => [0, 1, ak s 10 []], [], []⟩
 | _ => ⟨0, [], [], fun _ => [], [], []⟩
theorem GJ {R : Type} (cc : jq) (v : LA_ × Nat × Int) (kn : (LA_ × Nat × Int) → Option R) (ke : ((LA_ × Nat)) → Option R) : fh cc v kn ke = (fh cc v (fun v => some (Sum.inl v)) fun e => some (Sum.inr e)).bind (Sum.elim kn ke) := by
 simp only [fh, bH, ai, Yg, bZ, bB, Ye, Yf, YF, YE]
def zj : LD where
 CC := jq
 V := LA_ × Nat × Int
 E := (LA_ × Nat)
 n := 2
 K := 3
 M := (none :: some (.vec 1) :: (rl none 8 (some (.vec 2) :: (rl none 29 (some (.vec 0) :: some (.int .i64) :: some (.int .i64) :: (rl none 36 []))))))
 B := [(1, .vec 3 false), (2, .vec 3 true), (0, .vec 3 false)]
 D := []
 pre := [(10, 3)]
 F := fun s => [0, 1, ak s 10 []]
 toL := GI
 ofL := wh
 ar := fun ls c v h => by
  unfold wh at h
  split at h
  ·cases h; rfl
  ·cases h
 ct := fh
 nat := GJ
 sh := H0
 out := wi
 toE := wj
 eY := uB
 ofE := oU
 cQ := BL
 post := fun cc e k => ((fun e => k (.exit 2) (bc 3 (rl none 10 (some (.vec 2) :: (rl none 68 []))) [(2, .vec e.1 e.2 3 true)] [])) e)
 cd := fun cc e k => by rfl
theorem GK : cJ YI 2 zj.la (aJ Tryz.f6 1) :=
 LD.ok (ch := lQ) (A := dL [(15, rt.la)]) aK lc mixed (fuel := 60) ⟨by kernel_rfl, fun e => by kernel_rfl, fun cc v => by kernel_rfl, aH (l := [aJ Tryz.f6 2]) (by kernel_rfl) ⟨bT (by kernel_rfl) wf, trivial⟩⟩
def rq (cs0 : LA_) (n1 : Nat) (cs2 : LA_) (n3 : Nat) : Option (Int × LA_ × Nat) :=
 (Option.bind (jn cs0 n1) fun r1 => (Option.bind (jn cs2 n3) fun r2 => (Option.bind (Dj (cs0, n1, cs2, n3, r1, r2) 0) (Sum.elim (fun e3 => (some (e3, ([] : LA_), 0))) (fun e3 => (cond (decide ((IntKind.wrap .i64 (((n1 : Nat) : Int) * ((n3 : Nat) : Int))) > 256)) (some (3, ([] : LA_), 0)) (Option.bind (AM (cs2, n3, cs0, n1, ((n1 : Nat) : Int)) (([] : LA_), 0, 0)) fun e4 => (Option.bind (jn e4.1 e4.2) fun r5 => (cond (r5 != 0) (some (r5, ([] : LA_), 0)) (some (0, e4.1, e4.2)))))))))))
def ru : FD where
 X := Int × LA_ × Nat
 k := 2
 pre := [(4, 3)]
 F := fun s => [0, 1, ak s 0 [.c 0]]
 M := .tup [.vec 2, .int .i64]
 B := [.vec 3 true]
 toL := fun x => [.I x.1, .C x.2.1, .N x.2.2]
 ofL := fun ls => match ls with
  | [.I x0, .C x1, .N x2] => some (x0, x1, x2)
  | _ => none
 ar := fun ls x h => by
  split at h
  ·cases h; rfl
  ·cases h
theorem KQ (cs0 : LA_) (n1 : Nat) (cs2 : LA_) (n3 : Nat) (x : Int × LA_ × Nat) (h : rq cs0 n1 cs2 n3 = some x) : aP YI 6 2 [.vec 0, .vec 1] [.vec cs0 n1 3 false, .vec cs2 n3 3 false] ru x :=
 FD.sem (ch := lQ) (A := dL [(3, AK.la), (15, rt.la), (12, zj.la)]) (fn := Tryz.f6) (c := br Tryz.f6) (fuel := 60) aK lc mixed bI ru Tryz.func6 (by kernel_rfl) (aH (l := [aJ Tryz.f6 0, aJ Tryz.f6 1, aJ Tryz.f6 2]) (by kernel_rfl) ⟨bT (by kernel_rfl) HY, bT (by kernel_rfl) GK, bT (by kernel_rfl) wf, trivial⟩)
  (by kernel_rfl) (Eq.trans (by kernel_rfl) h)
def BH : HK where
 call := fun args σ k => match args with
  | [x0, x1] => cO σ 3 x0 fun cs0 n1 => cO σ 3 x1 fun cs2 n3 => Option.bind (rq cs0 n1 cs2 n3) fun y => au σ 2 (ru.val y) (ru.aI y) k
  | _ => none
 nat := fun args σ k => by
  repeat' split
  all_goals simp only [ao, ai, Yg, Yf, au, Ye]
 pure := false
 pok := fun h => by cases h
theorem Mo : aN YI 6 BH := by
 intro args σ r σ' h
 simp only [BH] at h
 split at h
 ·rename_i x0 x1
  obtain ⟨cs0, n1, he0, hf0, h⟩ := bv h
  obtain ⟨cs2, n3, he1, hf1, h⟩ := bv h
  obtain ⟨y, hy, h⟩ := bE_ h
  exact aG (xs := [x0, x1]) (ls := [.vec cs0 n1 3 false, .vec cs2 n3 3 false]) (cargs := [.vec 0, .vec 1]) (bg.of ⟨⟨rfl, he0, hf0, by decide⟩, ⟨rfl, he1, hf1, by decide⟩, trivial⟩) rfl (KQ cs0 n1 cs2 n3 y hy) rfl rfl rfl rfl h
 ·cases h
end Go.Ev
