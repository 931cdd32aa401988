import Derived.Test.YtbmjabafceihgaaGreatKaj
set_option linter.unusedVariables false
set_option linter.unusedSimpArgs false
set_option maxRecDepth 100000
noncomputable section
namespace Go.Ev
open Go.Proofs
theorem TU {a0 a1 a2 a3 a4 a5 a6 a7 a8 a9 a10 a11 a12 a13 a14 a15 r : Int} (h : kh a0 a1 a2 a3 a4 a5 a6 a7 a8 a9 a10 a11 a12 a13 a14 a15 = some r) : mN a0 a1 a2 a3 a4 a5 a6 a7 a8 a9 a10 a11 a12 a13 a14 a15 = some (t8 r) := by
 simp only [mN, h, Ye, t8]
def tU : HK where
 call := fun args σ k => match args with
  | [.agg [.int .u64 a0, .int .u64 a1, .int .u64 a2, .int .u64 a3, .int .u64 a4, .int .u64 a5, .int .u64 a6, .int .u64 a7], .agg [.int .u64 a8, .int .u64 a9, .int .u64 a10, .int .u64 a11, .int .u64 a12, .int .u64 a13, .int .u64 a14, .int .u64 a15]] => Option.bind (kh a0 a1 a2 a3 a4 a5 a6 a7 a8 a9 a10 a11 a12 a13 a14 a15) fun r => k (.ret (.agg [.int .u64 (aa r 0), .int .u64 (aa r 1), .int .u64 (aa r 2), .int .u64 (aa r 3), .int .u64 (aa r 4), .int .u64 (aa r 5), .int .u64 (aa r 6), .int .u64 (aa r 7)])) σ
  | _ => none
 nat := fun args σ k => by
  repeat' split
  all_goals simp only [Yg, Yf, Ye]
 pure := true
 pok := fun _ args σ r σ' h => by
  split at h
  ·obtain ⟨q, h1, h2⟩ := bE_ h
   simp only [Yh, Yj] at h2
   obtain ⟨rfl, rfl⟩ := h2
   exact ⟨rfl, ⟨_, rfl⟩, fun σ2 => by simp only [h1, Ye]⟩
  ·cases h
theorem rO : aN YI 66 tU := E2.da fun args σ x h => by
 simp only [tU] at h
 split at h
 ·rename_i a0 a1 a2 a3 a4 a5 a6 a7 a8 a9 a10 a11 a12 a13 a14 a15
  obtain ⟨r, h1, h2⟩ := bE_ h
  simp only [rX, TU h1, Ye]
  exact h2
 ·cases h
theorem VP {a0 a1 a2 a3 a4 a5 a6 a7 a8 a9 a10 a11 a12 a13 a14 a15 r : Int} (h : pN a0 a1 a2 a3 a4 a5 a6 a7 a8 a9 a10 a11 a12 a13 a14 a15 = some r) : om a0 a1 a2 a3 a4 a5 a6 a7 a8 a9 a10 a11 a12 a13 a14 a15 = some (t8 r) := by
 simp only [om, h, Ye, t8]
def EY : HK where
 call := fun args σ k => match args with
  | [.agg [.int .u64 a0, .int .u64 a1, .int .u64 a2, .int .u64 a3, .int .u64 a4, .int .u64 a5, .int .u64 a6, .int .u64 a7], .agg [.int .u64 a8, .int .u64 a9, .int .u64 a10, .int .u64 a11, .int .u64 a12, .int .u64 a13, .int .u64 a14, .int .u64 a15]] => Option.bind (pN a0 a1 a2 a3 a4 a5 a6 a7 a8 a9 a10 a11 a12 a13 a14 a15) fun r => k (.ret (.agg [.int .u64 (aa r 0), .int .u64 (aa r 1), .int .u64 (aa r 2), .int .u64 (aa r 3), .int .u64 (aa r 4), .int .u64 (aa r 5), .int .u64 (aa r 6), .int .u64 (aa r 7)])) σ
  | _ => none
 nat := fun args σ k => by
  repeat' split
  all_goals simp only [Yg, Yf, Ye]
 pure := true
 pok := fun _ args σ r σ' h => by
  split at h
  ·obtain ⟨q, h1, h2⟩ := bE_ h
   simp only [Yh, Yj] at h2
   obtain ⟨rfl, rfl⟩ := h2
   exact ⟨rfl, ⟨_, rfl⟩, fun σ2 => by simp only [h1, Ye]⟩
  ·cases h
theorem EZ : aN YI 78 EY := Ha.da fun args σ x h => by
 simp only [EY] at h
 split at h
 ·rename_i a0 a1 a2 a3 a4 a5 a6 a7 a8 a9 a10 a11 a12 a13 a14 a15
  obtain ⟨r, h1, h2⟩ := bE_ h
  simp only [tV, VP h1, Ye]
  exact h2
 ·cases h
theorem VQ {a0 a1 a2 a3 a4 a5 a6 a7 a8 a9 a10 a11 a12 a13 a14 a15 r : Int} (h : zq a0 a1 a2 a3 a4 a5 a6 a7 a8 a9 a10 a11 a12 a13 a14 a15 = some r) : ol a0 a1 a2 a3 a4 a5 a6 a7 a8 a9 a10 a11 a12 a13 a14 a15 = some (t8 r) := by
 simp only [ol, h, Ye, t8]
def E3 : HK where
 call := fun args σ k => match args with
  | [.agg [.int .u64 a0, .int .u64 a1, .int .u64 a2, .int .u64 a3, .int .u64 a4, .int .u64 a5, .int .u64 a6, .int .u64 a7], .agg [.int .u64 a8, .int .u64 a9, .int .u64 a10, .int .u64 a11, .int .u64 a12, .int .u64 a13, .int .u64 a14, .int .u64 a15]] => Option.bind (zq a0 a1 a2 a3 a4 a5 a6 a7 a8 a9 a10 a11 a12 a13 a14 a15) fun r => k (.ret (.agg [.int .u64 (aa r 0), .int .u64 (aa r 1), .int .u64 (aa r 2), .int .u64 (aa r 3), .int .u64 (aa r 4), .int .u64 (aa r 5), .int .u64 (aa r 6), .int .u64 (aa r 7)])) σ
  | _ => none
 nat := fun args σ k => by
  repeat' split
  all_goals simp only [Yg, Yf, Ye]
 pure := true
 pok := fun _ args σ r σ' h => by
  split at h
  ·obtain ⟨q, h1, h2⟩ := bE_ h
   simp only [Yh, Yj] at h2
   obtain ⟨rfl, rfl⟩ := h2
   exact ⟨rfl, ⟨_, rfl⟩, fun σ2 => by simp only [h1, Ye]⟩
  ·cases h
theorem E4 : aN YI 77 E3 := GW.da fun args σ x h => by
 simp only [E3] at h
 split at h
 ·rename_i a0 a1 a2 a3 a4 a5 a6 a7 a8 a9 a10 a11 a12 a13 a14 a15
  obtain ⟨r, h1, h2⟩ := bE_ h
  simp only [tP, VQ h1, Ye]
  exact h2
 ·cases h
def bo (a0 a1 a2 a3 a4 a5 : Int) : Option Int := ah (bf a0 && bf a1 && bf a2 && bf a3 && bf a4 && bf a5) (some (a0 * a3 + a1 * a4 + a2 * a5))
theorem Xe {a0 a1 a2 a3 a4 a5 r : Int} (h : bo a0 a1 a2 a3 a4 a5 = some r) : rE a0 a1 a2 a3 a4 a5 = some (t8 r) := by
 unfold bo at h
 obtain ⟨h1, h2⟩ := aL h
 simp only [Yi] at h1
 simp only [Yh] at h2
 subst h2
 exact XJ h1.1.1.1.1.1 h1.1.1.1.1.2 h1.1.1.1.2 h1.1.1.2 h1.1.2 h1.2
theorem Vx {a0 a1 a2 a3 a4 a5 : Int} (h0 : bf a0 = true) (h1 : bf a1 = true) (h2 : bf a2 = true) (h3 : bf a3 = true) (h4 : bf a4 = true) (h5 : bf a5 = true) : bo a0 a1 a2 a3 a4 a5 = some (a0 * a3 + a1 * a4 + a2 * a5) := by
 unfold bo; rw [h0, h1, h2, h3, h4, h5]; rfl
def JI : HK where
 call := fun args σ k => match args with
  | [.agg [.int .i64 a0, .int .i64 a1, .int .i64 a2], .agg [.int .i64 a3, .int .i64 a4, .int .i64 a5]] => Option.bind (bo a0 a1 a2 a3 a4 a5) fun r => k (.ret (.agg [.int .u64 (aa r 0), .int .u64 (aa r 1), .int .u64 (aa r 2), .int .u64 (aa r 3), .int .u64 (aa r 4), .int .u64 (aa r 5), .int .u64 (aa r 6), .int .u64 (aa r 7)])) σ
  | _ => none
 nat := fun args σ k => by
  repeat' split
  all_goals simp only [Yg, Yf, Ye]
 pure := true
 pok := fun _ args σ r σ' h => by
  split at h
  ·obtain ⟨q, h1, h2⟩ := bE_ h
   simp only [Yh, Yj] at h2
   obtain ⟨rfl, rfl⟩ := h2
   exact ⟨rfl, ⟨_, rfl⟩, fun σ2 => by simp only [h1, Ye]⟩
  ·cases h
theorem Ip : aN YI 75 JI := My.da fun args σ x h => by
 simp only [JI] at h
 split at h
 ·rename_i a0 a1 a2 a3 a4 a5
  obtain ⟨r, h1, h2⟩ := bE_ h
  simp only [BQ, Xe h1, Ye]
  exact h2
 ·cases h
def oc (a0 a1 a2 a3 a4 a5 a6 a7 a8 a9 a10 a11 a12 a13 a14 a15 a16 a17 a18 a19 a20 a21 a22 a23 a24 a25 a26 : Int) : Option Int := ah (ok8 a0 a1 a2 a3 a4 a5 a6 a7 && ok8 a8 a9 a10 a11 a12 a13 a14 a15 && ok8 a16 a17 a18 a19 a20 a21 a22 a23 && bf a24 && bf a25 && bf a26 && f0 ((num a0 a1 a2 a3 a4 a5 a6 a7) * a24) && f0 ((num a8 a9 a10 a11 a12 a13 a14 a15) * a25) && f0 ((num a16 a17 a18 a19 a20 a21 a22 a23) * a26) && f0 ((num a0 a1 a2 a3 a4 a5 a6 a7) * a24 + (num a8 a9 a10 a11 a12 a13 a14 a15) * a25) && f0 ((num a0 a1 a2 a3 a4 a5 a6 a7) * a24 + (num a8 a9 a10 a11 a12 a13 a14 a15) * a25 + (num a16 a17 a18 a19 a20 a21 a22 a23) * a26)) (some ((num a0 a1 a2 a3 a4 a5 a6 a7) * a24 + (num a8 a9 a10 a11 a12 a13 a14 a15) * a25 + (num a16 a17 a18 a19 a20 a21 a22 a23) * a26))
theorem Su {a0 a1 a2 a3 a4 a5 a6 a7 a8 a9 a10 a11 a12 a13 a14 a15 a16 a17 a18 a19 a20 a21 a22 a23 a24 a25 a26 r : Int} (h : oc a0 a1 a2 a3 a4 a5 a6 a7 a8 a9 a10 a11 a12 a13 a14 a15 a16 a17 a18 a19 a20 a21 a22 a23 a24 a25 a26 = some r) : iC a0 a1 a2 a3 a4 a5 a6 a7 a8 a9 a10 a11 a12 a13 a14 a15 a16 a17 a18 a19 a20 a21 a22 a23 a24 a25 a26 = some (t9 r true) := by
 unfold oc at h
 obtain ⟨h1, h2⟩ := aL h
 simp only [Yi, and_assoc] at h1
 obtain ⟨o1, o2, o3, r1, r2, r3, f1, f2, f3, f4, f5⟩ := h1
 simp only [Yh] at h2
 subst h2
 have q := LE (f7 o1) (f7 o2) (f7 o3) r1 r2 r3 (ci.1 f1) (ci.1 f2) (ci.1 f3) (ci.1 f4) (ci.1 f5)
 obtain ⟨e10, e11, e12, e13, e14, e15, e16, e17⟩ := aR o1
 obtain ⟨e20, e21, e22, e23, e24, e25, e26, e27⟩ := aR o2
 obtain ⟨e30, e31, e32, e33, e34, e35, e36, e37⟩ := aR o3
 rw [e10, e11, e12, e13, e14, e15, e16, e17, e20, e21, e22, e23, e24, e25, e26, e27, e30, e31, e32, e33, e34, e35, e36, e37] at q
 exact q
def Sv (x y z a b c : Int) : Option Int := oc (aa x 0) (aa x 1) (aa x 2) (aa x 3) (aa x 4) (aa x 5) (aa x 6) (aa x 7) (aa y 0) (aa y 1) (aa y 2) (aa y 3) (aa y 4) (aa y 5) (aa y 6) (aa y 7) (aa z 0) (aa z 1) (aa z 2) (aa z 3) (aa z 4) (aa z 5) (aa z 6) (aa z 7) a b c
theorem Mk {x y z a b c : Int} (hx : fit x) (hy : fit y) (hz : fit z) (ha : bf a = true) (hb : bf b = true) (hc : bf c = true) (h1 : fit (x * a)) (h2 : fit (y * b)) (h3 : fit (z * c)) (h4 : fit (x * a + y * b)) (h5 : fit (x * a + y * b + z * c)) : Sv x y z a b c = some (x * a + y * b + z * c) := by
 unfold Sv oc; rw [bz, bz, bz, aD hx, aD hy, aD hz, ha, hb, hc, ci.2 h1, ci.2 h2, ci.2 h3, ci.2 h4, ci.2 h5]; rfl
def BO : HK where
 call := fun args σ k => match args with
  | [.agg [.int .u64 a0, .int .u64 a1, .int .u64 a2, .int .u64 a3, .int .u64 a4, .int .u64 a5, .int .u64 a6, .int .u64 a7, .int .u64 a8, .int .u64 a9, .int .u64 a10, .int .u64 a11, .int .u64 a12, .int .u64 a13, .int .u64 a14, .int .u64 a15, .int .u64 a16, .int .u64 a17, .int .u64 a18, .int .u64 a19, .int .u64 a20, .int .u64 a21, .int .u64 a22, .int .u64 a23], .agg [.int .i64 a24, .int .i64 a25, .int .i64 a26]] => Option.bind (oc a0 a1 a2 a3 a4 a5 a6 a7 a8 a9 a10 a11 a12 a13 a14 a15 a16 a17 a18 a19 a20 a21 a22 a23 a24 a25 a26) fun r => k (.ret (.tup [.agg [.int .u64 (aa r 0), .int .u64 (aa r 1), .int .u64 (aa r 2), .int .u64 (aa r 3), .int .u64 (aa r 4), .int .u64 (aa r 5), .int .u64 (aa r 6), .int .u64 (aa r 7)], .bool true])) σ
  | _ => none
 nat := fun args σ k => by
  repeat' split
  all_goals simp only [Yg, Yf, Ye]
 pure := true
 pok := fun _ args σ r σ' h => by
  split at h
  ·obtain ⟨q, h1, h2⟩ := bE_ h
   simp only [Yh, Yj] at h2
   obtain ⟨rfl, rfl⟩ := h2
   exact ⟨rfl, ⟨_, rfl⟩, fun σ2 => by simp only [h1, Ye]⟩
  ·cases h
theorem Ht : aN YI 46 BO := rB.da fun args σ x h => by
 simp only [BO] at h
 split at h
 ·rename_i a0 a1 a2 a3 a4 a5 a6 a7 a8 a9 a10 a11 a12 a13 a14 a15 a16 a17 a18 a19 a20 a21 a22 a23 a24 a25 a26
  obtain ⟨r, h1, h2⟩ := bE_ h
  simp only [mV, Su h1, Ye]
  exact h2
 ·cases h
abbrev pd := (I8 (LA_ × Nat))
def oK : CH := (CH.add 19 K3 CH.none)
def pz : CH := xG YI kc [76] 60 oK 5
theorem vJ : aB YI oK := (CH.aj F0 CH.ay)
theorem wP : aB YI pz := ju aK mixed bI vJ 5
def tC (u0 u1 u2 : Int) : Option (pd) :=
 (Option.bind (cOf 1) fun r1 => (some (be r1 (((v8 (aa r1 0) (aa r1 1) (aa r1 2) (aa r1 3) (aa r1 4) (aa r1 5) (aa r1 6) (aa r1 7) []) : LA_), 1))))
def kG : FD where
 X := pd
 k := 1
 pre := [(2, 8)]
 F := fun s => [0, ak s 0 [.c 0]]
 M := .tup [.vec 1, .agg (rl (.int .u64) 8 [])]
 B := [.vec 8 true]
 toL := fun x => [.I x.1, .I x.2.1, .I x.2.2.1, .I x.2.2.2.1, .I x.s4.1, .I x.s4.2.1, .I x.s4.2.2.1, .I x.s4.2.2.2.1, .C x.s8.1, .N x.s8.2]
 ofL := fun ls => match ls with
  | [.I x0, .I x1, .I x2, .I x3, .I x4, .I x5, .I x6, .I x7, .C x8, .N x9] => some (x0, x1, x2, x3, x4, x5, x6, x7, x8, x9)
  | _ => none
 ar := fun ls x h => by
  split at h
  ·cases h; rfl
  ·cases h
theorem zc (u0 u1 u2 : Int) (x : pd) (h : tC u0 u1 u2 = some x) : aP YI 55 1 [.vec 0] [.vec [.int .i64 u0, .int .i64 u1, .int .i64 u2] 1 3 false] kG x :=
 FD.sem (ch := pz) (A := bw) (fn := Tryz.f55) (c := br Tryz.f55) (fuel := 60) aK wP mixed bI kG Tryz.func55 (by kernel_rfl) (aH (l := [aJ Tryz.f55 0, aJ Tryz.f55 1]) (by kernel_rfl) ⟨(eL (by kernel_rfl)), (eL (by kernel_rfl)), trivial⟩)
  (by kernel_rfl) (Eq.trans (by kernel_rfl) h)
def GU : CH := CH.none
theorem BY : aB YI GU := CH.ay
def cX (a0 a1 a2 a3 a4 a5 : Int) : Option (Int × Int × Int) :=
 (some ((IntKind.wrap .i64 (a0 - a3)), (IntKind.wrap .i64 (a1 - a4)), (IntKind.wrap .i64 (a2 - a5))))
def lm : FD where
 X := Int × Int × Int
 k := 0
 pre := []
 F := fun s => []
 M := .agg [.int .i64, .int .i64, .int .i64]
 B := []
 toL := fun x => [.I x.1, .I x.2.1, .I x.2.2]
 ofL := fun ls => match ls with
  | [.I x0, .I x1, .I x2] => some (x0, x1, x2)
  | _ => none
 ar := fun ls x h => by
  split at h
  ·cases h; rfl
  ·cases h
theorem ES (a0 a1 a2 a3 a4 a5 : Int) (x : Int × Int × Int) (h : cX a0 a1 a2 a3 a4 a5 = some x) : aP YI 73 0 [.agg [.int .i64 a0, .int .i64 a1, .int .i64 a2], .agg [.int .i64 a3, .int .i64 a4, .int .i64 a5]] [] lm x :=
 FD.semA lm BY Tryz.func73 (fuel := 60) (by kernel_rfl) (by kernel_rfl)
  (by kernel_rfl) (Eq.trans (by kernel_rfl) h)
def kC : HK where
 call := fun args σ k => match args with
  | [.agg [.int .i64 a0, .int .i64 a1, .int .i64 a2], .agg [.int .i64 a3, .int .i64 a4, .int .i64 a5]] => Option.bind (cX a0 a1 a2 a3 a4 a5) fun y => au σ 0 (lm.val y) (lm.aI y) k
  | _ => none
 nat := fun args σ k => by
  repeat' split
  all_goals simp only [ao, ai, Yg, Yf, au, Ye]
 pure := true
 pok := fun _ args σ r σ' h => by
  split at h
  ·exact aZ h (fun y => rfl) (fun y f => rfl)
  ·cases h
theorem oZ : aN YI 73 kC := by
 intro args σ r σ' h
 simp only [kC] at h
 split at h
 ·rename_i a0 a1 a2 a3 a4 a5
  obtain ⟨y, hy, h⟩ := bE_ h
  exact aG (xs := []) (ls := []) (cargs := [.agg [.int .i64 a0, .int .i64 a1, .int .i64 a2], .agg [.int .i64 a3, .int .i64 a4, .int .i64 a5]]) (bg.of trivial) rfl (ES a0 a1 a2 a3 a4 a5 y hy) rfl rfl rfl rfl h
 ·cases h
abbrev ph := (I8 (LA_ × Nat))
def oL : CH := (CH.add 73 kC (CH.add 77 E3 (CH.add 75 JI (CH.add 26 yb CH.none))))
def pA : CH := xG YI kc [74, 76, 104] 60 oL 5
theorem vK : aB YI oL := (CH.aj oZ (CH.aj E4 (CH.aj Ip (CH.aj uE CH.ay))))
theorem wQ : aB YI pA := ju aK mixed bI vK 5
def iP (u0 u1 u2 u3 u4 u5 : Int) : Option (ph) :=
 (Option.bind (cX u3 u4 u5 u0 u1 u2) fun r1 => (Option.bind (bo r1.1 r1.2.1 r1.2.2 r1.1 r1.2.1 r1.2.2) fun r2 => (Option.bind (bo r1.1 r1.2.1 r1.2.2 u0 u1 u2) fun r3 => (Option.bind (gw r3) fun r4 => (Option.bind (fw r2 r4) fun r5 => (some (be r2 (((v8 (aa r5 0) (aa r5 1) (aa r5 2) (aa r5 3) (aa r5 4) (aa r5 5) (aa r5 6) (aa r5 7) (v8 (aa r4 0) (aa r4 1) (aa r4 2) (aa r4 3) (aa r4 4) (aa r4 5) (aa r4 6) (aa r4 7) [])) : LA_), 2))))))))
def qO : FD where
 X := ph
 k := 1
 pre := [(2, 8)]
 F := fun s => [0, ak s 0 [.c 0]]
 M := .tup [.vec 1, .agg (rl (.int .u64) 8 [])]
 B := [.vec 8 true]
 toL := fun x => [.I x.1, .I x.2.1, .I x.2.2.1, .I x.2.2.2.1, .I x.s4.1, .I x.s4.2.1, .I x.s4.2.2.1, .I x.s4.2.2.2.1, .C x.s8.1, .N x.s8.2]
 ofL := fun ls => match ls with
  | [.I x0, .I x1, .I x2, .I x3, .I x4, .I x5, .I x6, .I x7, .C x8, .N x9] => some (x0, x1, x2, x3, x4, x5, x6, x7, x8, x9)
  | _ => none
 ar := fun ls x h => by
  split at h
  ·cases h; rfl
  ·cases h
theorem zd (u0 u1 u2 u3 u4 u5 : Int) (x : ph) (h : iP u0 u1 u2 u3 u4 u5 = some x) : aP YI 55 1 [.vec 0] [.vec [.int .i64 u0, .int .i64 u1, .int .i64 u2, .int .i64 u3, .int .i64 u4, .int .i64 u5] 2 3 false] qO x :=
 FD.sem (ch := pA) (A := bw) (fn := Tryz.f55) (c := br Tryz.f55) (fuel := 60) aK wQ mixed bI qO Tryz.func55 (by kernel_rfl) (aH (l := [aJ Tryz.f55 0, aJ Tryz.f55 1]) (by kernel_rfl) ⟨(eL (by kernel_rfl)), (eL (by kernel_rfl)), trivial⟩)
  (by kernel_rfl) (Eq.trans (by kernel_rfl) h)
abbrev pi := (I8 (LA_ × Nat))
def oM : CH := (CH.add 73 kC (CH.add 77 E3 (CH.add 75 JI (CH.add 66 tU (CH.add 26 yb CH.none)))))
def pB : CH := xG YI kc [74, 76, 104, 105] 60 oM 5
theorem vL : aB YI oM := (CH.aj oZ (CH.aj E4 (CH.aj Ip (CH.aj rO (CH.aj uE CH.ay)))))
theorem wR : aB YI pB := ju aK mixed bI vL 5
def iQ (u0 u1 u2 u3 u4 u5 u6 u7 u8 : Int) : Option (pi) :=
 (Option.bind (cX u3 u4 u5 u0 u1 u2) fun r1 => (Option.bind (cX u6 u7 u8 u0 u1 u2) fun r2 => (Option.bind (bo r1.1 r1.2.1 r1.2.2 r1.1 r1.2.1 r1.2.2) fun r3 => (Option.bind (bo r2.1 r2.2.1 r2.2.2 r2.1 r2.2.1 r2.2.2) fun r4 => (Option.bind (cH r3 r4) fun r5 => (Option.bind (bo r1.1 r1.2.1 r1.2.2 r2.1 r2.2.1 r2.2.2) fun r6 => (Option.bind (bo r2.1 r2.2.1 r2.2.2 r1.1 r1.2.1 r1.2.2) fun r7 => (Option.bind (cH r6 r7) fun r8 => (Option.bind (fw r5 r8) fun r9 => (Option.bind (bo r1.1 r1.2.1 r1.2.2 u0 u1 u2) fun r10 => (Option.bind (gw r10) fun r11 => (Option.bind (bo r2.1 r2.2.1 r2.2.2 r2.1 r2.2.1 r2.2.2) fun r12 => (Option.bind (cH r11 r12) fun r13 => (Option.bind (bo r1.1 r1.2.1 r1.2.2 r2.1 r2.2.1 r2.2.2) fun r14 => (Option.bind (bo r2.1 r2.2.1 r2.2.2 u0 u1 u2) fun r15 => (Option.bind (gw r15) fun r16 => (Option.bind (cH r14 r16) fun r17 => (Option.bind (fw r13 r17) fun r18 => (Option.bind (fw r9 r18) fun r19 => (Option.bind (bo r1.1 r1.2.1 r1.2.2 r1.1 r1.2.1 r1.2.2) fun r20 => (Option.bind (bo r2.1 r2.2.1 r2.2.2 u0 u1 u2) fun r21 => (Option.bind (gw r21) fun r22 => (Option.bind (cH r20 r22) fun r23 => (Option.bind (bo r1.1 r1.2.1 r1.2.2 u0 u1 u2) fun r24 => (Option.bind (gw r24) fun r25 => (Option.bind (bo r2.1 r2.2.1 r2.2.2 r1.1 r1.2.1 r1.2.2) fun r26 => (Option.bind (cH r25 r26) fun r27 => (Option.bind (fw r23 r27) fun r28 => (Option.bind (fw r19 r28) fun r29 => (some (be r9 (((v8 (aa r29 0) (aa r29 1) (aa r29 2) (aa r29 3) (aa r29 4) (aa r29 5) (aa r29 6) (aa r29 7) (v8 (aa r18 0) (aa r18 1) (aa r18 2) (aa r18 3) (aa r18 4) (aa r18 5) (aa r18 6) (aa r18 7) (v8 (aa r28 0) (aa r28 1) (aa r28 2) (aa r28 3) (aa r28 4) (aa r28 5) (aa r28 6) (aa r28 7) []))) : LA_), 3))))))))))))))))))))))))))))))))
def qP : FD where
 X := pi
 k := 1
 pre := [(2, 8)]
 F := fun s => [0, ak s 0 [.c 0]]
 M := .tup [.vec 1, .agg (rl (.int .u64) 8 [])]
 B := [.vec 8 true]
 toL := fun x => [.I x.1, .I x.2.1, .I x.2.2.1, .I x.2.2.2.1, .I x.s4.1, .I x.s4.2.1, .I x.s4.2.2.1, .I x.s4.2.2.2.1, .C x.s8.1, .N x.s8.2]
 ofL := fun ls => match ls with
  | [.I x0, .I x1, .I x2, .I x3, .I x4, .I x5, .I x6, .I x7, .C x8, .N x9] => some (x0, x1, x2, x3, x4, x5, x6, x7, x8, x9)
  | _ => none
 ar := fun ls x h => by
  split at h
  ·cases h; rfl
  ·cases h
theorem ze (u0 u1 u2 u3 u4 u5 u6 u7 u8 : Int) (x : pi) (h : iQ u0 u1 u2 u3 u4 u5 u6 u7 u8 = some x) : aP YI 55 1 [.vec 0] [.vec [.int .i64 u0, .int .i64 u1, .int .i64 u2, .int .i64 u3, .int .i64 u4, .int .i64 u5, .int .i64 u6, .int .i64 u7, .int .i64 u8] 3 3 false] qP x :=
 FD.sem (ch := pB) (A := bw) (fn := Tryz.f55) (c := br Tryz.f55) (fuel := 60) aK wR mixed bI qP Tryz.func55 (by kernel_rfl) (aH (l := [aJ Tryz.f55 0, aJ Tryz.f55 1]) (by kernel_rfl) ⟨(eL (by kernel_rfl)), (eL (by kernel_rfl)), trivial⟩)
  (by kernel_rfl) (Eq.trans (by kernel_rfl) h)
abbrev pj := (I8 (LA_ × Nat))
def oN : CH := (CH.add 73 kC (CH.add 78 EY (CH.add 77 E3 (CH.add 75 JI (CH.add 66 tU (CH.add 26 yb CH.none))))))
def pC : CH := xG YI kc [74, 76, 104, 105] 60 oN 5
theorem vM : aB YI oN := (CH.aj oZ (CH.aj EZ (CH.aj E4 (CH.aj Ip (CH.aj rO (CH.aj uE CH.ay))))))
theorem wS : aB YI pC := ju aK mixed bI vM 5
def iR (u0 u1 u2 u3 u4 u5 u6 u7 u8 u9 u10 u11 : Int) : Option (pj) :=
 (Option.bind (cX u3 u4 u5 u0 u1 u2) fun r1 => (Option.bind (cX u6 u7 u8 u0 u1 u2) fun r2 => (Option.bind (cX u9 u10 u11 u0 u1 u2) fun r3 => (Option.bind (bo r1.1 r1.2.1 r1.2.2 r1.1 r1.2.1 r1.2.2) fun r4 => (Option.bind (bo r2.1 r2.2.1 r2.2.2 r2.1 r2.2.1 r2.2.2) fun r5 => (Option.bind (bo r3.1 r3.2.1 r3.2.2 r3.1 r3.2.1 r3.2.2) fun r6 => (Option.bind (cH r5 r6) fun r7 => (Option.bind (bo r2.1 r2.2.1 r2.2.2 r3.1 r3.2.1 r3.2.2) fun r8 => (Option.bind (bo r3.1 r3.2.1 r3.2.2 r2.1 r2.2.1 r2.2.2) fun r9 => (Option.bind (cH r8 r9) fun r10 => (Option.bind (fw r7 r10) fun r11 => (Option.bind (cH r4 r11) fun r12 => (Option.bind (bo r1.1 r1.2.1 r1.2.2 r2.1 r2.2.1 r2.2.2) fun r13 => (Option.bind (bo r2.1 r2.2.1 r2.2.2 r1.1 r1.2.1 r1.2.2) fun r14 => (Option.bind (bo r3.1 r3.2.1 r3.2.2 r3.1 r3.2.1 r3.2.2) fun r15 => (Option.bind (cH r14 r15) fun r16 => (Option.bind (bo r2.1 r2.2.1 r2.2.2 r3.1 r3.2.1 r3.2.2) fun r17 => (Option.bind (bo r3.1 r3.2.1 r3.2.2 r1.1 r1.2.1 r1.2.2) fun r18 => (Option.bind (cH r17 r18) fun r19 => (Option.bind (fw r16 r19) fun r20 => (Option.bind (cH r13 r20) fun r21 => (Option.bind (fw r12 r21) fun r22 => (Option.bind (bo r1.1 r1.2.1 r1.2.2 r3.1 r3.2.1 r3.2.2) fun r23 => (Option.bind (bo r2.1 r2.2.1 r2.2.2 r1.1 r1.2.1 r1.2.2) fun r24 => (Option.bind (bo r3.1 r3.2.1 r3.2.2 r2.1 r2.2.1 r2.2.2) fun r25 => (Option.bind (cH r24 r25) fun r26 => (Option.bind (bo r2.1 r2.2.1 r2.2.2 r2.1 r2.2.1 r2.2.2) fun r27 => (Option.bind (bo r3.1 r3.2.1 r3.2.2 r1.1 r1.2.1 r1.2.2) fun r28 => (Option.bind (cH r27 r28) fun r29 => (Option.bind (fw r26 r29) fun r30 => (Option.bind (cH r23 r30) fun r31 => (Option.bind (Ad r22 r31) fun r32 => (Option.bind (bo r1.1 r1.2.1 r1.2.2 u0 u1 u2) fun r33 => (Option.bind (gw r33) fun r34 => (Option.bind (bo r2.1 r2.2.1 r2.2.2 r2.1 r2.2.1 r2.2.2) fun r35 => (Option.bind (bo r3.1 r3.2.1 r3.2.2 r3.1 r3.2.1 r3.2.2) fun r36 => (Option.bind (cH r35 r36) fun r37 => (Option.bind (bo r2.1 r2.2.1 r2.2.2 r3.1 r3.2.1 r3.2.2) fun r38 => (Option.bind (bo r3.1 r3.2.1 r3.2.2 r2.1 r2.2.1 r2.2.2) fun r39 => (Option.bind (cH r38 r39) fun r40 => (Option.bind (fw r37 r40) fun r41 => (Option.bind (cH r34 r41) fun r42 => (Option.bind (bo r1.1 r1.2.1 r1.2.2 r2.1 r2.2.1 r2.2.2) fun r43 => (Option.bind (bo r2.1 r2.2.1 r2.2.2 u0 u1 u2) fun r44 => (Option.bind (gw r44) fun r45 => (Option.bind (bo r3.1 r3.2.1 r3.2.2 r3.1 r3.2.1 r3.2.2) fun r46 => (Option.bind (cH r45 r46) fun r47 => (Option.bind (bo r2.1 r2.2.1 r2.2.2 r3.1 r3.2.1 r3.2.2) fun r48 => (Option.bind (bo r3.1 r3.2.1 r3.2.2 u0 u1 u2) fun r49 => (Option.bind (gw r49) fun r50 => (Option.bind (cH r48 r50) fun r51 => (Option.bind (fw r47 r51) fun r52 => (Option.bind (cH r43 r52) fun r53 => (Option.bind (fw r42 r53) fun r54 => (Option.bind (bo r1.1 r1.2.1 r1.2.2 r3.1 r3.2.1 r3.2.2) fun r55 => (Option.bind (bo r2.1 r2.2.1 r2.2.2 u0 u1 u2) fun r56 => (Option.bind (gw r56) fun r57 => (Option.bind (bo r3.1 r3.2.1 r3.2.2 r2.1 r2.2.1 r2.2.2) fun r58 => (Option.bind (cH r57 r58) fun r59 => (Option.bind (bo r2.1 r2.2.1 r2.2.2 r2.1 r2.2.1 r2.2.2) fun r60 => (Option.bind (bo r3.1 r3.2.1 r3.2.2 u0 u1 u2) fun r61 => (Option.bind (gw r61) fun r62 => (Option.bind (cH r60 r62) fun r63 => (Option.bind (fw r59 r63) fun r64 => (Option.bind (cH r55 r64) fun r65 => (Option.bind (Ad r54 r65) fun r66 => (Option.bind (fw r32 r66) fun r67 => (Option.bind (bo r1.1 r1.2.1 r1.2.2 r1.1 r1.2.1 r1.2.2) fun r68 => (Option.bind (bo r2.1 r2.2.1 r2.2.2 u0 u1 u2) fun r69 => (Option.bind (gw r69) fun r70 => (Option.bind (bo r3.1 r3.2.1 r3.2.2 r3.1 r3.2.1 r3.2.2) fun r71 => (Option.bind (cH r70 r71) fun r72 => (Option.bind (bo r2.1 r2.2.1 r2.2.2 r3.1 r3.2.1 r3.2.2) fun r73 => (Option.bind (bo r3.1 r3.2.1 r3.2.2 u0 u1 u2) fun r74 => (Option.bind (gw r74) fun r75 => (Option.bind (cH r73 r75) fun r76 => (Option.bind (fw r72 r76) fun r77 => (Option.bind (cH r68 r77) fun r78 => (Option.bind (bo r1.1 r1.2.1 r1.2.2 u0 u1 u2) fun r79 => (Option.bind (gw r79) fun r80 => (Option.bind (bo r2.1 r2.2.1 r2.2.2 r1.1 r1.2.1 r1.2.2) fun r81 => (Option.bind (bo r3.1 r3.2.1 r3.2.2 r3.1 r3.2.1 r3.2.2) fun r82 => (Option.bind (cH r81 r82) fun r83 => (Option.bind (bo r2.1 r2.2.1 r2.2.2 r3.1 r3.2.1 r3.2.2) fun r84 => (Option.bind (bo r3.1 r3.2.1 r3.2.2 r1.1 r1.2.1 r1.2.2) fun r85 => (Option.bind (cH r84 r85) fun r86 => (Option.bind (fw r83 r86) fun r87 => (Option.bind (cH r80 r87) fun r88 => (Option.bind (fw r78 r88) fun r89 => (Option.bind (bo r1.1 r1.2.1 r1.2.2 r3.1 r3.2.1 r3.2.2) fun r90 => (Option.bind (bo r2.1 r2.2.1 r2.2.2 r1.1 r1.2.1 r1.2.2) fun r91 => (Option.bind (bo r3.1 r3.2.1 r3.2.2 u0 u1 u2) fun r92 => (Option.bind (gw r92) fun r93 => (Option.bind (cH r91 r93) fun r94 => (Option.bind (bo r2.1 r2.2.1 r2.2.2 u0 u1 u2) fun r95 => (Option.bind (gw r95) fun r96 => (Option.bind (bo r3.1 r3.2.1 r3.2.2 r1.1 r1.2.1 r1.2.2) fun r97 => (Option.bind (cH r96 r97) fun r98 => (Option.bind (fw r94 r98) fun r99 => (Option.bind (cH r90 r99) fun r100 => (Option.bind (Ad r89 r100) fun r101 => (Option.bind (fw r67 r101) fun r102 => (Option.bind (bo r1.1 r1.2.1 r1.2.2 r1.1 r1.2.1 r1.2.2) fun r103 => (Option.bind (bo r2.1 r2.2.1 r2.2.2 r2.1 r2.2.1 r2.2.2) fun r104 => (Option.bind (bo r3.1 r3.2.1 r3.2.2 u0 u1 u2) fun r105 => (Option.bind (gw r105) fun r106 => (Option.bind (cH r104 r106) fun r107 => (Option.bind (bo r2.1 r2.2.1 r2.2.2 u0 u1 u2) fun r108 => (Option.bind (gw r108) fun r109 => (Option.bind (bo r3.1 r3.2.1 r3.2.2 r2.1 r2.2.1 r2.2.2) fun r110 => (Option.bind (cH r109 r110) fun r111 => (Option.bind (fw r107 r111) fun r112 => (Option.bind (cH r103 r112) fun r113 => (Option.bind (bo r1.1 r1.2.1 r1.2.2 r2.1 r2.2.1 r2.2.2) fun r114 => (Option.bind (bo r2.1 r2.2.1 r2.2.2 r1.1 r1.2.1 r1.2.2) fun r115 => (Option.bind (bo r3.1 r3.2.1 r3.2.2 u0 u1 u2) fun r116 => (Option.bind (gw r116) fun r117 => (Option.bind (cH r115 r117) fun r118 => (Option.bind (bo r2.1 r2.2.1 r2.2.2 u0 u1 u2) fun r119 => (Option.bind (gw r119) fun r120 => (Option.bind (bo r3.1 r3.2.1 r3.2.2 r1.1 r1.2.1 r1.2.2) fun r121 => (Option.bind (cH r120 r121) fun r122 => (Option.bind (fw r118 r122) fun r123 => (Option.bind (cH r114 r123) fun r124 => (Option.bind (fw r113 r124) fun r125 => (Option.bind (bo r1.1 r1.2.1 r1.2.2 u0 u1 u2) fun r126 => (Option.bind (gw r126) fun r127 => (Option.bind (bo r2.1 r2.2.1 r2.2.2 r1.1 r1.2.1 r1.2.2) fun r128 => (Option.bind (bo r3.1 r3.2.1 r3.2.2 r2.1 r2.2.1 r2.2.2) fun r129 => (Option.bind (cH r128 r129) fun r130 => (Option.bind (bo r2.1 r2.2.1 r2.2.2 r2.1 r2.2.1 r2.2.2) fun r131 => (Option.bind (bo r3.1 r3.2.1 r3.2.2 r1.1 r1.2.1 r1.2.2) fun r132 => (Option.bind (cH r131 r132) fun r133 => (Option.bind (fw r130 r133) fun r134 => (Option.bind (cH r127 r134) fun r135 => (Option.bind (Ad r125 r135) fun r136 => (Option.bind (fw r102 r136) fun r137 => (some (be r32 (((v8 (aa r137 0) (aa r137 1) (aa r137 2) (aa r137 3) (aa r137 4) (aa r137 5) (aa r137 6) (aa r137 7) (v8 (aa r66 0) (aa r66 1) (aa r66 2) (aa r66 3) (aa r66 4) (aa r66 5) (aa r66 6) (aa r66 7) (v8 (aa r101 0) (aa r101 1) (aa r101 2) (aa r101 3) (aa r101 4) (aa r101 5) (aa r101 6) (aa r101 7) (v8 (aa r136 0) (aa r136 1) (aa r136 2) (aa r136 3) (aa r136 4) (aa r136 5) (aa r136 6) (aa r136 7) [])))) : LA_), 4))))))))))))))))))))))))))))))))))))))))))))))))))))))))))))))))))))))))))))))))))))))))))))))))))))))))))))))))))))))))))))))))))))))))))))
def qQ : FD where
 X := pj
 k := 1
 pre := [(2, 8)]
 F := fun s => [0, ak s 0 [.c 0]]
 M := .tup [.vec 1, .agg (rl (.int .u64) 8 [])]
 B := [.vec 8 true]
 toL := fun x => [.I x.1, .I x.2.1, .I x.2.2.1, .I x.2.2.2.1, .I x.s4.1, .I x.s4.2.1, .I x.s4.2.2.1, .I x.s4.2.2.2.1, .C x.s8.1, .N x.s8.2]
 ofL := fun ls => match ls with
  | [.I x0, .I x1, .I x2, .I x3, .I x4, .I x5, .I x6, .I x7, .C x8, .N x9] => some (x0, x1, x2, x3, x4, x5, x6, x7, x8, x9)
  | _ => none
 ar := fun ls x h => by
  split at h
  ·cases h; rfl
  ·cases h
theorem zf (u0 u1 u2 u3 u4 u5 u6 u7 u8 u9 u10 u11 : Int) (x : pj) (h : iR u0 u1 u2 u3 u4 u5 u6 u7 u8 u9 u10 u11 = some x) : aP YI 55 1 [.vec 0] [.vec [.int .i64 u0, .int .i64 u1, .int .i64 u2, .int .i64 u3, .int .i64 u4, .int .i64 u5, .int .i64 u6, .int .i64 u7, .int .i64 u8, .int .i64 u9, .int .i64 u10, .int .i64 u11] 4 3 false] qQ x :=
 FD.sem (ch := pC) (A := bw) (fn := Tryz.f55) (c := br Tryz.f55) (fuel := 60) aK wS mixed bI qQ Tryz.func55 (by kernel_rfl) (aH (l := [aJ Tryz.f55 0, aJ Tryz.f55 1]) (by kernel_rfl) ⟨(eL (by kernel_rfl)), (eL (by kernel_rfl)), trivial⟩)
  (by kernel_rfl) (Eq.trans (by kernel_rfl) h)
def g9 (cs0 : LA_) (n1 : Nat) : Option ((I8 (LA_ × Nat))) := match cs0, n1 with
 | [.int .i64 u0, .int .i64 u1, .int .i64 u2], 1 => tC u0 u1 u2
 | [.int .i64 u0, .int .i64 u1, .int .i64 u2, .int .i64 u3, .int .i64 u4, .int .i64 u5], 2 => iP u0 u1 u2 u3 u4 u5
 | [.int .i64 u0, .int .i64 u1, .int .i64 u2, .int .i64 u3, .int .i64 u4, .int .i64 u5, .int .i64 u6, .int .i64 u7, .int .i64 u8], 3 => iQ u0 u1 u2 u3 u4 u5 u6 u7 u8
 | [.int .i64 u0, .int .i64 u1, .int .i64 u2, .int .i64 u3, .int .i64 u4, .int .i64 u5, .int .i64 u6, .int .i64 u7, .int .i64 u8, .int .i64 u9, .int .i64 u10, .int .i64 u11], 4 => iR u0 u1 u2 u3 u4 u5 u6 u7 u8 u9 u10 u11
 | _, _ => none
def dG : FD := kG
theorem A0 (cs0 : LA_) (n1 : Nat) (x : (I8 (LA_ × Nat))) (h : g9 cs0 n1 = some x) : aP YI 55 1 [.vec 0] [.vec cs0 n1 3 false] dG x := by
 unfold g9 at h
 split at h
 ·exact zc _ _ _ x h
 ·exact zd _ _ _ _ _ _ x h
 ·exact ze _ _ _ _ _ _ _ _ _ x h
 ·exact zf _ _ _ _ _ _ _ _ _ _ _ _ x h
 ·cases h
def dF (cs0 : LA_) (n1 : Nat) : Option (Int × LA_ × Nat) := Option.bind (g9 cs0 n1) fun (x0, x1, x2, x3, x4, x5, x6, x7, x8, x9) => ah (ok8 x0 x1 x2 x3 x4 x5 x6 x7) (some ((num x0 x1 x2 x3 x4 x5 x6 x7), x8, x9))
def mv : FD := ⟨Int × LA_ × Nat, dG.k, dG.pre, dG.F, dG.M, dG.B, fun y => dG.toL (be y.1 (y.2.1, y.2.2)), fun _ => none, fun _ _ h => by cases h⟩
theorem Cj (cs0 : LA_) (n1 : Nat) {y : Int × LA_ × Nat} (h : dF cs0 n1 = some y) : g9 cs0 n1 = some (be y.1 (y.2.1, y.2.2)) := by
 unfold dF at h
 obtain ⟨⟨x0, x1, x2, x3, x4, x5, x6, x7, x8, x9⟩, h1, h2⟩ := bE_ h
 obtain ⟨h3, h4⟩ := aL h2
 skip
 simp only [Yh] at h4
 subst h4
 have o0 := h3
 have q0 := aR o0
 rw [h1]
 simp only [be, q0]
theorem A4 (cs0 : LA_) (n1 : Nat) (y : Int × LA_ × Nat) (h : dF cs0 n1 = some y) : aP YI 55 1 [.vec 0] [.vec cs0 n1 3 false] mv y := A0 cs0 n1 _ (Cj cs0 n1 h)
def pa : HK where
 call := fun args σ k => match args with
  | [x0] => cO σ 3 x0 fun cs0 n1 => Option.bind (dF cs0 n1) fun y => au σ 1 (mv.val y) (mv.aI y) k
  | _ => none
 nat := fun args σ k => by
  repeat' split
  all_goals simp only [ao, ai, Yg, Yf, au, Ye]
 pure := false
 pok := fun h => by cases h
theorem B6 : aN YI 55 pa := by
 intro args σ r σ' h
 simp only [pa] at h
 split at h
 ·rename_i x0
  obtain ⟨cs0, n1, he0, hf0, h⟩ := bv h
  obtain ⟨y, hy, h⟩ := bE_ h
  exact aG (xs := [x0]) (ls := [.vec cs0 n1 3 false]) (cargs := [.vec 0]) (bg.of ⟨⟨rfl, he0, hf0, by decide⟩, trivial⟩) rfl (A4 cs0 n1 y hy) rfl rfl rfl rfl h
 ·cases h
class Sm (k : outParam Nat) (z : Int) : Prop where
 h : sm k z
instance {a b : Nat} {x y : Int} [hx : Sm a x] [hy : Sm b y] : Sm (a + b) (x * y) := ⟨db hx.h hy.h⟩
instance {a b : Nat} {x y : Int} [hx : Sm a x] [hy : Sm b y] : Sm (max a b + 1) (x + y) := ⟨mb (bd hx.h (Nat.le_max_left _ _)) (bd hy.h (Nat.le_max_right _ _))⟩
instance {a b : Nat} {x y : Int} [hx : Sm a x] [hy : Sm b y] : Sm (max a b + 1) (x - y) := ⟨h9 (bd hx.h (Nat.le_max_left _ _)) (bd hy.h (Nat.le_max_right _ _))⟩
instance {a : Nat} {x : Int} [hx : Sm a x] : Sm a (-x) := ⟨FR hx.h⟩
theorem Sm.fit {k : Nat} {z : Int} [h : Sm k z] (hk : k ≤ 510) : fit z := aT h.h hk
theorem Sm.rng {k : Nat} {z : Int} [h : Sm k z] (hk : k ≤ 62) : bf z = true := by
 have := bd h.h hk
 rw [FS]
 unfold sm at this
 omega
class PtB (k : outParam Nat) (p : Pt) : Prop where
 h : sm k p.1 ∧ sm k p.2.1 ∧ sm k p.2.2
instance {a b : Nat} {p q : Pt} [hp : PtB a p] [hq : PtB b q] : PtB (max a b + 1) (ax p q) :=
 ⟨h9 (bd hp.h.1 (Nat.le_max_left _ _)) (bd hq.h.1 (Nat.le_max_right _ _)), h9 (bd hp.h.2.1 (Nat.le_max_left _ _)) (bd hq.h.2.1 (Nat.le_max_right _ _)), h9 (bd hp.h.2.2 (Nat.le_max_left _ _)) (bd hq.h.2.2 (Nat.le_max_right _ _))⟩
instance {a b : Nat} {p q : Pt} [hp : PtB a p] [hq : PtB b q] : Sm (a + b + 2) (ae p q) :=
 ⟨mb (mb (db hp.h.1 hq.h.1) (db hp.h.2.1 hq.h.2.1)) (bd (db hp.h.2.2 hq.h.2.2) (Nat.le_succ _))⟩
theorem PtB.of {p : Pt} (h : bP p = true) : PtB 28 p := by
 obtain ⟨h1, h2, h3⟩ := gE.1 h
 have := ep.1 h1
 have := ep.1 h2
 have := ep.1 h3
 exact ⟨by unfold sm; omega, by unfold sm; omega, by unfold sm; omega⟩
theorem Sa {a b : Nat} {x y : Int} [Sm a x] [Sm b y] (h1 : a ≤ 510) (h2 : b ≤ 510) (h : a + b ≤ 510) : cH x y = some (x * y) := Vu (Sm.fit h1) (Sm.fit h2) (Sm.fit h)
theorem Kx {a b : Nat} {x y : Int} [Sm a x] [Sm b y] (h1 : a ≤ 510) (h2 : b ≤ 510) (h : max a b + 1 ≤ 510) : Ad x y = some (x + y) := Vv (Sm.fit h1) (Sm.fit h2) (Sm.fit h)
theorem WS {a b : Nat} {x y : Int} [Sm a x] [Sm b y] (h1 : a ≤ 510) (h2 : b ≤ 510) (h : max a b + 1 ≤ 510) : fw x y = some (x - y) := Vw (Sm.fit h1) (Sm.fit h2) (Sm.fit h)
theorem Sb {a : Nat} {x : Int} [hx : Sm a x] (h1 : a ≤ 510) : gw x = some (-x) := by
 have e : (0 : Int) - x = -x := Int.zero_sub x
 rw [PR (Sm.fit h1) (by rw [e]; exact Sm.fit h1), e]
theorem WT {a b : Nat} {p q : Pt} [hp : PtB a p] [hq : PtB b q] (h1 : a ≤ 62) (h2 : b ≤ 62) : bo p.1 p.2.1 p.2.2 q.1 q.2.1 q.2.2 = some (ae p q) := by
 have r : ∀ {k : Nat} {z : Int}, sm k z → k ≤ 62 → bf z = true := fun {k z} h hk => (show Sm k z from ⟨h⟩).rng hk
 rw [Vx (r hp.h.1 h1) (r hp.h.2.1 h1) (r hp.h.2.2 h1) (r hq.h.1 h2) (r hq.h.2.1 h2) (r hq.h.2.2 h2)]
 rfl
theorem WU {a b : Nat} {p q : Pt} [hp : PtB a p] [hq : PtB b q] (h : max a b ≤ 61) : cX p.1 p.2.1 p.2.2 q.1 q.2.1 q.2.2 = some (ax p q) := by
 have w : ∀ {x y : Int}, sm a x → sm b y → IntKind.wrap .i64 (x - y) = x - y := by
  intro x y hx hy
  have := bd (h9 (bd hx (Nat.le_max_left a b)) (bd hy (Nat.le_max_right a b))) (show max a b + 1 ≤ 62 by omega)
  unfold sm at this
  exact bM (by omega)
 unfold cX
 rw [w hp.h.1 hq.h.1, w hp.h.2.1 hq.h.2.1, w hp.h.2.2 hq.h.2.2]
 rfl
def wcs : List Int → LA_
 | [] => []
 | z :: l => .int .u64 (aa z 0) :: .int .u64 (aa z 1) :: .int .u64 (aa z 2) :: .int .u64 (aa z 3) :: .int .u64 (aa z 4) :: .int .u64 (aa z 5) :: .int .u64 (aa z 6) :: .int .u64 (aa z 7) :: wcs l
section
variable {R : Type} {Q : Option R}
theorem cj {a b : Nat} {x y : Int} [Sm a x] [Sm b y] {f : Int → Option R} (h1 : a ≤ 510) (h2 : b ≤ 510) (h : a + b ≤ 510) (k : ∀ z, z = x * y → Sm (a + b) z → f z = Q) : (cH x y).bind f = Q := by
 rw [Sa h1 h2 h]; exact k _ rfl inferInstance
theorem M7 {a b : Nat} {x y : Int} [Sm a x] [Sm b y] {f : Int → Option R} (h1 : a ≤ 510) (h2 : b ≤ 510) (h : max a b + 1 ≤ 510) (k : ∀ z, z = x + y → Sm (max a b + 1) z → f z = Q) : (Ad x y).bind f = Q := by
 rw [Kx h1 h2 h]; exact k _ rfl inferInstance
theorem eK {a b : Nat} {x y : Int} [Sm a x] [Sm b y] {f : Int → Option R} (h1 : a ≤ 510) (h2 : b ≤ 510) (h : max a b + 1 ≤ 510) (k : ∀ z, z = x - y → Sm (max a b + 1) z → f z = Q) : (fw x y).bind f = Q := by
 rw [WS h1 h2 h]; exact k _ rfl inferInstance
theorem gO {a : Nat} {x : Int} [Sm a x] {f : Int → Option R} (h1 : a ≤ 510) (k : ∀ z, z = -x → Sm a z → f z = Q) : (gw x).bind f = Q := by
 rw [Sb h1]; exact k _ rfl inferInstance
theorem aU {a b : Nat} {p q : Pt} [PtB a p] [PtB b q] {f : Int → Option R} (h1 : a ≤ 62) (h2 : b ≤ 62) (k : ∀ z, z = ae p q → Sm (a + b + 2) z → f z = Q) : (bo p.1 p.2.1 p.2.2 q.1 q.2.1 q.2.2).bind f = Q := by
 rw [WT h1 h2]; exact k _ rfl inferInstance
theorem Bt {a b : Nat} {p q : Pt} [PtB a p] [PtB b q] {f : Pt → Option R} (h : max a b ≤ 61) (k : ∀ z, z = ax p q → PtB (max a b + 1) z → f z = Q) : (cX p.1 p.2.1 p.2.2 q.1 q.2.1 q.2.2).bind f = Q := by
 rw [WU h]; exact k _ rfl inferInstance
end
theorem aO {p : Pt} {l : List Pt} : aQ (p :: l) = true ↔ bP p = true ∧ aQ l = true := by simp [aQ]
def OK (S : List Pt) : Option ((I8 (LA_ × Nat))) :=
 some (aa (wts S).2 0, aa (wts S).2 1, aa (wts S).2 2, aa (wts S).2 3, aa (wts S).2 4, aa (wts S).2 5, aa (wts S).2 6, aa (wts S).2 7, wcs (wts S).1, S.length)
theorem XW {p q : Pt} (hp : bP p = true) (hq : bP q = true) : iP p.1 p.2.1 p.2.2 q.1 q.2.1 q.2.2 = OK [p, q] := by
 haveI := PtB.of hp
 haveI := PtB.of hq
 unfold iP
 refine Bt (by decide) (fun _ _ _ => ?_)
 refine aU (by decide) (by decide) (fun _ _ _ => ?_)
 refine aU (by decide) (by decide) (fun _ _ _ => ?_)
 refine gO (by decide) (fun _ _ _ => ?_)
 refine eK (by decide) (by decide) (by decide) (fun _ _ _ => ?_)
 subst_vars
 rfl
theorem XX {p q r : Pt} (hp : bP p = true) (hq : bP q = true) (hr : bP r = true) : iQ p.1 p.2.1 p.2.2 q.1 q.2.1 q.2.2 r.1 r.2.1 r.2.2 = OK [p, q, r] := by
 haveI := PtB.of hp
 haveI := PtB.of hq
 haveI := PtB.of hr
 unfold iQ
 refine Bt (by decide) (fun _ _ _ => ?_)
 refine Bt (by decide) (fun _ _ _ => ?_)
 refine aU (by decide) (by decide) (fun _ _ _ => ?_)
 refine aU (by decide) (by decide) (fun _ _ _ => ?_)
 refine cj (by decide) (by decide) (by decide) (fun _ _ _ => ?_)
 refine aU (by decide) (by decide) (fun _ _ _ => ?_)
 refine aU (by decide) (by decide) (fun _ _ _ => ?_)
 refine cj (by decide) (by decide) (by decide) (fun _ _ _ => ?_)
 refine eK (by decide) (by decide) (by decide) (fun _ _ _ => ?_)
 refine aU (by decide) (by decide) (fun _ _ _ => ?_)
 refine gO (by decide) (fun _ _ _ => ?_)
 refine aU (by decide) (by decide) (fun _ _ _ => ?_)
 refine cj (by decide) (by decide) (by decide) (fun _ _ _ => ?_)
 refine aU (by decide) (by decide) (fun _ _ _ => ?_)
 refine aU (by decide) (by decide) (fun _ _ _ => ?_)
 refine gO (by decide) (fun _ _ _ => ?_)
 refine cj (by decide) (by decide) (by decide) (fun _ _ _ => ?_)
 refine eK (by decide) (by decide) (by decide) (fun _ _ _ => ?_)
 refine eK (by decide) (by decide) (by decide) (fun _ _ _ => ?_)
 refine aU (by decide) (by decide) (fun _ _ _ => ?_)
 refine aU (by decide) (by decide) (fun _ _ _ => ?_)
 refine gO (by decide) (fun _ _ _ => ?_)
 refine cj (by decide) (by decide) (by decide) (fun _ _ _ => ?_)
 refine aU (by decide) (by decide) (fun _ _ _ => ?_)
 refine gO (by decide) (fun _ _ _ => ?_)
 refine aU (by decide) (by decide) (fun _ _ _ => ?_)
 refine cj (by decide) (by decide) (by decide) (fun _ _ _ => ?_)
 refine eK (by decide) (by decide) (by decide) (fun _ _ _ => ?_)
 refine eK (by decide) (by decide) (by decide) (fun _ _ _ => ?_)
 subst_vars
 rfl
theorem XY {p q r s : Pt} (hp : bP p = true) (hq : bP q = true) (hr : bP r = true) (hs : bP s = true) : iR p.1 p.2.1 p.2.2 q.1 q.2.1 q.2.2 r.1 r.2.1 r.2.2 s.1 s.2.1 s.2.2 = OK [p, q, r, s] := by
 haveI := PtB.of hp
 haveI := PtB.of hq
 haveI := PtB.of hr
 haveI := PtB.of hs
 unfold iR
 refine Bt (by decide) (fun _ _ _ => ?_)
 refine Bt (by decide) (fun _ _ _ => ?_)
 refine Bt (by decide) (fun _ _ _ => ?_)
 refine aU (by decide) (by decide) (fun _ _ _ => ?_)
 refine aU (by decide) (by decide) (fun _ _ _ => ?_)
 refine aU (by decide) (by decide) (fun _ _ _ => ?_)
 refine cj (by decide) (by decide) (by decide) (fun _ _ _ => ?_)
 refine aU (by decide) (by decide) (fun _ _ _ => ?_)
 refine aU (by decide) (by decide) (fun _ _ _ => ?_)
 refine cj (by decide) (by decide) (by decide) (fun _ _ _ => ?_)
 refine eK (by decide) (by decide) (by decide) (fun _ _ _ => ?_)
 refine cj (by decide) (by decide) (by decide) (fun _ _ _ => ?_)
 refine aU (by decide) (by decide) (fun _ _ _ => ?_)
 refine aU (by decide) (by decide) (fun _ _ _ => ?_)
 refine aU (by decide) (by decide) (fun _ _ _ => ?_)
 refine cj (by decide) (by decide) (by decide) (fun _ _ _ => ?_)
 refine aU (by decide) (by decide) (fun _ _ _ => ?_)
 refine aU (by decide) (by decide) (fun _ _ _ => ?_)
 refine cj (by decide) (by decide) (by decide) (fun _ _ _ => ?_)
 refine eK (by decide) (by decide) (by decide) (fun _ _ _ => ?_)
 refine cj (by decide) (by decide) (by decide) (fun _ _ _ => ?_)
 refine eK (by decide) (by decide) (by decide) (fun _ _ _ => ?_)
 refine aU (by decide) (by decide) (fun _ _ _ => ?_)
 refine aU (by decide) (by decide) (fun _ _ _ => ?_)
 refine aU (by decide) (by decide) (fun _ _ _ => ?_)
 refine cj (by decide) (by decide) (by decide) (fun _ _ _ => ?_)
 refine aU (by decide) (by decide) (fun _ _ _ => ?_)
 refine aU (by decide) (by decide) (fun _ _ _ => ?_)
 refine cj (by decide) (by decide) (by decide) (fun _ _ _ => ?_)
 refine eK (by decide) (by decide) (by decide) (fun _ _ _ => ?_)
 refine cj (by decide) (by decide) (by decide) (fun _ _ _ => ?_)
 refine M7 (by decide) (by decide) (by decide) (fun _ _ _ => ?_)
 refine aU (by decide) (by decide) (fun _ _ _ => ?_)
 refine gO (by decide) (fun _ _ _ => ?_)
 refine aU (by decide) (by decide) (fun _ _ _ => ?_)
 refine aU (by decide) (by decide) (fun _ _ _ => ?_)
 refine cj (by decide) (by decide) (by decide) (fun _ _ _ => ?_)
 refine aU (by decide) (by decide) (fun _ _ _ => ?_)
 refine aU (by decide) (by decide) (fun _ _ _ => ?_)
 refine cj (by decide) (by decide) (by decide) (fun _ _ _ => ?_)
 refine eK (by decide) (by decide) (by decide) (fun _ _ _ => ?_)
 refine cj (by decide) (by decide) (by decide) (fun _ _ _ => ?_)
 refine aU (by decide) (by decide) (fun _ _ _ => ?_)
 refine aU (by decide) (by decide) (fun _ _ _ => ?_)
 refine gO (by decide) (fun _ _ _ => ?_)
 refine aU (by decide) (by decide) (fun _ _ _ => ?_)
 refine cj (by decide) (by decide) (by decide) (fun _ _ _ => ?_)
 refine aU (by decide) (by decide) (fun _ _ _ => ?_)
 refine aU (by decide) (by decide) (fun _ _ _ => ?_)
 refine gO (by decide) (fun _ _ _ => ?_)
 refine cj (by decide) (by decide) (by decide) (fun _ _ _ => ?_)
 refine eK (by decide) (by decide) (by decide) (fun _ _ _ => ?_)
 refine cj (by decide) (by decide) (by decide) (fun _ _ _ => ?_)
 refine eK (by decide) (by decide) (by decide) (fun _ _ _ => ?_)
 refine aU (by decide) (by decide) (fun _ _ _ => ?_)
 refine aU (by decide) (by decide) (fun _ _ _ => ?_)
 refine gO (by decide) (fun _ _ _ => ?_)
 refine aU (by decide) (by decide) (fun _ _ _ => ?_)
 refine cj (by decide) (by decide) (by decide) (fun _ _ _ => ?_)
 refine aU (by decide) (by decide) (fun _ _ _ => ?_)
 refine aU (by decide) (by decide) (fun _ _ _ => ?_)
 refine gO (by decide) (fun _ _ _ => ?_)
 refine cj (by decide) (by decide) (by decide) (fun _ _ _ => ?_)
 refine eK (by decide) (by decide) (by decide) (fun _ _ _ => ?_)
 refine cj (by decide) (by decide) (by decide) (fun _ _ _ => ?_)
 refine M7 (by decide) (by decide) (by decide) (fun _ _ _ => ?_)
 refine eK (by decide) (by decide) (by decide) (fun _ _ _ => ?_)
 refine aU (by decide) (by decide) (fun _ _ _ => ?_)
 refine aU (by decide) (by decide) (fun _ _ _ => ?_)
 refine gO (by decide) (fun _ _ _ => ?_)
 refine aU (by decide) (by decide) (fun _ _ _ => ?_)
 refine cj (by decide) (by decide) (by decide) (fun _ _ _ => ?_)
 refine aU (by decide) (by decide) (fun _ _ _ => ?_)
 refine aU (by decide) (by decide) (fun _ _ _ => ?_)
 refine gO (by decide) (fun _ _ _ => ?_)
 refine cj (by decide) (by decide) (by decide) (fun _ _ _ => ?_)
 refine eK (by decide) (by decide) (by decide) (fun _ _ _ => ?_)
 refine cj (by decide) (by decide) (by decide) (fun _ _ _ => ?_)
 refine aU (by decide) (by decide) (fun _ _ _ => ?_)
 refine gO (by decide) (fun _ _ _ => ?_)
 refine aU (by decide) (by decide) (fun _ _ _ => ?_)
 refine aU (by decide) (by decide) (fun _ _ _ => ?_)
 refine cj (by decide) (by decide) (by decide) (fun _ _ _ => ?_)
 refine aU (by decide) (by decide) (fun _ _ _ => ?_)
 refine aU (by decide) (by decide) (fun _ _ _ => ?_)
 refine cj (by decide) (by decide) (by decide) (fun _ _ _ => ?_)
 refine eK (by decide) (by decide) (by decide) (fun _ _ _ => ?_)
 refine cj (by decide) (by decide) (by decide) (fun _ _ _ => ?_)
 refine eK (by decide) (by decide) (by decide) (fun _ _ _ => ?_)
 refine aU (by decide) (by decide) (fun _ _ _ => ?_)
 refine aU (by decide) (by decide) (fun _ _ _ => ?_)
 refine aU (by decide) (by decide) (fun _ _ _ => ?_)
 refine gO (by decide) (fun _ _ _ => ?_)
 refine cj (by decide) (by decide) (by decide) (fun _ _ _ => ?_)
 refine aU (by decide) (by decide) (fun _ _ _ => ?_)
 refine gO (by decide) (fun _ _ _ => ?_)
 refine aU (by decide) (by decide) (fun _ _ _ => ?_)
 refine cj (by decide) (by decide) (by decide) (fun _ _ _ => ?_)
 refine eK (by decide) (by decide) (by decide) (fun _ _ _ => ?_)
 refine cj (by decide) (by decide) (by decide) (fun _ _ _ => ?_)
 refine M7 (by decide) (by decide) (by decide) (fun _ _ _ => ?_)
 refine eK (by decide) (by decide) (by decide) (fun _ _ _ => ?_)
 refine aU (by decide) (by decide) (fun _ _ _ => ?_)
 refine aU (by decide) (by decide) (fun _ _ _ => ?_)
 refine aU (by decide) (by decide) (fun _ _ _ => ?_)
 refine gO (by decide) (fun _ _ _ => ?_)
 refine cj (by decide) (by decide) (by decide) (fun _ _ _ => ?_)
 refine aU (by decide) (by decide) (fun _ _ _ => ?_)
 refine gO (by decide) (fun _ _ _ => ?_)
 refine aU (by decide) (by decide) (fun _ _ _ => ?_)
 refine cj (by decide) (by decide) (by decide) (fun _ _ _ => ?_)
 refine eK (by decide) (by decide) (by decide) (fun _ _ _ => ?_)
 refine cj (by decide) (by decide) (by decide) (fun _ _ _ => ?_)
 refine aU (by decide) (by decide) (fun _ _ _ => ?_)
 refine aU (by decide) (by decide) (fun _ _ _ => ?_)
 refine aU (by decide) (by decide) (fun _ _ _ => ?_)
 refine gO (by decide) (fun _ _ _ => ?_)
 refine cj (by decide) (by decide) (by decide) (fun _ _ _ => ?_)
 refine aU (by decide) (by decide) (fun _ _ _ => ?_)
 refine gO (by decide) (fun _ _ _ => ?_)
 refine aU (by decide) (by decide) (fun _ _ _ => ?_)
 refine cj (by decide) (by decide) (by decide) (fun _ _ _ => ?_)
 refine eK (by decide) (by decide) (by decide) (fun _ _ _ => ?_)
 refine cj (by decide) (by decide) (by decide) (fun _ _ _ => ?_)
 refine eK (by decide) (by decide) (by decide) (fun _ _ _ => ?_)
 refine aU (by decide) (by decide) (fun _ _ _ => ?_)
 refine gO (by decide) (fun _ _ _ => ?_)
 refine aU (by decide) (by decide) (fun _ _ _ => ?_)
 refine aU (by decide) (by decide) (fun _ _ _ => ?_)
 refine cj (by decide) (by decide) (by decide) (fun _ _ _ => ?_)
 refine aU (by decide) (by decide) (fun _ _ _ => ?_)
 refine aU (by decide) (by decide) (fun _ _ _ => ?_)
 refine cj (by decide) (by decide) (by decide) (fun _ _ _ => ?_)
 refine eK (by decide) (by decide) (by decide) (fun _ _ _ => ?_)
 refine cj (by decide) (by decide) (by decide) (fun _ _ _ => ?_)
 refine M7 (by decide) (by decide) (by decide) (fun _ _ _ => ?_)
 refine eK (by decide) (by decide) (by decide) (fun _ _ _ => ?_)
 subst_vars
 rfl
theorem M8 {a b c d e f g h i : Int} (ha : sm 60 a) (hb : sm 60 b) (hc : sm 60 c) (hd : sm 60 d) (he : sm 60 e) (hf : sm 60 f) (hg : sm 60 g) (hh : sm 60 h) (hi : sm 60 i) : sm 186 (m3 a b c d e f g h i) := by
 haveI : Sm 60 a := ⟨ha⟩
 haveI : Sm 60 b := ⟨hb⟩
 haveI : Sm 60 c := ⟨hc⟩
 haveI : Sm 60 d := ⟨hd⟩
 haveI : Sm 60 e := ⟨he⟩
 haveI : Sm 60 f := ⟨hf⟩
 haveI : Sm 60 g := ⟨hg⟩
 haveI : Sm 60 h := ⟨hh⟩
 haveI : Sm 60 i := ⟨hi⟩
 unfold m3
 exact bd Sm.h (by decide)
theorem PS {S : List Pt} (hok : aQ S = true) (h1 : 1 ≤ S.length) (h4 : S.length ≤ 4) : sm 190 (wts S).2 ∧ ∀ z ∈ (wts S).1, sm 190 z := by
 match S, h1, h4 with
 | [p], _, _ =>
  refine ⟨by simp only [wts]; unfold sm; omega, fun z hz => ?_⟩
  simp only [wts, List.mem_singleton] at hz
  subst hz; unfold sm; omega
 | [p, q], _, _ =>
  simp only [aO] at hok
  haveI := PtB.of hok.1
  haveI := PtB.of hok.2.1
  simp only [wts, wt1, List.mem_cons, List.not_mem_nil, or_false, forall_eq_or_imp, forall_eq]
  exact ⟨bd Sm.h (by decide), bd Sm.h (by decide), bd Sm.h (by decide)⟩
 | [p, q, r], _, _ =>
  simp only [aO] at hok
  haveI := PtB.of hok.1
  haveI := PtB.of hok.2.1
  haveI := PtB.of hok.2.2.1
  simp only [wts, wt2, List.mem_cons, List.not_mem_nil, or_false, forall_eq_or_imp, forall_eq]
  exact ⟨bd Sm.h (by decide), bd Sm.h (by decide), bd Sm.h (by decide), bd Sm.h (by decide)⟩
 | [p, q, r, s], _, _ =>
  simp only [aO] at hok
  haveI := PtB.of hok.1
  haveI := PtB.of hok.2.1
  haveI := PtB.of hok.2.2.1
  haveI := PtB.of hok.2.2.2.1
  have qq : ∀ {u v : Pt} {i j : Nat}, PtB i u → PtB j v → i ≤ 29 → j ≤ 29 → sm 60 (ae u v) := fun {u v i j} hu hv hi hj => bd (Sm.h (z := ae u v)) (by omega)
  have nn : ∀ {u v : Pt} {i j : Nat}, PtB i u → PtB j v → i ≤ 29 → j ≤ 29 → sm 60 (-ae u v) := fun {u v i j} hu hv hi hj => FR (qq hu hv hi hj)
  have e1 : PtB 29 (ax q p) := inferInstance
  have e2 : PtB 29 (ax r p) := inferInstance
  have e3 : PtB 29 (ax s p) := inferInstance
  have e0 : PtB 28 p := inferInstance
  have le : (29 : Nat) ≤ 29 := Nat.le_refl _
  have l8 : (28 : Nat) ≤ 29 := by decide
  simp only [wts, wt3, List.mem_cons, List.not_mem_nil, or_false, forall_eq_or_imp, forall_eq]
  have x1 := M8 (nn e1 e0 le l8) (qq e1 e2 le le) (qq e1 e3 le le) (nn e2 e0 le l8) (qq e2 e2 le le) (qq e2 e3 le le) (nn e3 e0 le l8) (qq e3 e2 le le) (qq e3 e3 le le)
  have x2 := M8 (qq e1 e1 le le) (nn e1 e0 le l8) (qq e1 e3 le le) (qq e2 e1 le le) (nn e2 e0 le l8) (qq e2 e3 le le) (qq e3 e1 le le) (nn e3 e0 le l8) (qq e3 e3 le le)
  have x3 := M8 (qq e1 e1 le le) (qq e1 e2 le le) (nn e1 e0 le l8) (qq e2 e1 le le) (qq e2 e2 le le) (nn e2 e0 le l8) (qq e3 e1 le le) (qq e3 e2 le le) (nn e3 e0 le l8)
  have x0 := M8 (qq e1 e1 le le) (qq e1 e2 le le) (qq e1 e3 le le) (qq e2 e1 le le) (qq e2 e2 le le) (qq e2 e3 le le) (qq e3 e1 le le) (qq e3 e2 le le) (qq e3 e3 le le)
  exact ⟨bd x0 (by decide), bd (h9 (h9 (h9 x0 x1) (bd x2 (by decide))) (bd x3 (by decide))) (by decide), bd x1 (by decide), bd x2 (by decide), bd x3 (by decide)⟩
 | _ :: _ :: _ :: _ :: _ :: _, _, h => simp at h
theorem Sc {S : List Pt} (hok : aQ S = true) (h1 : 1 ≤ S.length) (h4 : S.length ≤ 4) : dF (pcs S) S.length = some ((wts S).2, wcs (wts S).1, S.length) := by
 have hf := (PS hok h1 h4).1
 have fin : g9 (pcs S) S.length = OK S → dF (pcs S) S.length = some ((wts S).2, wcs (wts S).1, S.length) := by
  intro e
  unfold dF
  rw [e]
  simp only [OK, Ye, bz, az]
  rw [aD (aT hf (by decide))]
 apply fin
 match S, h1, h4 with
 | [p], _, _ => rfl
 | [p, q], _, _ =>
  simp only [aO] at hok
  exact XW hok.1 hok.2.1
 | [p, q, r], _, _ =>
  simp only [aO] at hok
  exact XX hok.1 hok.2.1 hok.2.2.1
 | [p, q, r, s], _, _ =>
  simp only [aO] at hok
  exact XY hok.1 hok.2.1 hok.2.2.1 hok.2.2.2.1
 | _ :: _ :: _ :: _ :: _ :: _, _, h => simp at h
end Go.Ev
namespace Go.Ev
open Go.Proofs
def Eb : CH := (CH.add 79 JH CH.none)
theorem Af : aB YI Eb := (CH.aj LP CH.ay)
def iI (a0 a1 a2 a3 a4 a5 a6 a7 a8 a9 a10 a11 a12 a13 a14 a15 : Int) : Option (Int × Int × Int × Int × Int × Int × Int × Int) :=
 (Option.bind (wO a0 a1 a2 a3 a4 a5 a6 a7 a8 a9 a10 a11 a12 a13 a14 a15) fun r1 => (some ((aa r1.1 0), (aa r1.1 1), (aa r1.1 2), (aa r1.1 3), (aa r1.1 4), (aa r1.1 5), (aa r1.1 6), (aa r1.1 7))))
def dk : FD where
 X := Int × Int × Int × Int × Int × Int × Int × Int
 k := 1
 pre := []
 F := fun s => [0]
 M := .agg (rl (.int .u64) 8 [])
 B := []
 toL := fun x => [.I x.1, .I x.2.1, .I x.2.2.1, .I x.2.2.2.1, .I x.s4.1, .I x.s4.2.1, .I x.s4.2.2.1, .I x.s4.2.2.2]
 ofL := fun ls => match ls with
  | [.I x0, .I x1, .I x2, .I x3, .I x4, .I x5, .I x6, .I x7] => some (x0, x1, x2, x3, x4, x5, x6, x7)
  | _ => none
 ar := fun ls x h => by
  split at h
  ·cases h; rfl
  ·cases h
theorem Ch (a0 a1 a2 a3 a4 a5 a6 a7 a8 a9 a10 a11 a12 a13 a14 a15 : Int) (x : Int × Int × Int × Int × Int × Int × Int × Int) (h : iI a0 a1 a2 a3 a4 a5 a6 a7 a8 a9 a10 a11 a12 a13 a14 a15 = some x) : aP YI 80 1 [.agg (v8 a0 a1 a2 a3 a4 a5 a6 a7 []), .ptr 0 0] [.cells (v8 a8 a9 a10 a11 a12 a13 a14 a15 []) false none] dk x :=
 FD.semA dk Af Tryz.func80 (fuel := 60) (by kernel_rfl) (by kernel_rfl)
  (by kernel_rfl) (Eq.trans (by kernel_rfl) h)
def bS (a0 a1 a2 a3 a4 a5 a6 a7 a8 a9 a10 a11 a12 a13 a14 a15 : Int) : Option (Int) := Option.bind (iI a0 a1 a2 a3 a4 a5 a6 a7 a8 a9 a10 a11 a12 a13 a14 a15) fun (x0, x1, x2, x3, x4, x5, x6, x7) => ah (ok8 x0 x1 x2 x3 x4 x5 x6 x7) (some (num x0 x1 x2 x3 x4 x5 x6 x7))
def ns : FD := ⟨Int, dk.k, dk.pre, dk.F, dk.M, dk.B, fun y => dk.toL ((aa y 0), (aa y 1), (aa y 2), (aa y 3), (aa y 4), (aa y 5), (aa y 6), (aa y 7)), fun _ => none, fun _ _ h => by cases h⟩
theorem Ec (a0 a1 a2 a3 a4 a5 a6 a7 a8 a9 a10 a11 a12 a13 a14 a15 : Int) {y : Int} (h : bS a0 a1 a2 a3 a4 a5 a6 a7 a8 a9 a10 a11 a12 a13 a14 a15 = some y) : iI a0 a1 a2 a3 a4 a5 a6 a7 a8 a9 a10 a11 a12 a13 a14 a15 = some ((aa y 0), (aa y 1), (aa y 2), (aa y 3), (aa y 4), (aa y 5), (aa y 6), (aa y 7)) := by
 unfold bS at h
 obtain ⟨⟨x0, x1, x2, x3, x4, x5, x6, x7⟩, h1, h2⟩ := bE_ h
 obtain ⟨h3, h4⟩ := aL h2
 skip
 simp only [Yh] at h4
 subst h4
 have o0 := h3
 have q0 := aR o0
 rw [h1]
 simp only [q0]
theorem Ci (a0 a1 a2 a3 a4 a5 a6 a7 a8 a9 a10 a11 a12 a13 a14 a15 y : Int) (h : bS a0 a1 a2 a3 a4 a5 a6 a7 a8 a9 a10 a11 a12 a13 a14 a15 = some y) : aP YI 80 1 [.agg (v8 a0 a1 a2 a3 a4 a5 a6 a7 []), .ptr 0 0] [.cells (v8 a8 a9 a10 a11 a12 a13 a14 a15 []) false none] ns y := Ch a0 a1 a2 a3 a4 a5 a6 a7 a8 a9 a10 a11 a12 a13 a14 a15 _ (Ec a0 a1 a2 a3 a4 a5 a6 a7 a8 a9 a10 a11 a12 a13 a14 a15 h)
def qn (z0 z8 : Int) : Option (Int) := bS (aa z0 0) (aa z0 1) (aa z0 2) (aa z0 3) (aa z0 4) (aa z0 5) (aa z0 6) (aa z0 7) (aa z8 0) (aa z8 1) (aa z8 2) (aa z8 3) (aa z8 4) (aa z8 5) (aa z8 6) (aa z8 7)
def qk : HK where
 call := fun args σ k => match args with
  | [.agg [.int .u64 a0, .int .u64 a1, .int .u64 a2, .int .u64 a3, .int .u64 a4, .int .u64 a5, .int .u64 a6, .int .u64 a7], .ptr b0 0] => match σ.get b0 with | some (.vec cb0 _ _ _) => (ah (aw gK cb0 0 && Nat.beq (List.length cb0) 8) (Option.bind (bS a0 a1 a2 a3 a4 a5 a6 a7 (ac cb0 0) (ac cb0 1) (ac cb0 2) (ac cb0 3) (ac cb0 4) (ac cb0 5) (ac cb0 6) (ac cb0 7)) fun y => au σ 1 (ns.val y) (ns.aI y) k)) | _ => none
  | _ => none
 nat := fun args σ k => by
  repeat' split
  all_goals simp only [ao, ai, Yg, Yf, au, Ye]
 pure := false
 pok := fun h => by cases h
theorem DV : aN YI 80 qk := by
 intro args σ r σ' h
 simp only [qk] at h
 split at h
 ·rename_i a0 a1 a2 a3 a4 a5 a6 a7 b0
  split at h
  ·rename_i cb0 nn0 zz0 own0 hb0
   obtain ⟨hq0, h⟩ := aL h
   obtain ⟨y, hy, h⟩ := bE_ h
   exact aG (xs := [.ptr b0 0]) (ls := [.cells (v8 (ac cb0 0) (ac cb0 1) (ac cb0 2) (ac cb0 3) (ac cb0 4) (ac cb0 5) (ac cb0 6) (ac cb0 7) []) false none]) (cargs := [.agg (v8 a0 a1 a2 a3 a4 a5 a6 a7 []), .ptr 0 0]) (bg.of ⟨⟨rfl, rfl, by simp, rfl, b0, 0, rfl, UJ (ks := [.int .u64, .int .u64, .int .u64, .int .u64, .int .u64, .int .u64, .int .u64, .int .u64]) hb0 hq0 (by simp)⟩, trivial⟩) rfl (Ci a0 a1 a2 a3 a4 a5 a6 a7 (ac cb0 0) (ac cb0 1) (ac cb0 2) (ac cb0 3) (ac cb0 4) (ac cb0 5) (ac cb0 6) (ac cb0 7) y hy) rfl rfl rfl rfl h
  ·cases h
 ·cases h
abbrev ft := LA_ × Nat × LA_ × Nat × Nat × Nat × Int × Int × Int × Int × Int × Int × Int × Int × Int × Int × Int × Int × Int × Int × Int × Int × Int × Int × Int × Int × Int × Int × Int × Int × Int
abbrev yl := (I8 (I8 (I8 (Int × Int × Int × Int × Int × Int × Int × Int))))
abbrev fu := LA_ × Nat × LA_ × Nat × Nat × Int × Int × Int × Int × Int × Int × Int × Int × Int × Int × Int × Int × Int × Int × Int × Int × Int × Int × Int × Int × Int × Int × Int × Int
abbrev fv := LA_ × Nat × LA_ × Nat × Nat × LA_ × Nat × Int
def iH : CH := (CH.add 80 qk (CH.add 79 JH (CH.add 78 EY (CH.add 66 tU (CH.add 56 EQ (CH.add 26 yb (CH.add 19 K3 CH.none)))))))
theorem iO : aB YI iH := (CH.aj DV (CH.aj LP (CH.aj EZ (CH.aj rO (CH.aj ER (CH.aj uE (CH.aj F0 CH.ay)))))))
def ef {R : Type} (cc : fv) (v : LA_ × Int) (kn : (LA_ × Int) → Option R) (ke : ((LA_)) → Option R) : Option R :=
 (cond (decide (v.2 < cc.2.2.2.2.2.2.2)) (ah (decide (0 ≤ v.2) && decide (v.2 < ((cc.2.2.2.2.2.2.1 : Nat) : Int))) (ah (aw kR cc.2.2.2.2.2.1 (Int.toNat v.2 * 3)) (ah (aw gK v.1 0) (ah (decide (0 ≤ v.2) && decide (v.2 < ((cc.2.1 : Nat) : Int))) (ah (aw gK cc.1 (Int.toNat v.2 * 8)) (Option.bind (cOf (ac cc.2.2.2.2.2.1 ((Int.toNat v.2 * 3) + 0))) fun r1 => (Option.bind (kh (ac cc.1 ((Int.toNat v.2 * 8) + 0)) (ac cc.1 ((Int.toNat v.2 * 8) + 1)) (ac cc.1 ((Int.toNat v.2 * 8) + 2)) (ac cc.1 ((Int.toNat v.2 * 8) + 3)) (ac cc.1 ((Int.toNat v.2 * 8) + 4)) (ac cc.1 ((Int.toNat v.2 * 8) + 5)) (ac cc.1 ((Int.toNat v.2 * 8) + 6)) (ac cc.1 ((Int.toNat v.2 * 8) + 7)) (aa r1 0) (aa r1 1) (aa r1 2) (aa r1 3) (aa r1 4) (aa r1 5) (aa r1 6) (aa r1 7)) fun r2 => (Option.bind (pN (ac v.1 0) (ac v.1 1) (ac v.1 2) (ac v.1 3) (ac v.1 4) (ac v.1 5) (ac v.1 6) (ac v.1 7) (aa r2 0) (aa r2 1) (aa r2 2) (aa r2 3) (aa r2 4) (aa r2 5) (aa r2 6) (aa r2 7)) fun r3 => (ah (decide (0 + 8 ≤ List.length v.1)) (ah (aw gK (spliced v.1 0 (v8 (aa r3 0) (aa r3 1) (aa r3 2) (aa r3 3) (aa r3 4) (aa r3 5) (aa r3 6) (aa r3 7) [])) 8) (ah (decide (0 ≤ v.2) && decide (v.2 < ((cc.2.1 : Nat) : Int))) (ah (aw gK cc.1 (Int.toNat v.2 * 8)) (Option.bind (cOf (ac cc.2.2.2.2.2.1 ((Int.toNat v.2 * 3) + 1))) fun r4 => (Option.bind (kh (ac cc.1 ((Int.toNat v.2 * 8) + 0)) (ac cc.1 ((Int.toNat v.2 * 8) + 1)) (ac cc.1 ((Int.toNat v.2 * 8) + 2)) (ac cc.1 ((Int.toNat v.2 * 8) + 3)) (ac cc.1 ((Int.toNat v.2 * 8) + 4)) (ac cc.1 ((Int.toNat v.2 * 8) + 5)) (ac cc.1 ((Int.toNat v.2 * 8) + 6)) (ac cc.1 ((Int.toNat v.2 * 8) + 7)) (aa r4 0) (aa r4 1) (aa r4 2) (aa r4 3) (aa r4 4) (aa r4 5) (aa r4 6) (aa r4 7)) fun r5 => (Option.bind (pN (ac (spliced v.1 0 (v8 (aa r3 0) (aa r3 1) (aa r3 2) (aa r3 3) (aa r3 4) (aa r3 5) (aa r3 6) (aa r3 7) [])) 8) (ac (spliced v.1 0 (v8 (aa r3 0) (aa r3 1) (aa r3 2) (aa r3 3) (aa r3 4) (aa r3 5) (aa r3 6) (aa r3 7) [])) 9) (ac (spliced v.1 0 (v8 (aa r3 0) (aa r3 1) (aa r3 2) (aa r3 3) (aa r3 4) (aa r3 5) (aa r3 6) (aa r3 7) [])) 10) (ac (spliced v.1 0 (v8 (aa r3 0) (aa r3 1) (aa r3 2) (aa r3 3) (aa r3 4) (aa r3 5) (aa r3 6) (aa r3 7) [])) 11) (ac (spliced v.1 0 (v8 (aa r3 0) (aa r3 1) (aa r3 2) (aa r3 3) (aa r3 4) (aa r3 5) (aa r3 6) (aa r3 7) [])) 12) (ac (spliced v.1 0 (v8 (aa r3 0) (aa r3 1) (aa r3 2) (aa r3 3) (aa r3 4) (aa r3 5) (aa r3 6) (aa r3 7) [])) 13) (ac (spliced v.1 0 (v8 (aa r3 0) (aa r3 1) (aa r3 2) (aa r3 3) (aa r3 4) (aa r3 5) (aa r3 6) (aa r3 7) [])) 14) (ac (spliced v.1 0 (v8 (aa r3 0) (aa r3 1) (aa r3 2) (aa r3 3) (aa r3 4) (aa r3 5) (aa r3 6) (aa r3 7) [])) 15) (aa r5 0) (aa r5 1) (aa r5 2) (aa r5 3) (aa r5 4) (aa r5 5) (aa r5 6) (aa r5 7)) fun r6 => (ah (decide (8 + 8 ≤ List.length (spliced v.1 0 (v8 (aa r3 0) (aa r3 1) (aa r3 2) (aa r3 3) (aa r3 4) (aa r3 5) (aa r3 6) (aa r3 7) [])))) (ah (aw gK (spliced (spliced v.1 0 (v8 (aa r3 0) (aa r3 1) (aa r3 2) (aa r3 3) (aa r3 4) (aa r3 5) (aa r3 6) (aa r3 7) [])) 8 (v8 (aa r6 0) (aa r6 1) (aa r6 2) (aa r6 3) (aa r6 4) (aa r6 5) (aa r6 6) (aa r6 7) [])) 16) (ah (decide (0 ≤ v.2) && decide (v.2 < ((cc.2.1 : Nat) : Int))) (ah (aw gK cc.1 (Int.toNat v.2 * 8)) (Option.bind (cOf (ac cc.2.2.2.2.2.1 ((Int.toNat v.2 * 3) + 2))) fun r7 => (Option.bind (kh (ac cc.1 ((Int.toNat v.2 * 8) + 0)) (ac cc.1 ((Int.toNat v.2 * 8) + 1)) (ac cc.1 ((Int.toNat v.2 * 8) + 2)) (ac cc.1 ((Int.toNat v.2 * 8) + 3)) (ac cc.1 ((Int.toNat v.2 * 8) + 4)) (ac cc.1 ((Int.toNat v.2 * 8) + 5)) (ac cc.1 ((Int.toNat v.2 * 8) + 6)) (ac cc.1 ((Int.toNat v.2 * 8) + 7)) (aa r7 0) (aa r7 1) (aa r7 2) (aa r7 3) (aa r7 4) (aa r7 5) (aa r7 6) (aa r7 7)) fun r8 => (Option.bind (pN (ac (spliced (spliced v.1 0 (v8 (aa r3 0) (aa r3 1) (aa r3 2) (aa r3 3) (aa r3 4) (aa r3 5) (aa r3 6) (aa r3 7) [])) 8 (v8 (aa r6 0) (aa r6 1) (aa r6 2) (aa r6 3) (aa r6 4) (aa r6 5) (aa r6 6) (aa r6 7) [])) 16) (ac (spliced (spliced v.1 0 (v8 (aa r3 0) (aa r3 1) (aa r3 2) (aa r3 3) (aa r3 4) (aa r3 5) (aa r3 6) (aa r3 7) [])) 8 (v8 (aa r6 0) (aa r6 1) (aa r6 2) (aa r6 3) (aa r6 4) (aa r6 5) (aa r6 6) (aa r6 7) [])) 17) (ac (spliced (spliced v.1 0 (v8 (aa r3 0) (aa r3 1) (aa r3 2) (aa r3 3) (aa r3 4) (aa r3 5) (aa r3 6) (aa r3 7) [])) 8 (v8 (aa r6 0) (aa r6 1) (aa r6 2) (aa r6 3) (aa r6 4) (aa r6 5) (aa r6 6) (aa r6 7) [])) 18) (ac (spliced (spliced v.1 0 (v8 (aa r3 0) (aa r3 1) (aa r3 2) (aa r3 3) (aa r3 4) (aa r3 5) (aa r3 6) (aa r3 7) [])) 8 (v8 (aa r6 0) (aa r6 1) (aa r6 2) (aa r6 3) (aa r6 4) (aa r6 5) (aa r6 6) (aa r6 7) [])) 19) (ac (spliced (spliced v.1 0 (v8 (aa r3 0) (aa r3 1) (aa r3 2) (aa r3 3) (aa r3 4) (aa r3 5) (aa r3 6) (aa r3 7) [])) 8 (v8 (aa r6 0) (aa r6 1) (aa r6 2) (aa r6 3) (aa r6 4) (aa r6 5) (aa r6 6) (aa r6 7) [])) 20) (ac (spliced (spliced v.1 0 (v8 (aa r3 0) (aa r3 1) (aa r3 2) (aa r3 3) (aa r3 4) (aa r3 5) (aa r3 6) (aa r3 7) [])) 8 (v8 (aa r6 0) (aa r6 1) (aa r6 2) (aa r6 3) (aa r6 4) (aa r6 5) (aa r6 6) (aa r6 7) [])) 21) (ac (spliced (spliced v.1 0 (v8 (aa r3 0) (aa r3 1) (aa r3 2) (aa r3 3) (aa r3 4) (aa r3 5) (aa r3 6) (aa r3 7) [])) 8 (v8 (aa r6 0) (aa r6 1) (aa r6 2) (aa r6 3) (aa r6 4) (aa r6 5) (aa r6 6) (aa r6 7) [])) 22) (ac (spliced (spliced v.1 0 (v8 (aa r3 0) (aa r3 1) (aa r3 2) (aa r3 3) (aa r3 4) (aa r3 5) (aa r3 6) (aa r3 7) [])) 8 (v8 (aa r6 0) (aa r6 1) (aa r6 2) (aa r6 3) (aa r6 4) (aa r6 5) (aa r6 6) (aa r6 7) [])) 23) (aa r8 0) (aa r8 1) (aa r8 2) (aa r8 3) (aa r8 4) (aa r8 5) (aa r8 6) (aa r8 7)) fun r9 => (ah (decide (16 + 8 ≤ List.length (spliced (spliced v.1 0 (v8 (aa r3 0) (aa r3 1) (aa r3 2) (aa r3 3) (aa r3 4) (aa r3 5) (aa r3 6) (aa r3 7) [])) 8 (v8 (aa r6 0) (aa r6 1) (aa r6 2) (aa r6 3) (aa r6 4) (aa r6 5) (aa r6 6) (aa r6 7) [])))) (kn ((spliced (spliced (spliced v.1 0 (v8 (aa r3 0) (aa r3 1) (aa r3 2) (aa r3 3) (aa r3 4) (aa r3 5) (aa r3 6) (aa r3 7) [])) 8 (v8 (aa r6 0) (aa r6 1) (aa r6 2) (aa r6 3) (aa r6 4) (aa r6 5) (aa r6 6) (aa r6 7) [])) 16 (v8 (aa r9 0) (aa r9 1) (aa r9 2) (aa r9 3) (aa r9 4) (aa r9 5) (aa r9 6) (aa r9 7) [])), (IntKind.wrap .i64 (v.2 + 1))))))))))))))))))))))))))) (ke v.1))
def gZ (cc : fv) (v : LA_ × Int) : Option ((LA_ × Int) ⊕ ((LA_))) := ef cc v (fun v => some (Sum.inl v)) fun e => some (Sum.inr e)
def qm (cc : fv) (v : LA_ × Int) : Option ((LA_)) := dz (gZ cc) v
def DW (cc : fv) (v : LA_ × Int) : List af := [.I cc.s4.2.2.2, .I v.2, .C cc.1, .N cc.2.1, .C cc.2.2.1, .N cc.2.2.2.1, .C v.1, .N cc.s4.1, .C cc.s4.2.1, .N cc.s4.2.2.1]
def tz (ls : List af) : Option ((fv) × (LA_ × Int)) := match ls with
 | [.I x0, .I x1, .C x2, .N x3, .C x4, .N x5, .C x6, .N x7, .C x8, .N x9] => some ((x2, x3, x4, x5, x7, x8, x9, x0), (x6, x1))
 | _ => none
def tA (e : (LA_)) : an := ((fun e => .exit 0) e)
def tB (cc : fv) (e : (LA_)) : List af := ((fun e => [.C cc.2.2.1, .N cc.2.2.2.1, .C e, .N cc.s4.1]) e)
def lB (cc : fv) (e : (LA_)) : List af := ((fun e => [.C cc.2.2.1, .N cc.2.2.2.1, .N cc.s4.1]) e)
def mu (o : an) (ls : List af) : Option (((LA_)) × List af) := match o with
 | .exit 0 => (match ls with
  | [.C x0, .N x1, .C x2, .N x3] => some (x2, [.C x0, .N x1, .N x3])
  | _ => none)
 | _ => none
theorem Ae : ∀ o ls e cl cc, mu o ls = some (e, cl) → cl = lB cc e → ls = tB cc e ∧ tA e = o ∧ o ≠ .normal ∧ ∀ v, o = .pan v → sc 0 v = true := by
 intro o ls e cl cc h hc
 unfold mu at h
 split at h
 ·split at h
  ·cases h
   simp only [lB, List.cons.injEq, af.N.injEq, af.C.injEq, and_true] at hc
   obtain ⟨rfl, rfl, rfl⟩ := hc
   exact ⟨rfl, rfl, by simp, by intro v hv; cases hv <;> rfl⟩
  ·cases h
 ·cases h
def E0 (o : an) : ExS := match o with
 | .exit 0 => ⟨5, (rl none 5 (some (.ptr 2 0) :: some (.ptr 3 0) :: some (.ptr 4 0) :: (rl none 88 []))), [(2, .vec 8 true), (3, .cells (rl (.cK .u64 0) 32 [.aM]) true none), (4, .vec 24 true)], fun s => [0, 1, ak s 5 [], ak s 6 [], ak s 7 []], [], []⟩
 | _ => ⟨0, [], [], fun _ => [], [], []⟩
theorem DX {R : Type} (cc : fv) (v : LA_ × Int) (kn : (LA_ × Int) → Option R) (ke : ((LA_)) → Option R) : ef cc v kn ke = (ef cc v (fun v => some (Sum.inl v)) fun e => some (Sum.inr e)).bind (Sum.elim kn ke) := by
 simp only [ef, bH, ai, Yg, bZ, bB, Ye, Yf, YF, YE]
def wx : LD where
 CC := fv
 V := LA_ × Int
 E := (LA_)
 n := 2
 K := 5
 M := (none :: some (.vec 1) :: none :: none :: none :: some (.ptr 2 0) :: some (.ptr 3 0) :: some (.ptr 4 0) :: (rl none 11 (some (.vec 0) :: some (.int .i64) :: some (.int .i64) :: (rl none 74 []))))
 B := [(1, .vec 8 false), (2, .vec 8 true), (3, .cells (rl (.cK .u64 0) 32 [.aM]) true none), (4, .vec 24 true), (0, .vec 3 false)]
 D := []
 pre := []
 F := fun s => [0, 1, ak s 5 [], ak s 6 [], ak s 7 []]
 toL := DW
 ofL := tz
 ar := fun ls c v h => by
  unfold tz at h
  split at h
  ·cases h; rfl
  ·cases h
 ct := ef
 nat := DX
 sh := E0
 out := tA
 toE := tB
 eY := lB
 ofE := mu
 cQ := Ae
 post := fun cc e k => ((fun e => k (.exit 0) (bc 5 (rl none 5 (some (.ptr 2 0) :: some (.ptr 3 0) :: some (.ptr 4 0) :: (rl none 88 []))) [(2, .vec cc.2.2.1 cc.2.2.2.1 8 true), (3, .cells (rl (.int .u64 0) 32 [.aM]) true none), (4, .vec e cc.s4.1 24 true)] [])) e)
 cd := fun cc e k => by rfl
theorem DY : cJ YI 2 wx.la (aJ Tryz.f57 0) :=
 LD.ok (ch := iH) (A := bw) aK iO mixed (fuel := 60) ⟨by kernel_rfl, fun e => by kernel_rfl, fun cc v => by kernel_rfl, aH (l := [aJ Tryz.f57 1]) (by kernel_rfl) ⟨(eL (by kernel_rfl)), trivial⟩⟩
def dM {R : Type} (cc : ft) (v : LA_ × LA_) (kn : (LA_ × LA_) → Option R) (ke : ((LA_)) → Option R) : Option R :=
 (ah (aw gK v.2 0) (cond (!((ac v.2 0) == 0 && ((ac v.2 1) == 0 && ((ac v.2 2) == 0 && ((ac v.2 3) == 0 && ((ac v.2 4) == 0 && ((ac v.2 5) == 0 && ((ac v.2 6) == 0 && ((ac v.2 7) == 0 && true))))))))) (ah (aw gK v.1 0) (ah (aw gK v.2 0) (Option.bind (wO (ac v.1 0) (ac v.1 1) (ac v.1 2) (ac v.1 3) (ac v.1 4) (ac v.1 5) (ac v.1 6) (ac v.1 7) (ac v.2 0) (ac v.2 1) (ac v.2 2) (ac v.2 3) (ac v.2 4) (ac v.2 5) (ac v.2 6) (ac v.2 7)) fun r14 => (ah (aw gK v.2 0) (ah (decide (0 + 8 ≤ List.length v.1)) (ah (decide (0 + 8 ≤ List.length v.2)) (kn ((spliced v.1 0 (v8 (ac v.2 0) (ac v.2 1) (ac v.2 2) (ac v.2 3) (ac v.2 4) (ac v.2 5) (ac v.2 6) (ac v.2 7) [])), (spliced v.2 0 (v8 (aa r14.2 0) (aa r14.2 1) (aa r14.2 2) (aa r14.2 3) (aa r14.2 4) (aa r14.2 5) (aa r14.2 6) (aa r14.2 7) [])))))))))) (ke v.1)))
def eT (cc : ft) (v : LA_ × LA_) : Option ((LA_ × LA_) ⊕ ((LA_))) := dM cc v (fun v => some (Sum.inl v)) fun e => some (Sum.inr e)
def g7 (cc : ft) (v : LA_ × LA_) : Option ((LA_)) := dz (eT cc) v
def Cc (cc : ft) (v : LA_ × LA_) : List af := [.I cc.s4.2.2.1, .I cc.s4.2.2.2.1, .I cc.s8.1, .I cc.s8.2.1, .I cc.s8.2.2.1, .I cc.s8.2.2.2.1, .I cc.s8.s4.1, .I cc.s8.s4.2.1, .I cc.s8.s4.2.2.1, .I cc.s8.s4.2.2.2.1, .I cc.s16.1, .I cc.s16.2.1, .I cc.s16.2.2.1, .I cc.s16.2.2.2.1, .I cc.s16.s4.1, .I cc.s16.s4.2.1, .I cc.s16.s4.2.2.1, .I cc.s16.s4.2.2.2.1, .I cc.s16.s8.1, .I cc.s16.s8.2.1, .I cc.s16.s8.2.2.1, .I cc.s16.s8.2.2.2.1, .I cc.s16.s8.s4.1, .I cc.s16.s8.s4.2.1, .I cc.s16.s8.s4.2.2, .C cc.1, .N cc.2.1, .C cc.2.2.1, .N cc.2.2.2.1, .C v.1, .N cc.s4.1, .C v.2, .N cc.s4.2.1]
def rP (ls : List af) : Option ((ft) × (LA_ × LA_)) := match ls with
 | (.I x0 :: .I x1 :: .I x2 :: .I x3 :: .I x4 :: .I x5 :: .I x6 :: .I x7 :: .I x8 :: .I x9 :: .I x10 :: .I x11 :: .I x12 :: .I x13 :: .I x14 :: .I x15 :: .I x16 :: .I x17 :: .I x18 :: .I x19 :: .I x20 :: .I x21 :: .I x22 :: .I x23 :: .I x24 :: .C x25 :: .N x26 :: .C x27 :: .N x28 :: .C x29 :: .N x30 :: .C x31 :: .N x32 :: []) => some ((x25, x26, x27, x28, x30, x32, x0, x1, x2, x3, x4, x5, x6, x7, x8, x9, x10, x11, x12, x13, x14, x15, x16, x17, x18, x19, x20, x21, x22, x23, x24), (x29, x31))
 | _ => none
def rQ (e : (LA_)) : an := ((fun e => .exit 6) e)
def rR (cc : ft) (e : (LA_)) : List af := ((fun e => [.I cc.s4.2.2.1, .I cc.s4.2.2.2.1, .I cc.s8.1, .I cc.s8.2.1, .I cc.s8.2.2.1, .I cc.s8.2.2.2.1, .I cc.s8.s4.1, .I cc.s8.s4.2.1, .I cc.s8.s4.2.2.1, .I cc.s8.s4.2.2.2.1, .I cc.s16.1, .I cc.s16.2.1, .I cc.s16.2.2.1, .I cc.s16.2.2.2.1, .I cc.s16.s4.1, .I cc.s16.s4.2.1, .I cc.s16.s4.2.2.1, .I cc.s16.s4.2.2.2.1, .I cc.s16.s8.1, .I cc.s16.s8.2.1, .I cc.s16.s8.2.2.1, .I cc.s16.s8.2.2.2.1, .I cc.s16.s8.s4.1, .I cc.s16.s8.s4.2.1, .I cc.s16.s8.s4.2.2, .C cc.1, .N cc.2.1, .C cc.2.2.1, .N cc.2.2.2.1, .C e, .N cc.s4.1]) e)
def kE (cc : ft) (e : (LA_)) : List af := ((fun e => [.I cc.s4.2.2.1, .I cc.s4.2.2.2.1, .I cc.s8.1, .I cc.s8.2.1, .I cc.s8.2.2.1, .I cc.s8.2.2.2.1, .I cc.s8.s4.1, .I cc.s8.s4.2.1, .I cc.s8.s4.2.2.1, .I cc.s8.s4.2.2.2.1, .I cc.s16.1, .I cc.s16.2.1, .I cc.s16.2.2.1, .I cc.s16.2.2.2.1, .I cc.s16.s4.1, .I cc.s16.s4.2.1, .I cc.s16.s4.2.2.1, .I cc.s16.s4.2.2.2.1, .I cc.s16.s8.1, .I cc.s16.s8.2.1, .I cc.s16.s8.2.2.1, .I cc.s16.s8.2.2.2.1, .I cc.s16.s8.s4.1, .I cc.s16.s8.s4.2.1, .I cc.s16.s8.s4.2.2, .C cc.1, .N cc.2.1, .C cc.2.2.1, .N cc.2.2.2.1, .N cc.s4.1]) e)
def lC (o : an) (ls : List af) : Option (((LA_)) × List af) := match o with
 | .exit 6 => (match ls with
  | [.I x0, .I x1, .I x2, .I x3, .I x4, .I x5, .I x6, .I x7, .I x8, .I x9, .I x10, .I x11, .I x12, .I x13, .I x14, .I x15, .I x16, .I x17, .I x18, .I x19, .I x20, .I x21, .I x22, .I x23, .I x24, .C x25, .N x26, .C x27, .N x28, .C x29, .N x30] => some (x29, [.I x0, .I x1, .I x2, .I x3, .I x4, .I x5, .I x6, .I x7, .I x8, .I x9, .I x10, .I x11, .I x12, .I x13, .I x14, .I x15, .I x16, .I x17, .I x18, .I x19, .I x20, .I x21, .I x22, .I x23, .I x24, .C x25, .N x26, .C x27, .N x28, .N x30])
  | _ => none)
 | _ => none
theorem za : ∀ o ls e cl cc, lC o ls = some (e, cl) → cl = kE cc e → ls = rR cc e ∧ rQ e = o ∧ o ≠ .normal ∧ ∀ v, o = .pan v → sc 0 v = true := by
 intro o ls e cl cc h hc
 unfold lC at h
 split at h
 ·split at h
  ·cases h
   simp only [kE, List.cons.injEq, af.I.injEq, af.N.injEq, af.C.injEq, and_true] at hc
   obtain ⟨rfl, rfl, rfl, rfl, rfl, rfl, rfl, rfl, rfl, rfl, rfl, rfl, rfl, rfl, rfl, rfl, rfl, rfl, rfl, rfl, rfl, rfl, rfl, rfl, rfl, rfl, rfl, rfl, rfl, rfl⟩ := hc
   exact ⟨rfl, rfl, by simp, by intro v hv; cases hv <;> rfl⟩
  ·cases h
 ·cases h
def DZ (o : an) : ExS := match o with
 | .exit 6 => ⟨6, (rl none 5 (some (.ptr 2 0) :: some (.ptr 3 0) :: some (.ptr 4 0) :: none :: none :: none :: none :: some (.ptr 5 0) :: (rl none 40 (some (.agg (rl (.int .u64) 24 [])) :: some (.int .i64) :: (rl none 41 []))))), [(2, .vec 8 true), (3, .cells (rl (.cK .u64 0) 32 [.aM]) true none), (4, .vec 24 true), (5, .vec 8 true)], fun s => [0, 1, ak s 5 [], ak s 6 [], ak s 7 [], ak s 12 []], [], []⟩
 | _ => ⟨0, [], [], fun _ => [], [], []⟩
theorem Cd {R : Type} (cc : ft) (v : LA_ × LA_) (kn : (LA_ × LA_) → Option R) (ke : ((LA_)) → Option R) : dM cc v kn ke = (dM cc v (fun v => some (Sum.inl v)) fun e => some (Sum.inr e)).bind (Sum.elim kn ke) := by
 simp only [dM, bH, ai, Yg, bZ, bB, Ye, Yf, YF, YE]
def nr : LD where
 CC := ft
 V := LA_ × LA_
 E := (LA_)
 n := 2
 K := 7
 M := (rl none 5 (some (.ptr 2 0) :: some (.ptr 3 0) :: some (.ptr 4 0) :: none :: none :: none :: none :: some (.ptr 5 0) :: none :: some (.ptr 6 0) :: (rl none 38 (some (.agg (rl (.int .u64) 24 [])) :: some (.int .i64) :: (rl none 41 [])))))
 B := [(2, .vec 8 true), (3, .cells (rl (.cK .u64 0) 32 [.aM]) true none), (4, .vec 24 true), (5, .vec 8 true), (6, .vec 8 true)]
 D := []
 pre := []
 F := fun s => [0, 1, ak s 5 [], ak s 6 [], ak s 7 [], ak s 12 [], ak s 14 []]
 toL := Cc
 ofL := rP
 ar := fun ls c v h => by
  unfold rP at h
  split at h
  ·cases h; rfl
  ·cases h
 ct := dM
 nat := Cd
 sh := DZ
 out := rQ
 toE := rR
 eY := kE
 ofE := lC
 cQ := za
 post := fun cc e k => ((fun e => k (.exit 6) (bc 6 (rl none 5 (some (.ptr 2 0) :: some (.ptr 3 0) :: some (.ptr 4 0) :: none :: none :: none :: none :: some (.ptr 5 0) :: (rl none 40 (some (.agg (v8 cc.s4.2.2.1 cc.s4.2.2.2.1 cc.s8.1 cc.s8.2.1 cc.s8.2.2.1 cc.s8.2.2.2.1 cc.s8.s4.1 cc.s8.s4.2.1 (v8 cc.s8.s4.2.2.1 cc.s8.s4.2.2.2.1 cc.s16.1 cc.s16.2.1 cc.s16.2.2.1 cc.s16.2.2.2.1 cc.s16.s4.1 cc.s16.s4.2.1 (v8 cc.s16.s4.2.2.1 cc.s16.s4.2.2.2.1 cc.s16.s8.1 cc.s16.s8.2.1 cc.s16.s8.2.2.1 cc.s16.s8.2.2.2.1 cc.s16.s8.s4.1 cc.s16.s8.s4.2.1 [])))) :: some (.int .i64 cc.s16.s8.s4.2.2) :: (rl none 41 []))))) [(2, .vec cc.1 cc.2.1 8 true), (3, .cells (rl (.int .u64 0) 32 [.aM]) true none), (4, .vec cc.2.2.1 cc.2.2.2.1 24 true), (5, .vec e cc.s4.1 8 true)] [])) e)
 cd := fun cc e k => by rfl
theorem rS : cJ YI 2 nr.la (aJ Tryz.f57 3) :=
 LD.ok (ch := iH) (A := bw) aK iO mixed (fuel := 60) ⟨by kernel_rfl, fun e => by kernel_rfl, fun cc v => by kernel_rfl, aH (l := []) (by kernel_rfl) trivial⟩
def gv {R : Type} (cc : fu) (v : LA_ × Int) (kn : (LA_ × Int) → Option R) (ke : ((LA_)) → Option R) : Option R :=
 (cond (decide (v.2 < 3)) (let l11 := ((v8 cc.2.2.2.2.2.1 cc.2.2.2.2.2.2.1 cc.2.2.2.2.2.2.2.1 cc.2.2.2.2.2.2.2.2.1 cc.2.2.2.2.2.2.2.2.2.1 cc.2.2.2.2.2.2.2.2.2.2.1 cc.2.2.2.2.2.2.2.2.2.2.2.1 cc.2.2.2.2.2.2.2.2.2.2.2.2.1 (v8 cc.2.2.2.2.2.2.2.2.2.2.2.2.2.1 cc.2.2.2.2.2.2.2.2.2.2.2.2.2.2.1 cc.2.2.2.2.2.2.2.2.2.2.2.2.2.2.2.1 cc.2.2.2.2.2.2.2.2.2.2.2.2.2.2.2.2.1 cc.2.2.2.2.2.2.2.2.2.2.2.2.2.2.2.2.2.1 cc.2.2.2.2.2.2.2.2.2.2.2.2.2.2.2.2.2.2.1 cc.2.2.2.2.2.2.2.2.2.2.2.2.2.2.2.2.2.2.2.1 cc.2.2.2.2.2.2.2.2.2.2.2.2.2.2.2.2.2.2.2.2.1 (v8 cc.2.2.2.2.2.2.2.2.2.2.2.2.2.2.2.2.2.2.2.2.2.1 cc.2.2.2.2.2.2.2.2.2.2.2.2.2.2.2.2.2.2.2.2.2.2.1 cc.2.2.2.2.2.2.2.2.2.2.2.2.2.2.2.2.2.2.2.2.2.2.2.1 cc.2.2.2.2.2.2.2.2.2.2.2.2.2.2.2.2.2.2.2.2.2.2.2.2.1 cc.2.2.2.2.2.2.2.2.2.2.2.2.2.2.2.2.2.2.2.2.2.2.2.2.2.1 cc.2.2.2.2.2.2.2.2.2.2.2.2.2.2.2.2.2.2.2.2.2.2.2.2.2.2.1 cc.2.2.2.2.2.2.2.2.2.2.2.2.2.2.2.2.2.2.2.2.2.2.2.2.2.2.2.1 cc.2.2.2.2.2.2.2.2.2.2.2.2.2.2.2.2.2.2.2.2.2.2.2.2.2.2.2.2 []))) : LA_); (ah (decide (0 ≤ v.2) && decide (v.2 < ((3 : Nat) : Int)) && aw gK l11 (Int.toNat v.2 * 8)) (Option.bind (rI (ac l11 ((Int.toNat v.2 * 8) + 0)) (ac l11 ((Int.toNat v.2 * 8) + 1)) (ac l11 ((Int.toNat v.2 * 8) + 2)) (ac l11 ((Int.toNat v.2 * 8) + 3)) (ac l11 ((Int.toNat v.2 * 8) + 4)) (ac l11 ((Int.toNat v.2 * 8) + 5)) (ac l11 ((Int.toNat v.2 * 8) + 6)) (ac l11 ((Int.toNat v.2 * 8) + 7))) fun r12 => (cond (decide (r12 < 0)) (Option.bind (BW (ac l11 ((Int.toNat v.2 * 8) + 0)) (ac l11 ((Int.toNat v.2 * 8) + 1)) (ac l11 ((Int.toNat v.2 * 8) + 2)) (ac l11 ((Int.toNat v.2 * 8) + 3)) (ac l11 ((Int.toNat v.2 * 8) + 4)) (ac l11 ((Int.toNat v.2 * 8) + 5)) (ac l11 ((Int.toNat v.2 * 8) + 6)) (ac l11 ((Int.toNat v.2 * 8) + 7))) fun r13 => (Option.bind (g7 (cc.1, cc.2.1, cc.2.2.1, cc.2.2.2.1, cc.2.2.2.2.1, 1, cc.2.2.2.2.2.1, cc.2.2.2.2.2.2.1, cc.2.2.2.2.2.2.2.1, cc.2.2.2.2.2.2.2.2.1, cc.2.2.2.2.2.2.2.2.2.1, cc.2.2.2.2.2.2.2.2.2.2.1, cc.2.2.2.2.2.2.2.2.2.2.2.1, cc.2.2.2.2.2.2.2.2.2.2.2.2.1, cc.2.2.2.2.2.2.2.2.2.2.2.2.2.1, cc.2.2.2.2.2.2.2.2.2.2.2.2.2.2.1, cc.2.2.2.2.2.2.2.2.2.2.2.2.2.2.2.1, cc.2.2.2.2.2.2.2.2.2.2.2.2.2.2.2.2.1, cc.2.2.2.2.2.2.2.2.2.2.2.2.2.2.2.2.2.1, cc.2.2.2.2.2.2.2.2.2.2.2.2.2.2.2.2.2.2.1, cc.2.2.2.2.2.2.2.2.2.2.2.2.2.2.2.2.2.2.2.1, cc.2.2.2.2.2.2.2.2.2.2.2.2.2.2.2.2.2.2.2.2.1, cc.2.2.2.2.2.2.2.2.2.2.2.2.2.2.2.2.2.2.2.2.2.1, cc.2.2.2.2.2.2.2.2.2.2.2.2.2.2.2.2.2.2.2.2.2.2.1, cc.2.2.2.2.2.2.2.2.2.2.2.2.2.2.2.2.2.2.2.2.2.2.2.1, cc.2.2.2.2.2.2.2.2.2.2.2.2.2.2.2.2.2.2.2.2.2.2.2.2.1, cc.2.2.2.2.2.2.2.2.2.2.2.2.2.2.2.2.2.2.2.2.2.2.2.2.2.1, cc.2.2.2.2.2.2.2.2.2.2.2.2.2.2.2.2.2.2.2.2.2.2.2.2.2.2.1, cc.2.2.2.2.2.2.2.2.2.2.2.2.2.2.2.2.2.2.2.2.2.2.2.2.2.2.2.1, cc.2.2.2.2.2.2.2.2.2.2.2.2.2.2.2.2.2.2.2.2.2.2.2.2.2.2.2.2, v.2) (v.1, ((v8 (aa r13 0) (aa r13 1) (aa r13 2) (aa r13 3) (aa r13 4) (aa r13 5) (aa r13 6) (aa r13 7) []) : LA_))) fun e15 => (kn (e15, (IntKind.wrap .i64 (v.2 + 1)))))) (Option.bind (g7 (cc.1, cc.2.1, cc.2.2.1, cc.2.2.2.1, cc.2.2.2.2.1, 1, cc.2.2.2.2.2.1, cc.2.2.2.2.2.2.1, cc.2.2.2.2.2.2.2.1, cc.2.2.2.2.2.2.2.2.1, cc.2.2.2.2.2.2.2.2.2.1, cc.2.2.2.2.2.2.2.2.2.2.1, cc.2.2.2.2.2.2.2.2.2.2.2.1, cc.2.2.2.2.2.2.2.2.2.2.2.2.1, cc.2.2.2.2.2.2.2.2.2.2.2.2.2.1, cc.2.2.2.2.2.2.2.2.2.2.2.2.2.2.1, cc.2.2.2.2.2.2.2.2.2.2.2.2.2.2.2.1, cc.2.2.2.2.2.2.2.2.2.2.2.2.2.2.2.2.1, cc.2.2.2.2.2.2.2.2.2.2.2.2.2.2.2.2.2.1, cc.2.2.2.2.2.2.2.2.2.2.2.2.2.2.2.2.2.2.1, cc.2.2.2.2.2.2.2.2.2.2.2.2.2.2.2.2.2.2.2.1, cc.2.2.2.2.2.2.2.2.2.2.2.2.2.2.2.2.2.2.2.2.1, cc.2.2.2.2.2.2.2.2.2.2.2.2.2.2.2.2.2.2.2.2.2.1, cc.2.2.2.2.2.2.2.2.2.2.2.2.2.2.2.2.2.2.2.2.2.2.1, cc.2.2.2.2.2.2.2.2.2.2.2.2.2.2.2.2.2.2.2.2.2.2.2.1, cc.2.2.2.2.2.2.2.2.2.2.2.2.2.2.2.2.2.2.2.2.2.2.2.2.1, cc.2.2.2.2.2.2.2.2.2.2.2.2.2.2.2.2.2.2.2.2.2.2.2.2.2.1, cc.2.2.2.2.2.2.2.2.2.2.2.2.2.2.2.2.2.2.2.2.2.2.2.2.2.2.1, cc.2.2.2.2.2.2.2.2.2.2.2.2.2.2.2.2.2.2.2.2.2.2.2.2.2.2.2.1, cc.2.2.2.2.2.2.2.2.2.2.2.2.2.2.2.2.2.2.2.2.2.2.2.2.2.2.2.2, v.2) (v.1, ([.int .u64 (ac l11 ((Int.toNat v.2 * 8) + 0)), .int .u64 (ac l11 ((Int.toNat v.2 * 8) + 1)), .int .u64 (ac l11 ((Int.toNat v.2 * 8) + 2)), .int .u64 (ac l11 ((Int.toNat v.2 * 8) + 3)), .int .u64 (ac l11 ((Int.toNat v.2 * 8) + 4)), .int .u64 (ac l11 ((Int.toNat v.2 * 8) + 5)), .int .u64 (ac l11 ((Int.toNat v.2 * 8) + 6)), .int .u64 (ac l11 ((Int.toNat v.2 * 8) + 7))] : LA_))) fun e16 => (kn (e16, (IntKind.wrap .i64 (v.2 + 1))))))))) (ke v.1))
def jw (cc : fu) (v : LA_ × Int) : Option ((LA_ × Int) ⊕ ((LA_))) := gv cc v (fun v => some (Sum.inl v)) fun e => some (Sum.inr e)
def pb (cc : fu) (v : LA_ × Int) : Option ((LA_)) := dz (jw cc) v
def Ce (cc : fu) (v : LA_ × Int) : List af := [.I cc.s4.2.1, .I cc.s4.2.2.1, .I cc.s4.2.2.2.1, .I cc.s8.1, .I cc.s8.2.1, .I cc.s8.2.2.1, .I cc.s8.2.2.2.1, .I cc.s8.s4.1, .I cc.s8.s4.2.1, .I cc.s8.s4.2.2.1, .I cc.s8.s4.2.2.2.1, .I cc.s16.1, .I cc.s16.2.1, .I cc.s16.2.2.1, .I cc.s16.2.2.2.1, .I cc.s16.s4.1, .I cc.s16.s4.2.1, .I cc.s16.s4.2.2.1, .I cc.s16.s4.2.2.2.1, .I cc.s16.s8.1, .I cc.s16.s8.2.1, .I cc.s16.s8.2.2.1, .I cc.s16.s8.2.2.2.1, .I cc.s16.s8.s4, .I v.2, .C cc.1, .N cc.2.1, .C cc.2.2.1, .N cc.2.2.2.1, .C v.1, .N cc.s4.1]
def rT (ls : List af) : Option ((fu) × (LA_ × Int)) := match ls with
 | [.I x0, .I x1, .I x2, .I x3, .I x4, .I x5, .I x6, .I x7, .I x8, .I x9, .I x10, .I x11, .I x12, .I x13, .I x14, .I x15, .I x16, .I x17, .I x18, .I x19, .I x20, .I x21, .I x22, .I x23, .I x24, .C x25, .N x26, .C x27, .N x28, .C x29, .N x30] => some ((x25, x26, x27, x28, x30, x0, x1, x2, x3, x4, x5, x6, x7, x8, x9, x10, x11, x12, x13, x14, x15, x16, x17, x18, x19, x20, x21, x22, x23), (x29, x24))
 | _ => none
def rU (e : (LA_)) : an := ((fun e => .exit 4) e)
def rV (cc : fu) (e : (LA_)) : List af := ((fun e => [.C cc.1, .N cc.2.1, .C cc.2.2.1, .N cc.2.2.2.1, .C e, .N cc.s4.1]) e)
def kF (cc : fu) (e : (LA_)) : List af := ((fun e => [.C cc.1, .N cc.2.1, .C cc.2.2.1, .N cc.2.2.2.1, .N cc.s4.1]) e)
def lD (o : an) (ls : List af) : Option (((LA_)) × List af) := match o with
 | .exit 4 => (match ls with
  | [.C x0, .N x1, .C x2, .N x3, .C x4, .N x5] => some (x4, [.C x0, .N x1, .C x2, .N x3, .N x5])
  | _ => none)
 | _ => none
theorem zb : ∀ o ls e cl cc, lD o ls = some (e, cl) → cl = kF cc e → ls = rV cc e ∧ rU e = o ∧ o ≠ .normal ∧ ∀ v, o = .pan v → sc 0 v = true := by
 intro o ls e cl cc h hc
 unfold lD at h
 split at h
 ·split at h
  ·cases h
   simp only [kF, List.cons.injEq, af.N.injEq, af.C.injEq, and_true] at hc
   obtain ⟨rfl, rfl, rfl, rfl, rfl⟩ := hc
   exact ⟨rfl, rfl, by simp, by intro v hv; cases hv <;> rfl⟩
  ·cases h
 ·cases h
def Ea (o : an) : ExS := match o with
 | .exit 4 => ⟨6, (rl none 5 (some (.ptr 2 0) :: some (.ptr 3 0) :: some (.ptr 4 0) :: none :: none :: none :: none :: some (.ptr 5 0) :: (rl none 83 []))), [(2, .vec 8 true), (3, .cells (rl (.cK .u64 0) 32 [.aM]) true none), (4, .vec 24 true), (5, .vec 8 true)], fun s => [0, 1, ak s 5 [], ak s 6 [], ak s 7 [], ak s 12 []], [], []⟩
 | _ => ⟨0, [], [], fun _ => [], [], []⟩
theorem Cf {R : Type} (cc : fu) (v : LA_ × Int) (kn : (LA_ × Int) → Option R) (ke : ((LA_)) → Option R) : gv cc v kn ke = (gv cc v (fun v => some (Sum.inl v)) fun e => some (Sum.inr e)).bind (Sum.elim kn ke) := by
 simp only [gv, bH, ai, Yg, bZ, bB, Ye, Yf, YF, YE]
def uN : LD where
 CC := fu
 V := LA_ × Int
 E := (LA_)
 n := 2
 K := 6
 M := (rl none 5 (some (.ptr 2 0) :: some (.ptr 3 0) :: some (.ptr 4 0) :: none :: none :: none :: none :: some (.ptr 5 0) :: (rl none 40 (some (.agg (rl (.int .u64) 24 [])) :: some (.int .i64) :: (rl none 41 [])))))
 B := [(2, .vec 8 true), (3, .cells (rl (.cK .u64 0) 32 [.aM]) true none), (4, .vec 24 true), (5, .vec 8 true)]
 D := []
 pre := []
 F := fun s => [0, 1, ak s 5 [], ak s 6 [], ak s 7 [], ak s 12 []]
 toL := Ce
 ofL := rT
 ar := fun ls c v h => by
  unfold rT at h
  split at h
  ·cases h; rfl
  ·cases h
 ct := gv
 nat := Cf
 sh := Ea
 out := rU
 toE := rV
 eY := kF
 ofE := lD
 cQ := zb
 post := fun cc e k => ((fun e => k (.exit 4) (bc 6 (rl none 5 (some (.ptr 2 0) :: some (.ptr 3 0) :: some (.ptr 4 0) :: none :: none :: none :: none :: some (.ptr 5 0) :: (rl none 83 []))) [(2, .vec cc.1 cc.2.1 8 true), (3, .cells (rl (.int .u64 0) 32 [.aM]) true none), (4, .vec cc.2.2.1 cc.2.2.2.1 24 true), (5, .vec e cc.s4.1 8 true)] [])) e)
 cd := fun cc e k => by rfl
theorem Cg : cJ YI 2 uN.la (aJ Tryz.f57 2) :=
 LD.ok (ch := iH) (A := dL [(17, nr.la)]) aK iO mixed (fuel := 60) ⟨by kernel_rfl, fun e => by kernel_rfl, fun cc v => by kernel_rfl, aH (l := [aJ Tryz.f57 3]) (by kernel_rfl) ⟨bT (by kernel_rfl) rS, trivial⟩⟩
def lZ (cs0 : LA_) (n1 : Nat) (cs2 : LA_) (n3 : Nat) (a4 a5 a6 a7 a8 a9 a10 a11 : Int) : Option (yl) :=
 (Option.bind (qm (cs2, n3, ((v8 a4 a5 a6 a7 a8 a9 a10 a11 []) : LA_), 1, 1, cs0, n1, ((n1 : Nat) : Int)) (((v8 0 0 0 0 0 0 0 0 (v8 0 0 0 0 0 0 0 0 (v8 0 0 0 0 0 0 0 0 []))) : LA_), 0)) fun e1 => (ah (aw Yc e1 0) (Option.bind (pb (((v8 a4 a5 a6 a7 a8 a9 a10 a11 []) : LA_), 1, e1, 1, 1, (ac e1 0), (ac e1 1), (ac e1 2), (ac e1 3), (ac e1 4), (ac e1 5), (ac e1 6), (ac e1 7), (ac e1 8), (ac e1 9), (ac e1 10), (ac e1 11), (ac e1 12), (ac e1 13), (ac e1 14), (ac e1 15), (ac e1 16), (ac e1 17), (ac e1 18), (ac e1 19), (ac e1 20), (ac e1 21), (ac e1 22), (ac e1 23)) (((v8 a4 a5 a6 a7 a8 a9 a10 a11 []) : LA_), 0)) fun e2 => (ah (aw gK e1 0) (ah (aw gK e2 0 && Nat.beq (List.length e2) 8) (Option.bind (bS (ac e1 0) (ac e1 1) (ac e1 2) (ac e1 3) (ac e1 4) (ac e1 5) (ac e1 6) (ac e1 7) (ac e2 0) (ac e2 1) (ac e2 2) (ac e2 3) (ac e2 4) (ac e2 5) (ac e2 6) (ac e2 7)) fun r3 => (ah (aw gK e1 8) (ah (aw gK e2 0 && Nat.beq (List.length e2) 8) (Option.bind (bS (ac e1 8) (ac e1 9) (ac e1 10) (ac e1 11) (ac e1 12) (ac e1 13) (ac e1 14) (ac e1 15) (ac e2 0) (ac e2 1) (ac e2 2) (ac e2 3) (ac e2 4) (ac e2 5) (ac e2 6) (ac e2 7)) fun r4 => (ah (aw gK e1 16) (ah (aw gK e2 0 && Nat.beq (List.length e2) 8) (Option.bind (bS (ac e1 16) (ac e1 17) (ac e1 18) (ac e1 19) (ac e1 20) (ac e1 21) (ac e1 22) (ac e1 23) (ac e2 0) (ac e2 1) (ac e2 2) (ac e2 3) (ac e2 4) (ac e2 5) (ac e2 6) (ac e2 7)) fun r5 => (ah (aw gK e2 0 && Nat.beq (List.length e2) 8) (Option.bind (bS a4 a5 a6 a7 a8 a9 a10 a11 (ac e2 0) (ac e2 1) (ac e2 2) (ac e2 3) (ac e2 4) (ac e2 5) (ac e2 6) (ac e2 7)) fun r6 => (some (be r3 (be r4 (be r5 ((aa r6 0), (aa r6 1), (aa r6 2), (aa r6 3), (aa r6 4), (aa r6 5), (aa r6 6), (aa r6 7))))))))))))))))))))
def el : FD where
 X := yl
 k := 2
 pre := []
 F := fun s => [0, 1]
 M := .agg (rl (.int .u64) 32 [.aM])
 B := []
 toL := fun x => [.I x.1, .I x.2.1, .I x.2.2.1, .I x.2.2.2.1, .I x.s4.1, .I x.s4.2.1, .I x.s4.2.2.1, .I x.s4.2.2.2.1, .I x.s8.1, .I x.s8.2.1, .I x.s8.2.2.1, .I x.s8.2.2.2.1, .I x.s8.s4.1, .I x.s8.s4.2.1, .I x.s8.s4.2.2.1, .I x.s8.s4.2.2.2.1, .I x.s16.1, .I x.s16.2.1, .I x.s16.2.2.1, .I x.s16.2.2.2.1, .I x.s16.s4.1, .I x.s16.s4.2.1, .I x.s16.s4.2.2.1, .I x.s16.s4.2.2.2.1, .I x.s16.s8.1, .I x.s16.s8.2.1, .I x.s16.s8.2.2.1, .I x.s16.s8.2.2.2.1, .I x.s16.s8.s4.1, .I x.s16.s8.s4.2.1, .I x.s16.s8.s4.2.2.1, .I x.s16.s8.s4.2.2.2]
 ofL := fun ls => match ls with
  | [.I x0, .I x1, .I x2, .I x3, .I x4, .I x5, .I x6, .I x7, .I x8, .I x9, .I x10, .I x11, .I x12, .I x13, .I x14, .I x15, .I x16, .I x17, .I x18, .I x19, .I x20, .I x21, .I x22, .I x23, .I x24, .I x25, .I x26, .I x27, .I x28, .I x29, .I x30, .I x31] => some (x0, x1, x2, x3, x4, x5, x6, x7, x8, x9, x10, x11, x12, x13, x14, x15, x16, x17, x18, x19, x20, x21, x22, x23, x24, x25, x26, x27, x28, x29, x30, x31)
  | _ => none
 ar := fun ls x h => by
  split at h
  ·cases h; rfl
  ·cases h
theorem Hc (cs0 : LA_) (n1 : Nat) (cs2 : LA_) (n3 : Nat) (a4 a5 a6 a7 a8 a9 a10 a11 : Int) (x : yl) (h : lZ cs0 n1 cs2 n3 a4 a5 a6 a7 a8 a9 a10 a11 = some x) : aP YI 57 2 [.vec 0, .vec 1, .agg (v8 a4 a5 a6 a7 a8 a9 a10 a11 [])] [.vec cs0 n1 3 false, .vec cs2 n3 8 false] el x :=
 FD.sem (ch := iH) (A := dL [(3, wx.la), (17, nr.la), (13, uN.la)]) (fn := Tryz.f57) (c := br Tryz.f57) (fuel := 60) aK iO mixed bI el Tryz.func57 (by kernel_rfl) (aH (l := [aJ Tryz.f57 0, aJ Tryz.f57 1, aJ Tryz.f57 2, aJ Tryz.f57 3]) (by kernel_rfl) ⟨bT (by kernel_rfl) DY, (eL (by kernel_rfl)), bT (by kernel_rfl) Cg, bT (by kernel_rfl) rS, trivial⟩)
  (by kernel_rfl) (Eq.trans (by kernel_rfl) h)
def dR (cs0 : LA_) (n1 : Nat) (cs2 : LA_) (n3 : Nat) (a4 a5 a6 a7 a8 a9 a10 a11 : Int) : Option (Int × Int × Int × Int) := Option.bind (lZ cs0 n1 cs2 n3 a4 a5 a6 a7 a8 a9 a10 a11) fun (x0, x1, x2, x3, x4, x5, x6, x7, x8, x9, x10, x11, x12, x13, x14, x15, x16, x17, x18, x19, x20, x21, x22, x23, x24, x25, x26, x27, x28, x29, x30, x31) => ah (ok8 x0 x1 x2 x3 x4 x5 x6 x7 && ok8 x8 x9 x10 x11 x12 x13 x14 x15 && ok8 x16 x17 x18 x19 x20 x21 x22 x23 && ok8 x24 x25 x26 x27 x28 x29 x30 x31) (some ((num x0 x1 x2 x3 x4 x5 x6 x7), (num x8 x9 x10 x11 x12 x13 x14 x15), (num x16 x17 x18 x19 x20 x21 x22 x23), (num x24 x25 x26 x27 x28 x29 x30 x31)))
def rW : FD := ⟨Int × Int × Int × Int, el.k, el.pre, el.F, el.M, el.B, fun y => el.toL (be y.1 (be y.2.1 (be y.2.2.1 ((aa y.2.2.2 0), (aa y.2.2.2 1), (aa y.2.2.2 2), (aa y.2.2.2 3), (aa y.2.2.2 4), (aa y.2.2.2 5), (aa y.2.2.2 6), (aa y.2.2.2 7))))), fun _ => none, fun _ _ h => by cases h⟩
theorem Io (cs0 : LA_) (n1 : Nat) (cs2 : LA_) (n3 : Nat) (a4 a5 a6 a7 a8 a9 a10 a11 : Int) {y : Int × Int × Int × Int} (h : dR cs0 n1 cs2 n3 a4 a5 a6 a7 a8 a9 a10 a11 = some y) : lZ cs0 n1 cs2 n3 a4 a5 a6 a7 a8 a9 a10 a11 = some (be y.1 (be y.2.1 (be y.2.2.1 ((aa y.2.2.2 0), (aa y.2.2.2 1), (aa y.2.2.2 2), (aa y.2.2.2 3), (aa y.2.2.2 4), (aa y.2.2.2 5), (aa y.2.2.2 6), (aa y.2.2.2 7))))) := by
 unfold dR at h
 obtain ⟨⟨x0, x1, x2, x3, x4, x5, x6, x7, x8, x9, x10, x11, x12, x13, x14, x15, x16, x17, x18, x19, x20, x21, x22, x23, x24, x25, x26, x27, x28, x29, x30, x31⟩, h1, h2⟩ := bE_ h
 obtain ⟨h3, h4⟩ := aL h2
 simp only [Yi, and_assoc] at h3
 simp only [Yh] at h4
 subst h4
 obtain ⟨o0, o1, o2, o3⟩ := h3
 have q0 := aR o0
 have q1 := aR o1
 have q2 := aR o2
 have q3 := aR o3
 rw [h1]
 simp only [be, q0, q1, q2, q3]
theorem He (cs0 : LA_) (n1 : Nat) (cs2 : LA_) (n3 : Nat) (a4 a5 a6 a7 a8 a9 a10 a11 : Int) (y : Int × Int × Int × Int) (h : dR cs0 n1 cs2 n3 a4 a5 a6 a7 a8 a9 a10 a11 = some y) : aP YI 57 2 [.vec 0, .vec 1, .agg (v8 a4 a5 a6 a7 a8 a9 a10 a11 [])] [.vec cs0 n1 3 false, .vec cs2 n3 8 false] rW y := Hc cs0 n1 cs2 n3 a4 a5 a6 a7 a8 a9 a10 a11 _ (Io cs0 n1 cs2 n3 a4 a5 a6 a7 a8 a9 a10 a11 h)
def vI (cs0 : LA_) (n1 : Nat) (cs2 : LA_) (n3 : Nat) (z4 : Int) : Option (Int × Int × Int × Int) := dR cs0 n1 cs2 n3 (aa z4 0) (aa z4 1) (aa z4 2) (aa z4 3) (aa z4 4) (aa z4 5) (aa z4 6) (aa z4 7)
def vG : HK where
 call := fun args σ k => match args with
  | [x0, x1, .agg [.int .u64 a4, .int .u64 a5, .int .u64 a6, .int .u64 a7, .int .u64 a8, .int .u64 a9, .int .u64 a10, .int .u64 a11]] => cO σ 3 x0 fun cs0 n1 => cO σ 8 x1 fun cs2 n3 => Option.bind (dR cs0 n1 cs2 n3 a4 a5 a6 a7 a8 a9 a10 a11) fun y => au σ 2 (rW.val y) (rW.aI y) k
  | _ => none
 nat := fun args σ k => by
  repeat' split
  all_goals simp only [ao, ai, Yg, Yf, au, Ye]
 pure := false
 pok := fun h => by cases h
theorem In : aN YI 57 vG := by
 intro args σ r σ' h
 simp only [vG] at h
 split at h
 ·rename_i x0 x1 a4 a5 a6 a7 a8 a9 a10 a11
  obtain ⟨cs0, n1, he0, hf0, h⟩ := bv h
  obtain ⟨cs2, n3, he1, hf1, h⟩ := bv h
  obtain ⟨y, hy, h⟩ := bE_ h
  exact aG (xs := [x0, x1]) (ls := [.vec cs0 n1 3 false, .vec cs2 n3 8 false]) (cargs := [.vec 0, .vec 1, .agg (v8 a4 a5 a6 a7 a8 a9 a10 a11 [])]) (bg.of ⟨⟨rfl, he0, hf0, by decide⟩, ⟨rfl, he1, hf1, by decide⟩, trivial⟩) rfl (He cs0 n1 cs2 n3 a4 a5 a6 a7 a8 a9 a10 a11 y hy) rfl rfl rfl rfl h
 ·cases h
theorem Bu {a b : Nat} {x y : Int} [Sm a x] [Sm b y] (h1 : a ≤ 510) (h2 : b ≤ 510) (h : a + b ≤ 510) : kh (aa x 0) (aa x 1) (aa x 2) (aa x 3) (aa x 4) (aa x 5) (aa x 6) (aa x 7) (aa y 0) (aa y 1) (aa y 2) (aa y 3) (aa y 4) (aa y 5) (aa y 6) (aa y 7) = some (x * y) := Sa h1 h2 h
theorem Vy {a b : Nat} {x y : Int} [Sm a x] [Sm b y] (h1 : a ≤ 510) (h2 : b ≤ 510) (h : max a b + 1 ≤ 510) : pN (aa x 0) (aa x 1) (aa x 2) (aa x 3) (aa x 4) (aa x 5) (aa x 6) (aa x 7) (aa y 0) (aa y 1) (aa y 2) (aa y 3) (aa y 4) (aa y 5) (aa y 6) (aa y 7) = some (x + y) := Kx h1 h2 h
abbrev k8 : List TK := [.int .u64, .int .u64, .int .u64, .int .u64, .int .u64, .int .u64, .int .u64, .int .u64]
theorem OL : ∀ (l : List Int) (i j : Nat), i < l.length → j < 8 → (wcs l)[i * 8 + j]? = some (.int .u64 (aa (l.getD i 0) j))
 | [], i, j, h, _ => by simp at h
 | z :: l, 0, j, _, hj => by
  rcases j with _ | _ | _ | _ | _ | _ | _ | _ | j
  all_goals first | rfl | omega
 | z :: l, i + 1, j, h, hj => by
  have ih := OL l i j (by simpa using h) hj
  rw [show (i + 1) * 8 + j = i * 8 + j + 8 by omega]
  simp only [List.getD_cons_succ]
  exact ih
theorem wg {l : List Int} {i j : Nat} (h : i < l.length) (hj : j < 8) : ac (wcs l) (i * 8 + j) = aa (l.getD i 0) j := by
 unfold ac; rw [OL l i j h hj]
theorem wro {l : List Int} {i : Nat} (h : i < l.length) : aw k8 (wcs l) (i * 8) = true := by
 have g := fun j hj => OL l i j h hj
 have g0 := g 0 (by decide)
 rw [Nat.add_zero] at g0
 simp only [aw, g0, g 1 (by decide), g 2 (by decide), g 3 (by decide), g 4 (by decide), g 5 (by decide), g 6 (by decide), g 7 (by decide), Nat.add_assoc, Nat.reduceAdd, isK, decide_true, Yl]
def Ky : List Int → List Pt → Pt → Pt
 | w :: ws, p :: ps, a => Ky ws ps (a.1 + w * p.1, a.2.1 + w * p.2.1, a.2.2 + w * p.2.2)
 | _, _, a => a
theorem OM : ∀ (w : List Int) (l : List Pt) (a : Pt), w.length = l.length → Ky w l a = (a.1 + (bu w l).1, a.2.1 + (bu w l).2.1, a.2.2 + (bu w l).2.2)
 | [], [], a, _ => by simp [Ky, bu]
 | x :: w, p :: l, a, h => by
  rw [Ky, OM w l _ (by simpa using h)]
  simp only [bu, Yj]
  grind
 | [], _ :: _, _, h => by simp at h
 | _ :: _, [], _, h => by simp at h
abbrev p24 (p : Pt) : LA_ := wcs [p.1, p.2.1, p.2.2]
theorem ON {w : List Int} {l : List Pt} (hlen : w.length = l.length) (hok : aQ l = true) (hw : ∀ z ∈ w, sm 190 z) (h4 : l.length ≤ 4) (D : LA_) : ∀ (n i : Nat) (a : Pt) (k : Nat), l.length - i = n → i ≤ l.length → PtB (230 + i) a →
  iter (gZ (wcs w, w.length, D, 1, 1, pcs l, l.length, ((l.length : Nat) : Int))) (n + 1) (p24 a, (i : Int)) = some (p24 (Ky (w.drop i) (l.drop i) a))
 | 0, i, a, k, hn, hi, ha => by
  have he : i = l.length := by omega
  subst he
  refine cw 0 ?_
  rw [List.drop_length, ← hlen, List.drop_length, hlen]
  simp only [gZ, ef, Ym (show ¬ ((l.length : Int) < ((l.length : Nat) : Int)) by omega), cond_false]
  rfl
 | n + 1, i, a, k, hn, hi, ha => by
  have h : i < l.length := by omega
  have hwi : i < w.length := by omega
  have hd : l.drop i = pat l i :: l.drop (i + 1) := by
   rw [List.drop_eq_getElem_cons h]; simp [pat, Yq, Yp h]
  have hdw : w.drop i = w.getD i 0 :: w.drop (i + 1) := by
   rw [List.drop_eq_getElem_cons hwi]; simp [Yq, Yp hwi]
  have wr : IntKind.wrap .i64 ((i : Int) + 1) = ((i + 1 : Nat) : Int) := by rw [bM (by omega)]; omega
  have hp := PtB.of (dO hok h)
  haveI : Sm 190 (w.getD i 0) := ⟨by
   rw [Yq, Yp hwi]
   exact hw _ (List.getElem_mem hwi)⟩
  haveI p1 : Sm 28 (pat l i).1 := ⟨hp.h.1⟩
  haveI p2 : Sm 28 (pat l i).2.1 := ⟨hp.h.2.1⟩
  haveI p3 : Sm 28 (pat l i).2.2 := ⟨hp.h.2.2⟩
  have hi3 : 230 + i ≤ 233 := by omega
  haveI a1 : Sm 233 a.1 := ⟨bd ha.h.1 hi3⟩
  haveI a2 : Sm 233 a.2.1 := ⟨bd ha.h.2.1 hi3⟩
  haveI a3 : Sm 233 a.2.2 := ⟨bd ha.h.2.2 hi3⟩
  have o1 : cOf (pat l i).1 = some (pat l i).1 := Gm (p1.rng (by decide))
  have o2 : cOf (pat l i).2.1 = some (pat l i).2.1 := Gm (p2.rng (by decide))
  have o3 : cOf (pat l i).2.2 = some (pat l i).2.2 := Gm (p3.rng (by decide))
  have key : gZ (wcs w, w.length, D, 1, 1, pcs l, l.length, ((l.length : Nat) : Int)) (p24 a, (i : Int)) =
    some (.inl (p24 (a.1 + w.getD i 0 * (pat l i).1, a.2.1 + w.getD i 0 * (pat l i).2.1, a.2.2 + w.getD i 0 * (pat l i).2.2), ((i + 1 : Nat) : Int))) := by
   have dw : decide ((i : Int) < ((w.length : Nat) : Int)) = true := decLt hwi
   have w0 : ac (wcs w) (i * 8 + 0) = aa (w.getD i 0) 0 := wg hwi (by decide)
   have w1 : ac (wcs w) (i * 8 + 1) = aa (w.getD i 0) 1 := wg hwi (by decide)
   have w2 : ac (wcs w) (i * 8 + 2) = aa (w.getD i 0) 2 := wg hwi (by decide)
   have w3 : ac (wcs w) (i * 8 + 3) = aa (w.getD i 0) 3 := wg hwi (by decide)
   have w4 : ac (wcs w) (i * 8 + 4) = aa (w.getD i 0) 4 := wg hwi (by decide)
   have w5 : ac (wcs w) (i * 8 + 5) = aa (w.getD i 0) 5 := wg hwi (by decide)
   have w6 : ac (wcs w) (i * 8 + 6) = aa (w.getD i 0) 6 := wg hwi (by decide)
   have w7 : ac (wcs w) (i * 8 + 7) = aa (w.getD i 0) 7 := wg hwi (by decide)
   have s0 : ∀ x y z r : Int, spliced (wcs [x, y, z]) 0 [.int .u64 (aa r 0), .int .u64 (aa r 1), .int .u64 (aa r 2), .int .u64 (aa r 3), .int .u64 (aa r 4), .int .u64 (aa r 5), .int .u64 (aa r 6), .int .u64 (aa r 7)] = wcs [r, y, z] := fun _ _ _ _ => rfl
   have s8 : ∀ x y z r : Int, spliced (wcs [x, y, z]) 8 [.int .u64 (aa r 0), .int .u64 (aa r 1), .int .u64 (aa r 2), .int .u64 (aa r 3), .int .u64 (aa r 4), .int .u64 (aa r 5), .int .u64 (aa r 6), .int .u64 (aa r 7)] = wcs [x, r, z] := fun _ _ _ _ => rfl
   have s16 : ∀ x y z r : Int, spliced (wcs [x, y, z]) 16 [.int .u64 (aa r 0), .int .u64 (aa r 1), .int .u64 (aa r 2), .int .u64 (aa r 3), .int .u64 (aa r 4), .int .u64 (aa r 5), .int .u64 (aa r 6), .int .u64 (aa r 7)] = wcs [x, y, r] := fun _ _ _ _ => rfl
   have l24 : ∀ x y z : Int, List.length (wcs [x, y, z]) = 24 := fun _ _ _ => rfl
   have r0 : ∀ x y z : Int, aw k8 (wcs [x, y, z]) 0 = true := fun x y z => wro (l := [x, y, z]) (i := 0) (by simp)
   have r8 : ∀ x y z : Int, aw k8 (wcs [x, y, z]) 8 = true := fun x y z => wro (l := [x, y, z]) (i := 1) (by simp)
   have r16 : ∀ x y z : Int, aw k8 (wcs [x, y, z]) 16 = true := fun x y z => wro (l := [x, y, z]) (i := 2) (by simp)
   have G0 : ∀ x y z : Int, ac (wcs [x, y, z]) 0 = aa x 0 := fun _ _ _ => rfl
   have G1 : ∀ x y z : Int, ac (wcs [x, y, z]) 1 = aa x 1 := fun _ _ _ => rfl
   have G2 : ∀ x y z : Int, ac (wcs [x, y, z]) 2 = aa x 2 := fun _ _ _ => rfl
   have G3 : ∀ x y z : Int, ac (wcs [x, y, z]) 3 = aa x 3 := fun _ _ _ => rfl
   have G4 : ∀ x y z : Int, ac (wcs [x, y, z]) 4 = aa x 4 := fun _ _ _ => rfl
   have G5 : ∀ x y z : Int, ac (wcs [x, y, z]) 5 = aa x 5 := fun _ _ _ => rfl
   have G6 : ∀ x y z : Int, ac (wcs [x, y, z]) 6 = aa x 6 := fun _ _ _ => rfl
   have G7 : ∀ x y z : Int, ac (wcs [x, y, z]) 7 = aa x 7 := fun _ _ _ => rfl
   have G8 : ∀ x y z : Int, ac (wcs [x, y, z]) 8 = aa y 0 := fun _ _ _ => rfl
   have G9 : ∀ x y z : Int, ac (wcs [x, y, z]) 9 = aa y 1 := fun _ _ _ => rfl
   have G10 : ∀ x y z : Int, ac (wcs [x, y, z]) 10 = aa y 2 := fun _ _ _ => rfl
   have G11 : ∀ x y z : Int, ac (wcs [x, y, z]) 11 = aa y 3 := fun _ _ _ => rfl
   have G12 : ∀ x y z : Int, ac (wcs [x, y, z]) 12 = aa y 4 := fun _ _ _ => rfl
   have G13 : ∀ x y z : Int, ac (wcs [x, y, z]) 13 = aa y 5 := fun _ _ _ => rfl
   have G14 : ∀ x y z : Int, ac (wcs [x, y, z]) 14 = aa y 6 := fun _ _ _ => rfl
   have G15 : ∀ x y z : Int, ac (wcs [x, y, z]) 15 = aa y 7 := fun _ _ _ => rfl
   have G16 : ∀ x y z : Int, ac (wcs [x, y, z]) 16 = aa z 0 := fun _ _ _ => rfl
   have G17 : ∀ x y z : Int, ac (wcs [x, y, z]) 17 = aa z 1 := fun _ _ _ => rfl
   have G18 : ∀ x y z : Int, ac (wcs [x, y, z]) 18 = aa z 2 := fun _ _ _ => rfl
   have G19 : ∀ x y z : Int, ac (wcs [x, y, z]) 19 = aa z 3 := fun _ _ _ => rfl
   have G20 : ∀ x y z : Int, ac (wcs [x, y, z]) 20 = aa z 4 := fun _ _ _ => rfl
   have G21 : ∀ x y z : Int, ac (wcs [x, y, z]) 21 = aa z 5 := fun _ _ _ => rfl
   have G22 : ∀ x y z : Int, ac (wcs [x, y, z]) 22 = aa z 6 := fun _ _ _ => rfl
   have G23 : ∀ x y z : Int, ac (wcs [x, y, z]) 23 = aa z 7 := fun _ _ _ => rfl
   have d8 : decide (0 + 8 ≤ 24) = true := rfl
   have d16 : decide (8 + 8 ≤ 24) = true := rfl
   have d24 : decide (16 + 8 ≤ 24) = true := rfl
   have wro' := wro hwi
   simp (disch := decide) only [gZ, ef, decLt h, eQ, dw, cond_true, Yl, az, fB, pro h, pg0 h, pg1 h, pg2 h, o1, o2, o3, Ye, wr, w0, w1, w2, w3, w4, w5, w6, w7, wro',
    s0, s8, s16, l24, r0, r8, r16, d8, d16, d24, Bu, Vy, G0, G1, G2, G3, G4, G5, G6, G7, G8, G9, G10, G11, G12, G13, G14, G15, G16, G17, G18, G19, G20, G21, G22, G23]
  refine bG key ?_
  have ha' : PtB (230 + (i + 1)) (a.1 + w.getD i 0 * (pat l i).1, a.2.1 + w.getD i 0 * (pat l i).2.1, a.2.2 + w.getD i 0 * (pat l i).2.2) := by
   have q : ∀ {x y : Int}, sm (230 + i) x → sm 28 y → sm (230 + (i + 1)) (x + w.getD i 0 * y) := by
    intro x y hx hy
    exact mb hx (bd (db (Sm.h (z := w.getD i 0)) hy) (Nat.le_trans (show 190 + 28 ≤ 230 by decide) (Nat.le_add_right _ _)))
   exact ⟨q ha.h.1 hp.h.1, q ha.h.2.1 hp.h.2.1, q ha.h.2.2 hp.h.2.2⟩
  have ih := ON hlen hok hw h4 D n (i + 1) _ k (by omega) (by omega) ha'
  rw [ih, hd, hdw]
  rfl
def QS (g x h : Int) : Prop := 0 < h ∧ h ∣ g ∧ h ∣ x ∧ ∀ e, e ∣ g → e ∣ x → e ∣ h
theorem OO {x : Int} (hx : fit x) : (aa x 0 == 0 && (aa x 1 == 0 && (aa x 2 == 0 && (aa x 3 == 0 && (aa x 4 == 0 && (aa x 5 == 0 && (aa x 6 == 0 && (aa x 7 == 0 && true)))))))) = decide (x = 0) := by
 have h := Ly hx As
 simp only [gP] at h
 exact h
theorem WV (cc : LA_ × Nat × LA_ × Nat × Nat × Nat × Int × Int × Int × Int × Int × Int × Int × Int × Int × Int × Int × Int × Int × Int × Int × Int × Int × Int × Int × Int × Int × Int × Int × Int × Int) :
  ∀ (k : Nat) (g x : Int), 0 < g → fit g → 0 ≤ x → fit x → x < ((2 ^ k : Nat) : Int) → ∃ h, QS g x h ∧ h ≤ g ∧ iter (eT cc) (2 * k + 1) (wcs [g], wcs [x]) = some (wcs [h]) := by
 have ends : ∀ (g : Int) (n : Nat), iter (eT cc) (n + 1) (wcs [g], wcs [0]) = some (wcs [g]) := by
  intro g n
  refine cw n ?_
  have r0 : aw k8 (wcs [0]) 0 = true := wro (l := [0]) (i := 0) (by simp)
  have e0 : (!((ac (wcs [(0 : Int)]) 0) == 0 && ((ac (wcs [(0 : Int)]) 1) == 0 && ((ac (wcs [(0 : Int)]) 2) == 0 && ((ac (wcs [(0 : Int)]) 3) == 0 && ((ac (wcs [(0 : Int)]) 4) == 0 && ((ac (wcs [(0 : Int)]) 5) == 0 && ((ac (wcs [(0 : Int)]) 6) == 0 && ((ac (wcs [(0 : Int)]) 7) == 0 && true))))))))) = false := by
   have := OO As
   rw [Yn rfl] at this
   exact congrArg (fun b => !b) this
  simp only [eT, dM, r0, az, e0, cond_false]
 have next : ∀ {g x : Int}, fit g → fit x → x ≠ 0 → fit (g.fdiv x) → eT cc (wcs [g], wcs [x]) = some (.inl (wcs [x], wcs [g.fmod x])) := by
  intro g x hg hx h0 hd
  have r0 : ∀ z : Int, aw k8 (wcs [z]) 0 = true := fun z => wro (l := [z]) (i := 0) (by simp)
  have e0 : (!((ac (wcs [x]) 0) == 0 && ((ac (wcs [x]) 1) == 0 && ((ac (wcs [x]) 2) == 0 && ((ac (wcs [x]) 3) == 0 && ((ac (wcs [x]) 4) == 0 && ((ac (wcs [x]) 5) == 0 && ((ac (wcs [x]) 6) == 0 && ((ac (wcs [x]) 7) == 0 && true))))))))) = true := by
   have := OO hx
   rw [Ym h0] at this
   exact congrArg (fun b => !b) this
  have q : wO (ac (wcs [g]) 0) (ac (wcs [g]) 1) (ac (wcs [g]) 2) (ac (wcs [g]) 3) (ac (wcs [g]) 4) (ac (wcs [g]) 5) (ac (wcs [g]) 6) (ac (wcs [g]) 7) (ac (wcs [x]) 0) (ac (wcs [x]) 1) (ac (wcs [x]) 2) (ac (wcs [x]) 3) (ac (wcs [x]) 4) (ac (wcs [x]) 5) (ac (wcs [x]) 6) (ac (wcs [x]) 7) = some (g.fdiv x, g.fmod x) := PT hg hx h0 hd
  have l8 : ∀ z : Int, decide (0 + 8 ≤ List.length (wcs [z])) = true := fun _ => rfl
  simp only [eT, dM, r0, az, e0, cond_true, q, Ye, l8]
  rfl
 have fitle : ∀ {a b : Int}, fit b → 0 ≤ a → a ≤ b → fit a := by
  intro a b hb h0 h1
  unfold fit at *
  omega
 have fdiv_fit : ∀ {g x : Int}, fit g → 0 < g → 0 < x → fit (g.fdiv x) := by
  intro g x hg h1 h2
  have e : g.fdiv x = g / x := Int.fdiv_eq_ediv_of_nonneg _ (by omega)
  rw [e]
  exact fitle hg (Int.ediv_nonneg (by omega) (by omega)) (Int.ediv_le_self _ (by omega))
 have fm : ∀ {g x : Int}, 0 < x → g.fmod x = g % x := fun {g x} h => Int.fmod_eq_emod_of_nonneg _ (by omega)
 intro k
 induction k with
 | zero =>
  intro g x hg hfg h0 hx hlt
  obtain rfl : x = 0 := by simp at hlt; omega
  exact ⟨g, ⟨hg, Int.dvd_refl _, Int.dvd_zero _, fun e h _ => h⟩, Int.le_refl _, ends g 0⟩
 | succ k ih =>
  intro g x hg hfg h0 hx hlt
  by_cases hx0 : x = 0
  ·subst hx0
   exact ⟨g, ⟨hg, Int.dvd_refl _, Int.dvd_zero _, fun e h _ => h⟩, Int.le_refl _, ends g _⟩
  ·have hxp : 0 < x := by omega
   have n1 := next hfg hx hx0 (fdiv_fit hfg hg hxp)
   rw [fm hxp] at n1
   have r1 := Int.emod_nonneg g hx0
   have r2 := Int.emod_lt_of_pos g hxp
   have dg : x * (g / x) + g % x = g := Int.mul_ediv_add_emod g x
   have hle : x ≤ g ∨ g < x := by omega
   generalize hr : g % x = r at *
   by_cases hr0 : r = 0
   ·subst hr0
    refine ⟨x, ⟨hxp, Int.dvd_of_emod_eq_zero hr, Int.dvd_refl _, fun e _ h => h⟩, ?_, ?_⟩
    ·rcases hle with h | h
     ·exact h
     ·exfalso
      have : g % x = g := Int.emod_eq_of_lt (by omega) h
      omega
    ·rw [show 2 * (k + 1) + 1 = (2 * k + 1 + 1) + 1 by omega]
     exact bG n1 (ends x _)
   ·have hrp : 0 < r := by omega
    have hfr := fitle hx (by omega) (Int.le_of_lt r2)
    have n2 := next hx hfr (by omega) (fdiv_fit hx hxp hrp)
    rw [fm hrp] at n2
    have s1 := Int.emod_nonneg x (show r ≠ 0 by omega)
    have s2 := Int.emod_lt_of_pos x hrp
    have dx : r * (x / r) + x % r = x := Int.mul_ediv_add_emod x r
    have q1 : 1 ≤ x / r := (Int.le_ediv_iff_mul_le hrp).2 (by omega)
    have q2 : r * 1 ≤ r * (x / r) := YA q1 (by omega)
    generalize hs : x % r = s at *
    have hs2 : s < ((2 ^ k : Nat) : Int) := by
     rw [Nat.pow_succ] at hlt
     omega
    obtain ⟨h, ⟨h1, h2, h3, h4⟩, h5, h6⟩ := ih r s hrp hfr (by omega) (fitle hfr (by omega) (by omega)) hs2
    have hxd : h ∣ x := by rw [← dx]; exact Int.dvd_add (Int.dvd_mul_of_dvd_left h2) h3
    have hgd : h ∣ g := by rw [← dg]; exact Int.dvd_add (Int.dvd_mul_of_dvd_left hxd) h2
    refine ⟨h, ⟨h1, hgd, hxd, fun e eg ex => ?_⟩, Int.le_of_dvd hg hgd, ?_⟩
    ·have er : e ∣ r := by
      have : r = g - x * (g / x) := by omega
      rw [this]; exact Int.dvd_sub eg (Int.dvd_mul_of_dvd_left ex)
     have es : e ∣ s := by
      have : s = x - r * (x / r) := by omega
      rw [this]; exact Int.dvd_sub ex (Int.dvd_mul_of_dvd_left er)
     exact h4 e er es
    ·rw [show 2 * (k + 1) + 1 = (2 * k + 1 + 1) + 1 by omega]
     exact bG n1 (bG n2 h6)
theorem Uy (cc : LA_ × Nat × LA_ × Nat × Nat × Nat × Int × Int × Int × Int × Int × Int × Int × Int × Int × Int × Int × Int × Int × Int × Int × Int × Int × Int × Int × Int × Int × Int × Int × Int × Int)
  {g x : Int} (hg : 0 < g) (hfg : fit g) (h0 : 0 ≤ x) (hx : fit x) : ∃ h, QS g x h ∧ h ≤ g ∧ g7 cc (wcs [g], wcs [x]) = some (wcs [h]) := by
 have hlt : ∀ k, k = 255 → x < ((2 ^ (k + 1 + k) : Nat) : Int) := by
  rintro k hk
  rw [Nat.pow_add, Nat.pow_succ, hk]
  unfold fit at hx
  omega
 obtain ⟨h, h1, h2, h3⟩ := WV cc _ g x hg hfg h0 hx (hlt 255 rfl)
 exact ⟨h, h1, h2, dt (by unfold kM; decide) h3⟩
abbrev QT (n : Pt) (d : Int) : LA_ × Nat × LA_ × Nat × Nat × Int × Int × Int × Int × Int × Int × Int × Int × Int × Int × Int × Int × Int × Int × Int × Int × Int × Int × Int × Int × Int × Int × Int × Int :=
 (wcs [d], 1, p24 n, 1, 1, aa n.1 0, aa n.1 1, aa n.1 2, aa n.1 3, aa n.1 4, aa n.1 5, aa n.1 6, aa n.1 7, aa n.2.1 0, aa n.2.1 1, aa n.2.1 2, aa n.2.1 3, aa n.2.1 4, aa n.2.1 5, aa n.2.1 6, aa n.2.1 7, aa n.2.2 0, aa n.2.2 1, aa n.2.2 2, aa n.2.2 3, aa n.2.2 4, aa n.2.2 5, aa n.2.2 6, aa n.2.2 7)
abbrev QU (n : Pt) (d i : Int) : LA_ × Nat × LA_ × Nat × Nat × Nat × Int × Int × Int × Int × Int × Int × Int × Int × Int × Int × Int × Int × Int × Int × Int × Int × Int × Int × Int × Int × Int × Int × Int × Int × Int :=
 (wcs [d], 1, p24 n, 1, 1, 1, aa n.1 0, aa n.1 1, aa n.1 2, aa n.1 3, aa n.1 4, aa n.1 5, aa n.1 6, aa n.1 7, aa n.2.1 0, aa n.2.1 1, aa n.2.1 2, aa n.2.1 3, aa n.2.1 4, aa n.2.1 5, aa n.2.1 6, aa n.2.1 7, aa n.2.2 0, aa n.2.2 1, aa n.2.2 2, aa n.2.2 3, aa n.2.2 4, aa n.2.2 5, aa n.2.2 6, aa n.2.2 7, i)
theorem QV {n : Pt} {d g c i j : Int} {V : LA_ × Int} (hg : 0 < g) (hfg : fit g) (hc : Sm 240 c)
  (e : jw (QT n d) V = Option.bind (QW c) fun r => cond (decide (r < 0)) (Option.bind (gw c) fun r1 => Option.bind (g7 (QU n d i) (wcs [g], wcs [r1])) fun e => some (.inl (e, j)))
   (Option.bind (g7 (QU n d i) (wcs [g], wcs [c])) fun e => some (.inl (e, j)))) : ∃ h, QS g c h ∧ h ≤ g ∧ jw (QT n d) V = some (.inl (wcs [h], j)) := by
 have hf : fit c := Sm.fit (by decide)
 have hf' : fit (-c) := Sm.fit (by decide)
 rw [e, Ty hf, Ye]
 by_cases h : c < 0
 ·have : decide (sgn c < 0) = true := by simp [sgn, h]
  rw [this, cond_true, Sb (by decide), Ye]
  obtain ⟨q, h1, h2, h3⟩ := Uy (QU n d i) hg hfg (x := -c) (by omega) hf'
  rw [h3]
  refine ⟨q, ⟨h1.1, h1.2.1, (Int.dvd_neg).1 h1.2.2.1, fun e a b => h1.2.2.2 e a ((Int.dvd_neg).2 b)⟩, h2, rfl⟩
 ·have : decide (sgn c < 0) = false := by
   unfold sgn
   rw [Ym h, cond_false]
   by_cases h0 : c = 0
   ·rw [Yn h0]; rfl
   ·rw [Ym h0]; rfl
  rw [this, cond_false]
  obtain ⟨q, h1, h2, h3⟩ := Uy (QU n d i) hg hfg (x := c) (by omega) hf
  rw [h3]
  exact ⟨q, h1, h2, rfl⟩
theorem XB {n : Pt} {d : Int} (hn : PtB 240 n) (hd : 0 < d) (hfd : fit d) : ∃ g, (0 < g ∧ g ∣ d ∧ g ∣ n.1 ∧ g ∣ n.2.1 ∧ g ∣ n.2.2 ∧ ∀ e, e ∣ d → e ∣ n.1 → e ∣ n.2.1 → e ∣ n.2.2 → e ∣ g) ∧ g ≤ d ∧ pb (QT n d) (wcs [d], 0) = some (wcs [g]) := by
 have fl : ∀ {a : Int}, 0 < a → a ≤ d → fit a := by intro a h1 h2; unfold fit at *; omega
 obtain ⟨g1, a1, b1, c1⟩ := QV (n := n) (d := d) (g := d) (c := n.1) (i := 0) (j := 1) (V := (wcs [d], 0)) hd hfd ⟨hn.h.1⟩ (by kernel_rfl)
 obtain ⟨g2, a2, b2, c2⟩ := QV (n := n) (d := d) (g := g1) (c := n.2.1) (i := 1) (j := 2) (V := (wcs [g1], 1)) a1.1 (fl a1.1 b1) ⟨hn.h.2.1⟩ (by kernel_rfl)
 obtain ⟨g3, a3, b3, c3⟩ := QV (n := n) (d := d) (g := g2) (c := n.2.2) (i := 2) (j := 3) (V := (wcs [g2], 2)) a2.1 (fl a2.1 (by omega)) ⟨hn.h.2.2⟩ (by kernel_rfl)
 have fin : jw (QT n d) (wcs [g3], 3) = some (.inr (wcs [g3])) := by kernel_rfl
 refine ⟨g3, ⟨a3.1, ?_, ?_, ?_, a3.2.2.1, fun e h1 h2 h3 h4 => a3.2.2.2 e (a2.2.2.2 e (a1.2.2.2 e h1 h2) h3) h4⟩, by omega, ?_⟩
 ·exact Int.dvd_trans a3.2.1 (Int.dvd_trans a2.2.1 a1.2.1)
 ·exact Int.dvd_trans a3.2.1 (Int.dvd_trans a2.2.1 a1.2.2.1)
 ·exact Int.dvd_trans a3.2.1 a2.2.2.1
 ·exact dt (n := 4) (by unfold kM; decide) (bG c1 (bG c2 (bG c3 (cw 0 fin))))
theorem XZ {a g : Int} (ha : fit a) (hg : fit g) (h0 : g ≠ 0) (hd : fit (a.fdiv g)) : qn a g = some (a.fdiv g) := by
 have q : iI (aa a 0) (aa a 1) (aa a 2) (aa a 3) (aa a 4) (aa a 5) (aa a 6) (aa a 7) (aa g 0) (aa g 1) (aa g 2) (aa g 3) (aa g 4) (aa g 5) (aa g 6) (aa g 7) = some (t8 (a.fdiv g)) := by
  unfold iI
  rw [show wO (aa a 0) (aa a 1) (aa a 2) (aa a 3) (aa a 4) (aa a 5) (aa a 6) (aa a 7) (aa g 0) (aa g 1) (aa g 2) (aa g 3) (aa g 4) (aa g 5) (aa g 6) (aa g 7) = some (a.fdiv g, a.fmod g) from PT ha hg h0 hd]
  rfl
 unfold qn bS
 rw [q]
 simp only [t8, Ye, bz, az]
 rw [aD hd]
structure Prim (n : Pt) (d : Int) (N : Pt) (D : Int) : Prop where
 ex : ∃ g, 0 < g ∧ n = (g * N.1, g * N.2.1, g * N.2.2) ∧ d = g * D
 one : ∀ e, e ∣ N.1 → e ∣ N.2.1 → e ∣ N.2.2 → e ∣ D → e ∣ 1
theorem XC {w : List Int} {l : List Pt} {d : Int} (hlen : w.length = l.length) (hok : aQ l = true) (hw : ∀ z ∈ w, sm 190 z) (h4 : l.length ≤ 4) (hd : 0 < d) (hfd : sm 190 d) :
  ∃ N D, Prim (bu w l) d N D ∧ vI (pcs l) l.length (wcs w) w.length d = some (N.1, N.2.1, N.2.2, D) := by
 have hL := ON hlen hok hw h4 (wcs [d]) l.length 0 (0, 0, 0) 0 (by omega) (by omega) ⟨⟨oF, oF, oF⟩⟩
 rw [List.drop_zero, List.drop_zero, OM _ _ _ hlen] at hL
 simp only [Int.zero_add] at hL
 have hL3 : qm (wcs w, w.length, wcs [d], 1, 1, pcs l, l.length, ((l.length : Nat) : Int)) (p24 (0, 0, 0), 0) = some (p24 (bu w l)) := dt (by unfold kM; omega) hL
 have hn : PtB 240 (bu w l) := by
  have key : ∀ (w : List Int) (l : List Pt) (k : Nat), w.length = l.length → aQ l = true → (∀ z ∈ w, sm 190 z) → l.length ≤ k → PtB (218 + k) (bu w l) := by
   intro w
   induction w with
   | nil => intro l k _ _ _ _; cases l <;> exact ⟨⟨oF, oF, oF⟩⟩
   | cons x w ih =>
    intro l k hl ho hw hk
    cases l with
    | nil => simp at hl
    | cons p l =>
     simp only [aO] at ho
     cases k with
     | zero => simp at hk
     | succ k =>
      have h1 := ih l k (by simpa using hl) ho.2 (fun z hz => hw z (by simp [hz])) (by simpa using hk)
      have hp := PtB.of ho.1
      have hx := hw x (by simp)
      have q : ∀ {u v : Int}, sm 28 u → sm (218 + k) v → sm (218 + (k + 1)) (x * u + v) := fun {u v} hu hv => mb (bd (db hx hu) (Nat.le_add_right 218 k)) hv
      exact ⟨⟨q hp.h.1 h1.h.1, q hp.h.2.1 h1.h.2.1, q hp.h.2.2 h1.h.2.2⟩⟩
  have h := key w l l.length hlen hok hw (Nat.le_refl _)
  exact ⟨⟨bd h.h.1 (by omega), bd h.h.2.1 (by omega), bd h.h.2.2 (by omega)⟩⟩
 generalize bu w l = n at *
 obtain ⟨g, ⟨g0, g1, g2, g3, g4, g5⟩, g6, hL13⟩ := XB hn hd (aT hfd (by decide))
 have fg : fit g := aT (a := 190) (by unfold sm at *; omega) (by decide)
 have dv : ∀ {a : Int}, sm 240 a → g ∣ a → ∃ q, a = g * q ∧ qn a g = some q := by
  rintro a ha ⟨q, rfl⟩
  have e : (g * q).fdiv g = q := by rw [Int.mul_comm]; exact Int.mul_fdiv_cancel _ (by omega)
  have fq : fit q := by
   refine aT (a := 240) ?_ (by decide)
   unfold sm at *
   rcases Int.le_total 0 q with h | h
   ·have : 1 * q ≤ g * q := Yz (by omega) h
    omega
   ·have : g * q ≤ 1 * q := Int.mul_le_mul_of_nonpos_right (by omega) h
    omega
  exact ⟨q, rfl, by have := XZ (aT ha (by decide)) fg (by omega) (by rw [e]; exact fq); rwa [e] at this⟩
 obtain ⟨x, x1, x2⟩ := dv hn.h.1 g2
 obtain ⟨y, y1, y2⟩ := dv hn.h.2.1 g3
 obtain ⟨z, z1, z2⟩ := dv hn.h.2.2 g4
 obtain ⟨D, d1, d2⟩ := dv (bd hfd (by decide)) g1
 refine ⟨(x, y, z), D, ⟨⟨g, g0, by rw [← x1, ← y1, ← z1], d1⟩, fun e h1 h2 h3 h4 => ?_⟩, ?_⟩
 ·obtain ⟨q, hq⟩ := g5 (g * e) (by rw [d1]; exact Int.mul_dvd_mul_left g h4) (by rw [x1]; exact Int.mul_dvd_mul_left g h1) (by rw [y1]; exact Int.mul_dvd_mul_left g h2) (by rw [z1]; exact Int.mul_dvd_mul_left g h3)
  refine ⟨q, Int.eq_of_mul_eq_mul_left (show g ≠ 0 by omega) ?_⟩
  rw [Int.mul_one, ← Int.mul_assoc]
  exact hq
 have sq : ∀ {a q : Int}, sm 240 a → a = g * q → fit q := by
  intro a q ha e
  refine aT (a := 240) ?_ (by decide)
  subst e
  unfold sm at *
  rcases Int.le_total 0 q with h | h
  ·have : 1 * q ≤ g * q := Yz (by omega) h
   omega
  ·have : g * q ≤ 1 * q := Int.mul_le_mul_of_nonpos_right (by omega) h
   omega
 have key : vI (pcs l) l.length (wcs w) w.length d = Option.bind (qm (wcs w, w.length, wcs [d], 1, 1, pcs l, l.length, ((l.length : Nat) : Int)) (p24 (0, 0, 0), 0)) fun e1 => Option.bind (dR (pcs l) l.length (wcs w) w.length (aa d 0) (aa d 1) (aa d 2) (aa d 3) (aa d 4) (aa d 5) (aa d 6) (aa d 7)) some := by
  rw [hL3, Ye]
  show dR _ _ _ _ _ _ _ _ _ _ _ _ = _
  cases dR (pcs l) l.length (wcs w) w.length (aa d 0) (aa d 1) (aa d 2) (aa d 3) (aa d 4) (aa d 5) (aa d 6) (aa d 7) <;> rfl
 have F : lZ (pcs l) l.length (wcs w) w.length (aa d 0) (aa d 1) (aa d 2) (aa d 3) (aa d 4) (aa d 5) (aa d 6) (aa d 7) = some (aa x 0, aa x 1, aa x 2, aa x 3, aa x 4, aa x 5, aa x 6, aa x 7, aa y 0, aa y 1, aa y 2, aa y 3, aa y 4, aa y 5, aa y 6, aa y 7, aa z 0, aa z 1, aa z 2, aa z 3, aa z 4, aa z 5, aa z 6, aa z 7, aa D 0, aa D 1, aa D 2, aa D 3, aa D 4, aa D 5, aa D 6, aa D 7) := by
  have z24 : (([.int .u64 0, .int .u64 0, .int .u64 0, .int .u64 0, .int .u64 0, .int .u64 0, .int .u64 0, .int .u64 0, .int .u64 0, .int .u64 0, .int .u64 0, .int .u64 0, .int .u64 0, .int .u64 0, .int .u64 0, .int .u64 0, .int .u64 0, .int .u64 0, .int .u64 0, .int .u64 0, .int .u64 0, .int .u64 0, .int .u64 0, .int .u64 0] : LA_)) = p24 (0, 0, 0) := by simp only [wcs, gP]
  unfold lZ
  unfold v8 be
  rw [z24]
  rw [show ([.int .u64 (aa d 0), .int .u64 (aa d 1), .int .u64 (aa d 2), .int .u64 (aa d 3), .int .u64 (aa d 4), .int .u64 (aa d 5), .int .u64 (aa d 6), .int .u64 (aa d 7)] : LA_) = wcs [d] from rfl, hL3, Ye]
  have r24 : aw Yc (p24 n) 0 = true := rfl
  have r0 : aw k8 (p24 n) 0 = true := rfl
  have r8 : aw k8 (p24 n) 8 = true := rfl
  have r16 : aw k8 (p24 n) 16 = true := rfl
  have rg : (aw k8 (wcs [g]) 0 && Nat.beq (List.length (wcs [g])) 8) = true := rfl
  have hL13' : pb (wcs [d], 1, p24 n, 1, 1, ac (p24 n) 0, ac (p24 n) 1, ac (p24 n) 2, ac (p24 n) 3, ac (p24 n) 4, ac (p24 n) 5, ac (p24 n) 6, ac (p24 n) 7, ac (p24 n) 8, ac (p24 n) 9, ac (p24 n) 10, ac (p24 n) 11, ac (p24 n) 12, ac (p24 n) 13, ac (p24 n) 14, ac (p24 n) 15, ac (p24 n) 16, ac (p24 n) 17, ac (p24 n) 18, ac (p24 n) 19, ac (p24 n) 20, ac (p24 n) 21, ac (p24 n) 22, ac (p24 n) 23) (wcs [d], 0) = some (wcs [g]) := hL13
  rw [r24, az, hL13', Ye, r0, az, rg, az]
  rw [show bS (ac (p24 n) 0) (ac (p24 n) 1) (ac (p24 n) 2) (ac (p24 n) 3) (ac (p24 n) 4) (ac (p24 n) 5) (ac (p24 n) 6) (ac (p24 n) 7) (ac (wcs [g]) 0) (ac (wcs [g]) 1) (ac (wcs [g]) 2) (ac (wcs [g]) 3) (ac (wcs [g]) 4) (ac (wcs [g]) 5) (ac (wcs [g]) 6) (ac (wcs [g]) 7) = some x from x2, Ye, r8, az, az]
  rw [show bS (ac (p24 n) 8) (ac (p24 n) 9) (ac (p24 n) 10) (ac (p24 n) 11) (ac (p24 n) 12) (ac (p24 n) 13) (ac (p24 n) 14) (ac (p24 n) 15) (ac (wcs [g]) 0) (ac (wcs [g]) 1) (ac (wcs [g]) 2) (ac (wcs [g]) 3) (ac (wcs [g]) 4) (ac (wcs [g]) 5) (ac (wcs [g]) 6) (ac (wcs [g]) 7) = some y from y2, Ye, r16, az, az]
  rw [show bS (ac (p24 n) 16) (ac (p24 n) 17) (ac (p24 n) 18) (ac (p24 n) 19) (ac (p24 n) 20) (ac (p24 n) 21) (ac (p24 n) 22) (ac (p24 n) 23) (ac (wcs [g]) 0) (ac (wcs [g]) 1) (ac (wcs [g]) 2) (ac (wcs [g]) 3) (ac (wcs [g]) 4) (ac (wcs [g]) 5) (ac (wcs [g]) 6) (ac (wcs [g]) 7) = some z from z2, Ye, az]
  rw [show bS (aa d 0) (aa d 1) (aa d 2) (aa d 3) (aa d 4) (aa d 5) (aa d 6) (aa d 7) (ac (wcs [g]) 0) (ac (wcs [g]) 1) (ac (wcs [g]) 2) (ac (wcs [g]) 3) (ac (wcs [g]) 4) (ac (wcs [g]) 5) (ac (wcs [g]) 6) (ac (wcs [g]) 7) = some D from d2, Ye]
 show dR _ _ _ _ _ _ _ _ _ _ _ _ = _
 unfold dR
 rw [F]
 simp only [Ye, bz, Yl, az]
 rw [aD (sq hn.h.1 x1), aD (sq hn.h.2.1 y1), aD (sq hn.h.2.2 z1), aD (sq (bd hfd (by decide)) d1)]
end Go.Ev
