import Derived.Test.YtbmjabafceihgaaGreatKaj
set_option linter.unusedVariables false
set_option linter.unusedSimpArgs false
set_option maxRecDepth 100000
noncomputable section
namespace Go.Ev
open Go.Proofs
def Fx : CH := (CH.add 38 Lq CH.none)
theorem Bb : aE Tryz.prog Fx := (CH.aj Pc CH.aC)
def nL (a0 a1 a2 a3 a4 a5 a6 a7 a8 a9 a10 a11 a12 a13 a14 a15 : Int) : Option (Int × Int × Int × Int × Int × Int × Int × Int) :=
 (Option.bind (yC a0 a1 a2 a3 a4 a5 a6 a7 a8 a9 a10 a11 a12 a13 a14 a15) fun r1 => (some ((aa r1 0), (aa r1 1), (aa r1 2), (aa r1 3), (aa r1 4), (aa r1 5), (aa r1 6), (aa r1 7))))
def kP : FD where
 X := Int × Int × Int × Int × Int × Int × Int × Int
 k := 0
 pre := []
 F := fun s => []
 M := .agg (rl (.int .u64) 8 [])
 B := []
 toL := fun x => [.I x.1, .I x.2.1, .I x.2.2.1, .I x.2.2.2.1, .I x.s4.1, .I x.s4.2.1, .I x.s4.2.2.1, .I x.s4.2.2.2]
 ofL := fun ls => match ls with
  | [.I x0, .I x1, .I x2, .I x3, .I x4, .I x5, .I x6, .I x7] => some (x0, x1, x2, x3, x4, x5, x6, x7)
  | _ => none
 au := fun ls x h => by
  split at h
  ·cases h; rfl
  ·cases h
theorem Du (a0 a1 a2 a3 a4 a5 a6 a7 a8 a9 a10 a11 a12 a13 a14 a15 : Int) (x : Int × Int × Int × Int × Int × Int × Int × Int) (h : nL a0 a1 a2 a3 a4 a5 a6 a7 a8 a9 a10 a11 a12 a13 a14 a15 = some x) : aX Tryz.prog 77 0 [.agg (v8 a0 a1 a2 a3 a4 a5 a6 a7 []), .agg (v8 a8 a9 a10 a11 a12 a13 a14 a15 [])] [] kP x :=
 FD.semA kP Bb Tryz.func77 (fuel := 60) (by kernel_rfl) (by kernel_rfl)
  (by kernel_rfl) (Eq.trans (by kernel_rfl) h)
def sZ : HK where
 call := fun args σ k => match args with
  | [.agg [.int .u64 a0, .int .u64 a1, .int .u64 a2, .int .u64 a3, .int .u64 a4, .int .u64 a5, .int .u64 a6, .int .u64 a7], .agg [.int .u64 a8, .int .u64 a9, .int .u64 a10, .int .u64 a11, .int .u64 a12, .int .u64 a13, .int .u64 a14, .int .u64 a15]] => Option.bind (nL a0 a1 a2 a3 a4 a5 a6 a7 a8 a9 a10 a11 a12 a13 a14 a15) fun y => az σ 0 (kP.val y) (kP.aN y) k
  | _ => none
 nat := fun args σ k => by
  repeat' split
  all_goals simp only [aw, Option.bind_assoc, Option.bind_none, az, Option.bind_some]
 pure := true
 pok := fun _ args σ r σ' h => by
  split at h
  ·exact bm h (fun y => rfl) (fun y f => rfl)
  ·cases h
theorem Fy : aT Tryz.prog 77 sZ := by
 intro args σ r σ' h
 simp only [sZ] at h
 split at h
 ·rename_i a0 a1 a2 a3 a4 a5 a6 a7 a8 a9 a10 a11 a12 a13 a14 a15
  obtain ⟨y, hy, h⟩ := bE_ h
  exact lifted (xs := []) (ls := []) (cargs := [.agg (v8 a0 a1 a2 a3 a4 a5 a6 a7 []), .agg (v8 a8 a9 a10 a11 a12 a13 a14 a15 [])]) (bt.of trivial) rfl (Du a0 a1 a2 a3 a4 a5 a6 a7 a8 a9 a10 a11 a12 a13 a14 a15 y hy) rfl rfl rfl rfl h
 ·cases h
theorem Ry {a0 a1 a2 a3 a4 a5 a6 a7 a8 a9 a10 a11 a12 a13 a14 a15 r : Int} (h : jP a0 a1 a2 a3 a4 a5 a6 a7 a8 a9 a10 a11 a12 a13 a14 a15 = some r) : mz a0 a1 a2 a3 a4 a5 a6 a7 a8 a9 a10 a11 a12 a13 a14 a15 = some (t8 r) := by
 simp only [mz, h, Option.bind_some, t8]
def tb : HK where
 call := fun args σ k => match args with
  | [.agg [.int .u64 a0, .int .u64 a1, .int .u64 a2, .int .u64 a3, .int .u64 a4, .int .u64 a5, .int .u64 a6, .int .u64 a7], .agg [.int .u64 a8, .int .u64 a9, .int .u64 a10, .int .u64 a11, .int .u64 a12, .int .u64 a13, .int .u64 a14, .int .u64 a15]] => Option.bind (jP a0 a1 a2 a3 a4 a5 a6 a7 a8 a9 a10 a11 a12 a13 a14 a15) fun r => k (.ret (.agg [.int .u64 (aa r 0), .int .u64 (aa r 1), .int .u64 (aa r 2), .int .u64 (aa r 3), .int .u64 (aa r 4), .int .u64 (aa r 5), .int .u64 (aa r 6), .int .u64 (aa r 7)])) σ
  | _ => none
 nat := fun args σ k => by
  repeat' split
  all_goals simp only [Option.bind_assoc, Option.bind_none, Option.bind_some]
 pure := true
 pok := fun _ args σ r σ' h => by
  split at h
  ·obtain ⟨q, h1, h2⟩ := bE_ h
   simp only [Option.some.injEq, Prod.mk.injEq] at h2
   obtain ⟨rfl, rfl⟩ := h2
   exact ⟨rfl, ⟨_, rfl⟩, fun σ2 => by simp only [h1, Option.bind_some]⟩
  ·cases h
theorem ra : aT Tryz.prog 66 tb := DD.cS fun args σ x h => by
 simp only [tb] at h
 split at h
 ·rename_i a0 a1 a2 a3 a4 a5 a6 a7 a8 a9 a10 a11 a12 a13 a14 a15
  obtain ⟨r, h1, h2⟩ := bE_ h
  simp only [rp, Ry h1, Option.bind_some]
  exact h2
 ·cases h
theorem Tl {a0 a1 a2 a3 a4 a5 a6 a7 a8 a9 a10 a11 a12 a13 a14 a15 r : Int} (h : pn a0 a1 a2 a3 a4 a5 a6 a7 a8 a9 a10 a11 a12 a13 a14 a15 = some r) : nM a0 a1 a2 a3 a4 a5 a6 a7 a8 a9 a10 a11 a12 a13 a14 a15 = some (t8 r) := by
 simp only [nM, h, Option.bind_some, t8]
def Dz : HK where
 call := fun args σ k => match args with
  | [.agg [.int .u64 a0, .int .u64 a1, .int .u64 a2, .int .u64 a3, .int .u64 a4, .int .u64 a5, .int .u64 a6, .int .u64 a7], .agg [.int .u64 a8, .int .u64 a9, .int .u64 a10, .int .u64 a11, .int .u64 a12, .int .u64 a13, .int .u64 a14, .int .u64 a15]] => Option.bind (pn a0 a1 a2 a3 a4 a5 a6 a7 a8 a9 a10 a11 a12 a13 a14 a15) fun r => k (.ret (.agg [.int .u64 (aa r 0), .int .u64 (aa r 1), .int .u64 (aa r 2), .int .u64 (aa r 3), .int .u64 (aa r 4), .int .u64 (aa r 5), .int .u64 (aa r 6), .int .u64 (aa r 7)])) σ
  | _ => none
 nat := fun args σ k => by
  repeat' split
  all_goals simp only [Option.bind_assoc, Option.bind_none, Option.bind_some]
 pure := true
 pok := fun _ args σ r σ' h => by
  split at h
  ·obtain ⟨q, h1, h2⟩ := bE_ h
   simp only [Option.some.injEq, Prod.mk.injEq] at h2
   obtain ⟨rfl, rfl⟩ := h2
   exact ⟨rfl, ⟨_, rfl⟩, fun σ2 => by simp only [h1, Option.bind_some]⟩
  ·cases h
theorem DA : aT Tryz.prog 78 Dz := FC.cS fun args σ x h => by
 simp only [Dz] at h
 split at h
 ·rename_i a0 a1 a2 a3 a4 a5 a6 a7 a8 a9 a10 a11 a12 a13 a14 a15
  obtain ⟨r, h1, h2⟩ := bE_ h
  simp only [tc, Tl h1, Option.bind_some]
  exact h2
 ·cases h
theorem Tm {a0 a1 a2 a3 a4 a5 a6 a7 a8 a9 a10 a11 a12 a13 a14 a15 r : Int} (h : yC a0 a1 a2 a3 a4 a5 a6 a7 a8 a9 a10 a11 a12 a13 a14 a15 = some r) : nL a0 a1 a2 a3 a4 a5 a6 a7 a8 a9 a10 a11 a12 a13 a14 a15 = some (t8 r) := by
 simp only [nL, h, Option.bind_some, t8]
def DE : HK where
 call := fun args σ k => match args with
  | [.agg [.int .u64 a0, .int .u64 a1, .int .u64 a2, .int .u64 a3, .int .u64 a4, .int .u64 a5, .int .u64 a6, .int .u64 a7], .agg [.int .u64 a8, .int .u64 a9, .int .u64 a10, .int .u64 a11, .int .u64 a12, .int .u64 a13, .int .u64 a14, .int .u64 a15]] => Option.bind (yC a0 a1 a2 a3 a4 a5 a6 a7 a8 a9 a10 a11 a12 a13 a14 a15) fun r => k (.ret (.agg [.int .u64 (aa r 0), .int .u64 (aa r 1), .int .u64 (aa r 2), .int .u64 (aa r 3), .int .u64 (aa r 4), .int .u64 (aa r 5), .int .u64 (aa r 6), .int .u64 (aa r 7)])) σ
  | _ => none
 nat := fun args σ k => by
  repeat' split
  all_goals simp only [Option.bind_assoc, Option.bind_none, Option.bind_some]
 pure := true
 pok := fun _ args σ r σ' h => by
  split at h
  ·obtain ⟨q, h1, h2⟩ := bE_ h
   simp only [Option.some.injEq, Prod.mk.injEq] at h2
   obtain ⟨rfl, rfl⟩ := h2
   exact ⟨rfl, ⟨_, rfl⟩, fun σ2 => by simp only [h1, Option.bind_some]⟩
  ·cases h
theorem DF : aT Tryz.prog 77 DE := Fy.cS fun args σ x h => by
 simp only [DE] at h
 split at h
 ·rename_i a0 a1 a2 a3 a4 a5 a6 a7 a8 a9 a10 a11 a12 a13 a14 a15
  obtain ⟨r, h1, h2⟩ := bE_ h
  simp only [sZ, Tm h1, Option.bind_some]
  exact h2
 ·cases h
def bd (a0 a1 a2 a3 a4 a5 : Int) : Option Int := ag (bc a0 && bc a1 && bc a2 && bc a3 && bc a4 && bc a5) (some (a0 * a3 + a1 * a4 + a2 * a5))
theorem UG {a0 a1 a2 a3 a4 a5 r : Int} (h : bd a0 a1 a2 a3 a4 a5 = some r) : qP a0 a1 a2 a3 a4 a5 = some (t8 r) := by
 unfold bd at h
 obtain ⟨h1, h2⟩ := aM h
 simp only [Bool.and_eq_true] at h1
 simp only [Option.some.injEq] at h2
 subst h2
 exact Va h1.1.1.1.1.1 h1.1.1.1.1.2 h1.1.1.1.2 h1.1.1.2 h1.1.2 h1.2
theorem S5 {a0 a1 a2 a3 a4 a5 : Int} (h0 : bc a0 = true) (h1 : bc a1 = true) (h2 : bc a2 = true) (h3 : bc a3 = true) (h4 : bc a4 = true) (h5 : bc a5 = true) : bd a0 a1 a2 a3 a4 a5 = some (a0 * a3 + a1 * a4 + a2 * a5) := by
 unfold bd; rw [h0, h1, h2, h3, h4, h5]; rfl
def HY : HK where
 call := fun args σ k => match args with
  | [.agg [.int .i64 a0, .int .i64 a1, .int .i64 a2], .agg [.int .i64 a3, .int .i64 a4, .int .i64 a5]] => Option.bind (bd a0 a1 a2 a3 a4 a5) fun r => k (.ret (.agg [.int .u64 (aa r 0), .int .u64 (aa r 1), .int .u64 (aa r 2), .int .u64 (aa r 3), .int .u64 (aa r 4), .int .u64 (aa r 5), .int .u64 (aa r 6), .int .u64 (aa r 7)])) σ
  | _ => none
 nat := fun args σ k => by
  repeat' split
  all_goals simp only [Option.bind_assoc, Option.bind_none, Option.bind_some]
 pure := true
 pok := fun _ args σ r σ' h => by
  split at h
  ·obtain ⟨q, h1, h2⟩ := bE_ h
   simp only [Option.some.injEq, Prod.mk.injEq] at h2
   obtain ⟨rfl, rfl⟩ := h2
   exact ⟨rfl, ⟨_, rfl⟩, fun σ2 => by simp only [h1, Option.bind_some]⟩
  ·cases h
theorem GI : aT Tryz.prog 75 HY := KI.cS fun args σ x h => by
 simp only [HY] at h
 split at h
 ·rename_i a0 a1 a2 a3 a4 a5
  obtain ⟨r, h1, h2⟩ := bE_ h
  simp only [A3, UG h1, Option.bind_some]
  exact h2
 ·cases h
def nF (a0 a1 a2 a3 a4 a5 a6 a7 a8 a9 a10 a11 a12 a13 a14 a15 a16 a17 a18 a19 a20 a21 a22 a23 a24 a25 a26 : Int) : Option Int := ag (ok8 a0 a1 a2 a3 a4 a5 a6 a7 && ok8 a8 a9 a10 a11 a12 a13 a14 a15 && ok8 a16 a17 a18 a19 a20 a21 a22 a23 && bc a24 && bc a25 && bc a26 && fP ((num a0 a1 a2 a3 a4 a5 a6 a7) * a24) && fP ((num a8 a9 a10 a11 a12 a13 a14 a15) * a25) && fP ((num a16 a17 a18 a19 a20 a21 a22 a23) * a26) && fP ((num a0 a1 a2 a3 a4 a5 a6 a7) * a24 + (num a8 a9 a10 a11 a12 a13 a14 a15) * a25) && fP ((num a0 a1 a2 a3 a4 a5 a6 a7) * a24 + (num a8 a9 a10 a11 a12 a13 a14 a15) * a25 + (num a16 a17 a18 a19 a20 a21 a22 a23) * a26)) (some ((num a0 a1 a2 a3 a4 a5 a6 a7) * a24 + (num a8 a9 a10 a11 a12 a13 a14 a15) * a25 + (num a16 a17 a18 a19 a20 a21 a22 a23) * a26))
theorem Qi {a0 a1 a2 a3 a4 a5 a6 a7 a8 a9 a10 a11 a12 a13 a14 a15 a16 a17 a18 a19 a20 a21 a22 a23 a24 a25 a26 r : Int} (h : nF a0 a1 a2 a3 a4 a5 a6 a7 a8 a9 a10 a11 a12 a13 a14 a15 a16 a17 a18 a19 a20 a21 a22 a23 a24 a25 a26 = some r) : iq a0 a1 a2 a3 a4 a5 a6 a7 a8 a9 a10 a11 a12 a13 a14 a15 a16 a17 a18 a19 a20 a21 a22 a23 a24 a25 a26 = some (t9 r true) := by
 unfold nF at h
 obtain ⟨h1, h2⟩ := aM h
 simp only [Bool.and_eq_true, and_assoc] at h1
 obtain ⟨o1, o2, o3, r1, r2, r3, f1, f2, f3, f4, f5⟩ := h1
 simp only [Option.some.injEq] at h2
 subst h2
 have q := JW (fQ o1) (fQ o2) (fQ o3) r1 r2 r3 (ca.1 f1) (ca.1 f2) (ca.1 f3) (ca.1 f4) (ca.1 f5)
 obtain ⟨e10, e11, e12, e13, e14, e15, e16, e17⟩ := aR o1
 obtain ⟨e20, e21, e22, e23, e24, e25, e26, e27⟩ := aR o2
 obtain ⟨e30, e31, e32, e33, e34, e35, e36, e37⟩ := aR o3
 rw [e10, e11, e12, e13, e14, e15, e16, e17, e20, e21, e22, e23, e24, e25, e26, e27, e30, e31, e32, e33, e34, e35, e36, e37] at q
 exact q
def Qj (x y z a b c : Int) : Option Int := nF (aa x 0) (aa x 1) (aa x 2) (aa x 3) (aa x 4) (aa x 5) (aa x 6) (aa x 7) (aa y 0) (aa y 1) (aa y 2) (aa y 3) (aa y 4) (aa y 5) (aa y 6) (aa y 7) (aa z 0) (aa z 1) (aa z 2) (aa z 3) (aa z 4) (aa z 5) (aa z 6) (aa z 7) a b c
theorem Kx {x y z a b c : Int} (hx : fit x) (hy : fit y) (hz : fit z) (ha : bc a = true) (hb : bc b = true) (hc : bc c = true) (h1 : fit (x * a)) (h2 : fit (y * b)) (h3 : fit (z * c)) (h4 : fit (x * a + y * b)) (h5 : fit (x * a + y * b + z * c)) : Qj x y z a b c = some (x * a + y * b + z * c) := by
 unfold Qj nF; rw [bv, bv, bv, aG hx, aG hy, aG hz, ha, hb, hc, ca.2 h1, ca.2 h2, ca.2 h3, ca.2 h4, ca.2 h5]; rfl
def A1 : HK where
 call := fun args σ k => match args with
  | [.agg [.int .u64 a0, .int .u64 a1, .int .u64 a2, .int .u64 a3, .int .u64 a4, .int .u64 a5, .int .u64 a6, .int .u64 a7, .int .u64 a8, .int .u64 a9, .int .u64 a10, .int .u64 a11, .int .u64 a12, .int .u64 a13, .int .u64 a14, .int .u64 a15, .int .u64 a16, .int .u64 a17, .int .u64 a18, .int .u64 a19, .int .u64 a20, .int .u64 a21, .int .u64 a22, .int .u64 a23], .agg [.int .i64 a24, .int .i64 a25, .int .i64 a26]] => Option.bind (nF a0 a1 a2 a3 a4 a5 a6 a7 a8 a9 a10 a11 a12 a13 a14 a15 a16 a17 a18 a19 a20 a21 a22 a23 a24 a25 a26) fun r => k (.ret (.tup [.agg [.int .u64 (aa r 0), .int .u64 (aa r 1), .int .u64 (aa r 2), .int .u64 (aa r 3), .int .u64 (aa r 4), .int .u64 (aa r 5), .int .u64 (aa r 6), .int .u64 (aa r 7)], .bool true])) σ
  | _ => none
 nat := fun args σ k => by
  repeat' split
  all_goals simp only [Option.bind_assoc, Option.bind_none, Option.bind_some]
 pure := true
 pok := fun _ args σ r σ' h => by
  split at h
  ·obtain ⟨q, h1, h2⟩ := bE_ h
   simp only [Option.some.injEq, Prod.mk.injEq] at h2
   obtain ⟨rfl, rfl⟩ := h2
   exact ⟨rfl, ⟨_, rfl⟩, fun σ2 => by simp only [h1, Option.bind_some]⟩
  ·cases h
theorem FU : aT Tryz.prog 46 A1 := qM.cS fun args σ x h => by
 simp only [A1] at h
 split at h
 ·rename_i a0 a1 a2 a3 a4 a5 a6 a7 a8 a9 a10 a11 a12 a13 a14 a15 a16 a17 a18 a19 a20 a21 a22 a23 a24 a25 a26
  obtain ⟨r, h1, h2⟩ := bE_ h
  simp only [mF, Qi h1, Option.bind_some]
  exact h2
 ·cases h
abbrev oI := (I8 (LA_ × Nat))
def og : CH := (CH.add 19 Jk CH.none)
def oW : CH := wB Tryz.prog jM [76] 60 og 5
theorem uU : aE Tryz.prog og := (CH.aj EI CH.aC)
theorem v5 : aE Tryz.prog oW := jn aL mixed bE uU 5
def sK (u0 u1 u2 : Int) : Option (oI) :=
 (Option.bind (cOf 1) fun r1 => (some (aZ r1 (((v8 (aa r1 0) (aa r1 1) (aa r1 2) (aa r1 3) (aa r1 4) (aa r1 5) (aa r1 6) (aa r1 7) []) : LA_), 1))))
def kh : FD where
 X := oI
 k := 1
 pre := [(2, 8)]
 F := fun s => [0, nameAt s 0 [.c 0]]
 M := .tup [.vec 1, .agg (rl (.int .u64) 8 [])]
 B := [.vec 8 true]
 toL := fun x => [.I x.1, .I x.2.1, .I x.2.2.1, .I x.2.2.2.1, .I x.s4.1, .I x.s4.2.1, .I x.s4.2.2.1, .I x.s4.2.2.2.1, .C x.s8.1, .N x.s8.2]
 ofL := fun ls => match ls with
  | [.I x0, .I x1, .I x2, .I x3, .I x4, .I x5, .I x6, .I x7, .C x8, .N x9] => some (x0, x1, x2, x3, x4, x5, x6, x7, x8, x9)
  | _ => none
 au := fun ls x h => by
  split at h
  ·cases h; rfl
  ·cases h
theorem yj (u0 u1 u2 : Int) (x : oI) (h : sK u0 u1 u2 = some x) : aX Tryz.prog 55 1 [.vec 0] [.vec [.int .i64 u0, .int .i64 u1, .int .i64 u2] 1 3 false] kh x :=
 FD.sem (ch := oW) (A := bu) (fn := Tryz.f55) (c := bq Tryz.f55) (fuel := 60) aL v5 mixed bE kh Tryz.func55 (by kernel_rfl) (aJ (l := [aK Tryz.f55 0, aK Tryz.f55 1]) (by kernel_rfl) ⟨(eH (by kernel_rfl)), (eH (by kernel_rfl)), trivial⟩)
  (by kernel_rfl) (Eq.trans (by kernel_rfl) h)
def Fw : CH := CH.none
theorem Ba : aE Tryz.prog Fw := CH.aC
def cP (a0 a1 a2 a3 a4 a5 : Int) : Option (Int × Int × Int) :=
 (some ((IntKind.wrap .i64 (a0 - a3)), (IntKind.wrap .i64 (a1 - a4)), (IntKind.wrap .i64 (a2 - a5))))
def kO : FD where
 X := Int × Int × Int
 k := 0
 pre := []
 F := fun s => []
 M := .agg [.int .i64, .int .i64, .int .i64]
 B := []
 toL := fun x => [.I x.1, .I x.2.1, .I x.2.2]
 ofL := fun ls => match ls with
  | [.I x0, .I x1, .I x2] => some (x0, x1, x2)
  | _ => none
 au := fun ls x h => by
  split at h
  ·cases h; rfl
  ·cases h
theorem Dt (a0 a1 a2 a3 a4 a5 : Int) (x : Int × Int × Int) (h : cP a0 a1 a2 a3 a4 a5 = some x) : aX Tryz.prog 73 0 [.agg [.int .i64 a0, .int .i64 a1, .int .i64 a2], .agg [.int .i64 a3, .int .i64 a4, .int .i64 a5]] [] kO x :=
 FD.semA kO Ba Tryz.func73 (fuel := 60) (by kernel_rfl) (by kernel_rfl)
  (by kernel_rfl) (Eq.trans (by kernel_rfl) h)
def j9 : HK where
 call := fun args σ k => match args with
  | [.agg [.int .i64 a0, .int .i64 a1, .int .i64 a2], .agg [.int .i64 a3, .int .i64 a4, .int .i64 a5]] => Option.bind (cP a0 a1 a2 a3 a4 a5) fun y => az σ 0 (kO.val y) (kO.aN y) k
  | _ => none
 nat := fun args σ k => by
  repeat' split
  all_goals simp only [aw, ax, Option.bind_assoc, Option.bind_none, az, Option.bind_some]
 pure := true
 pok := fun _ args σ r σ' h => by
  split at h
  ·exact bm h (fun y => rfl) (fun y f => rfl)
  ·cases h
theorem oF : aT Tryz.prog 73 j9 := by
 intro args σ r σ' h
 simp only [j9] at h
 split at h
 ·rename_i a0 a1 a2 a3 a4 a5
  obtain ⟨y, hy, h⟩ := bE_ h
  exact lifted (xs := []) (ls := []) (cargs := [.agg [.int .i64 a0, .int .i64 a1, .int .i64 a2], .agg [.int .i64 a3, .int .i64 a4, .int .i64 a5]]) (bt.of trivial) rfl (Dt a0 a1 a2 a3 a4 a5 y hy) rfl rfl rfl rfl h
 ·cases h
abbrev oJ := (I8 (LA_ × Nat))
def oh : CH := (CH.add 73 j9 (CH.add 77 DE (CH.add 75 HY (CH.add 26 Ak CH.none))))
def oX : CH := wB Tryz.prog jM [74, 76, 104] 60 oh 5
theorem uV : aE Tryz.prog oh := (CH.aj oF (CH.aj DF (CH.aj GI (CH.aj yD CH.aC))))
theorem v6 : aE Tryz.prog oX := jn aL mixed bE uV 5
def iK (u0 u1 u2 u3 u4 u5 : Int) : Option (oJ) :=
 (Option.bind (cP u3 u4 u5 u0 u1 u2) fun r1 => (Option.bind (bd r1.1 r1.2.1 r1.2.2 r1.1 r1.2.1 r1.2.2) fun r2 => (Option.bind (bd r1.1 r1.2.1 r1.2.2 u0 u1 u2) fun r3 => (Option.bind (gI r3) fun r4 => (Option.bind (fc r2 r4) fun r5 => (some (aZ r2 (((v8 (aa r5 0) (aa r5 1) (aa r5 2) (aa r5 3) (aa r5 4) (aa r5 5) (aa r5 6) (aa r5 7) (v8 (aa r4 0) (aa r4 1) (aa r4 2) (aa r4 3) (aa r4 4) (aa r4 5) (aa r4 6) (aa r4 7) [])) : LA_), 2))))))))
def qd : FD where
 X := oJ
 k := 1
 pre := [(2, 8)]
 F := fun s => [0, nameAt s 0 [.c 0]]
 M := .tup [.vec 1, .agg (rl (.int .u64) 8 [])]
 B := [.vec 8 true]
 toL := fun x => [.I x.1, .I x.2.1, .I x.2.2.1, .I x.2.2.2.1, .I x.s4.1, .I x.s4.2.1, .I x.s4.2.2.1, .I x.s4.2.2.2.1, .C x.s8.1, .N x.s8.2]
 ofL := fun ls => match ls with
  | [.I x0, .I x1, .I x2, .I x3, .I x4, .I x5, .I x6, .I x7, .C x8, .N x9] => some (x0, x1, x2, x3, x4, x5, x6, x7, x8, x9)
  | _ => none
 au := fun ls x h => by
  split at h
  ·cases h; rfl
  ·cases h
theorem yl (u0 u1 u2 u3 u4 u5 : Int) (x : oJ) (h : iK u0 u1 u2 u3 u4 u5 = some x) : aX Tryz.prog 55 1 [.vec 0] [.vec [.int .i64 u0, .int .i64 u1, .int .i64 u2, .int .i64 u3, .int .i64 u4, .int .i64 u5] 2 3 false] qd x :=
 FD.sem (ch := oX) (A := bu) (fn := Tryz.f55) (c := bq Tryz.f55) (fuel := 60) aL v6 mixed bE qd Tryz.func55 (by kernel_rfl) (aJ (l := [aK Tryz.f55 0, aK Tryz.f55 1]) (by kernel_rfl) ⟨(eH (by kernel_rfl)), (eH (by kernel_rfl)), trivial⟩)
  (by kernel_rfl) (Eq.trans (by kernel_rfl) h)
abbrev oK := (I8 (LA_ × Nat))
def om : CH := (CH.add 73 j9 (CH.add 77 DE (CH.add 75 HY (CH.add 66 tb (CH.add 26 Ak CH.none)))))
def oY : CH := wB Tryz.prog jM [74, 76, 104, 105] 60 om 5
theorem uW : aE Tryz.prog om := (CH.aj oF (CH.aj DF (CH.aj GI (CH.aj ra (CH.aj yD CH.aC)))))
theorem v7 : aE Tryz.prog oY := jn aL mixed bE uW 5
def iL (u0 u1 u2 u3 u4 u5 u6 u7 u8 : Int) : Option (oK) :=
 (Option.bind (cP u3 u4 u5 u0 u1 u2) fun r1 => (Option.bind (cP u6 u7 u8 u0 u1 u2) fun r2 => (Option.bind (bd r1.1 r1.2.1 r1.2.2 r1.1 r1.2.1 r1.2.2) fun r3 => (Option.bind (bd r2.1 r2.2.1 r2.2.2 r2.1 r2.2.1 r2.2.2) fun r4 => (Option.bind (cv r3 r4) fun r5 => (Option.bind (bd r1.1 r1.2.1 r1.2.2 r2.1 r2.2.1 r2.2.2) fun r6 => (Option.bind (bd r2.1 r2.2.1 r2.2.2 r1.1 r1.2.1 r1.2.2) fun r7 => (Option.bind (cv r6 r7) fun r8 => (Option.bind (fc r5 r8) fun r9 => (Option.bind (bd r1.1 r1.2.1 r1.2.2 u0 u1 u2) fun r10 => (Option.bind (gI r10) fun r11 => (Option.bind (bd r2.1 r2.2.1 r2.2.2 r2.1 r2.2.1 r2.2.2) fun r12 => (Option.bind (cv r11 r12) fun r13 => (Option.bind (bd r1.1 r1.2.1 r1.2.2 r2.1 r2.2.1 r2.2.2) fun r14 => (Option.bind (bd r2.1 r2.2.1 r2.2.2 u0 u1 u2) fun r15 => (Option.bind (gI r15) fun r16 => (Option.bind (cv r14 r16) fun r17 => (Option.bind (fc r13 r17) fun r18 => (Option.bind (fc r9 r18) fun r19 => (Option.bind (bd r1.1 r1.2.1 r1.2.2 r1.1 r1.2.1 r1.2.2) fun r20 => (Option.bind (bd r2.1 r2.2.1 r2.2.2 u0 u1 u2) fun r21 => (Option.bind (gI r21) fun r22 => (Option.bind (cv r20 r22) fun r23 => (Option.bind (bd r1.1 r1.2.1 r1.2.2 u0 u1 u2) fun r24 => (Option.bind (gI r24) fun r25 => (Option.bind (bd r2.1 r2.2.1 r2.2.2 r1.1 r1.2.1 r1.2.2) fun r26 => (Option.bind (cv r25 r26) fun r27 => (Option.bind (fc r23 r27) fun r28 => (Option.bind (fc r19 r28) fun r29 => (some (aZ r9 (((v8 (aa r29 0) (aa r29 1) (aa r29 2) (aa r29 3) (aa r29 4) (aa r29 5) (aa r29 6) (aa r29 7) (v8 (aa r18 0) (aa r18 1) (aa r18 2) (aa r18 3) (aa r18 4) (aa r18 5) (aa r18 6) (aa r18 7) (v8 (aa r28 0) (aa r28 1) (aa r28 2) (aa r28 3) (aa r28 4) (aa r28 5) (aa r28 6) (aa r28 7) []))) : LA_), 3))))))))))))))))))))))))))))))))
def qe : FD where
 X := oK
 k := 1
 pre := [(2, 8)]
 F := fun s => [0, nameAt s 0 [.c 0]]
 M := .tup [.vec 1, .agg (rl (.int .u64) 8 [])]
 B := [.vec 8 true]
 toL := fun x => [.I x.1, .I x.2.1, .I x.2.2.1, .I x.2.2.2.1, .I x.s4.1, .I x.s4.2.1, .I x.s4.2.2.1, .I x.s4.2.2.2.1, .C x.s8.1, .N x.s8.2]
 ofL := fun ls => match ls with
  | [.I x0, .I x1, .I x2, .I x3, .I x4, .I x5, .I x6, .I x7, .C x8, .N x9] => some (x0, x1, x2, x3, x4, x5, x6, x7, x8, x9)
  | _ => none
 au := fun ls x h => by
  split at h
  ·cases h; rfl
  ·cases h
theorem ym (u0 u1 u2 u3 u4 u5 u6 u7 u8 : Int) (x : oK) (h : iL u0 u1 u2 u3 u4 u5 u6 u7 u8 = some x) : aX Tryz.prog 55 1 [.vec 0] [.vec [.int .i64 u0, .int .i64 u1, .int .i64 u2, .int .i64 u3, .int .i64 u4, .int .i64 u5, .int .i64 u6, .int .i64 u7, .int .i64 u8] 3 3 false] qe x :=
 FD.sem (ch := oY) (A := bu) (fn := Tryz.f55) (c := bq Tryz.f55) (fuel := 60) aL v7 mixed bE qe Tryz.func55 (by kernel_rfl) (aJ (l := [aK Tryz.f55 0, aK Tryz.f55 1]) (by kernel_rfl) ⟨(eH (by kernel_rfl)), (eH (by kernel_rfl)), trivial⟩)
  (by kernel_rfl) (Eq.trans (by kernel_rfl) h)
abbrev oL := (I8 (LA_ × Nat))
def ot : CH := (CH.add 73 j9 (CH.add 78 Dz (CH.add 77 DE (CH.add 75 HY (CH.add 66 tb (CH.add 26 Ak CH.none))))))
def oZ : CH := wB Tryz.prog jM [74, 76, 104, 105] 60 ot 5
theorem uX : aE Tryz.prog ot := (CH.aj oF (CH.aj DA (CH.aj DF (CH.aj GI (CH.aj ra (CH.aj yD CH.aC))))))
theorem v9 : aE Tryz.prog oZ := jn aL mixed bE uX 5
def iN (u0 u1 u2 u3 u4 u5 u6 u7 u8 u9 u10 u11 : Int) : Option (oL) :=
 (Option.bind (cP u3 u4 u5 u0 u1 u2) fun r1 => (Option.bind (cP u6 u7 u8 u0 u1 u2) fun r2 => (Option.bind (cP u9 u10 u11 u0 u1 u2) fun r3 => (Option.bind (bd r1.1 r1.2.1 r1.2.2 r1.1 r1.2.1 r1.2.2) fun r4 => (Option.bind (bd r2.1 r2.2.1 r2.2.2 r2.1 r2.2.1 r2.2.2) fun r5 => (Option.bind (bd r3.1 r3.2.1 r3.2.2 r3.1 r3.2.1 r3.2.2) fun r6 => (Option.bind (cv r5 r6) fun r7 => (Option.bind (bd r2.1 r2.2.1 r2.2.2 r3.1 r3.2.1 r3.2.2) fun r8 => (Option.bind (bd r3.1 r3.2.1 r3.2.2 r2.1 r2.2.1 r2.2.2) fun r9 => (Option.bind (cv r8 r9) fun r10 => (Option.bind (fc r7 r10) fun r11 => (Option.bind (cv r4 r11) fun r12 => (Option.bind (bd r1.1 r1.2.1 r1.2.2 r2.1 r2.2.1 r2.2.2) fun r13 => (Option.bind (bd r2.1 r2.2.1 r2.2.2 r1.1 r1.2.1 r1.2.2) fun r14 => (Option.bind (bd r3.1 r3.2.1 r3.2.2 r3.1 r3.2.1 r3.2.2) fun r15 => (Option.bind (cv r14 r15) fun r16 => (Option.bind (bd r2.1 r2.2.1 r2.2.2 r3.1 r3.2.1 r3.2.2) fun r17 => (Option.bind (bd r3.1 r3.2.1 r3.2.2 r1.1 r1.2.1 r1.2.2) fun r18 => (Option.bind (cv r17 r18) fun r19 => (Option.bind (fc r16 r19) fun r20 => (Option.bind (cv r13 r20) fun r21 => (Option.bind (fc r12 r21) fun r22 => (Option.bind (bd r1.1 r1.2.1 r1.2.2 r3.1 r3.2.1 r3.2.2) fun r23 => (Option.bind (bd r2.1 r2.2.1 r2.2.2 r1.1 r1.2.1 r1.2.2) fun r24 => (Option.bind (bd r3.1 r3.2.1 r3.2.2 r2.1 r2.2.1 r2.2.2) fun r25 => (Option.bind (cv r24 r25) fun r26 => (Option.bind (bd r2.1 r2.2.1 r2.2.2 r2.1 r2.2.1 r2.2.2) fun r27 => (Option.bind (bd r3.1 r3.2.1 r3.2.2 r1.1 r1.2.1 r1.2.2) fun r28 => (Option.bind (cv r27 r28) fun r29 => (Option.bind (fc r26 r29) fun r30 => (Option.bind (cv r23 r30) fun r31 => (Option.bind (zx r22 r31) fun r32 => (Option.bind (bd r1.1 r1.2.1 r1.2.2 u0 u1 u2) fun r33 => (Option.bind (gI r33) fun r34 => (Option.bind (bd r2.1 r2.2.1 r2.2.2 r2.1 r2.2.1 r2.2.2) fun r35 => (Option.bind (bd r3.1 r3.2.1 r3.2.2 r3.1 r3.2.1 r3.2.2) fun r36 => (Option.bind (cv r35 r36) fun r37 => (Option.bind (bd r2.1 r2.2.1 r2.2.2 r3.1 r3.2.1 r3.2.2) fun r38 => (Option.bind (bd r3.1 r3.2.1 r3.2.2 r2.1 r2.2.1 r2.2.2) fun r39 => (Option.bind (cv r38 r39) fun r40 => (Option.bind (fc r37 r40) fun r41 => (Option.bind (cv r34 r41) fun r42 => (Option.bind (bd r1.1 r1.2.1 r1.2.2 r2.1 r2.2.1 r2.2.2) fun r43 => (Option.bind (bd r2.1 r2.2.1 r2.2.2 u0 u1 u2) fun r44 => (Option.bind (gI r44) fun r45 => (Option.bind (bd r3.1 r3.2.1 r3.2.2 r3.1 r3.2.1 r3.2.2) fun r46 => (Option.bind (cv r45 r46) fun r47 => (Option.bind (bd r2.1 r2.2.1 r2.2.2 r3.1 r3.2.1 r3.2.2) fun r48 => (Option.bind (bd r3.1 r3.2.1 r3.2.2 u0 u1 u2) fun r49 => (Option.bind (gI r49) fun r50 => (Option.bind (cv r48 r50) fun r51 => (Option.bind (fc r47 r51) fun r52 => (Option.bind (cv r43 r52) fun r53 => (Option.bind (fc r42 r53) fun r54 => (Option.bind (bd r1.1 r1.2.1 r1.2.2 r3.1 r3.2.1 r3.2.2) fun r55 => (Option.bind (bd r2.1 r2.2.1 r2.2.2 u0 u1 u2) fun r56 => (Option.bind (gI r56) fun r57 => (Option.bind (bd r3.1 r3.2.1 r3.2.2 r2.1 r2.2.1 r2.2.2) fun r58 => (Option.bind (cv r57 r58) fun r59 => (Option.bind (bd r2.1 r2.2.1 r2.2.2 r2.1 r2.2.1 r2.2.2) fun r60 => (Option.bind (bd r3.1 r3.2.1 r3.2.2 u0 u1 u2) fun r61 => (Option.bind (gI r61) fun r62 => (Option.bind (cv r60 r62) fun r63 => (Option.bind (fc r59 r63) fun r64 => (Option.bind (cv r55 r64) fun r65 => (Option.bind (zx r54 r65) fun r66 => (Option.bind (fc r32 r66) fun r67 => (Option.bind (bd r1.1 r1.2.1 r1.2.2 r1.1 r1.2.1 r1.2.2) fun r68 => (Option.bind (bd r2.1 r2.2.1 r2.2.2 u0 u1 u2) fun r69 => (Option.bind (gI r69) fun r70 => (Option.bind (bd r3.1 r3.2.1 r3.2.2 r3.1 r3.2.1 r3.2.2) fun r71 => (Option.bind (cv r70 r71) fun r72 => (Option.bind (bd r2.1 r2.2.1 r2.2.2 r3.1 r3.2.1 r3.2.2) fun r73 => (Option.bind (bd r3.1 r3.2.1 r3.2.2 u0 u1 u2) fun r74 => (Option.bind (gI r74) fun r75 => (Option.bind (cv r73 r75) fun r76 => (Option.bind (fc r72 r76) fun r77 => (Option.bind (cv r68 r77) fun r78 => (Option.bind (bd r1.1 r1.2.1 r1.2.2 u0 u1 u2) fun r79 => (Option.bind (gI r79) fun r80 => (Option.bind (bd r2.1 r2.2.1 r2.2.2 r1.1 r1.2.1 r1.2.2) fun r81 => (Option.bind (bd r3.1 r3.2.1 r3.2.2 r3.1 r3.2.1 r3.2.2) fun r82 => (Option.bind (cv r81 r82) fun r83 => (Option.bind (bd r2.1 r2.2.1 r2.2.2 r3.1 r3.2.1 r3.2.2) fun r84 => (Option.bind (bd r3.1 r3.2.1 r3.2.2 r1.1 r1.2.1 r1.2.2) fun r85 => (Option.bind (cv r84 r85) fun r86 => (Option.bind (fc r83 r86) fun r87 => (Option.bind (cv r80 r87) fun r88 => (Option.bind (fc r78 r88) fun r89 => (Option.bind (bd r1.1 r1.2.1 r1.2.2 r3.1 r3.2.1 r3.2.2) fun r90 => (Option.bind (bd r2.1 r2.2.1 r2.2.2 r1.1 r1.2.1 r1.2.2) fun r91 => (Option.bind (bd r3.1 r3.2.1 r3.2.2 u0 u1 u2) fun r92 => (Option.bind (gI r92) fun r93 => (Option.bind (cv r91 r93) fun r94 => (Option.bind (bd r2.1 r2.2.1 r2.2.2 u0 u1 u2) fun r95 => (Option.bind (gI r95) fun r96 => (Option.bind (bd r3.1 r3.2.1 r3.2.2 r1.1 r1.2.1 r1.2.2) fun r97 => (Option.bind (cv r96 r97) fun r98 => (Option.bind (fc r94 r98) fun r99 => (Option.bind (cv r90 r99) fun r100 => (Option.bind (zx r89 r100) fun r101 => (Option.bind (fc r67 r101) fun r102 => (Option.bind (bd r1.1 r1.2.1 r1.2.2 r1.1 r1.2.1 r1.2.2) fun r103 => (Option.bind (bd r2.1 r2.2.1 r2.2.2 r2.1 r2.2.1 r2.2.2) fun r104 => (Option.bind (bd r3.1 r3.2.1 r3.2.2 u0 u1 u2) fun r105 => (Option.bind (gI r105) fun r106 => (Option.bind (cv r104 r106) fun r107 => (Option.bind (bd r2.1 r2.2.1 r2.2.2 u0 u1 u2) fun r108 => (Option.bind (gI r108) fun r109 => (Option.bind (bd r3.1 r3.2.1 r3.2.2 r2.1 r2.2.1 r2.2.2) fun r110 => (Option.bind (cv r109 r110) fun r111 => (Option.bind (fc r107 r111) fun r112 => (Option.bind (cv r103 r112) fun r113 => (Option.bind (bd r1.1 r1.2.1 r1.2.2 r2.1 r2.2.1 r2.2.2) fun r114 => (Option.bind (bd r2.1 r2.2.1 r2.2.2 r1.1 r1.2.1 r1.2.2) fun r115 => (Option.bind (bd r3.1 r3.2.1 r3.2.2 u0 u1 u2) fun r116 => (Option.bind (gI r116) fun r117 => (Option.bind (cv r115 r117) fun r118 => (Option.bind (bd r2.1 r2.2.1 r2.2.2 u0 u1 u2) fun r119 => (Option.bind (gI r119) fun r120 => (Option.bind (bd r3.1 r3.2.1 r3.2.2 r1.1 r1.2.1 r1.2.2) fun r121 => (Option.bind (cv r120 r121) fun r122 => (Option.bind (fc r118 r122) fun r123 => (Option.bind (cv r114 r123) fun r124 => (Option.bind (fc r113 r124) fun r125 => (Option.bind (bd r1.1 r1.2.1 r1.2.2 u0 u1 u2) fun r126 => (Option.bind (gI r126) fun r127 => (Option.bind (bd r2.1 r2.2.1 r2.2.2 r1.1 r1.2.1 r1.2.2) fun r128 => (Option.bind (bd r3.1 r3.2.1 r3.2.2 r2.1 r2.2.1 r2.2.2) fun r129 => (Option.bind (cv r128 r129) fun r130 => (Option.bind (bd r2.1 r2.2.1 r2.2.2 r2.1 r2.2.1 r2.2.2) fun r131 => (Option.bind (bd r3.1 r3.2.1 r3.2.2 r1.1 r1.2.1 r1.2.2) fun r132 => (Option.bind (cv r131 r132) fun r133 => (Option.bind (fc r130 r133) fun r134 => (Option.bind (cv r127 r134) fun r135 => (Option.bind (zx r125 r135) fun r136 => (Option.bind (fc r102 r136) fun r137 => (some (aZ r32 (((v8 (aa r137 0) (aa r137 1) (aa r137 2) (aa r137 3) (aa r137 4) (aa r137 5) (aa r137 6) (aa r137 7) (v8 (aa r66 0) (aa r66 1) (aa r66 2) (aa r66 3) (aa r66 4) (aa r66 5) (aa r66 6) (aa r66 7) (v8 (aa r101 0) (aa r101 1) (aa r101 2) (aa r101 3) (aa r101 4) (aa r101 5) (aa r101 6) (aa r101 7) (v8 (aa r136 0) (aa r136 1) (aa r136 2) (aa r136 3) (aa r136 4) (aa r136 5) (aa r136 6) (aa r136 7) [])))) : LA_), 4))))))))))))))))))))))))))))))))))))))))))))))))))))))))))))))))))))))))))))))))))))))))))))))))))))))))))))))))))))))))))))))))))))))))))))
def qf : FD where
 X := oL
 k := 1
 pre := [(2, 8)]
 F := fun s => [0, nameAt s 0 [.c 0]]
 M := .tup [.vec 1, .agg (rl (.int .u64) 8 [])]
 B := [.vec 8 true]
 toL := fun x => [.I x.1, .I x.2.1, .I x.2.2.1, .I x.2.2.2.1, .I x.s4.1, .I x.s4.2.1, .I x.s4.2.2.1, .I x.s4.2.2.2.1, .C x.s8.1, .N x.s8.2]
 ofL := fun ls => match ls with
  | [.I x0, .I x1, .I x2, .I x3, .I x4, .I x5, .I x6, .I x7, .C x8, .N x9] => some (x0, x1, x2, x3, x4, x5, x6, x7, x8, x9)
  | _ => none
 au := fun ls x h => by
  split at h
  ·cases h; rfl
  ·cases h
theorem yn (u0 u1 u2 u3 u4 u5 u6 u7 u8 u9 u10 u11 : Int) (x : oL) (h : iN u0 u1 u2 u3 u4 u5 u6 u7 u8 u9 u10 u11 = some x) : aX Tryz.prog 55 1 [.vec 0] [.vec [.int .i64 u0, .int .i64 u1, .int .i64 u2, .int .i64 u3, .int .i64 u4, .int .i64 u5, .int .i64 u6, .int .i64 u7, .int .i64 u8, .int .i64 u9, .int .i64 u10, .int .i64 u11] 4 3 false] qf x :=
 FD.sem (ch := oZ) (A := bu) (fn := Tryz.f55) (c := bq Tryz.f55) (fuel := 60) aL v9 mixed bE qf Tryz.func55 (by kernel_rfl) (aJ (l := [aK Tryz.f55 0, aK Tryz.f55 1]) (by kernel_rfl) ⟨(eH (by kernel_rfl)), (eH (by kernel_rfl)), trivial⟩)
  (by kernel_rfl) (Eq.trans (by kernel_rfl) h)
def gQ (cs0 : LA_) (n1 : Nat) : Option ((I8 (LA_ × Nat))) := match cs0, n1 with
 | [.int .i64 u0, .int .i64 u1, .int .i64 u2], 1 => sK u0 u1 u2
 | [.int .i64 u0, .int .i64 u1, .int .i64 u2, .int .i64 u3, .int .i64 u4, .int .i64 u5], 2 => iK u0 u1 u2 u3 u4 u5
 | [.int .i64 u0, .int .i64 u1, .int .i64 u2, .int .i64 u3, .int .i64 u4, .int .i64 u5, .int .i64 u6, .int .i64 u7, .int .i64 u8], 3 => iL u0 u1 u2 u3 u4 u5 u6 u7 u8
 | [.int .i64 u0, .int .i64 u1, .int .i64 u2, .int .i64 u3, .int .i64 u4, .int .i64 u5, .int .i64 u6, .int .i64 u7, .int .i64 u8, .int .i64 u9, .int .i64 u10, .int .i64 u11], 4 => iN u0 u1 u2 u3 u4 u5 u6 u7 u8 u9 u10 u11
 | _, _ => none
def dy : FD := kh
theorem Am (cs0 : LA_) (n1 : Nat) (x : (I8 (LA_ × Nat))) (h : gQ cs0 n1 = some x) : aX Tryz.prog 55 1 [.vec 0] [.vec cs0 n1 3 false] dy x := by
 unfold gQ at h
 split at h
 ·exact yj _ _ _ x h
 ·exact yl _ _ _ _ _ _ x h
 ·exact ym _ _ _ _ _ _ _ _ _ x h
 ·exact yn _ _ _ _ _ _ _ _ _ _ _ _ x h
 ·cases h
def dr (cs0 : LA_) (n1 : Nat) : Option (Int × LA_ × Nat) := Option.bind (gQ cs0 n1) fun (x0, x1, x2, x3, x4, x5, x6, x7, x8, x9) => ag (ok8 x0 x1 x2 x3 x4 x5 x6 x7) (some ((num x0 x1 x2 x3 x4 x5 x6 x7), x8, x9))
def ma : FD := ⟨Int × LA_ × Nat, dy.k, dy.pre, dy.F, dy.M, dy.B, fun y => dy.toL (aZ y.1 (y.2.1, y.2.2)), fun _ => none, fun _ _ h => by cases h⟩
theorem Bt (cs0 : LA_) (n1 : Nat) {y : Int × LA_ × Nat} (h : dr cs0 n1 = some y) : gQ cs0 n1 = some (aZ y.1 (y.2.1, y.2.2)) := by
 unfold dr at h
 obtain ⟨⟨x0, x1, x2, x3, x4, x5, x6, x7, x8, x9⟩, h1, h2⟩ := bE_ h
 obtain ⟨h3, h4⟩ := aM h2
 skip
 simp only [Option.some.injEq] at h4
 subst h4
 have o0 := h3
 have q0 := aR o0
 rw [h1]
 simp only [aZ, q0]
theorem An (cs0 : LA_) (n1 : Nat) (y : Int × LA_ × Nat) (h : dr cs0 n1 = some y) : aX Tryz.prog 55 1 [.vec 0] [.vec cs0 n1 3 false] ma y := Am cs0 n1 _ (Bt cs0 n1 h)
def oG : HK where
 call := fun args σ k => match args with
  | [x0] => cr σ 3 x0 fun cs0 n1 => Option.bind (dr cs0 n1) fun y => az σ 1 (ma.val y) (ma.aN y) k
  | _ => none
 nat := fun args σ k => by
  repeat' split
  all_goals simp only [aw, ax, Option.bind_assoc, Option.bind_none, az, Option.bind_some]
 pure := false
 pok := fun h => by cases h
theorem Bg : aT Tryz.prog 55 oG := by
 intro args σ r σ' h
 simp only [oG] at h
 split at h
 ·rename_i x0
  obtain ⟨cs0, n1, he0, hf0, h⟩ := bf h
  obtain ⟨y, hy, h⟩ := bE_ h
  exact lifted (xs := [x0]) (ls := [.vec cs0 n1 3 false]) (cargs := [.vec 0]) (bt.of ⟨⟨rfl, he0, hf0, by decide⟩, trivial⟩) rfl (An cs0 n1 y hy) rfl rfl rfl rfl h
 ·cases h
class Sm (k : outParam Nat) (z : Int) : Prop where
 h : sm k z
instance {a b : Nat} {x y : Int} [hx : Sm a x] [hy : Sm b y] : Sm (a + b) (x * y) := ⟨cT hx.h hy.h⟩
instance {a b : Nat} {x y : Int} [hx : Sm a x] [hy : Sm b y] : Sm (max a b + 1) (x + y) := ⟨lJ (aW hx.h (Nat.le_max_left _ _)) (aW hy.h (Nat.le_max_right _ _))⟩
instance {a b : Nat} {x y : Int} [hx : Sm a x] [hy : Sm b y] : Sm (max a b + 1) (x - y) := ⟨gS (aW hx.h (Nat.le_max_left _ _)) (aW hy.h (Nat.le_max_right _ _))⟩
instance {a : Nat} {x : Int} [hx : Sm a x] : Sm a (-x) := ⟨P1 hx.h⟩
theorem Sm.fit {k : Nat} {z : Int} [h : Sm k z] (hk : k ≤ 510) : fit z := aY h.h hk
theorem Sm.rng {k : Nat} {z : Int} [h : Sm k z] (hk : k ≤ 62) : bc z = true := by
 have := aW h.h hk
 rw [EC]
 unfold sm at this
 omega
class PtB (k : outParam Nat) (p : Pt) : Prop where
 h : sm k p.1 ∧ sm k p.2.1 ∧ sm k p.2.2
instance {a b : Nat} {p q : Pt} [hp : PtB a p] [hq : PtB b q] : PtB (max a b + 1) (aq p q) :=
 ⟨gS (aW hp.h.1 (Nat.le_max_left _ _)) (aW hq.h.1 (Nat.le_max_right _ _)), gS (aW hp.h.2.1 (Nat.le_max_left _ _)) (aW hq.h.2.1 (Nat.le_max_right _ _)), gS (aW hp.h.2.2 (Nat.le_max_left _ _)) (aW hq.h.2.2 (Nat.le_max_right _ _))⟩
instance {a b : Nat} {p q : Pt} [hp : PtB a p] [hq : PtB b q] : Sm (a + b + 2) (ae p q) :=
 ⟨lJ (lJ (cT hp.h.1 hq.h.1) (cT hp.h.2.1 hq.h.2.1)) (aW (cT hp.h.2.2 hq.h.2.2) (Nat.le_succ _))⟩
theorem PtB.of {p : Pt} (h : bP p = true) : PtB 28 p := by
 obtain ⟨h1, h2, h3⟩ := xK.1 h
 have := je.1 h1
 have := je.1 h2
 have := je.1 h3
 exact ⟨by unfold sm; omega, by unfold sm; omega, by unfold sm; omega⟩
theorem P2 {a b : Nat} {x y : Int} [Sm a x] [Sm b y] (h1 : a ≤ 510) (h2 : b ≤ 510) (h : a + b ≤ 510) : cv x y = some (x * y) := S1 (Sm.fit h1) (Sm.fit h2) (Sm.fit h)
theorem IP {a b : Nat} {x y : Int} [Sm a x] [Sm b y] (h1 : a ≤ 510) (h2 : b ≤ 510) (h : max a b + 1 ≤ 510) : zx x y = some (x + y) := S2 (Sm.fit h1) (Sm.fit h2) (Sm.fit h)
theorem Uk {a b : Nat} {x y : Int} [Sm a x] [Sm b y] (h1 : a ≤ 510) (h2 : b ≤ 510) (h : max a b + 1 ≤ 510) : fc x y = some (x - y) := S3 (Sm.fit h1) (Sm.fit h2) (Sm.fit h)
theorem P3 {a : Nat} {x : Int} [hx : Sm a x] (h1 : a ≤ 510) : gI x = some (-x) := by
 have e : (0 : Int) - x = -x := Int.zero_sub x
 rw [S4 (Sm.fit h1) (by rw [e]; exact Sm.fit h1), e]
theorem Ul {a b : Nat} {p q : Pt} [hp : PtB a p] [hq : PtB b q] (h1 : a ≤ 62) (h2 : b ≤ 62) : bd p.1 p.2.1 p.2.2 q.1 q.2.1 q.2.2 = some (ae p q) := by
 have r : ∀ {k : Nat} {z : Int}, sm k z → k ≤ 62 → bc z = true := fun {k z} h hk => (show Sm k z from ⟨h⟩).rng hk
 rw [S5 (r hp.h.1 h1) (r hp.h.2.1 h1) (r hp.h.2.2 h1) (r hq.h.1 h2) (r hq.h.2.1 h2) (r hq.h.2.2 h2)]
 rfl
theorem Um {a b : Nat} {p q : Pt} [hp : PtB a p] [hq : PtB b q] (h : max a b ≤ 61) : cP p.1 p.2.1 p.2.2 q.1 q.2.1 q.2.2 = some (aq p q) := by
 have w : ∀ {x y : Int}, sm a x → sm b y → IntKind.wrap .i64 (x - y) = x - y := by
  intro x y hx hy
  have := aW (gS (aW hx (Nat.le_max_left a b)) (aW hy (Nat.le_max_right a b))) (show max a b + 1 ≤ 62 by omega)
  unfold sm at this
  exact bV (by omega)
 unfold cP
 rw [w hp.h.1 hq.h.1, w hp.h.2.1 hq.h.2.1, w hp.h.2.2 hq.h.2.2]
 rfl
def wcs : List Int → LA_
 | [] => []
 | z :: l => .int .u64 (aa z 0) :: .int .u64 (aa z 1) :: .int .u64 (aa z 2) :: .int .u64 (aa z 3) :: .int .u64 (aa z 4) :: .int .u64 (aa z 5) :: .int .u64 (aa z 6) :: .int .u64 (aa z 7) :: wcs l
section
variable {R : Type} {Q : Option R}
theorem cb {a b : Nat} {x y : Int} [Sm a x] [Sm b y] {f : Int → Option R} (h1 : a ≤ 510) (h2 : b ≤ 510) (h : a + b ≤ 510) (k : ∀ z, z = x * y → Sm (a + b) z → f z = Q) : (cv x y).bind f = Q := by
 rw [P2 h1 h2 h]; exact k _ rfl inferInstance
theorem Ld {a b : Nat} {x y : Int} [Sm a x] [Sm b y] {f : Int → Option R} (h1 : a ≤ 510) (h2 : b ≤ 510) (h : max a b + 1 ≤ 510) (k : ∀ z, z = x + y → Sm (max a b + 1) z → f z = Q) : (zx x y).bind f = Q := by
 rw [IP h1 h2 h]; exact k _ rfl inferInstance
theorem eG {a b : Nat} {x y : Int} [Sm a x] [Sm b y] {f : Int → Option R} (h1 : a ≤ 510) (h2 : b ≤ 510) (h : max a b + 1 ≤ 510) (k : ∀ z, z = x - y → Sm (max a b + 1) z → f z = Q) : (fc x y).bind f = Q := by
 rw [Uk h1 h2 h]; exact k _ rfl inferInstance
theorem gF {a : Nat} {x : Int} [Sm a x] {f : Int → Option R} (h1 : a ≤ 510) (k : ∀ z, z = -x → Sm a z → f z = Q) : (gI x).bind f = Q := by
 rw [P3 h1]; exact k _ rfl inferInstance
theorem aS {a b : Nat} {p q : Pt} [PtB a p] [PtB b q] {f : Int → Option R} (h1 : a ≤ 62) (h2 : b ≤ 62) (k : ∀ z, z = ae p q → Sm (a + b + 2) z → f z = Q) : (bd p.1 p.2.1 p.2.2 q.1 q.2.1 q.2.2).bind f = Q := by
 rw [Ul h1 h2]; exact k _ rfl inferInstance
theorem AL {a b : Nat} {p q : Pt} [PtB a p] [PtB b q] {f : Pt → Option R} (h : max a b ≤ 61) (k : ∀ z, z = aq p q → PtB (max a b + 1) z → f z = Q) : (cP p.1 p.2.1 p.2.2 q.1 q.2.1 q.2.2).bind f = Q := by
 rw [Um h]; exact k _ rfl inferInstance
end
theorem aQ {p : Pt} {l : List Pt} : aD (p :: l) = true ↔ bP p = true ∧ aD l = true := by simp [aD]
def Mx (S : List Pt) : Option ((I8 (LA_ × Nat))) :=
 some (aa (wts S).2 0, aa (wts S).2 1, aa (wts S).2 2, aa (wts S).2 3, aa (wts S).2 4, aa (wts S).2 5, aa (wts S).2 6, aa (wts S).2 7, wcs (wts S).1, S.length)
theorem Vn {p q : Pt} (hp : bP p = true) (hq : bP q = true) : iK p.1 p.2.1 p.2.2 q.1 q.2.1 q.2.2 = Mx [p, q] := by
 haveI := PtB.of hp
 haveI := PtB.of hq
 unfold iK
 refine AL (by decide) (fun _ _ _ => ?_)
 refine aS (by decide) (by decide) (fun _ _ _ => ?_)
 refine aS (by decide) (by decide) (fun _ _ _ => ?_)
 refine gF (by decide) (fun _ _ _ => ?_)
 refine eG (by decide) (by decide) (by decide) (fun _ _ _ => ?_)
 subst_vars
 rfl
theorem Vo {p q r : Pt} (hp : bP p = true) (hq : bP q = true) (hr : bP r = true) : iL p.1 p.2.1 p.2.2 q.1 q.2.1 q.2.2 r.1 r.2.1 r.2.2 = Mx [p, q, r] := by
 haveI := PtB.of hp
 haveI := PtB.of hq
 haveI := PtB.of hr
 unfold iL
 refine AL (by decide) (fun _ _ _ => ?_)
 refine AL (by decide) (fun _ _ _ => ?_)
 refine aS (by decide) (by decide) (fun _ _ _ => ?_)
 refine aS (by decide) (by decide) (fun _ _ _ => ?_)
 refine cb (by decide) (by decide) (by decide) (fun _ _ _ => ?_)
 refine aS (by decide) (by decide) (fun _ _ _ => ?_)
 refine aS (by decide) (by decide) (fun _ _ _ => ?_)
 refine cb (by decide) (by decide) (by decide) (fun _ _ _ => ?_)
 refine eG (by decide) (by decide) (by decide) (fun _ _ _ => ?_)
 refine aS (by decide) (by decide) (fun _ _ _ => ?_)
 refine gF (by decide) (fun _ _ _ => ?_)
 refine aS (by decide) (by decide) (fun _ _ _ => ?_)
 refine cb (by decide) (by decide) (by decide) (fun _ _ _ => ?_)
 refine aS (by decide) (by decide) (fun _ _ _ => ?_)
 refine aS (by decide) (by decide) (fun _ _ _ => ?_)
 refine gF (by decide) (fun _ _ _ => ?_)
 refine cb (by decide) (by decide) (by decide) (fun _ _ _ => ?_)
 refine eG (by decide) (by decide) (by decide) (fun _ _ _ => ?_)
 refine eG (by decide) (by decide) (by decide) (fun _ _ _ => ?_)
 refine aS (by decide) (by decide) (fun _ _ _ => ?_)
 refine aS (by decide) (by decide) (fun _ _ _ => ?_)
 refine gF (by decide) (fun _ _ _ => ?_)
 refine cb (by decide) (by decide) (by decide) (fun _ _ _ => ?_)
 refine aS (by decide) (by decide) (fun _ _ _ => ?_)
 refine gF (by decide) (fun _ _ _ => ?_)
 refine aS (by decide) (by decide) (fun _ _ _ => ?_)
 refine cb (by decide) (by decide) (by decide) (fun _ _ _ => ?_)
 refine eG (by decide) (by decide) (by decide) (fun _ _ _ => ?_)
 refine eG (by decide) (by decide) (by decide) (fun _ _ _ => ?_)
 subst_vars
 rfl
theorem Vp {p q r s : Pt} (hp : bP p = true) (hq : bP q = true) (hr : bP r = true) (hs : bP s = true) : iN p.1 p.2.1 p.2.2 q.1 q.2.1 q.2.2 r.1 r.2.1 r.2.2 s.1 s.2.1 s.2.2 = Mx [p, q, r, s] := by
 haveI := PtB.of hp
 haveI := PtB.of hq
 haveI := PtB.of hr
 haveI := PtB.of hs
 unfold iN
 refine AL (by decide) (fun _ _ _ => ?_)
 refine AL (by decide) (fun _ _ _ => ?_)
 refine AL (by decide) (fun _ _ _ => ?_)
 refine aS (by decide) (by decide) (fun _ _ _ => ?_)
 refine aS (by decide) (by decide) (fun _ _ _ => ?_)
 refine aS (by decide) (by decide) (fun _ _ _ => ?_)
 refine cb (by decide) (by decide) (by decide) (fun _ _ _ => ?_)
 refine aS (by decide) (by decide) (fun _ _ _ => ?_)
 refine aS (by decide) (by decide) (fun _ _ _ => ?_)
 refine cb (by decide) (by decide) (by decide) (fun _ _ _ => ?_)
 refine eG (by decide) (by decide) (by decide) (fun _ _ _ => ?_)
 refine cb (by decide) (by decide) (by decide) (fun _ _ _ => ?_)
 refine aS (by decide) (by decide) (fun _ _ _ => ?_)
 refine aS (by decide) (by decide) (fun _ _ _ => ?_)
 refine aS (by decide) (by decide) (fun _ _ _ => ?_)
 refine cb (by decide) (by decide) (by decide) (fun _ _ _ => ?_)
 refine aS (by decide) (by decide) (fun _ _ _ => ?_)
 refine aS (by decide) (by decide) (fun _ _ _ => ?_)
 refine cb (by decide) (by decide) (by decide) (fun _ _ _ => ?_)
 refine eG (by decide) (by decide) (by decide) (fun _ _ _ => ?_)
 refine cb (by decide) (by decide) (by decide) (fun _ _ _ => ?_)
 refine eG (by decide) (by decide) (by decide) (fun _ _ _ => ?_)
 refine aS (by decide) (by decide) (fun _ _ _ => ?_)
 refine aS (by decide) (by decide) (fun _ _ _ => ?_)
 refine aS (by decide) (by decide) (fun _ _ _ => ?_)
 refine cb (by decide) (by decide) (by decide) (fun _ _ _ => ?_)
 refine aS (by decide) (by decide) (fun _ _ _ => ?_)
 refine aS (by decide) (by decide) (fun _ _ _ => ?_)
 refine cb (by decide) (by decide) (by decide) (fun _ _ _ => ?_)
 refine eG (by decide) (by decide) (by decide) (fun _ _ _ => ?_)
 refine cb (by decide) (by decide) (by decide) (fun _ _ _ => ?_)
 refine Ld (by decide) (by decide) (by decide) (fun _ _ _ => ?_)
 refine aS (by decide) (by decide) (fun _ _ _ => ?_)
 refine gF (by decide) (fun _ _ _ => ?_)
 refine aS (by decide) (by decide) (fun _ _ _ => ?_)
 refine aS (by decide) (by decide) (fun _ _ _ => ?_)
 refine cb (by decide) (by decide) (by decide) (fun _ _ _ => ?_)
 refine aS (by decide) (by decide) (fun _ _ _ => ?_)
 refine aS (by decide) (by decide) (fun _ _ _ => ?_)
 refine cb (by decide) (by decide) (by decide) (fun _ _ _ => ?_)
 refine eG (by decide) (by decide) (by decide) (fun _ _ _ => ?_)
 refine cb (by decide) (by decide) (by decide) (fun _ _ _ => ?_)
 refine aS (by decide) (by decide) (fun _ _ _ => ?_)
 refine aS (by decide) (by decide) (fun _ _ _ => ?_)
 refine gF (by decide) (fun _ _ _ => ?_)
 refine aS (by decide) (by decide) (fun _ _ _ => ?_)
 refine cb (by decide) (by decide) (by decide) (fun _ _ _ => ?_)
 refine aS (by decide) (by decide) (fun _ _ _ => ?_)
 refine aS (by decide) (by decide) (fun _ _ _ => ?_)
 refine gF (by decide) (fun _ _ _ => ?_)
 refine cb (by decide) (by decide) (by decide) (fun _ _ _ => ?_)
 refine eG (by decide) (by decide) (by decide) (fun _ _ _ => ?_)
 refine cb (by decide) (by decide) (by decide) (fun _ _ _ => ?_)
 refine eG (by decide) (by decide) (by decide) (fun _ _ _ => ?_)
 refine aS (by decide) (by decide) (fun _ _ _ => ?_)
 refine aS (by decide) (by decide) (fun _ _ _ => ?_)
 refine gF (by decide) (fun _ _ _ => ?_)
 refine aS (by decide) (by decide) (fun _ _ _ => ?_)
 refine cb (by decide) (by decide) (by decide) (fun _ _ _ => ?_)
 refine aS (by decide) (by decide) (fun _ _ _ => ?_)
 refine aS (by decide) (by decide) (fun _ _ _ => ?_)
 refine gF (by decide) (fun _ _ _ => ?_)
 refine cb (by decide) (by decide) (by decide) (fun _ _ _ => ?_)
 refine eG (by decide) (by decide) (by decide) (fun _ _ _ => ?_)
 refine cb (by decide) (by decide) (by decide) (fun _ _ _ => ?_)
 refine Ld (by decide) (by decide) (by decide) (fun _ _ _ => ?_)
 refine eG (by decide) (by decide) (by decide) (fun _ _ _ => ?_)
 refine aS (by decide) (by decide) (fun _ _ _ => ?_)
 refine aS (by decide) (by decide) (fun _ _ _ => ?_)
 refine gF (by decide) (fun _ _ _ => ?_)
 refine aS (by decide) (by decide) (fun _ _ _ => ?_)
 refine cb (by decide) (by decide) (by decide) (fun _ _ _ => ?_)
 refine aS (by decide) (by decide) (fun _ _ _ => ?_)
 refine aS (by decide) (by decide) (fun _ _ _ => ?_)
 refine gF (by decide) (fun _ _ _ => ?_)
 refine cb (by decide) (by decide) (by decide) (fun _ _ _ => ?_)
 refine eG (by decide) (by decide) (by decide) (fun _ _ _ => ?_)
 refine cb (by decide) (by decide) (by decide) (fun _ _ _ => ?_)
 refine aS (by decide) (by decide) (fun _ _ _ => ?_)
 refine gF (by decide) (fun _ _ _ => ?_)
 refine aS (by decide) (by decide) (fun _ _ _ => ?_)
 refine aS (by decide) (by decide) (fun _ _ _ => ?_)
 refine cb (by decide) (by decide) (by decide) (fun _ _ _ => ?_)
 refine aS (by decide) (by decide) (fun _ _ _ => ?_)
 refine aS (by decide) (by decide) (fun _ _ _ => ?_)
 refine cb (by decide) (by decide) (by decide) (fun _ _ _ => ?_)
 refine eG (by decide) (by decide) (by decide) (fun _ _ _ => ?_)
 refine cb (by decide) (by decide) (by decide) (fun _ _ _ => ?_)
 refine eG (by decide) (by decide) (by decide) (fun _ _ _ => ?_)
 refine aS (by decide) (by decide) (fun _ _ _ => ?_)
 refine aS (by decide) (by decide) (fun _ _ _ => ?_)
 refine aS (by decide) (by decide) (fun _ _ _ => ?_)
 refine gF (by decide) (fun _ _ _ => ?_)
 refine cb (by decide) (by decide) (by decide) (fun _ _ _ => ?_)
 refine aS (by decide) (by decide) (fun _ _ _ => ?_)
 refine gF (by decide) (fun _ _ _ => ?_)
 refine aS (by decide) (by decide) (fun _ _ _ => ?_)
 refine cb (by decide) (by decide) (by decide) (fun _ _ _ => ?_)
 refine eG (by decide) (by decide) (by decide) (fun _ _ _ => ?_)
 refine cb (by decide) (by decide) (by decide) (fun _ _ _ => ?_)
 refine Ld (by decide) (by decide) (by decide) (fun _ _ _ => ?_)
 refine eG (by decide) (by decide) (by decide) (fun _ _ _ => ?_)
 refine aS (by decide) (by decide) (fun _ _ _ => ?_)
 refine aS (by decide) (by decide) (fun _ _ _ => ?_)
 refine aS (by decide) (by decide) (fun _ _ _ => ?_)
 refine gF (by decide) (fun _ _ _ => ?_)
 refine cb (by decide) (by decide) (by decide) (fun _ _ _ => ?_)
 refine aS (by decide) (by decide) (fun _ _ _ => ?_)
 refine gF (by decide) (fun _ _ _ => ?_)
 refine aS (by decide) (by decide) (fun _ _ _ => ?_)
 refine cb (by decide) (by decide) (by decide) (fun _ _ _ => ?_)
 refine eG (by decide) (by decide) (by decide) (fun _ _ _ => ?_)
 refine cb (by decide) (by decide) (by decide) (fun _ _ _ => ?_)
 refine aS (by decide) (by decide) (fun _ _ _ => ?_)
 refine aS (by decide) (by decide) (fun _ _ _ => ?_)
 refine aS (by decide) (by decide) (fun _ _ _ => ?_)
 refine gF (by decide) (fun _ _ _ => ?_)
 refine cb (by decide) (by decide) (by decide) (fun _ _ _ => ?_)
 refine aS (by decide) (by decide) (fun _ _ _ => ?_)
 refine gF (by decide) (fun _ _ _ => ?_)
 refine aS (by decide) (by decide) (fun _ _ _ => ?_)
 refine cb (by decide) (by decide) (by decide) (fun _ _ _ => ?_)
 refine eG (by decide) (by decide) (by decide) (fun _ _ _ => ?_)
 refine cb (by decide) (by decide) (by decide) (fun _ _ _ => ?_)
 refine eG (by decide) (by decide) (by decide) (fun _ _ _ => ?_)
 refine aS (by decide) (by decide) (fun _ _ _ => ?_)
 refine gF (by decide) (fun _ _ _ => ?_)
 refine aS (by decide) (by decide) (fun _ _ _ => ?_)
 refine aS (by decide) (by decide) (fun _ _ _ => ?_)
 refine cb (by decide) (by decide) (by decide) (fun _ _ _ => ?_)
 refine aS (by decide) (by decide) (fun _ _ _ => ?_)
 refine aS (by decide) (by decide) (fun _ _ _ => ?_)
 refine cb (by decide) (by decide) (by decide) (fun _ _ _ => ?_)
 refine eG (by decide) (by decide) (by decide) (fun _ _ _ => ?_)
 refine cb (by decide) (by decide) (by decide) (fun _ _ _ => ?_)
 refine Ld (by decide) (by decide) (by decide) (fun _ _ _ => ?_)
 refine eG (by decide) (by decide) (by decide) (fun _ _ _ => ?_)
 subst_vars
 rfl
theorem Le {a b c d e f g h i : Int} (ha : sm 60 a) (hb : sm 60 b) (hc : sm 60 c) (hd : sm 60 d) (he : sm 60 e) (hf : sm 60 f) (hg : sm 60 g) (hh : sm 60 h) (hi : sm 60 i) : sm 186 (m3 a b c d e f g h i) := by
 haveI : Sm 60 a := ⟨ha⟩
 haveI : Sm 60 b := ⟨hb⟩
 haveI : Sm 60 c := ⟨hc⟩
 haveI : Sm 60 d := ⟨hd⟩
 haveI : Sm 60 e := ⟨he⟩
 haveI : Sm 60 f := ⟨hf⟩
 haveI : Sm 60 g := ⟨hg⟩
 haveI : Sm 60 h := ⟨hh⟩
 haveI : Sm 60 i := ⟨hi⟩
 unfold m3
 exact aW Sm.h (by decide)
theorem ND {S : List Pt} (hok : aD S = true) (h1 : 1 ≤ S.length) (h4 : S.length ≤ 4) : sm 190 (wts S).2 ∧ ∀ z ∈ (wts S).1, sm 190 z := by
 match S, h1, h4 with
 | [p], _, _ =>
  refine ⟨by simp only [wts]; unfold sm; omega, fun z hz => ?_⟩
  simp only [wts, List.mem_singleton] at hz
  subst hz; unfold sm; omega
 | [p, q], _, _ =>
  simp only [aQ] at hok
  haveI := PtB.of hok.1
  haveI := PtB.of hok.2.1
  simp only [wts, wt1, List.mem_cons, List.not_mem_nil, or_false, forall_eq_or_imp, forall_eq]
  exact ⟨aW Sm.h (by decide), aW Sm.h (by decide), aW Sm.h (by decide)⟩
 | [p, q, r], _, _ =>
  simp only [aQ] at hok
  haveI := PtB.of hok.1
  haveI := PtB.of hok.2.1
  haveI := PtB.of hok.2.2.1
  simp only [wts, wt2, List.mem_cons, List.not_mem_nil, or_false, forall_eq_or_imp, forall_eq]
  exact ⟨aW Sm.h (by decide), aW Sm.h (by decide), aW Sm.h (by decide), aW Sm.h (by decide)⟩
 | [p, q, r, s], _, _ =>
  simp only [aQ] at hok
  haveI := PtB.of hok.1
  haveI := PtB.of hok.2.1
  haveI := PtB.of hok.2.2.1
  haveI := PtB.of hok.2.2.2.1
  have qq : ∀ {u v : Pt} {i j : Nat}, PtB i u → PtB j v → i ≤ 29 → j ≤ 29 → sm 60 (ae u v) := fun {u v i j} hu hv hi hj => aW (Sm.h (z := ae u v)) (by omega)
  have nn : ∀ {u v : Pt} {i j : Nat}, PtB i u → PtB j v → i ≤ 29 → j ≤ 29 → sm 60 (-ae u v) := fun {u v i j} hu hv hi hj => P1 (qq hu hv hi hj)
  have e1 : PtB 29 (aq q p) := inferInstance
  have e2 : PtB 29 (aq r p) := inferInstance
  have e3 : PtB 29 (aq s p) := inferInstance
  have e0 : PtB 28 p := inferInstance
  have le : (29 : Nat) ≤ 29 := Nat.le_refl _
  have l8 : (28 : Nat) ≤ 29 := by decide
  simp only [wts, wt3, List.mem_cons, List.not_mem_nil, or_false, forall_eq_or_imp, forall_eq]
  have x1 := Le (nn e1 e0 le l8) (qq e1 e2 le le) (qq e1 e3 le le) (nn e2 e0 le l8) (qq e2 e2 le le) (qq e2 e3 le le) (nn e3 e0 le l8) (qq e3 e2 le le) (qq e3 e3 le le)
  have x2 := Le (qq e1 e1 le le) (nn e1 e0 le l8) (qq e1 e3 le le) (qq e2 e1 le le) (nn e2 e0 le l8) (qq e2 e3 le le) (qq e3 e1 le le) (nn e3 e0 le l8) (qq e3 e3 le le)
  have x3 := Le (qq e1 e1 le le) (qq e1 e2 le le) (nn e1 e0 le l8) (qq e2 e1 le le) (qq e2 e2 le le) (nn e2 e0 le l8) (qq e3 e1 le le) (qq e3 e2 le le) (nn e3 e0 le l8)
  have x0 := Le (qq e1 e1 le le) (qq e1 e2 le le) (qq e1 e3 le le) (qq e2 e1 le le) (qq e2 e2 le le) (qq e2 e3 le le) (qq e3 e1 le le) (qq e3 e2 le le) (qq e3 e3 le le)
  exact ⟨aW x0 (by decide), aW (gS (gS (gS x0 x1) (aW x2 (by decide))) (aW x3 (by decide))) (by decide), aW x1 (by decide), aW x2 (by decide), aW x3 (by decide)⟩
 | _ :: _ :: _ :: _ :: _ :: _, _, h => simp at h
theorem P4 {S : List Pt} (hok : aD S = true) (h1 : 1 ≤ S.length) (h4 : S.length ≤ 4) : dr (pcs S) S.length = some ((wts S).2, wcs (wts S).1, S.length) := by
 have hf := (ND hok h1 h4).1
 have fin : gQ (pcs S) S.length = Mx S → dr (pcs S) S.length = some ((wts S).2, wcs (wts S).1, S.length) := by
  intro e
  unfold dr
  rw [e]
  simp only [Mx, Option.bind_some, bv, aA]
  rw [aG (aY hf (by decide))]
 apply fin
 match S, h1, h4 with
 | [p], _, _ => rfl
 | [p, q], _, _ =>
  simp only [aQ] at hok
  exact Vn hok.1 hok.2.1
 | [p, q, r], _, _ =>
  simp only [aQ] at hok
  exact Vo hok.1 hok.2.1 hok.2.2.1
 | [p, q, r, s], _, _ =>
  simp only [aQ] at hok
  exact Vp hok.1 hok.2.1 hok.2.2.1 hok.2.2.2.1
 | _ :: _ :: _ :: _ :: _ :: _, _, h => simp at h
end Go.Ev
namespace Go.Ev
open Go.Proofs
def C2 : CH := (CH.add 79 HX CH.none)
theorem zA : aE Tryz.prog C2 := (CH.aj J6 CH.aC)
def iA (a0 a1 a2 a3 a4 a5 a6 a7 a8 a9 a10 a11 a12 a13 a14 a15 : Int) : Option (Int × Int × Int × Int × Int × Int × Int × Int) :=
 (Option.bind (v4 a0 a1 a2 a3 a4 a5 a6 a7 a8 a9 a10 a11 a12 a13 a14 a15) fun r1 => (some ((aa r1.1 0), (aa r1.1 1), (aa r1.1 2), (aa r1.1 3), (aa r1.1 4), (aa r1.1 5), (aa r1.1 6), (aa r1.1 7))))
def cX : FD where
 X := Int × Int × Int × Int × Int × Int × Int × Int
 k := 1
 pre := []
 F := fun s => [0]
 M := .agg (rl (.int .u64) 8 [])
 B := []
 toL := fun x => [.I x.1, .I x.2.1, .I x.2.2.1, .I x.2.2.2.1, .I x.s4.1, .I x.s4.2.1, .I x.s4.2.2.1, .I x.s4.2.2.2]
 ofL := fun ls => match ls with
  | [.I x0, .I x1, .I x2, .I x3, .I x4, .I x5, .I x6, .I x7] => some (x0, x1, x2, x3, x4, x5, x6, x7)
  | _ => none
 au := fun ls x h => by
  split at h
  ·cases h; rfl
  ·cases h
theorem Br (a0 a1 a2 a3 a4 a5 a6 a7 a8 a9 a10 a11 a12 a13 a14 a15 : Int) (x : Int × Int × Int × Int × Int × Int × Int × Int) (h : iA a0 a1 a2 a3 a4 a5 a6 a7 a8 a9 a10 a11 a12 a13 a14 a15 = some x) : aX Tryz.prog 80 1 [.agg (v8 a0 a1 a2 a3 a4 a5 a6 a7 []), .ptr 0 0] [.cells (v8 a8 a9 a10 a11 a12 a13 a14 a15 []) false none] cX x :=
 FD.semA cX zA Tryz.func80 (fuel := 60) (by kernel_rfl) (by kernel_rfl)
  (by kernel_rfl) (Eq.trans (by kernel_rfl) h)
def bH (a0 a1 a2 a3 a4 a5 a6 a7 a8 a9 a10 a11 a12 a13 a14 a15 : Int) : Option (Int) := Option.bind (iA a0 a1 a2 a3 a4 a5 a6 a7 a8 a9 a10 a11 a12 a13 a14 a15) fun (x0, x1, x2, x3, x4, x5, x6, x7) => ag (ok8 x0 x1 x2 x3 x4 x5 x6 x7) (some (num x0 x1 x2 x3 x4 x5 x6 x7))
def mW : FD := ⟨Int, cX.k, cX.pre, cX.F, cX.M, cX.B, fun y => cX.toL ((aa y 0), (aa y 1), (aa y 2), (aa y 3), (aa y 4), (aa y 5), (aa y 6), (aa y 7)), fun _ => none, fun _ _ h => by cases h⟩
theorem C3 (a0 a1 a2 a3 a4 a5 a6 a7 a8 a9 a10 a11 a12 a13 a14 a15 : Int) {y : Int} (h : bH a0 a1 a2 a3 a4 a5 a6 a7 a8 a9 a10 a11 a12 a13 a14 a15 = some y) : iA a0 a1 a2 a3 a4 a5 a6 a7 a8 a9 a10 a11 a12 a13 a14 a15 = some ((aa y 0), (aa y 1), (aa y 2), (aa y 3), (aa y 4), (aa y 5), (aa y 6), (aa y 7)) := by
 unfold bH at h
 obtain ⟨⟨x0, x1, x2, x3, x4, x5, x6, x7⟩, h1, h2⟩ := bE_ h
 obtain ⟨h3, h4⟩ := aM h2
 skip
 simp only [Option.some.injEq] at h4
 subst h4
 have o0 := h3
 have q0 := aR o0
 rw [h1]
 simp only [q0]
theorem Bs (a0 a1 a2 a3 a4 a5 a6 a7 a8 a9 a10 a11 a12 a13 a14 a15 y : Int) (h : bH a0 a1 a2 a3 a4 a5 a6 a7 a8 a9 a10 a11 a12 a13 a14 a15 = some y) : aX Tryz.prog 80 1 [.agg (v8 a0 a1 a2 a3 a4 a5 a6 a7 []), .ptr 0 0] [.cells (v8 a8 a9 a10 a11 a12 a13 a14 a15 []) false none] mW y := Br a0 a1 a2 a3 a4 a5 a6 a7 a8 a9 a10 a11 a12 a13 a14 a15 _ (C3 a0 a1 a2 a3 a4 a5 a6 a7 a8 a9 a10 a11 a12 a13 a14 a15 h)
def pM (z0 z8 : Int) : Option (Int) := bH (aa z0 0) (aa z0 1) (aa z0 2) (aa z0 3) (aa z0 4) (aa z0 5) (aa z0 6) (aa z0 7) (aa z8 0) (aa z8 1) (aa z8 2) (aa z8 3) (aa z8 4) (aa z8 5) (aa z8 6) (aa z8 7)
def pK : HK where
 call := fun args σ k => match args with
  | [.agg [.int .u64 a0, .int .u64 a1, .int .u64 a2, .int .u64 a3, .int .u64 a4, .int .u64 a5, .int .u64 a6, .int .u64 a7], .ptr b0 0] => match σ.get b0 with | some (.vec cb0 _ _ _) => (ag (an di cb0 0 && Nat.beq (List.length cb0) 8) (Option.bind (bH a0 a1 a2 a3 a4 a5 a6 a7 (ac cb0 0) (ac cb0 1) (ac cb0 2) (ac cb0 3) (ac cb0 4) (ac cb0 5) (ac cb0 6) (ac cb0 7)) fun y => az σ 1 (mW.val y) (mW.aN y) k)) | _ => none
  | _ => none
 nat := fun args σ k => by
  repeat' split
  all_goals simp only [aw, ax, Option.bind_assoc, Option.bind_none, az, Option.bind_some]
 pure := false
 pok := fun h => by cases h
theorem CW : aT Tryz.prog 80 pK := by
 intro args σ r σ' h
 simp only [pK] at h
 split at h
 ·rename_i a0 a1 a2 a3 a4 a5 a6 a7 b0
  split at h
  ·rename_i cb0 nn0 zz0 own0 hb0
   obtain ⟨hq0, h⟩ := aM h
   obtain ⟨y, hy, h⟩ := bE_ h
   exact lifted (xs := [.ptr b0 0]) (ls := [.cells (v8 (ac cb0 0) (ac cb0 1) (ac cb0 2) (ac cb0 3) (ac cb0 4) (ac cb0 5) (ac cb0 6) (ac cb0 7) []) false none]) (cargs := [.agg (v8 a0 a1 a2 a3 a4 a5 a6 a7 []), .ptr 0 0]) (bt.of ⟨⟨rfl, rfl, by simp, rfl, b0, 0, rfl, Sn (ks := [.int .u64, .int .u64, .int .u64, .int .u64, .int .u64, .int .u64, .int .u64, .int .u64]) hb0 hq0 (by simp)⟩, trivial⟩) rfl (Bs a0 a1 a2 a3 a4 a5 a6 a7 (ac cb0 0) (ac cb0 1) (ac cb0 2) (ac cb0 3) (ac cb0 4) (ac cb0 5) (ac cb0 6) (ac cb0 7) y hy) rfl rfl rfl rfl h
  ·cases h
 ·cases h
abbrev eZ := LA_ × Nat × LA_ × Nat × Nat × Nat × Int × Int × Int × Int × Int × Int × Int × Int × Int × Int × Int × Int × Int × Int × Int × Int × Int × Int × Int × Int × Int × Int × Int × Int × Int
abbrev xf := (I8 (I8 (I8 (Int × Int × Int × Int × Int × Int × Int × Int))))
abbrev fa := LA_ × Nat × LA_ × Nat × Nat × Int × Int × Int × Int × Int × Int × Int × Int × Int × Int × Int × Int × Int × Int × Int × Int × Int × Int × Int × Int × Int × Int × Int × Int
abbrev fb := LA_ × Nat × LA_ × Nat × Nat × LA_ × Nat × Int
def iz : CH := (CH.add 80 pK (CH.add 79 HX (CH.add 78 Dz (CH.add 66 tb (CH.add 56 Dr (CH.add 26 Ak (CH.add 19 Jk CH.none)))))))
theorem iJ : aE Tryz.prog iz := (CH.aj CW (CH.aj J6 (CH.aj DA (CH.aj ra (CH.aj Ds (CH.aj yD (CH.aj EI CH.aC)))))))
def d9 {R : Type} (cc : fb) (v : LA_ × Int) (kn : (LA_ × Int) → Option R) (ke : ((LA_)) → Option R) : Option R :=
 (cond (decide (v.2 < cc.2.2.2.2.2.2.2)) (ag (decide (0 ≤ v.2) && decide (v.2 < ((cc.2.2.2.2.2.2.1 : Nat) : Int))) (ag (an ln cc.2.2.2.2.2.1 (Int.toNat v.2 * 3)) (ag (an di v.1 0) (ag (decide (0 ≤ v.2) && decide (v.2 < ((cc.2.1 : Nat) : Int))) (ag (an di cc.1 (Int.toNat v.2 * 8)) (Option.bind (cOf (ac cc.2.2.2.2.2.1 ((Int.toNat v.2 * 3) + 0))) fun r1 => (Option.bind (jP (ac cc.1 ((Int.toNat v.2 * 8) + 0)) (ac cc.1 ((Int.toNat v.2 * 8) + 1)) (ac cc.1 ((Int.toNat v.2 * 8) + 2)) (ac cc.1 ((Int.toNat v.2 * 8) + 3)) (ac cc.1 ((Int.toNat v.2 * 8) + 4)) (ac cc.1 ((Int.toNat v.2 * 8) + 5)) (ac cc.1 ((Int.toNat v.2 * 8) + 6)) (ac cc.1 ((Int.toNat v.2 * 8) + 7)) (aa r1 0) (aa r1 1) (aa r1 2) (aa r1 3) (aa r1 4) (aa r1 5) (aa r1 6) (aa r1 7)) fun r2 => (Option.bind (pn (ac v.1 0) (ac v.1 1) (ac v.1 2) (ac v.1 3) (ac v.1 4) (ac v.1 5) (ac v.1 6) (ac v.1 7) (aa r2 0) (aa r2 1) (aa r2 2) (aa r2 3) (aa r2 4) (aa r2 5) (aa r2 6) (aa r2 7)) fun r3 => (ag (decide (0 + 8 ≤ List.length v.1)) (ag (an di (spliced v.1 0 (v8 (aa r3 0) (aa r3 1) (aa r3 2) (aa r3 3) (aa r3 4) (aa r3 5) (aa r3 6) (aa r3 7) [])) 8) (ag (decide (0 ≤ v.2) && decide (v.2 < ((cc.2.1 : Nat) : Int))) (ag (an di cc.1 (Int.toNat v.2 * 8)) (Option.bind (cOf (ac cc.2.2.2.2.2.1 ((Int.toNat v.2 * 3) + 1))) fun r4 => (Option.bind (jP (ac cc.1 ((Int.toNat v.2 * 8) + 0)) (ac cc.1 ((Int.toNat v.2 * 8) + 1)) (ac cc.1 ((Int.toNat v.2 * 8) + 2)) (ac cc.1 ((Int.toNat v.2 * 8) + 3)) (ac cc.1 ((Int.toNat v.2 * 8) + 4)) (ac cc.1 ((Int.toNat v.2 * 8) + 5)) (ac cc.1 ((Int.toNat v.2 * 8) + 6)) (ac cc.1 ((Int.toNat v.2 * 8) + 7)) (aa r4 0) (aa r4 1) (aa r4 2) (aa r4 3) (aa r4 4) (aa r4 5) (aa r4 6) (aa r4 7)) fun r5 => (Option.bind (pn (ac (spliced v.1 0 (v8 (aa r3 0) (aa r3 1) (aa r3 2) (aa r3 3) (aa r3 4) (aa r3 5) (aa r3 6) (aa r3 7) [])) 8) (ac (spliced v.1 0 (v8 (aa r3 0) (aa r3 1) (aa r3 2) (aa r3 3) (aa r3 4) (aa r3 5) (aa r3 6) (aa r3 7) [])) 9) (ac (spliced v.1 0 (v8 (aa r3 0) (aa r3 1) (aa r3 2) (aa r3 3) (aa r3 4) (aa r3 5) (aa r3 6) (aa r3 7) [])) 10) (ac (spliced v.1 0 (v8 (aa r3 0) (aa r3 1) (aa r3 2) (aa r3 3) (aa r3 4) (aa r3 5) (aa r3 6) (aa r3 7) [])) 11) (ac (spliced v.1 0 (v8 (aa r3 0) (aa r3 1) (aa r3 2) (aa r3 3) (aa r3 4) (aa r3 5) (aa r3 6) (aa r3 7) [])) 12) (ac (spliced v.1 0 (v8 (aa r3 0) (aa r3 1) (aa r3 2) (aa r3 3) (aa r3 4) (aa r3 5) (aa r3 6) (aa r3 7) [])) 13) (ac (spliced v.1 0 (v8 (aa r3 0) (aa r3 1) (aa r3 2) (aa r3 3) (aa r3 4) (aa r3 5) (aa r3 6) (aa r3 7) [])) 14) (ac (spliced v.1 0 (v8 (aa r3 0) (aa r3 1) (aa r3 2) (aa r3 3) (aa r3 4) (aa r3 5) (aa r3 6) (aa r3 7) [])) 15) (aa r5 0) (aa r5 1) (aa r5 2) (aa r5 3) (aa r5 4) (aa r5 5) (aa r5 6) (aa r5 7)) fun r6 => (ag (decide (8 + 8 ≤ List.length (spliced v.1 0 (v8 (aa r3 0) (aa r3 1) (aa r3 2) (aa r3 3) (aa r3 4) (aa r3 5) (aa r3 6) (aa r3 7) [])))) (ag (an di (spliced (spliced v.1 0 (v8 (aa r3 0) (aa r3 1) (aa r3 2) (aa r3 3) (aa r3 4) (aa r3 5) (aa r3 6) (aa r3 7) [])) 8 (v8 (aa r6 0) (aa r6 1) (aa r6 2) (aa r6 3) (aa r6 4) (aa r6 5) (aa r6 6) (aa r6 7) [])) 16) (ag (decide (0 ≤ v.2) && decide (v.2 < ((cc.2.1 : Nat) : Int))) (ag (an di cc.1 (Int.toNat v.2 * 8)) (Option.bind (cOf (ac cc.2.2.2.2.2.1 ((Int.toNat v.2 * 3) + 2))) fun r7 => (Option.bind (jP (ac cc.1 ((Int.toNat v.2 * 8) + 0)) (ac cc.1 ((Int.toNat v.2 * 8) + 1)) (ac cc.1 ((Int.toNat v.2 * 8) + 2)) (ac cc.1 ((Int.toNat v.2 * 8) + 3)) (ac cc.1 ((Int.toNat v.2 * 8) + 4)) (ac cc.1 ((Int.toNat v.2 * 8) + 5)) (ac cc.1 ((Int.toNat v.2 * 8) + 6)) (ac cc.1 ((Int.toNat v.2 * 8) + 7)) (aa r7 0) (aa r7 1) (aa r7 2) (aa r7 3) (aa r7 4) (aa r7 5) (aa r7 6) (aa r7 7)) fun r8 => (Option.bind (pn (ac (spliced (spliced v.1 0 (v8 (aa r3 0) (aa r3 1) (aa r3 2) (aa r3 3) (aa r3 4) (aa r3 5) (aa r3 6) (aa r3 7) [])) 8 (v8 (aa r6 0) (aa r6 1) (aa r6 2) (aa r6 3) (aa r6 4) (aa r6 5) (aa r6 6) (aa r6 7) [])) 16) (ac (spliced (spliced v.1 0 (v8 (aa r3 0) (aa r3 1) (aa r3 2) (aa r3 3) (aa r3 4) (aa r3 5) (aa r3 6) (aa r3 7) [])) 8 (v8 (aa r6 0) (aa r6 1) (aa r6 2) (aa r6 3) (aa r6 4) (aa r6 5) (aa r6 6) (aa r6 7) [])) 17) (ac (spliced (spliced v.1 0 (v8 (aa r3 0) (aa r3 1) (aa r3 2) (aa r3 3) (aa r3 4) (aa r3 5) (aa r3 6) (aa r3 7) [])) 8 (v8 (aa r6 0) (aa r6 1) (aa r6 2) (aa r6 3) (aa r6 4) (aa r6 5) (aa r6 6) (aa r6 7) [])) 18) (ac (spliced (spliced v.1 0 (v8 (aa r3 0) (aa r3 1) (aa r3 2) (aa r3 3) (aa r3 4) (aa r3 5) (aa r3 6) (aa r3 7) [])) 8 (v8 (aa r6 0) (aa r6 1) (aa r6 2) (aa r6 3) (aa r6 4) (aa r6 5) (aa r6 6) (aa r6 7) [])) 19) (ac (spliced (spliced v.1 0 (v8 (aa r3 0) (aa r3 1) (aa r3 2) (aa r3 3) (aa r3 4) (aa r3 5) (aa r3 6) (aa r3 7) [])) 8 (v8 (aa r6 0) (aa r6 1) (aa r6 2) (aa r6 3) (aa r6 4) (aa r6 5) (aa r6 6) (aa r6 7) [])) 20) (ac (spliced (spliced v.1 0 (v8 (aa r3 0) (aa r3 1) (aa r3 2) (aa r3 3) (aa r3 4) (aa r3 5) (aa r3 6) (aa r3 7) [])) 8 (v8 (aa r6 0) (aa r6 1) (aa r6 2) (aa r6 3) (aa r6 4) (aa r6 5) (aa r6 6) (aa r6 7) [])) 21) (ac (spliced (spliced v.1 0 (v8 (aa r3 0) (aa r3 1) (aa r3 2) (aa r3 3) (aa r3 4) (aa r3 5) (aa r3 6) (aa r3 7) [])) 8 (v8 (aa r6 0) (aa r6 1) (aa r6 2) (aa r6 3) (aa r6 4) (aa r6 5) (aa r6 6) (aa r6 7) [])) 22) (ac (spliced (spliced v.1 0 (v8 (aa r3 0) (aa r3 1) (aa r3 2) (aa r3 3) (aa r3 4) (aa r3 5) (aa r3 6) (aa r3 7) [])) 8 (v8 (aa r6 0) (aa r6 1) (aa r6 2) (aa r6 3) (aa r6 4) (aa r6 5) (aa r6 6) (aa r6 7) [])) 23) (aa r8 0) (aa r8 1) (aa r8 2) (aa r8 3) (aa r8 4) (aa r8 5) (aa r8 6) (aa r8 7)) fun r9 => (ag (decide (16 + 8 ≤ List.length (spliced (spliced v.1 0 (v8 (aa r3 0) (aa r3 1) (aa r3 2) (aa r3 3) (aa r3 4) (aa r3 5) (aa r3 6) (aa r3 7) [])) 8 (v8 (aa r6 0) (aa r6 1) (aa r6 2) (aa r6 3) (aa r6 4) (aa r6 5) (aa r6 6) (aa r6 7) [])))) (kn ((spliced (spliced (spliced v.1 0 (v8 (aa r3 0) (aa r3 1) (aa r3 2) (aa r3 3) (aa r3 4) (aa r3 5) (aa r3 6) (aa r3 7) [])) 8 (v8 (aa r6 0) (aa r6 1) (aa r6 2) (aa r6 3) (aa r6 4) (aa r6 5) (aa r6 6) (aa r6 7) [])) 16 (v8 (aa r9 0) (aa r9 1) (aa r9 2) (aa r9 3) (aa r9 4) (aa r9 5) (aa r9 6) (aa r9 7) [])), (IntKind.wrap .i64 (v.2 + 1))))))))))))))))))))))))))) (ke v.1))
def gO (cc : fb) (v : LA_ × Int) : Option ((LA_ × Int) ⊕ ((LA_))) := d9 cc v (fun v => some (Sum.inl v)) fun e => some (Sum.inr e)
def pL (cc : fb) (v : LA_ × Int) : Option ((LA_)) := dA (gO cc) v
def CX (cc : fb) (v : LA_ × Int) : List ai := [.I cc.s4.2.2.2, .I v.2, .C cc.1, .N cc.2.1, .C cc.2.2.1, .N cc.2.2.2.1, .C v.1, .N cc.s4.1, .C cc.s4.2.1, .N cc.s4.2.2.1]
def sH (ls : List ai) : Option ((fb) × (LA_ × Int)) := match ls with
 | [.I x0, .I x1, .C x2, .N x3, .C x4, .N x5, .C x6, .N x7, .C x8, .N x9] => some ((x2, x3, x4, x5, x7, x8, x9, x0), (x6, x1))
 | _ => none
def sI (e : (LA_)) : am := ((fun e => .exit 0) e)
def sJ (cc : fb) (e : (LA_)) : List ai := ((fun e => [.C cc.2.2.1, .N cc.2.2.2.1, .C e, .N cc.s4.1]) e)
def kX (cc : fb) (e : (LA_)) : List ai := ((fun e => [.C cc.2.2.1, .N cc.2.2.2.1, .N cc.s4.1]) e)
def l9 (o : am) (ls : List ai) : Option (((LA_)) × List ai) := match o with
 | .exit 0 => (match ls with
  | [.C x0, .N x1, .C x2, .N x3] => some (x2, [.C x0, .N x1, .N x3])
  | _ => none)
 | _ => none
theorem zy : ∀ o ls e cl cc, l9 o ls = some (e, cl) → cl = kX cc e → ls = sJ cc e ∧ sI e = o ∧ o ≠ .normal ∧ ∀ v, o = .pan v → sc 0 v = true := by
 intro o ls e cl cc h hc
 unfold l9 at h
 split at h
 ·split at h
  ·cases h
   simp only [kX, List.cons.injEq, ai.N.injEq, ai.C.injEq, and_true] at hc
   obtain ⟨rfl, rfl, rfl⟩ := hc
   exact ⟨rfl, rfl, by simp, by intro v hv; cases hv <;> rfl⟩
  ·cases h
 ·cases h
def DB (o : am) : ExS := match o with
 | .exit 0 => ⟨5, (rl none 5 (some (.ptr 2 0) :: some (.ptr 3 0) :: some (.ptr 4 0) :: (rl none 88 []))), [(2, .vec 8 true), (3, .cells (rl (.fG .u64 0) 32 [.aO]) true none), (4, .vec 24 true)], fun s => [0, 1, nameAt s 5 [], nameAt s 6 [], nameAt s 7 []], [], []⟩
 | _ => ⟨0, [], [], fun _ => [], [], []⟩
theorem CY {R : Type} (cc : fb) (v : LA_ × Int) (kn : (LA_ × Int) → Option R) (ke : ((LA_)) → Option R) : d9 cc v kn ke = (d9 cc v (fun v => some (Sum.inl v)) fun e => some (Sum.inr e)).bind (Sum.elim kn ke) := by
 simp only [d9, bF, ax, Option.bind_assoc, bY, bB, Option.bind_some, Option.bind_none, Sum.elim_inl, Sum.elim_inr]
def vC : LD where
 CC := fb
 V := LA_ × Int
 E := (LA_)
 n := 2
 K := 5
 M := (none :: some (.vec 1) :: none :: none :: none :: some (.ptr 2 0) :: some (.ptr 3 0) :: some (.ptr 4 0) :: (rl none 11 (some (.vec 0) :: some (.int .i64) :: some (.int .i64) :: (rl none 74 []))))
 B := [(1, .vec 8 false), (2, .vec 8 true), (3, .cells (rl (.fG .u64 0) 32 [.aO]) true none), (4, .vec 24 true), (0, .vec 3 false)]
 D := []
 pre := []
 F := fun s => [0, 1, nameAt s 5 [], nameAt s 6 [], nameAt s 7 []]
 toL := CX
 ofL := sH
 au := fun ls c v h => by
  unfold sH at h
  split at h
  ·cases h; rfl
  ·cases h
 cj := d9
 nat := CY
 sh := DB
 out := sI
 toE := sJ
 eV := kX
 ofE := l9
 cO := zy
 post := fun cc e k => ((fun e => k (.exit 0) (aV 5 (rl none 5 (some (.ptr 2 0) :: some (.ptr 3 0) :: some (.ptr 4 0) :: (rl none 88 []))) [(2, .vec cc.2.2.1 cc.2.2.2.1 8 true), (3, .cells (rl (.int .u64 0) 32 [.aO]) true none), (4, .vec e cc.s4.1 24 true)] [])) e)
 cd := fun cc e k => by rfl
theorem CZ : cG Tryz.prog 2 vC.la (aK Tryz.f57 0) :=
 LD.ok (ch := iz) (A := bu) aL iJ mixed (fuel := 60) ⟨by kernel_rfl, fun e => by kernel_rfl, fun cc v => by kernel_rfl, aJ (l := [aK Tryz.f57 1]) (by kernel_rfl) ⟨(eH (by kernel_rfl)), trivial⟩⟩
def dH {R : Type} (cc : eZ) (v : LA_ × LA_) (kn : (LA_ × LA_) → Option R) (ke : ((LA_)) → Option R) : Option R :=
 (ag (an di v.2 0) (cond (!((ac v.2 0) == 0 && ((ac v.2 1) == 0 && ((ac v.2 2) == 0 && ((ac v.2 3) == 0 && ((ac v.2 4) == 0 && ((ac v.2 5) == 0 && ((ac v.2 6) == 0 && ((ac v.2 7) == 0 && true))))))))) (ag (an di v.1 0) (ag (an di v.2 0) (Option.bind (v4 (ac v.1 0) (ac v.1 1) (ac v.1 2) (ac v.1 3) (ac v.1 4) (ac v.1 5) (ac v.1 6) (ac v.1 7) (ac v.2 0) (ac v.2 1) (ac v.2 2) (ac v.2 3) (ac v.2 4) (ac v.2 5) (ac v.2 6) (ac v.2 7)) fun r14 => (ag (an di v.2 0) (ag (decide (0 + 8 ≤ List.length v.1)) (ag (decide (0 + 8 ≤ List.length v.2)) (kn ((spliced v.1 0 (v8 (ac v.2 0) (ac v.2 1) (ac v.2 2) (ac v.2 3) (ac v.2 4) (ac v.2 5) (ac v.2 6) (ac v.2 7) [])), (spliced v.2 0 (v8 (aa r14.2 0) (aa r14.2 1) (aa r14.2 2) (aa r14.2 3) (aa r14.2 4) (aa r14.2 5) (aa r14.2 6) (aa r14.2 7) [])))))))))) (ke v.1)))
def eN (cc : eZ) (v : LA_ × LA_) : Option ((LA_ × LA_) ⊕ ((LA_))) := dH cc v (fun v => some (Sum.inl v)) fun e => some (Sum.inr e)
def gP (cc : eZ) (v : LA_ × LA_) : Option ((LA_)) := dA (eN cc) v
def Bm (cc : eZ) (v : LA_ × LA_) : List ai := [.I cc.s4.2.2.1, .I cc.s4.2.2.2.1, .I cc.s8.1, .I cc.s8.2.1, .I cc.s8.2.2.1, .I cc.s8.2.2.2.1, .I cc.s8.s4.1, .I cc.s8.s4.2.1, .I cc.s8.s4.2.2.1, .I cc.s8.s4.2.2.2.1, .I cc.s16.1, .I cc.s16.2.1, .I cc.s16.2.2.1, .I cc.s16.2.2.2.1, .I cc.s16.s4.1, .I cc.s16.s4.2.1, .I cc.s16.s4.2.2.1, .I cc.s16.s4.2.2.2.1, .I cc.s16.s8.1, .I cc.s16.s8.2.1, .I cc.s16.s8.2.2.1, .I cc.s16.s8.2.2.2.1, .I cc.s16.s8.s4.1, .I cc.s16.s8.s4.2.1, .I cc.s16.s8.s4.2.2, .C cc.1, .N cc.2.1, .C cc.2.2.1, .N cc.2.2.2.1, .C v.1, .N cc.s4.1, .C v.2, .N cc.s4.2.1]
def rb (ls : List ai) : Option ((eZ) × (LA_ × LA_)) := match ls with
 | (.I x0 :: .I x1 :: .I x2 :: .I x3 :: .I x4 :: .I x5 :: .I x6 :: .I x7 :: .I x8 :: .I x9 :: .I x10 :: .I x11 :: .I x12 :: .I x13 :: .I x14 :: .I x15 :: .I x16 :: .I x17 :: .I x18 :: .I x19 :: .I x20 :: .I x21 :: .I x22 :: .I x23 :: .I x24 :: .C x25 :: .N x26 :: .C x27 :: .N x28 :: .C x29 :: .N x30 :: .C x31 :: .N x32 :: []) => some ((x25, x26, x27, x28, x30, x32, x0, x1, x2, x3, x4, x5, x6, x7, x8, x9, x10, x11, x12, x13, x14, x15, x16, x17, x18, x19, x20, x21, x22, x23, x24), (x29, x31))
 | _ => none
def rc (e : (LA_)) : am := ((fun e => .exit 6) e)
def re (cc : eZ) (e : (LA_)) : List ai := ((fun e => [.I cc.s4.2.2.1, .I cc.s4.2.2.2.1, .I cc.s8.1, .I cc.s8.2.1, .I cc.s8.2.2.1, .I cc.s8.2.2.2.1, .I cc.s8.s4.1, .I cc.s8.s4.2.1, .I cc.s8.s4.2.2.1, .I cc.s8.s4.2.2.2.1, .I cc.s16.1, .I cc.s16.2.1, .I cc.s16.2.2.1, .I cc.s16.2.2.2.1, .I cc.s16.s4.1, .I cc.s16.s4.2.1, .I cc.s16.s4.2.2.1, .I cc.s16.s4.2.2.2.1, .I cc.s16.s8.1, .I cc.s16.s8.2.1, .I cc.s16.s8.2.2.1, .I cc.s16.s8.2.2.2.1, .I cc.s16.s8.s4.1, .I cc.s16.s8.s4.2.1, .I cc.s16.s8.s4.2.2, .C cc.1, .N cc.2.1, .C cc.2.2.1, .N cc.2.2.2.1, .C e, .N cc.s4.1]) e)
def kf (cc : eZ) (e : (LA_)) : List ai := ((fun e => [.I cc.s4.2.2.1, .I cc.s4.2.2.2.1, .I cc.s8.1, .I cc.s8.2.1, .I cc.s8.2.2.1, .I cc.s8.2.2.2.1, .I cc.s8.s4.1, .I cc.s8.s4.2.1, .I cc.s8.s4.2.2.1, .I cc.s8.s4.2.2.2.1, .I cc.s16.1, .I cc.s16.2.1, .I cc.s16.2.2.1, .I cc.s16.2.2.2.1, .I cc.s16.s4.1, .I cc.s16.s4.2.1, .I cc.s16.s4.2.2.1, .I cc.s16.s4.2.2.2.1, .I cc.s16.s8.1, .I cc.s16.s8.2.1, .I cc.s16.s8.2.2.1, .I cc.s16.s8.2.2.2.1, .I cc.s16.s8.s4.1, .I cc.s16.s8.s4.2.1, .I cc.s16.s8.s4.2.2, .C cc.1, .N cc.2.1, .C cc.2.2.1, .N cc.2.2.2.1, .N cc.s4.1]) e)
def kY (o : am) (ls : List ai) : Option (((LA_)) × List ai) := match o with
 | .exit 6 => (match ls with
  | [.I x0, .I x1, .I x2, .I x3, .I x4, .I x5, .I x6, .I x7, .I x8, .I x9, .I x10, .I x11, .I x12, .I x13, .I x14, .I x15, .I x16, .I x17, .I x18, .I x19, .I x20, .I x21, .I x22, .I x23, .I x24, .C x25, .N x26, .C x27, .N x28, .C x29, .N x30] => some (x29, [.I x0, .I x1, .I x2, .I x3, .I x4, .I x5, .I x6, .I x7, .I x8, .I x9, .I x10, .I x11, .I x12, .I x13, .I x14, .I x15, .I x16, .I x17, .I x18, .I x19, .I x20, .I x21, .I x22, .I x23, .I x24, .C x25, .N x26, .C x27, .N x28, .N x30])
  | _ => none)
 | _ => none
theorem yh : ∀ o ls e cl cc, kY o ls = some (e, cl) → cl = kf cc e → ls = re cc e ∧ rc e = o ∧ o ≠ .normal ∧ ∀ v, o = .pan v → sc 0 v = true := by
 intro o ls e cl cc h hc
 unfold kY at h
 split at h
 ·split at h
  ·cases h
   simp only [kf, List.cons.injEq, ai.I.injEq, ai.N.injEq, ai.C.injEq, and_true] at hc
   obtain ⟨rfl, rfl, rfl, rfl, rfl, rfl, rfl, rfl, rfl, rfl, rfl, rfl, rfl, rfl, rfl, rfl, rfl, rfl, rfl, rfl, rfl, rfl, rfl, rfl, rfl, rfl, rfl, rfl, rfl, rfl⟩ := hc
   exact ⟨rfl, rfl, by simp, by intro v hv; cases hv <;> rfl⟩
  ·cases h
 ·cases h
def C0 (o : am) : ExS := match o with
 | .exit 6 => ⟨6, (rl none 5 (some (.ptr 2 0) :: some (.ptr 3 0) :: some (.ptr 4 0) :: none :: none :: none :: none :: some (.ptr 5 0) :: (rl none 40 (some (.agg (rl (.int .u64) 24 [])) :: some (.int .i64) :: (rl none 41 []))))), [(2, .vec 8 true), (3, .cells (rl (.fG .u64 0) 32 [.aO]) true none), (4, .vec 24 true), (5, .vec 8 true)], fun s => [0, 1, nameAt s 5 [], nameAt s 6 [], nameAt s 7 [], nameAt s 12 []], [], []⟩
 | _ => ⟨0, [], [], fun _ => [], [], []⟩
theorem Bn {R : Type} (cc : eZ) (v : LA_ × LA_) (kn : (LA_ × LA_) → Option R) (ke : ((LA_)) → Option R) : dH cc v kn ke = (dH cc v (fun v => some (Sum.inl v)) fun e => some (Sum.inr e)).bind (Sum.elim kn ke) := by
 simp only [dH, bF, ax, Option.bind_assoc, bY, bB, Option.bind_some, Option.bind_none, Sum.elim_inl, Sum.elim_inr]
def mV : LD where
 CC := eZ
 V := LA_ × LA_
 E := (LA_)
 n := 2
 K := 7
 M := (rl none 5 (some (.ptr 2 0) :: some (.ptr 3 0) :: some (.ptr 4 0) :: none :: none :: none :: none :: some (.ptr 5 0) :: none :: some (.ptr 6 0) :: (rl none 38 (some (.agg (rl (.int .u64) 24 [])) :: some (.int .i64) :: (rl none 41 [])))))
 B := [(2, .vec 8 true), (3, .cells (rl (.fG .u64 0) 32 [.aO]) true none), (4, .vec 24 true), (5, .vec 8 true), (6, .vec 8 true)]
 D := []
 pre := []
 F := fun s => [0, 1, nameAt s 5 [], nameAt s 6 [], nameAt s 7 [], nameAt s 12 [], nameAt s 14 []]
 toL := Bm
 ofL := rb
 au := fun ls c v h => by
  unfold rb at h
  split at h
  ·cases h; rfl
  ·cases h
 cj := dH
 nat := Bn
 sh := C0
 out := rc
 toE := re
 eV := kf
 ofE := kY
 cO := yh
 post := fun cc e k => ((fun e => k (.exit 6) (aV 6 (rl none 5 (some (.ptr 2 0) :: some (.ptr 3 0) :: some (.ptr 4 0) :: none :: none :: none :: none :: some (.ptr 5 0) :: (rl none 40 (some (.agg (v8 cc.s4.2.2.1 cc.s4.2.2.2.1 cc.s8.1 cc.s8.2.1 cc.s8.2.2.1 cc.s8.2.2.2.1 cc.s8.s4.1 cc.s8.s4.2.1 (v8 cc.s8.s4.2.2.1 cc.s8.s4.2.2.2.1 cc.s16.1 cc.s16.2.1 cc.s16.2.2.1 cc.s16.2.2.2.1 cc.s16.s4.1 cc.s16.s4.2.1 (v8 cc.s16.s4.2.2.1 cc.s16.s4.2.2.2.1 cc.s16.s8.1 cc.s16.s8.2.1 cc.s16.s8.2.2.1 cc.s16.s8.2.2.2.1 cc.s16.s8.s4.1 cc.s16.s8.s4.2.1 [])))) :: some (.int .i64 cc.s16.s8.s4.2.2) :: (rl none 41 []))))) [(2, .vec cc.1 cc.2.1 8 true), (3, .cells (rl (.int .u64 0) 32 [.aO]) true none), (4, .vec cc.2.2.1 cc.2.2.2.1 24 true), (5, .vec e cc.s4.1 8 true)] [])) e)
 cd := fun cc e k => by rfl
theorem rf : cG Tryz.prog 2 mV.la (aK Tryz.f57 3) :=
 LD.ok (ch := iz) (A := bu) aL iJ mixed (fuel := 60) ⟨by kernel_rfl, fun e => by kernel_rfl, fun cc v => by kernel_rfl, aJ (l := []) (by kernel_rfl) trivial⟩
def gg {R : Type} (cc : fa) (v : LA_ × Int) (kn : (LA_ × Int) → Option R) (ke : ((LA_)) → Option R) : Option R :=
 (cond (decide (v.2 < 3)) (let l11 := ((v8 cc.2.2.2.2.2.1 cc.2.2.2.2.2.2.1 cc.2.2.2.2.2.2.2.1 cc.2.2.2.2.2.2.2.2.1 cc.2.2.2.2.2.2.2.2.2.1 cc.2.2.2.2.2.2.2.2.2.2.1 cc.2.2.2.2.2.2.2.2.2.2.2.1 cc.2.2.2.2.2.2.2.2.2.2.2.2.1 (v8 cc.2.2.2.2.2.2.2.2.2.2.2.2.2.1 cc.2.2.2.2.2.2.2.2.2.2.2.2.2.2.1 cc.2.2.2.2.2.2.2.2.2.2.2.2.2.2.2.1 cc.2.2.2.2.2.2.2.2.2.2.2.2.2.2.2.2.1 cc.2.2.2.2.2.2.2.2.2.2.2.2.2.2.2.2.2.1 cc.2.2.2.2.2.2.2.2.2.2.2.2.2.2.2.2.2.2.1 cc.2.2.2.2.2.2.2.2.2.2.2.2.2.2.2.2.2.2.2.1 cc.2.2.2.2.2.2.2.2.2.2.2.2.2.2.2.2.2.2.2.2.1 (v8 cc.2.2.2.2.2.2.2.2.2.2.2.2.2.2.2.2.2.2.2.2.2.1 cc.2.2.2.2.2.2.2.2.2.2.2.2.2.2.2.2.2.2.2.2.2.2.1 cc.2.2.2.2.2.2.2.2.2.2.2.2.2.2.2.2.2.2.2.2.2.2.2.1 cc.2.2.2.2.2.2.2.2.2.2.2.2.2.2.2.2.2.2.2.2.2.2.2.2.1 cc.2.2.2.2.2.2.2.2.2.2.2.2.2.2.2.2.2.2.2.2.2.2.2.2.2.1 cc.2.2.2.2.2.2.2.2.2.2.2.2.2.2.2.2.2.2.2.2.2.2.2.2.2.2.1 cc.2.2.2.2.2.2.2.2.2.2.2.2.2.2.2.2.2.2.2.2.2.2.2.2.2.2.2.1 cc.2.2.2.2.2.2.2.2.2.2.2.2.2.2.2.2.2.2.2.2.2.2.2.2.2.2.2.2 []))) : LA_); (ag (decide (0 ≤ v.2) && decide (v.2 < ((3 : Nat) : Int)) && an di l11 (Int.toNat v.2 * 8)) (Option.bind (qW (ac l11 ((Int.toNat v.2 * 8) + 0)) (ac l11 ((Int.toNat v.2 * 8) + 1)) (ac l11 ((Int.toNat v.2 * 8) + 2)) (ac l11 ((Int.toNat v.2 * 8) + 3)) (ac l11 ((Int.toNat v.2 * 8) + 4)) (ac l11 ((Int.toNat v.2 * 8) + 5)) (ac l11 ((Int.toNat v.2 * 8) + 6)) (ac l11 ((Int.toNat v.2 * 8) + 7))) fun r12 => (cond (decide (r12 < 0)) (Option.bind (EJ (ac l11 ((Int.toNat v.2 * 8) + 0)) (ac l11 ((Int.toNat v.2 * 8) + 1)) (ac l11 ((Int.toNat v.2 * 8) + 2)) (ac l11 ((Int.toNat v.2 * 8) + 3)) (ac l11 ((Int.toNat v.2 * 8) + 4)) (ac l11 ((Int.toNat v.2 * 8) + 5)) (ac l11 ((Int.toNat v.2 * 8) + 6)) (ac l11 ((Int.toNat v.2 * 8) + 7))) fun r13 => (Option.bind (gP (cc.1, cc.2.1, cc.2.2.1, cc.2.2.2.1, cc.2.2.2.2.1, 1, cc.2.2.2.2.2.1, cc.2.2.2.2.2.2.1, cc.2.2.2.2.2.2.2.1, cc.2.2.2.2.2.2.2.2.1, cc.2.2.2.2.2.2.2.2.2.1, cc.2.2.2.2.2.2.2.2.2.2.1, cc.2.2.2.2.2.2.2.2.2.2.2.1, cc.2.2.2.2.2.2.2.2.2.2.2.2.1, cc.2.2.2.2.2.2.2.2.2.2.2.2.2.1, cc.2.2.2.2.2.2.2.2.2.2.2.2.2.2.1, cc.2.2.2.2.2.2.2.2.2.2.2.2.2.2.2.1, cc.2.2.2.2.2.2.2.2.2.2.2.2.2.2.2.2.1, cc.2.2.2.2.2.2.2.2.2.2.2.2.2.2.2.2.2.1, cc.2.2.2.2.2.2.2.2.2.2.2.2.2.2.2.2.2.2.1, cc.2.2.2.2.2.2.2.2.2.2.2.2.2.2.2.2.2.2.2.1, cc.2.2.2.2.2.2.2.2.2.2.2.2.2.2.2.2.2.2.2.2.1, cc.2.2.2.2.2.2.2.2.2.2.2.2.2.2.2.2.2.2.2.2.2.1, cc.2.2.2.2.2.2.2.2.2.2.2.2.2.2.2.2.2.2.2.2.2.2.1, cc.2.2.2.2.2.2.2.2.2.2.2.2.2.2.2.2.2.2.2.2.2.2.2.1, cc.2.2.2.2.2.2.2.2.2.2.2.2.2.2.2.2.2.2.2.2.2.2.2.2.1, cc.2.2.2.2.2.2.2.2.2.2.2.2.2.2.2.2.2.2.2.2.2.2.2.2.2.1, cc.2.2.2.2.2.2.2.2.2.2.2.2.2.2.2.2.2.2.2.2.2.2.2.2.2.2.1, cc.2.2.2.2.2.2.2.2.2.2.2.2.2.2.2.2.2.2.2.2.2.2.2.2.2.2.2.1, cc.2.2.2.2.2.2.2.2.2.2.2.2.2.2.2.2.2.2.2.2.2.2.2.2.2.2.2.2, v.2) (v.1, ((v8 (aa r13 0) (aa r13 1) (aa r13 2) (aa r13 3) (aa r13 4) (aa r13 5) (aa r13 6) (aa r13 7) []) : LA_))) fun e15 => (kn (e15, (IntKind.wrap .i64 (v.2 + 1)))))) (Option.bind (gP (cc.1, cc.2.1, cc.2.2.1, cc.2.2.2.1, cc.2.2.2.2.1, 1, cc.2.2.2.2.2.1, cc.2.2.2.2.2.2.1, cc.2.2.2.2.2.2.2.1, cc.2.2.2.2.2.2.2.2.1, cc.2.2.2.2.2.2.2.2.2.1, cc.2.2.2.2.2.2.2.2.2.2.1, cc.2.2.2.2.2.2.2.2.2.2.2.1, cc.2.2.2.2.2.2.2.2.2.2.2.2.1, cc.2.2.2.2.2.2.2.2.2.2.2.2.2.1, cc.2.2.2.2.2.2.2.2.2.2.2.2.2.2.1, cc.2.2.2.2.2.2.2.2.2.2.2.2.2.2.2.1, cc.2.2.2.2.2.2.2.2.2.2.2.2.2.2.2.2.1, cc.2.2.2.2.2.2.2.2.2.2.2.2.2.2.2.2.2.1, cc.2.2.2.2.2.2.2.2.2.2.2.2.2.2.2.2.2.2.1, cc.2.2.2.2.2.2.2.2.2.2.2.2.2.2.2.2.2.2.2.1, cc.2.2.2.2.2.2.2.2.2.2.2.2.2.2.2.2.2.2.2.2.1, cc.2.2.2.2.2.2.2.2.2.2.2.2.2.2.2.2.2.2.2.2.2.1, cc.2.2.2.2.2.2.2.2.2.2.2.2.2.2.2.2.2.2.2.2.2.2.1, cc.2.2.2.2.2.2.2.2.2.2.2.2.2.2.2.2.2.2.2.2.2.2.2.1, cc.2.2.2.2.2.2.2.2.2.2.2.2.2.2.2.2.2.2.2.2.2.2.2.2.1, cc.2.2.2.2.2.2.2.2.2.2.2.2.2.2.2.2.2.2.2.2.2.2.2.2.2.1, cc.2.2.2.2.2.2.2.2.2.2.2.2.2.2.2.2.2.2.2.2.2.2.2.2.2.2.1, cc.2.2.2.2.2.2.2.2.2.2.2.2.2.2.2.2.2.2.2.2.2.2.2.2.2.2.2.1, cc.2.2.2.2.2.2.2.2.2.2.2.2.2.2.2.2.2.2.2.2.2.2.2.2.2.2.2.2, v.2) (v.1, ([.int .u64 (ac l11 ((Int.toNat v.2 * 8) + 0)), .int .u64 (ac l11 ((Int.toNat v.2 * 8) + 1)), .int .u64 (ac l11 ((Int.toNat v.2 * 8) + 2)), .int .u64 (ac l11 ((Int.toNat v.2 * 8) + 3)), .int .u64 (ac l11 ((Int.toNat v.2 * 8) + 4)), .int .u64 (ac l11 ((Int.toNat v.2 * 8) + 5)), .int .u64 (ac l11 ((Int.toNat v.2 * 8) + 6)), .int .u64 (ac l11 ((Int.toNat v.2 * 8) + 7))] : LA_))) fun e16 => (kn (e16, (IntKind.wrap .i64 (v.2 + 1))))))))) (ke v.1))
def jp (cc : fa) (v : LA_ × Int) : Option ((LA_ × Int) ⊕ ((LA_))) := gg cc v (fun v => some (Sum.inl v)) fun e => some (Sum.inr e)
def oH (cc : fa) (v : LA_ × Int) : Option ((LA_)) := dA (jp cc) v
def Bo (cc : fa) (v : LA_ × Int) : List ai := [.I cc.s4.2.1, .I cc.s4.2.2.1, .I cc.s4.2.2.2.1, .I cc.s8.1, .I cc.s8.2.1, .I cc.s8.2.2.1, .I cc.s8.2.2.2.1, .I cc.s8.s4.1, .I cc.s8.s4.2.1, .I cc.s8.s4.2.2.1, .I cc.s8.s4.2.2.2.1, .I cc.s16.1, .I cc.s16.2.1, .I cc.s16.2.2.1, .I cc.s16.2.2.2.1, .I cc.s16.s4.1, .I cc.s16.s4.2.1, .I cc.s16.s4.2.2.1, .I cc.s16.s4.2.2.2.1, .I cc.s16.s8.1, .I cc.s16.s8.2.1, .I cc.s16.s8.2.2.1, .I cc.s16.s8.2.2.2.1, .I cc.s16.s8.s4, .I v.2, .C cc.1, .N cc.2.1, .C cc.2.2.1, .N cc.2.2.2.1, .C v.1, .N cc.s4.1]
def rh (ls : List ai) : Option ((fa) × (LA_ × Int)) := match ls with
 | [.I x0, .I x1, .I x2, .I x3, .I x4, .I x5, .I x6, .I x7, .I x8, .I x9, .I x10, .I x11, .I x12, .I x13, .I x14, .I x15, .I x16, .I x17, .I x18, .I x19, .I x20, .I x21, .I x22, .I x23, .I x24, .C x25, .N x26, .C x27, .N x28, .C x29, .N x30] => some ((x25, x26, x27, x28, x30, x0, x1, x2, x3, x4, x5, x6, x7, x8, x9, x10, x11, x12, x13, x14, x15, x16, x17, x18, x19, x20, x21, x22, x23), (x29, x24))
 | _ => none
def ri (e : (LA_)) : am := ((fun e => .exit 4) e)
def rk (cc : fa) (e : (LA_)) : List ai := ((fun e => [.C cc.1, .N cc.2.1, .C cc.2.2.1, .N cc.2.2.2.1, .C e, .N cc.s4.1]) e)
def kg (cc : fa) (e : (LA_)) : List ai := ((fun e => [.C cc.1, .N cc.2.1, .C cc.2.2.1, .N cc.2.2.2.1, .N cc.s4.1]) e)
def kZ (o : am) (ls : List ai) : Option (((LA_)) × List ai) := match o with
 | .exit 4 => (match ls with
  | [.C x0, .N x1, .C x2, .N x3, .C x4, .N x5] => some (x4, [.C x0, .N x1, .C x2, .N x3, .N x5])
  | _ => none)
 | _ => none
theorem yi : ∀ o ls e cl cc, kZ o ls = some (e, cl) → cl = kg cc e → ls = rk cc e ∧ ri e = o ∧ o ≠ .normal ∧ ∀ v, o = .pan v → sc 0 v = true := by
 intro o ls e cl cc h hc
 unfold kZ at h
 split at h
 ·split at h
  ·cases h
   simp only [kg, List.cons.injEq, ai.N.injEq, ai.C.injEq, and_true] at hc
   obtain ⟨rfl, rfl, rfl, rfl, rfl⟩ := hc
   exact ⟨rfl, rfl, by simp, by intro v hv; cases hv <;> rfl⟩
  ·cases h
 ·cases h
def C1 (o : am) : ExS := match o with
 | .exit 4 => ⟨6, (rl none 5 (some (.ptr 2 0) :: some (.ptr 3 0) :: some (.ptr 4 0) :: none :: none :: none :: none :: some (.ptr 5 0) :: (rl none 83 []))), [(2, .vec 8 true), (3, .cells (rl (.fG .u64 0) 32 [.aO]) true none), (4, .vec 24 true), (5, .vec 8 true)], fun s => [0, 1, nameAt s 5 [], nameAt s 6 [], nameAt s 7 [], nameAt s 12 []], [], []⟩
 | _ => ⟨0, [], [], fun _ => [], [], []⟩
theorem Bp {R : Type} (cc : fa) (v : LA_ × Int) (kn : (LA_ × Int) → Option R) (ke : ((LA_)) → Option R) : gg cc v kn ke = (gg cc v (fun v => some (Sum.inl v)) fun e => some (Sum.inr e)).bind (Sum.elim kn ke) := by
 simp only [gg, bF, ax, Option.bind_assoc, bY, bB, Option.bind_some, Option.bind_none, Sum.elim_inl, Sum.elim_inr]
def tZ : LD where
 CC := fa
 V := LA_ × Int
 E := (LA_)
 n := 2
 K := 6
 M := (rl none 5 (some (.ptr 2 0) :: some (.ptr 3 0) :: some (.ptr 4 0) :: none :: none :: none :: none :: some (.ptr 5 0) :: (rl none 40 (some (.agg (rl (.int .u64) 24 [])) :: some (.int .i64) :: (rl none 41 [])))))
 B := [(2, .vec 8 true), (3, .cells (rl (.fG .u64 0) 32 [.aO]) true none), (4, .vec 24 true), (5, .vec 8 true)]
 D := []
 pre := []
 F := fun s => [0, 1, nameAt s 5 [], nameAt s 6 [], nameAt s 7 [], nameAt s 12 []]
 toL := Bo
 ofL := rh
 au := fun ls c v h => by
  unfold rh at h
  split at h
  ·cases h; rfl
  ·cases h
 cj := gg
 nat := Bp
 sh := C1
 out := ri
 toE := rk
 eV := kg
 ofE := kZ
 cO := yi
 post := fun cc e k => ((fun e => k (.exit 4) (aV 6 (rl none 5 (some (.ptr 2 0) :: some (.ptr 3 0) :: some (.ptr 4 0) :: none :: none :: none :: none :: some (.ptr 5 0) :: (rl none 83 []))) [(2, .vec cc.1 cc.2.1 8 true), (3, .cells (rl (.int .u64 0) 32 [.aO]) true none), (4, .vec cc.2.2.1 cc.2.2.2.1 24 true), (5, .vec e cc.s4.1 8 true)] [])) e)
 cd := fun cc e k => by rfl
theorem Bq : cG Tryz.prog 2 tZ.la (aK Tryz.f57 2) :=
 LD.ok (ch := iz) (A := dW [(17, mV.la)]) aL iJ mixed (fuel := 60) ⟨by kernel_rfl, fun e => by kernel_rfl, fun cc v => by kernel_rfl, aJ (l := [aK Tryz.f57 3]) (by kernel_rfl) ⟨bR (by kernel_rfl) rf, trivial⟩⟩
def lG (cs0 : LA_) (n1 : Nat) (cs2 : LA_) (n3 : Nat) (a4 a5 a6 a7 a8 a9 a10 a11 : Int) : Option (xf) :=
 (Option.bind (pL (cs2, n3, ((v8 a4 a5 a6 a7 a8 a9 a10 a11 []) : LA_), 1, 1, cs0, n1, ((n1 : Nat) : Int)) (((v8 0 0 0 0 0 0 0 0 (v8 0 0 0 0 0 0 0 0 (v8 0 0 0 0 0 0 0 0 []))) : LA_), 0)) fun e1 => (ag (an VB e1 0) (Option.bind (oH (((v8 a4 a5 a6 a7 a8 a9 a10 a11 []) : LA_), 1, e1, 1, 1, (ac e1 0), (ac e1 1), (ac e1 2), (ac e1 3), (ac e1 4), (ac e1 5), (ac e1 6), (ac e1 7), (ac e1 8), (ac e1 9), (ac e1 10), (ac e1 11), (ac e1 12), (ac e1 13), (ac e1 14), (ac e1 15), (ac e1 16), (ac e1 17), (ac e1 18), (ac e1 19), (ac e1 20), (ac e1 21), (ac e1 22), (ac e1 23)) (((v8 a4 a5 a6 a7 a8 a9 a10 a11 []) : LA_), 0)) fun e2 => (ag (an di e1 0) (ag (an di e2 0 && Nat.beq (List.length e2) 8) (Option.bind (bH (ac e1 0) (ac e1 1) (ac e1 2) (ac e1 3) (ac e1 4) (ac e1 5) (ac e1 6) (ac e1 7) (ac e2 0) (ac e2 1) (ac e2 2) (ac e2 3) (ac e2 4) (ac e2 5) (ac e2 6) (ac e2 7)) fun r3 => (ag (an di e1 8) (ag (an di e2 0 && Nat.beq (List.length e2) 8) (Option.bind (bH (ac e1 8) (ac e1 9) (ac e1 10) (ac e1 11) (ac e1 12) (ac e1 13) (ac e1 14) (ac e1 15) (ac e2 0) (ac e2 1) (ac e2 2) (ac e2 3) (ac e2 4) (ac e2 5) (ac e2 6) (ac e2 7)) fun r4 => (ag (an di e1 16) (ag (an di e2 0 && Nat.beq (List.length e2) 8) (Option.bind (bH (ac e1 16) (ac e1 17) (ac e1 18) (ac e1 19) (ac e1 20) (ac e1 21) (ac e1 22) (ac e1 23) (ac e2 0) (ac e2 1) (ac e2 2) (ac e2 3) (ac e2 4) (ac e2 5) (ac e2 6) (ac e2 7)) fun r5 => (ag (an di e2 0 && Nat.beq (List.length e2) 8) (Option.bind (bH a4 a5 a6 a7 a8 a9 a10 a11 (ac e2 0) (ac e2 1) (ac e2 2) (ac e2 3) (ac e2 4) (ac e2 5) (ac e2 6) (ac e2 7)) fun r6 => (some (aZ r3 (aZ r4 (aZ r5 ((aa r6 0), (aa r6 1), (aa r6 2), (aa r6 3), (aa r6 4), (aa r6 5), (aa r6 6), (aa r6 7))))))))))))))))))))
def el : FD where
 X := xf
 k := 2
 pre := []
 F := fun s => [0, 1]
 M := .agg (rl (.int .u64) 32 [.aO])
 B := []
 toL := fun x => [.I x.1, .I x.2.1, .I x.2.2.1, .I x.2.2.2.1, .I x.s4.1, .I x.s4.2.1, .I x.s4.2.2.1, .I x.s4.2.2.2.1, .I x.s8.1, .I x.s8.2.1, .I x.s8.2.2.1, .I x.s8.2.2.2.1, .I x.s8.s4.1, .I x.s8.s4.2.1, .I x.s8.s4.2.2.1, .I x.s8.s4.2.2.2.1, .I x.s16.1, .I x.s16.2.1, .I x.s16.2.2.1, .I x.s16.2.2.2.1, .I x.s16.s4.1, .I x.s16.s4.2.1, .I x.s16.s4.2.2.1, .I x.s16.s4.2.2.2.1, .I x.s16.s8.1, .I x.s16.s8.2.1, .I x.s16.s8.2.2.1, .I x.s16.s8.2.2.2.1, .I x.s16.s8.s4.1, .I x.s16.s8.s4.2.1, .I x.s16.s8.s4.2.2.1, .I x.s16.s8.s4.2.2.2]
 ofL := fun ls => match ls with
  | [.I x0, .I x1, .I x2, .I x3, .I x4, .I x5, .I x6, .I x7, .I x8, .I x9, .I x10, .I x11, .I x12, .I x13, .I x14, .I x15, .I x16, .I x17, .I x18, .I x19, .I x20, .I x21, .I x22, .I x23, .I x24, .I x25, .I x26, .I x27, .I x28, .I x29, .I x30, .I x31] => some (x0, x1, x2, x3, x4, x5, x6, x7, x8, x9, x10, x11, x12, x13, x14, x15, x16, x17, x18, x19, x20, x21, x22, x23, x24, x25, x26, x27, x28, x29, x30, x31)
  | _ => none
 au := fun ls x h => by
  split at h
  ·cases h; rfl
  ·cases h
theorem FE (cs0 : LA_) (n1 : Nat) (cs2 : LA_) (n3 : Nat) (a4 a5 a6 a7 a8 a9 a10 a11 : Int) (x : xf) (h : lG cs0 n1 cs2 n3 a4 a5 a6 a7 a8 a9 a10 a11 = some x) : aX Tryz.prog 57 2 [.vec 0, .vec 1, .agg (v8 a4 a5 a6 a7 a8 a9 a10 a11 [])] [.vec cs0 n1 3 false, .vec cs2 n3 8 false] el x :=
 FD.sem (ch := iz) (A := dW [(3, vC.la), (17, mV.la), (13, tZ.la)]) (fn := Tryz.f57) (c := bq Tryz.f57) (fuel := 60) aL iJ mixed bE el Tryz.func57 (by kernel_rfl) (aJ (l := [aK Tryz.f57 0, aK Tryz.f57 1, aK Tryz.f57 2, aK Tryz.f57 3]) (by kernel_rfl) ⟨bR (by kernel_rfl) CZ, (eH (by kernel_rfl)), bR (by kernel_rfl) Bq, bR (by kernel_rfl) rf, trivial⟩)
  (by kernel_rfl) (Eq.trans (by kernel_rfl) h)
def dJ (cs0 : LA_) (n1 : Nat) (cs2 : LA_) (n3 : Nat) (a4 a5 a6 a7 a8 a9 a10 a11 : Int) : Option (Int × Int × Int × Int) := Option.bind (lG cs0 n1 cs2 n3 a4 a5 a6 a7 a8 a9 a10 a11) fun (x0, x1, x2, x3, x4, x5, x6, x7, x8, x9, x10, x11, x12, x13, x14, x15, x16, x17, x18, x19, x20, x21, x22, x23, x24, x25, x26, x27, x28, x29, x30, x31) => ag (ok8 x0 x1 x2 x3 x4 x5 x6 x7 && ok8 x8 x9 x10 x11 x12 x13 x14 x15 && ok8 x16 x17 x18 x19 x20 x21 x22 x23 && ok8 x24 x25 x26 x27 x28 x29 x30 x31) (some ((num x0 x1 x2 x3 x4 x5 x6 x7), (num x8 x9 x10 x11 x12 x13 x14 x15), (num x16 x17 x18 x19 x20 x21 x22 x23), (num x24 x25 x26 x27 x28 x29 x30 x31)))
def rm : FD := ⟨Int × Int × Int × Int, el.k, el.pre, el.F, el.M, el.B, fun y => el.toL (aZ y.1 (aZ y.2.1 (aZ y.2.2.1 ((aa y.2.2.2 0), (aa y.2.2.2 1), (aa y.2.2.2 2), (aa y.2.2.2 3), (aa y.2.2.2 4), (aa y.2.2.2 5), (aa y.2.2.2 6), (aa y.2.2.2 7))))), fun _ => none, fun _ _ h => by cases h⟩
theorem GH (cs0 : LA_) (n1 : Nat) (cs2 : LA_) (n3 : Nat) (a4 a5 a6 a7 a8 a9 a10 a11 : Int) {y : Int × Int × Int × Int} (h : dJ cs0 n1 cs2 n3 a4 a5 a6 a7 a8 a9 a10 a11 = some y) : lG cs0 n1 cs2 n3 a4 a5 a6 a7 a8 a9 a10 a11 = some (aZ y.1 (aZ y.2.1 (aZ y.2.2.1 ((aa y.2.2.2 0), (aa y.2.2.2 1), (aa y.2.2.2 2), (aa y.2.2.2 3), (aa y.2.2.2 4), (aa y.2.2.2 5), (aa y.2.2.2 6), (aa y.2.2.2 7))))) := by
 unfold dJ at h
 obtain ⟨⟨x0, x1, x2, x3, x4, x5, x6, x7, x8, x9, x10, x11, x12, x13, x14, x15, x16, x17, x18, x19, x20, x21, x22, x23, x24, x25, x26, x27, x28, x29, x30, x31⟩, h1, h2⟩ := bE_ h
 obtain ⟨h3, h4⟩ := aM h2
 simp only [Bool.and_eq_true, and_assoc] at h3
 simp only [Option.some.injEq] at h4
 subst h4
 obtain ⟨o0, o1, o2, o3⟩ := h3
 have q0 := aR o0
 have q1 := aR o1
 have q2 := aR o2
 have q3 := aR o3
 rw [h1]
 simp only [aZ, q0, q1, q2, q3]
theorem FF (cs0 : LA_) (n1 : Nat) (cs2 : LA_) (n3 : Nat) (a4 a5 a6 a7 a8 a9 a10 a11 : Int) (y : Int × Int × Int × Int) (h : dJ cs0 n1 cs2 n3 a4 a5 a6 a7 a8 a9 a10 a11 = some y) : aX Tryz.prog 57 2 [.vec 0, .vec 1, .agg (v8 a4 a5 a6 a7 a8 a9 a10 a11 [])] [.vec cs0 n1 3 false, .vec cs2 n3 8 false] rm y := FE cs0 n1 cs2 n3 a4 a5 a6 a7 a8 a9 a10 a11 _ (GH cs0 n1 cs2 n3 a4 a5 a6 a7 a8 a9 a10 a11 h)
def uT (cs0 : LA_) (n1 : Nat) (cs2 : LA_) (n3 : Nat) (z4 : Int) : Option (Int × Int × Int × Int) := dJ cs0 n1 cs2 n3 (aa z4 0) (aa z4 1) (aa z4 2) (aa z4 3) (aa z4 4) (aa z4 5) (aa z4 6) (aa z4 7)
def uR : HK where
 call := fun args σ k => match args with
  | [x0, x1, .agg [.int .u64 a4, .int .u64 a5, .int .u64 a6, .int .u64 a7, .int .u64 a8, .int .u64 a9, .int .u64 a10, .int .u64 a11]] => cr σ 3 x0 fun cs0 n1 => cr σ 8 x1 fun cs2 n3 => Option.bind (dJ cs0 n1 cs2 n3 a4 a5 a6 a7 a8 a9 a10 a11) fun y => az σ 2 (rm.val y) (rm.aN y) k
  | _ => none
 nat := fun args σ k => by
  repeat' split
  all_goals simp only [aw, ax, Option.bind_assoc, Option.bind_none, az, Option.bind_some]
 pure := false
 pok := fun h => by cases h
theorem GG : aT Tryz.prog 57 uR := by
 intro args σ r σ' h
 simp only [uR] at h
 split at h
 ·rename_i x0 x1 a4 a5 a6 a7 a8 a9 a10 a11
  obtain ⟨cs0, n1, he0, hf0, h⟩ := bf h
  obtain ⟨cs2, n3, he1, hf1, h⟩ := bf h
  obtain ⟨y, hy, h⟩ := bE_ h
  exact lifted (xs := [x0, x1]) (ls := [.vec cs0 n1 3 false, .vec cs2 n3 8 false]) (cargs := [.vec 0, .vec 1, .agg (v8 a4 a5 a6 a7 a8 a9 a10 a11 [])]) (bt.of ⟨⟨rfl, he0, hf0, by decide⟩, ⟨rfl, he1, hf1, by decide⟩, trivial⟩) rfl (FF cs0 n1 cs2 n3 a4 a5 a6 a7 a8 a9 a10 a11 y hy) rfl rfl rfl rfl h
 ·cases h
end Go.Ev
