import Derived.Test.YtbmjabafceihgaaKaj
set_option linter.unusedVariables false
set_option linter.unusedSimpArgs false
set_option maxRecDepth 100000
noncomputable section
namespace Go.Ev
open Go.Proofs
theorem Qf {a0 a1 a2 a3 a4 a5 a6 a7 a8 a9 a10 a11 a12 a13 a14 a15 r : Int} (h : iT a0 a1 a2 a3 a4 a5 a6 a7 a8 a9 a10 a11 a12 a13 a14 a15 = some r) : kR a0 a1 a2 a3 a4 a5 a6 a7 a8 a9 a10 a11 a12 a13 a14 a15 = some (t8 r) := by
 simp only [kR, h, Uy, t8]
def rq : HK where
 call := fun args σ k => match args with
  | [.agg [.int .u64 a0, .int .u64 a1, .int .u64 a2, .int .u64 a3, .int .u64 a4, .int .u64 a5, .int .u64 a6, .int .u64 a7], .agg [.int .u64 a8, .int .u64 a9, .int .u64 a10, .int .u64 a11, .int .u64 a12, .int .u64 a13, .int .u64 a14, .int .u64 a15]] => Option.bind (iT a0 a1 a2 a3 a4 a5 a6 a7 a8 a9 a10 a11 a12 a13 a14 a15) fun r => k (.ret (.agg [.int .u64 (aa r 0), .int .u64 (aa r 1), .int .u64 (aa r 2), .int .u64 (aa r 3), .int .u64 (aa r 4), .int .u64 (aa r 5), .int .u64 (aa r 6), .int .u64 (aa r 7)])) σ
  | _ => none
 nat := fun args σ k => by
  repeat' split
  all_goals simp only [UA, Uz, Uy]
 pure := true
 pok := fun _ args σ r σ' h => by
  split at h
  ·obtain ⟨q, h1, h2⟩ := bE_ h
   simp only [UB, UD] at h2
   obtain ⟨rfl, rfl⟩ := h2
   exact ⟨rfl, ⟨_, rfl⟩, fun σ2 => by simp only [h1, Uy]⟩
  ·cases h
theorem pB : aX U2 22 rq := BM.cO fun args σ x h => by
 simp only [rq] at h
 split at h
 ·rename_i a0 a1 a2 a3 a4 a5 a6 a7 a8 a9 a10 a11 a12 a13 a14 a15
  obtain ⟨r, h1, h2⟩ := bE_ h
  simp only [pK, Qf h1, Uy]
  exact h2
 ·cases h
theorem Sb {a0 a1 a2 a3 a4 a5 a6 a7 a8 a9 a10 a11 a12 a13 a14 a15 r : Int} (h : nD a0 a1 a2 a3 a4 a5 a6 a7 a8 a9 a10 a11 a12 a13 a14 a15 = some r) : me a0 a1 a2 a3 a4 a5 a6 a7 a8 a9 a10 a11 a12 a13 a14 a15 = some (t8 r) := by
 simp only [me, h, Uy, t8]
def BI : HK where
 call := fun args σ k => match args with
  | [.agg [.int .u64 a0, .int .u64 a1, .int .u64 a2, .int .u64 a3, .int .u64 a4, .int .u64 a5, .int .u64 a6, .int .u64 a7], .agg [.int .u64 a8, .int .u64 a9, .int .u64 a10, .int .u64 a11, .int .u64 a12, .int .u64 a13, .int .u64 a14, .int .u64 a15]] => Option.bind (nD a0 a1 a2 a3 a4 a5 a6 a7 a8 a9 a10 a11 a12 a13 a14 a15) fun r => k (.ret (.agg [.int .u64 (aa r 0), .int .u64 (aa r 1), .int .u64 (aa r 2), .int .u64 (aa r 3), .int .u64 (aa r 4), .int .u64 (aa r 5), .int .u64 (aa r 6), .int .u64 (aa r 7)])) σ
  | _ => none
 nat := fun args σ k => by
  repeat' split
  all_goals simp only [UA, Uz, Uy]
 pure := true
 pok := fun _ args σ r σ' h => by
  split at h
  ·obtain ⟨q, h1, h2⟩ := bE_ h
   simp only [UB, UD] at h2
   obtain ⟨rfl, rfl⟩ := h2
   exact ⟨rfl, ⟨_, rfl⟩, fun σ2 => by simp only [h1, Uy]⟩
  ·cases h
theorem BJ : aX U2 39 BI := DB.cO fun args σ x h => by
 simp only [BI] at h
 split at h
 ·rename_i a0 a1 a2 a3 a4 a5 a6 a7 a8 a9 a10 a11 a12 a13 a14 a15
  obtain ⟨r, h1, h2⟩ := bE_ h
  simp only [rr, Sb h1, Uy]
  exact h2
 ·cases h
theorem Sc {a0 a1 a2 a3 a4 a5 a6 a7 a8 a9 a10 a11 a12 a13 a14 a15 r : Int} (h : wq a0 a1 a2 a3 a4 a5 a6 a7 a8 a9 a10 a11 a12 a13 a14 a15 = some r) : mc a0 a1 a2 a3 a4 a5 a6 a7 a8 a9 a10 a11 a12 a13 a14 a15 = some (t8 r) := by
 simp only [mc, h, Uy, t8]
def BN : HK where
 call := fun args σ k => match args with
  | [.agg [.int .u64 a0, .int .u64 a1, .int .u64 a2, .int .u64 a3, .int .u64 a4, .int .u64 a5, .int .u64 a6, .int .u64 a7], .agg [.int .u64 a8, .int .u64 a9, .int .u64 a10, .int .u64 a11, .int .u64 a12, .int .u64 a13, .int .u64 a14, .int .u64 a15]] => Option.bind (wq a0 a1 a2 a3 a4 a5 a6 a7 a8 a9 a10 a11 a12 a13 a14 a15) fun r => k (.ret (.agg [.int .u64 (aa r 0), .int .u64 (aa r 1), .int .u64 (aa r 2), .int .u64 (aa r 3), .int .u64 (aa r 4), .int .u64 (aa r 5), .int .u64 (aa r 6), .int .u64 (aa r 7)])) σ
  | _ => none
 nat := fun args σ k => by
  repeat' split
  all_goals simp only [UA, Uz, Uy]
 pure := true
 pok := fun _ args σ r σ' h => by
  split at h
  ·obtain ⟨q, h1, h2⟩ := bE_ h
   simp only [UB, UD] at h2
   obtain ⟨rfl, rfl⟩ := h2
   exact ⟨rfl, ⟨_, rfl⟩, fun σ2 => by simp only [h1, Uy]⟩
  ·cases h
theorem BO : aX U2 70 BN := Dx.cO fun args σ x h => by
 simp only [BN] at h
 split at h
 ·rename_i a0 a1 a2 a3 a4 a5 a6 a7 a8 a9 a10 a11 a12 a13 a14 a15
  obtain ⟨r, h1, h2⟩ := bE_ h
  simp only [rh, Sc h1, Uy]
  exact h2
 ·cases h
def be (a0 a1 a2 a3 a4 a5 : Int) : Option Int := af (ba a0 && ba a1 && ba a2 && ba a3 && ba a4 && ba a5) (some (a0 * a3 + a1 * a4 + a2 * a5))
theorem Tx {a0 a1 a2 a3 a4 a5 r : Int} (h : be a0 a1 a2 a3 a4 a5 = some r) : po a0 a1 a2 a3 a4 a5 = some (t8 r) := by
 unfold be at h
 obtain ⟨h1, h2⟩ := aH h
 simp only [UC] at h1
 simp only [UB] at h2
 subst h2
 exact T2 h1.1.1.1.1.1 h1.1.1.1.1.2 h1.1.1.1.2 h1.1.1.2 h1.1.2 h1.2
theorem RT {a0 a1 a2 a3 a4 a5 : Int} (h0 : ba a0 = true) (h1 : ba a1 = true) (h2 : ba a2 = true) (h3 : ba a3 = true) (h4 : ba a4 = true) (h5 : ba a5 = true) : be a0 a1 a2 a3 a4 a5 = some (a0 * a3 + a1 * a4 + a2 * a5) := by
 unfold be; rw [h0, h1, h2, h3, h4, h5]; rfl
def FY : HK where
 call := fun args σ k => match args with
  | [.agg [.int .i64 a0, .int .i64 a1, .int .i64 a2], .agg [.int .i64 a3, .int .i64 a4, .int .i64 a5]] => Option.bind (be a0 a1 a2 a3 a4 a5) fun r => k (.ret (.agg [.int .u64 (aa r 0), .int .u64 (aa r 1), .int .u64 (aa r 2), .int .u64 (aa r 3), .int .u64 (aa r 4), .int .u64 (aa r 5), .int .u64 (aa r 6), .int .u64 (aa r 7)])) σ
  | _ => none
 nat := fun args σ k => by
  repeat' split
  all_goals simp only [UA, Uz, Uy]
 pure := true
 pok := fun _ args σ r σ' h => by
  split at h
  ·obtain ⟨q, h1, h2⟩ := bE_ h
   simp only [UB, UD] at h2
   obtain ⟨rfl, rfl⟩ := h2
   exact ⟨rfl, ⟨_, rfl⟩, fun σ2 => by simp only [h1, Uy]⟩
  ·cases h
theorem EO : aX U2 68 FY := I0.cO fun args σ x h => by
 simp only [FY] at h
 split at h
 ·rename_i a0 a1 a2 a3 a4 a5
  obtain ⟨r, h1, h2⟩ := bE_ h
  simp only [za, Tx h1, Uy]
  exact h2
 ·cases h
def lY (a0 a1 a2 a3 a4 a5 a6 a7 a8 a9 a10 a11 a12 a13 a14 a15 a16 a17 a18 a19 a20 a21 a22 a23 a24 a25 a26 : Int) : Option Int := af (ok8 a0 a1 a2 a3 a4 a5 a6 a7 && ok8 a8 a9 a10 a11 a12 a13 a14 a15 && ok8 a16 a17 a18 a19 a20 a21 a22 a23 && ba a24 && ba a25 && ba a26 && fh ((num a0 a1 a2 a3 a4 a5 a6 a7) * a24) && fh ((num a8 a9 a10 a11 a12 a13 a14 a15) * a25) && fh ((num a16 a17 a18 a19 a20 a21 a22 a23) * a26) && fh ((num a0 a1 a2 a3 a4 a5 a6 a7) * a24 + (num a8 a9 a10 a11 a12 a13 a14 a15) * a25) && fh ((num a0 a1 a2 a3 a4 a5 a6 a7) * a24 + (num a8 a9 a10 a11 a12 a13 a14 a15) * a25 + (num a16 a17 a18 a19 a20 a21 a22 a23) * a26)) (some ((num a0 a1 a2 a3 a4 a5 a6 a7) * a24 + (num a8 a9 a10 a11 a12 a13 a14 a15) * a25 + (num a16 a17 a18 a19 a20 a21 a22 a23) * a26))
theorem OP {a0 a1 a2 a3 a4 a5 a6 a7 a8 a9 a10 a11 a12 a13 a14 a15 a16 a17 a18 a19 a20 a21 a22 a23 a24 a25 a26 r : Int} (h : lY a0 a1 a2 a3 a4 a5 a6 a7 a8 a9 a10 a11 a12 a13 a14 a15 a16 a17 a18 a19 a20 a21 a22 a23 a24 a25 a26 = some r) : gB a0 a1 a2 a3 a4 a5 a6 a7 a8 a9 a10 a11 a12 a13 a14 a15 a16 a17 a18 a19 a20 a21 a22 a23 a24 a25 a26 = some (t9 r true) := by
 unfold lY at h
 obtain ⟨h1, h2⟩ := aH h
 simp only [UC, and_assoc] at h1
 obtain ⟨o1, o2, o3, r1, r2, r3, f1, f2, f3, f4, f5⟩ := h1
 simp only [UB] at h2
 subst h2
 have q := Ic (fj o1) (fj o2) (fj o3) r1 r2 r3 (bY.1 f1) (bY.1 f2) (bY.1 f3) (bY.1 f4) (bY.1 f5)
 obtain ⟨e10, e11, e12, e13, e14, e15, e16, e17⟩ := aQ o1
 obtain ⟨e20, e21, e22, e23, e24, e25, e26, e27⟩ := aQ o2
 obtain ⟨e30, e31, e32, e33, e34, e35, e36, e37⟩ := aQ o3
 rw [e10, e11, e12, e13, e14, e15, e16, e17, e20, e21, e22, e23, e24, e25, e26, e27, e30, e31, e32, e33, e34, e35, e36, e37] at q
 exact q
def OQ (x y z a b c : Int) : Option Int := lY (aa x 0) (aa x 1) (aa x 2) (aa x 3) (aa x 4) (aa x 5) (aa x 6) (aa x 7) (aa y 0) (aa y 1) (aa y 2) (aa y 3) (aa y 4) (aa y 5) (aa y 6) (aa y 7) (aa z 0) (aa z 1) (aa z 2) (aa z 3) (aa z 4) (aa z 5) (aa z 6) (aa z 7) a b c
theorem IN {x y z a b c : Int} (hx : fit x) (hy : fit y) (hz : fit z) (ha : ba a = true) (hb : ba b = true) (hc : ba c = true) (h1 : fit (x * a)) (h2 : fit (y * b)) (h3 : fit (z * c)) (h4 : fit (x * a + y * b)) (h5 : fit (x * a + y * b + z * c)) : OQ x y z a b c = some (x * a + y * b + z * c) := by
 unfold OQ lY; rw [bA, bA, bA, aI hx, aI hy, aI hz, ha, hb, hc, bY.2 h1, bY.2 h2, bY.2 h3, bY.2 h4, bY.2 h5]; rfl
def y8 : HK where
 call := fun args σ k => match args with
  | [.agg [.int .u64 a0, .int .u64 a1, .int .u64 a2, .int .u64 a3, .int .u64 a4, .int .u64 a5, .int .u64 a6, .int .u64 a7, .int .u64 a8, .int .u64 a9, .int .u64 a10, .int .u64 a11, .int .u64 a12, .int .u64 a13, .int .u64 a14, .int .u64 a15, .int .u64 a16, .int .u64 a17, .int .u64 a18, .int .u64 a19, .int .u64 a20, .int .u64 a21, .int .u64 a22, .int .u64 a23], .agg [.int .i64 a24, .int .i64 a25, .int .i64 a26]] => Option.bind (lY a0 a1 a2 a3 a4 a5 a6 a7 a8 a9 a10 a11 a12 a13 a14 a15 a16 a17 a18 a19 a20 a21 a22 a23 a24 a25 a26) fun r => k (.ret (.tup [.agg [.int .u64 (aa r 0), .int .u64 (aa r 1), .int .u64 (aa r 2), .int .u64 (aa r 3), .int .u64 (aa r 4), .int .u64 (aa r 5), .int .u64 (aa r 6), .int .u64 (aa r 7)], .bool true])) σ
  | _ => none
 nat := fun args σ k => by
  repeat' split
  all_goals simp only [UA, Uz, Uy]
 pure := true
 pok := fun _ args σ r σ' h => by
  split at h
  ·obtain ⟨q, h1, h2⟩ := bE_ h
   simp only [UB, UD] at h2
   obtain ⟨rfl, rfl⟩ := h2
   exact ⟨rfl, ⟨_, rfl⟩, fun σ2 => by simp only [h1, Uy]⟩
  ·cases h
theorem DS : aX U2 20 y8 := pk.cO fun args σ x h => by
 simp only [y8] at h
 split at h
 ·rename_i a0 a1 a2 a3 a4 a5 a6 a7 a8 a9 a10 a11 a12 a13 a14 a15 a16 a17 a18 a19 a20 a21 a22 a23 a24 a25 a26
  obtain ⟨r, h1, h2⟩ := bE_ h
  simp only [kW, OP h1, Uy]
  exact h2
 ·cases h
abbrev mR := (I8 (LA_ × Nat))
def mA : CH := (CH.add 19 HD CH.none)
def no : CH := uJ U2 iQ [69] 60 mA 5
theorem td : aG U2 mA := (CH.ak CK CH.aF)
theorem ub : aG U2 no := ik aJ mixed bK td 5
def qS (u0 u1 u2 : Int) : Option (mR) :=
 (Option.bind (cOf 1) fun r1 => (some (aY r1 (((v8 (aa r1 0) (aa r1 1) (aa r1 2) (aa r1 3) (aa r1 4) (aa r1 5) (aa r1 6) (aa r1 7) []) : LA_), 1))))
def jk : FD where
 X := mR
 k := 1
 pre := [(2, 8)]
 F := fun s => [0, nameAt s 0 [.c 0]]
 M := .tup [.vec 1, .agg (rl (.int .u64) 8 [])]
 B := [.vec 8 true]
 toL := fun x => [.I x.1, .I x.2.1, .I x.2.2.1, .I x.2.2.2.1, .I x.s4.1, .I x.s4.2.1, .I x.s4.2.2.1, .I x.s4.2.2.2.1, .C x.s8.1, .N x.s8.2]
 ofL := fun ls => match ls with
  | [.I x0, .I x1, .I x2, .I x3, .I x4, .I x5, .I x6, .I x7, .C x8, .N x9] => some (x0, x1, x2, x3, x4, x5, x6, x7, x8, x9)
  | _ => none
 au := fun ls x h => by
  split at h
  ·cases h; rfl
  ·cases h
theorem v9 (u0 u1 u2 : Int) (x : mR) (h : qS u0 u1 u2 = some x) : bg U2 44 1 [.vec 0] [.vec [.int .i64 u0, .int .i64 u1, .int .i64 u2] 1 3 false] jk x :=
 FD.sem (ch := no) (A := bD) (fn := Try.f44) (c := bu Try.f44) (fuel := 60) aJ ub mixed bK jk Try.func44 (by kernel_rfl) (aK (l := [aO Try.f44 0, aO Try.f44 1]) (by kernel_rfl) ⟨(eh (by kernel_rfl)), (eh (by kernel_rfl)), trivial⟩)
  (by kernel_rfl) (Eq.trans (by kernel_rfl) h)
def Dv : CH := CH.none
theorem zh : aG U2 Dv := CH.aF
def cK (a0 a1 a2 a3 a4 a5 : Int) : Option (Int × Int × Int) :=
 (some ((IntKind.wrap .i64 (a0 - a3)), (IntKind.wrap .i64 (a1 - a4)), (IntKind.wrap .i64 (a2 - a5))))
def jH : FD where
 X := Int × Int × Int
 k := 0
 pre := []
 F := fun s => []
 M := .agg [.int .i64, .int .i64, .int .i64]
 B := []
 toL := fun x => [.I x.1, .I x.2.1, .I x.2.2]
 ofL := fun ls => match ls with
  | [.I x0, .I x1, .I x2] => some (x0, x1, x2)
  | _ => none
 au := fun ls x h => by
  split at h
  ·cases h; rfl
  ·cases h
theorem BC (a0 a1 a2 a3 a4 a5 : Int) (x : Int × Int × Int) (h : cK a0 a1 a2 a3 a4 a5 = some x) : bg U2 65 0 [.agg [.int .i64 a0, .int .i64 a1, .int .i64 a2], .agg [.int .i64 a3, .int .i64 a4, .int .i64 a5]] [] jH x :=
 FD.semA jH zh Try.func65 (fuel := 60) (by kernel_rfl) (by kernel_rfl)
  (by kernel_rfl) (Eq.trans (by kernel_rfl) h)
def jf : HK where
 call := fun args σ k => match args with
  | [.agg [.int .i64 a0, .int .i64 a1, .int .i64 a2], .agg [.int .i64 a3, .int .i64 a4, .int .i64 a5]] => Option.bind (cK a0 a1 a2 a3 a4 a5) fun y => aC σ 0 (jH.val y) (jH.aN y) k
  | _ => none
 nat := fun args σ k => by
  repeat' split
  all_goals simp only [av, ai, UA, Uz, aC, Uy]
 pure := true
 pok := fun _ args σ r σ' h => by
  split at h
  ·exact bq h (fun y => rfl) (fun y f => rfl)
  ·cases h
theorem mO : aX U2 65 jf := by
 intro args σ r σ' h
 simp only [jf] at h
 split at h
 ·rename_i a0 a1 a2 a3 a4 a5
  obtain ⟨y, hy, h⟩ := bE_ h
  exact lifted (xs := []) (ls := []) (cargs := [.agg [.int .i64 a0, .int .i64 a1, .int .i64 a2], .agg [.int .i64 a3, .int .i64 a4, .int .i64 a5]]) (bC.of trivial) rfl (BC a0 a1 a2 a3 a4 a5 y hy) rfl rfl rfl rfl h
 ·cases h
abbrev mS := (I8 (LA_ × Nat))
def mC : CH := (CH.add 65 jf (CH.add 70 BN (CH.add 68 FY (CH.add 67 ya CH.none))))
def np : CH := uJ U2 iQ [66, 69, 84] 60 mC 5
theorem te : aG U2 mC := (CH.ak mO (CH.ak BO (CH.ak EO (CH.ak wt CH.aF))))
theorem uc : aG U2 np := ik aJ mixed bK te 5
def gO (u0 u1 u2 u3 u4 u5 : Int) : Option (mS) :=
 (Option.bind (cK u3 u4 u5 u0 u1 u2) fun r1 => (Option.bind (be r1.1 r1.2.1 r1.2.2 r1.1 r1.2.1 r1.2.2) fun r2 => (Option.bind (be r1.1 r1.2.1 r1.2.2 u0 u1 u2) fun r3 => (Option.bind (fR r3) fun r4 => (Option.bind (eG r2 r4) fun r5 => (some (aY r2 (((v8 (aa r5 0) (aa r5 1) (aa r5 2) (aa r5 3) (aa r5 4) (aa r5 5) (aa r5 6) (aa r5 7) (v8 (aa r4 0) (aa r4 1) (aa r4 2) (aa r4 3) (aa r4 4) (aa r4 5) (aa r4 6) (aa r4 7) [])) : LA_), 2))))))))
def oH : FD where
 X := mS
 k := 1
 pre := [(2, 8)]
 F := fun s => [0, nameAt s 0 [.c 0]]
 M := .tup [.vec 1, .agg (rl (.int .u64) 8 [])]
 B := [.vec 8 true]
 toL := fun x => [.I x.1, .I x.2.1, .I x.2.2.1, .I x.2.2.2.1, .I x.s4.1, .I x.s4.2.1, .I x.s4.2.2.1, .I x.s4.2.2.2.1, .C x.s8.1, .N x.s8.2]
 ofL := fun ls => match ls with
  | [.I x0, .I x1, .I x2, .I x3, .I x4, .I x5, .I x6, .I x7, .C x8, .N x9] => some (x0, x1, x2, x3, x4, x5, x6, x7, x8, x9)
  | _ => none
 au := fun ls x h => by
  split at h
  ·cases h; rfl
  ·cases h
theorem wa (u0 u1 u2 u3 u4 u5 : Int) (x : mS) (h : gO u0 u1 u2 u3 u4 u5 = some x) : bg U2 44 1 [.vec 0] [.vec [.int .i64 u0, .int .i64 u1, .int .i64 u2, .int .i64 u3, .int .i64 u4, .int .i64 u5] 2 3 false] oH x :=
 FD.sem (ch := np) (A := bD) (fn := Try.f44) (c := bu Try.f44) (fuel := 60) aJ uc mixed bK oH Try.func44 (by kernel_rfl) (aK (l := [aO Try.f44 0, aO Try.f44 1]) (by kernel_rfl) ⟨(eh (by kernel_rfl)), (eh (by kernel_rfl)), trivial⟩)
  (by kernel_rfl) (Eq.trans (by kernel_rfl) h)
abbrev mT := (I8 (LA_ × Nat))
def mD : CH := (CH.add 65 jf (CH.add 70 BN (CH.add 68 FY (CH.add 67 ya (CH.add 22 rq CH.none)))))
def nq : CH := uJ U2 iQ [66, 69, 84, 85] 60 mD 5
theorem tf : aG U2 mD := (CH.ak mO (CH.ak BO (CH.ak EO (CH.ak wt (CH.ak pB CH.aF)))))
theorem ud : aG U2 nq := ik aJ mixed bK tf 5
def gP (u0 u1 u2 u3 u4 u5 u6 u7 u8 : Int) : Option (mT) :=
 (Option.bind (cK u3 u4 u5 u0 u1 u2) fun r1 => (Option.bind (cK u6 u7 u8 u0 u1 u2) fun r2 => (Option.bind (be r1.1 r1.2.1 r1.2.2 r1.1 r1.2.1 r1.2.2) fun r3 => (Option.bind (be r2.1 r2.2.1 r2.2.2 r2.1 r2.2.1 r2.2.2) fun r4 => (Option.bind (ct r3 r4) fun r5 => (Option.bind (be r1.1 r1.2.1 r1.2.2 r2.1 r2.2.1 r2.2.2) fun r6 => (Option.bind (be r2.1 r2.2.1 r2.2.2 r1.1 r1.2.1 r1.2.2) fun r7 => (Option.bind (ct r6 r7) fun r8 => (Option.bind (eG r5 r8) fun r9 => (Option.bind (be r1.1 r1.2.1 r1.2.2 u0 u1 u2) fun r10 => (Option.bind (fR r10) fun r11 => (Option.bind (be r2.1 r2.2.1 r2.2.2 r2.1 r2.2.1 r2.2.2) fun r12 => (Option.bind (ct r11 r12) fun r13 => (Option.bind (be r1.1 r1.2.1 r1.2.2 r2.1 r2.2.1 r2.2.2) fun r14 => (Option.bind (be r2.1 r2.2.1 r2.2.2 u0 u1 u2) fun r15 => (Option.bind (fR r15) fun r16 => (Option.bind (ct r14 r16) fun r17 => (Option.bind (eG r13 r17) fun r18 => (Option.bind (eG r9 r18) fun r19 => (Option.bind (be r1.1 r1.2.1 r1.2.2 r1.1 r1.2.1 r1.2.2) fun r20 => (Option.bind (be r2.1 r2.2.1 r2.2.2 u0 u1 u2) fun r21 => (Option.bind (fR r21) fun r22 => (Option.bind (ct r20 r22) fun r23 => (Option.bind (be r1.1 r1.2.1 r1.2.2 u0 u1 u2) fun r24 => (Option.bind (fR r24) fun r25 => (Option.bind (be r2.1 r2.2.1 r2.2.2 r1.1 r1.2.1 r1.2.2) fun r26 => (Option.bind (ct r25 r26) fun r27 => (Option.bind (eG r23 r27) fun r28 => (Option.bind (eG r19 r28) fun r29 => (some (aY r9 (((v8 (aa r29 0) (aa r29 1) (aa r29 2) (aa r29 3) (aa r29 4) (aa r29 5) (aa r29 6) (aa r29 7) (v8 (aa r18 0) (aa r18 1) (aa r18 2) (aa r18 3) (aa r18 4) (aa r18 5) (aa r18 6) (aa r18 7) (v8 (aa r28 0) (aa r28 1) (aa r28 2) (aa r28 3) (aa r28 4) (aa r28 5) (aa r28 6) (aa r28 7) []))) : LA_), 3))))))))))))))))))))))))))))))))
def oI : FD where
 X := mT
 k := 1
 pre := [(2, 8)]
 F := fun s => [0, nameAt s 0 [.c 0]]
 M := .tup [.vec 1, .agg (rl (.int .u64) 8 [])]
 B := [.vec 8 true]
 toL := fun x => [.I x.1, .I x.2.1, .I x.2.2.1, .I x.2.2.2.1, .I x.s4.1, .I x.s4.2.1, .I x.s4.2.2.1, .I x.s4.2.2.2.1, .C x.s8.1, .N x.s8.2]
 ofL := fun ls => match ls with
  | [.I x0, .I x1, .I x2, .I x3, .I x4, .I x5, .I x6, .I x7, .C x8, .N x9] => some (x0, x1, x2, x3, x4, x5, x6, x7, x8, x9)
  | _ => none
 au := fun ls x h => by
  split at h
  ·cases h; rfl
  ·cases h
theorem wb (u0 u1 u2 u3 u4 u5 u6 u7 u8 : Int) (x : mT) (h : gP u0 u1 u2 u3 u4 u5 u6 u7 u8 = some x) : bg U2 44 1 [.vec 0] [.vec [.int .i64 u0, .int .i64 u1, .int .i64 u2, .int .i64 u3, .int .i64 u4, .int .i64 u5, .int .i64 u6, .int .i64 u7, .int .i64 u8] 3 3 false] oI x :=
 FD.sem (ch := nq) (A := bD) (fn := Try.f44) (c := bu Try.f44) (fuel := 60) aJ ud mixed bK oI Try.func44 (by kernel_rfl) (aK (l := [aO Try.f44 0, aO Try.f44 1]) (by kernel_rfl) ⟨(eh (by kernel_rfl)), (eh (by kernel_rfl)), trivial⟩)
  (by kernel_rfl) (Eq.trans (by kernel_rfl) h)
abbrev mU := (I8 (LA_ × Nat))
def mE : CH := (CH.add 65 jf (CH.add 70 BN (CH.add 68 FY (CH.add 67 ya (CH.add 39 BI (CH.add 22 rq CH.none))))))
def nr : CH := uJ U2 iQ [66, 69, 84, 85] 60 mE 5
theorem tg : aG U2 mE := (CH.ak mO (CH.ak BO (CH.ak EO (CH.ak wt (CH.ak BJ (CH.ak pB CH.aF))))))
theorem ue : aG U2 nr := ik aJ mixed bK tg 5
def gQ (u0 u1 u2 u3 u4 u5 u6 u7 u8 u9 u10 u11 : Int) : Option (mU) :=
 (Option.bind (cK u3 u4 u5 u0 u1 u2) fun r1 => (Option.bind (cK u6 u7 u8 u0 u1 u2) fun r2 => (Option.bind (cK u9 u10 u11 u0 u1 u2) fun r3 => (Option.bind (be r1.1 r1.2.1 r1.2.2 r1.1 r1.2.1 r1.2.2) fun r4 => (Option.bind (be r2.1 r2.2.1 r2.2.2 r2.1 r2.2.1 r2.2.2) fun r5 => (Option.bind (be r3.1 r3.2.1 r3.2.2 r3.1 r3.2.1 r3.2.2) fun r6 => (Option.bind (ct r5 r6) fun r7 => (Option.bind (be r2.1 r2.2.1 r2.2.2 r3.1 r3.2.1 r3.2.2) fun r8 => (Option.bind (be r3.1 r3.2.1 r3.2.2 r2.1 r2.2.1 r2.2.2) fun r9 => (Option.bind (ct r8 r9) fun r10 => (Option.bind (eG r7 r10) fun r11 => (Option.bind (ct r4 r11) fun r12 => (Option.bind (be r1.1 r1.2.1 r1.2.2 r2.1 r2.2.1 r2.2.2) fun r13 => (Option.bind (be r2.1 r2.2.1 r2.2.2 r1.1 r1.2.1 r1.2.2) fun r14 => (Option.bind (be r3.1 r3.2.1 r3.2.2 r3.1 r3.2.1 r3.2.2) fun r15 => (Option.bind (ct r14 r15) fun r16 => (Option.bind (be r2.1 r2.2.1 r2.2.2 r3.1 r3.2.1 r3.2.2) fun r17 => (Option.bind (be r3.1 r3.2.1 r3.2.2 r1.1 r1.2.1 r1.2.2) fun r18 => (Option.bind (ct r17 r18) fun r19 => (Option.bind (eG r16 r19) fun r20 => (Option.bind (ct r13 r20) fun r21 => (Option.bind (eG r12 r21) fun r22 => (Option.bind (be r1.1 r1.2.1 r1.2.2 r3.1 r3.2.1 r3.2.2) fun r23 => (Option.bind (be r2.1 r2.2.1 r2.2.2 r1.1 r1.2.1 r1.2.2) fun r24 => (Option.bind (be r3.1 r3.2.1 r3.2.2 r2.1 r2.2.1 r2.2.2) fun r25 => (Option.bind (ct r24 r25) fun r26 => (Option.bind (be r2.1 r2.2.1 r2.2.2 r2.1 r2.2.1 r2.2.2) fun r27 => (Option.bind (be r3.1 r3.2.1 r3.2.2 r1.1 r1.2.1 r1.2.2) fun r28 => (Option.bind (ct r27 r28) fun r29 => (Option.bind (eG r26 r29) fun r30 => (Option.bind (ct r23 r30) fun r31 => (Option.bind (xm r22 r31) fun r32 => (Option.bind (be r1.1 r1.2.1 r1.2.2 u0 u1 u2) fun r33 => (Option.bind (fR r33) fun r34 => (Option.bind (be r2.1 r2.2.1 r2.2.2 r2.1 r2.2.1 r2.2.2) fun r35 => (Option.bind (be r3.1 r3.2.1 r3.2.2 r3.1 r3.2.1 r3.2.2) fun r36 => (Option.bind (ct r35 r36) fun r37 => (Option.bind (be r2.1 r2.2.1 r2.2.2 r3.1 r3.2.1 r3.2.2) fun r38 => (Option.bind (be r3.1 r3.2.1 r3.2.2 r2.1 r2.2.1 r2.2.2) fun r39 => (Option.bind (ct r38 r39) fun r40 => (Option.bind (eG r37 r40) fun r41 => (Option.bind (ct r34 r41) fun r42 => (Option.bind (be r1.1 r1.2.1 r1.2.2 r2.1 r2.2.1 r2.2.2) fun r43 => (Option.bind (be r2.1 r2.2.1 r2.2.2 u0 u1 u2) fun r44 => (Option.bind (fR r44) fun r45 => (Option.bind (be r3.1 r3.2.1 r3.2.2 r3.1 r3.2.1 r3.2.2) fun r46 => (Option.bind (ct r45 r46) fun r47 => (Option.bind (be r2.1 r2.2.1 r2.2.2 r3.1 r3.2.1 r3.2.2) fun r48 => (Option.bind (be r3.1 r3.2.1 r3.2.2 u0 u1 u2) fun r49 => (Option.bind (fR r49) fun r50 => (Option.bind (ct r48 r50) fun r51 => (Option.bind (eG r47 r51) fun r52 => (Option.bind (ct r43 r52) fun r53 => (Option.bind (eG r42 r53) fun r54 => (Option.bind (be r1.1 r1.2.1 r1.2.2 r3.1 r3.2.1 r3.2.2) fun r55 => (Option.bind (be r2.1 r2.2.1 r2.2.2 u0 u1 u2) fun r56 => (Option.bind (fR r56) fun r57 => (Option.bind (be r3.1 r3.2.1 r3.2.2 r2.1 r2.2.1 r2.2.2) fun r58 => (Option.bind (ct r57 r58) fun r59 => (Option.bind (be r2.1 r2.2.1 r2.2.2 r2.1 r2.2.1 r2.2.2) fun r60 => (Option.bind (be r3.1 r3.2.1 r3.2.2 u0 u1 u2) fun r61 => (Option.bind (fR r61) fun r62 => (Option.bind (ct r60 r62) fun r63 => (Option.bind (eG r59 r63) fun r64 => (Option.bind (ct r55 r64) fun r65 => (Option.bind (xm r54 r65) fun r66 => (Option.bind (eG r32 r66) fun r67 => (Option.bind (be r1.1 r1.2.1 r1.2.2 r1.1 r1.2.1 r1.2.2) fun r68 => (Option.bind (be r2.1 r2.2.1 r2.2.2 u0 u1 u2) fun r69 => (Option.bind (fR r69) fun r70 => (Option.bind (be r3.1 r3.2.1 r3.2.2 r3.1 r3.2.1 r3.2.2) fun r71 => (Option.bind (ct r70 r71) fun r72 => (Option.bind (be r2.1 r2.2.1 r2.2.2 r3.1 r3.2.1 r3.2.2) fun r73 => (Option.bind (be r3.1 r3.2.1 r3.2.2 u0 u1 u2) fun r74 => (Option.bind (fR r74) fun r75 => (Option.bind (ct r73 r75) fun r76 => (Option.bind (eG r72 r76) fun r77 => (Option.bind (ct r68 r77) fun r78 => (Option.bind (be r1.1 r1.2.1 r1.2.2 u0 u1 u2) fun r79 => (Option.bind (fR r79) fun r80 => (Option.bind (be r2.1 r2.2.1 r2.2.2 r1.1 r1.2.1 r1.2.2) fun r81 => (Option.bind (be r3.1 r3.2.1 r3.2.2 r3.1 r3.2.1 r3.2.2) fun r82 => (Option.bind (ct r81 r82) fun r83 => (Option.bind (be r2.1 r2.2.1 r2.2.2 r3.1 r3.2.1 r3.2.2) fun r84 => (Option.bind (be r3.1 r3.2.1 r3.2.2 r1.1 r1.2.1 r1.2.2) fun r85 => (Option.bind (ct r84 r85) fun r86 => (Option.bind (eG r83 r86) fun r87 => (Option.bind (ct r80 r87) fun r88 => (Option.bind (eG r78 r88) fun r89 => (Option.bind (be r1.1 r1.2.1 r1.2.2 r3.1 r3.2.1 r3.2.2) fun r90 => (Option.bind (be r2.1 r2.2.1 r2.2.2 r1.1 r1.2.1 r1.2.2) fun r91 => (Option.bind (be r3.1 r3.2.1 r3.2.2 u0 u1 u2) fun r92 => (Option.bind (fR r92) fun r93 => (Option.bind (ct r91 r93) fun r94 => (Option.bind (be r2.1 r2.2.1 r2.2.2 u0 u1 u2) fun r95 => (Option.bind (fR r95) fun r96 => (Option.bind (be r3.1 r3.2.1 r3.2.2 r1.1 r1.2.1 r1.2.2) fun r97 => (Option.bind (ct r96 r97) fun r98 => (Option.bind (eG r94 r98) fun r99 => (Option.bind (ct r90 r99) fun r100 => (Option.bind (xm r89 r100) fun r101 => (Option.bind (eG r67 r101) fun r102 => (Option.bind (be r1.1 r1.2.1 r1.2.2 r1.1 r1.2.1 r1.2.2) fun r103 => (Option.bind (be r2.1 r2.2.1 r2.2.2 r2.1 r2.2.1 r2.2.2) fun r104 => (Option.bind (be r3.1 r3.2.1 r3.2.2 u0 u1 u2) fun r105 => (Option.bind (fR r105) fun r106 => (Option.bind (ct r104 r106) fun r107 => (Option.bind (be r2.1 r2.2.1 r2.2.2 u0 u1 u2) fun r108 => (Option.bind (fR r108) fun r109 => (Option.bind (be r3.1 r3.2.1 r3.2.2 r2.1 r2.2.1 r2.2.2) fun r110 => (Option.bind (ct r109 r110) fun r111 => (Option.bind (eG r107 r111) fun r112 => (Option.bind (ct r103 r112) fun r113 => (Option.bind (be r1.1 r1.2.1 r1.2.2 r2.1 r2.2.1 r2.2.2) fun r114 => (Option.bind (be r2.1 r2.2.1 r2.2.2 r1.1 r1.2.1 r1.2.2) fun r115 => (Option.bind (be r3.1 r3.2.1 r3.2.2 u0 u1 u2) fun r116 => (Option.bind (fR r116) fun r117 => (Option.bind (ct r115 r117) fun r118 => (Option.bind (be r2.1 r2.2.1 r2.2.2 u0 u1 u2) fun r119 => (Option.bind (fR r119) fun r120 => (Option.bind (be r3.1 r3.2.1 r3.2.2 r1.1 r1.2.1 r1.2.2) fun r121 => (Option.bind (ct r120 r121) fun r122 => (Option.bind (eG r118 r122) fun r123 => (Option.bind (ct r114 r123) fun r124 => (Option.bind (eG r113 r124) fun r125 => (Option.bind (be r1.1 r1.2.1 r1.2.2 u0 u1 u2) fun r126 => (Option.bind (fR r126) fun r127 => (Option.bind (be r2.1 r2.2.1 r2.2.2 r1.1 r1.2.1 r1.2.2) fun r128 => (Option.bind (be r3.1 r3.2.1 r3.2.2 r2.1 r2.2.1 r2.2.2) fun r129 => (Option.bind (ct r128 r129) fun r130 => (Option.bind (be r2.1 r2.2.1 r2.2.2 r2.1 r2.2.1 r2.2.2) fun r131 => (Option.bind (be r3.1 r3.2.1 r3.2.2 r1.1 r1.2.1 r1.2.2) fun r132 => (Option.bind (ct r131 r132) fun r133 => (Option.bind (eG r130 r133) fun r134 => (Option.bind (ct r127 r134) fun r135 => (Option.bind (xm r125 r135) fun r136 => (Option.bind (eG r102 r136) fun r137 => (some (aY r32 (((v8 (aa r137 0) (aa r137 1) (aa r137 2) (aa r137 3) (aa r137 4) (aa r137 5) (aa r137 6) (aa r137 7) (v8 (aa r66 0) (aa r66 1) (aa r66 2) (aa r66 3) (aa r66 4) (aa r66 5) (aa r66 6) (aa r66 7) (v8 (aa r101 0) (aa r101 1) (aa r101 2) (aa r101 3) (aa r101 4) (aa r101 5) (aa r101 6) (aa r101 7) (v8 (aa r136 0) (aa r136 1) (aa r136 2) (aa r136 3) (aa r136 4) (aa r136 5) (aa r136 6) (aa r136 7) [])))) : LA_), 4))))))))))))))))))))))))))))))))))))))))))))))))))))))))))))))))))))))))))))))))))))))))))))))))))))))))))))))))))))))))))))))))))))))))))))
def oJ : FD where
 X := mU
 k := 1
 pre := [(2, 8)]
 F := fun s => [0, nameAt s 0 [.c 0]]
 M := .tup [.vec 1, .agg (rl (.int .u64) 8 [])]
 B := [.vec 8 true]
 toL := fun x => [.I x.1, .I x.2.1, .I x.2.2.1, .I x.2.2.2.1, .I x.s4.1, .I x.s4.2.1, .I x.s4.2.2.1, .I x.s4.2.2.2.1, .C x.s8.1, .N x.s8.2]
 ofL := fun ls => match ls with
  | [.I x0, .I x1, .I x2, .I x3, .I x4, .I x5, .I x6, .I x7, .C x8, .N x9] => some (x0, x1, x2, x3, x4, x5, x6, x7, x8, x9)
  | _ => none
 au := fun ls x h => by
  split at h
  ·cases h; rfl
  ·cases h
theorem wd (u0 u1 u2 u3 u4 u5 u6 u7 u8 u9 u10 u11 : Int) (x : mU) (h : gQ u0 u1 u2 u3 u4 u5 u6 u7 u8 u9 u10 u11 = some x) : bg U2 44 1 [.vec 0] [.vec [.int .i64 u0, .int .i64 u1, .int .i64 u2, .int .i64 u3, .int .i64 u4, .int .i64 u5, .int .i64 u6, .int .i64 u7, .int .i64 u8, .int .i64 u9, .int .i64 u10, .int .i64 u11] 4 3 false] oJ x :=
 FD.sem (ch := nr) (A := bD) (fn := Try.f44) (c := bu Try.f44) (fuel := 60) aJ ue mixed bK oJ Try.func44 (by kernel_rfl) (aK (l := [aO Try.f44 0, aO Try.f44 1]) (by kernel_rfl) ⟨(eh (by kernel_rfl)), (eh (by kernel_rfl)), trivial⟩)
  (by kernel_rfl) (Eq.trans (by kernel_rfl) h)
def f6 (cs0 : LA_) (n1 : Nat) : Option ((I8 (LA_ × Nat))) := match cs0, n1 with
 | [.int .i64 u0, .int .i64 u1, .int .i64 u2], 1 => qS u0 u1 u2
 | [.int .i64 u0, .int .i64 u1, .int .i64 u2, .int .i64 u3, .int .i64 u4, .int .i64 u5], 2 => gO u0 u1 u2 u3 u4 u5
 | [.int .i64 u0, .int .i64 u1, .int .i64 u2, .int .i64 u3, .int .i64 u4, .int .i64 u5, .int .i64 u6, .int .i64 u7, .int .i64 u8], 3 => gP u0 u1 u2 u3 u4 u5 u6 u7 u8
 | [.int .i64 u0, .int .i64 u1, .int .i64 u2, .int .i64 u3, .int .i64 u4, .int .i64 u5, .int .i64 u6, .int .i64 u7, .int .i64 u8, .int .i64 u9, .int .i64 u10, .int .i64 u11], 4 => gQ u0 u1 u2 u3 u4 u5 u6 u7 u8 u9 u10 u11
 | _, _ => none
def dj : FD := jk
theorem yc (cs0 : LA_) (n1 : Nat) (x : (I8 (LA_ × Nat))) (h : f6 cs0 n1 = some x) : bg U2 44 1 [.vec 0] [.vec cs0 n1 3 false] dj x := by
 unfold f6 at h
 split at h
 ·exact v9 _ _ _ x h
 ·exact wa _ _ _ _ _ _ x h
 ·exact wb _ _ _ _ _ _ _ _ _ x h
 ·exact wd _ _ _ _ _ _ _ _ _ _ _ _ x h
 ·cases h
def di (cs0 : LA_) (n1 : Nat) : Option (Int × LA_ × Nat) := Option.bind (f6 cs0 n1) fun (x0, x1, x2, x3, x4, x5, x6, x7, x8, x9) => af (ok8 x0 x1 x2 x3 x4 x5 x6 x7) (some ((num x0 x1 x2 x3 x4 x5 x6 x7), x8, x9))
def kF : FD := ⟨Int × LA_ × Nat, dj.k, dj.pre, dj.F, dj.M, dj.B, fun y => dj.toL (aY y.1 (y.2.1, y.2.2)), fun _ => none, fun _ _ h => by cases h⟩
theorem zD (cs0 : LA_) (n1 : Nat) {y : Int × LA_ × Nat} (h : di cs0 n1 = some y) : f6 cs0 n1 = some (aY y.1 (y.2.1, y.2.2)) := by
 unfold di at h
 obtain ⟨⟨x0, x1, x2, x3, x4, x5, x6, x7, x8, x9⟩, h1, h2⟩ := bE_ h
 obtain ⟨h3, h4⟩ := aH h2
 skip
 simp only [UB] at h4
 subst h4
 have o0 := h3
 have q0 := aQ o0
 rw [h1]
 simp only [aY, q0]
theorem yd (cs0 : LA_) (n1 : Nat) (y : Int × LA_ × Nat) (h : di cs0 n1 = some y) : bg U2 44 1 [.vec 0] [.vec cs0 n1 3 false] kF y := yc cs0 n1 _ (zD cs0 n1 h)
def mP : HK where
 call := fun args σ k => match args with
  | [x0] => cW σ 3 x0 fun cs0 n1 => Option.bind (di cs0 n1) fun y => aC σ 1 (kF.val y) (kF.aN y) k
  | _ => none
 nat := fun args σ k => by
  repeat' split
  all_goals simp only [av, ai, UA, Uz, aC, Uy]
 pure := false
 pok := fun h => by cases h
theorem zo : aX U2 44 mP := by
 intro args σ r σ' h
 simp only [mP] at h
 split at h
 ·rename_i x0
  obtain ⟨cs0, n1, he0, hf0, h⟩ := bE h
  obtain ⟨y, hy, h⟩ := bE_ h
  exact lifted (xs := [x0]) (ls := [.vec cs0 n1 3 false]) (cargs := [.vec 0]) (bC.of ⟨⟨rfl, he0, hf0, by decide⟩, trivial⟩) rfl (yd cs0 n1 y hy) rfl rfl rfl rfl h
 ·cases h
class Sm (k : outParam Nat) (z : Int) : Prop where
 h : sm k z
instance {a b : Nat} {x y : Int} [hx : Sm a x] [hy : Sm b y] : Sm (a + b) (x * y) := ⟨cP hx.h hy.h⟩
instance {a b : Nat} {x y : Int} [hx : Sm a x] [hy : Sm b y] : Sm (max a b + 1) (x + y) := ⟨kj (aW hx.h (Nat.le_max_left _ _)) (aW hy.h (Nat.le_max_right _ _))⟩
instance {a b : Nat} {x y : Int} [hx : Sm a x] [hy : Sm b y] : Sm (max a b + 1) (x - y) := ⟨f8 (aW hx.h (Nat.le_max_left _ _)) (aW hy.h (Nat.le_max_right _ _))⟩
instance {a : Nat} {x : Int} [hx : Sm a x] : Sm a (-x) := ⟨Oz hx.h⟩
theorem Sm.fit {k : Nat} {z : Int} [h : Sm k z] (hk : k ≤ 510) : fit z := bf h.h hk
theorem Sm.rng {k : Nat} {z : Int} [h : Sm k z] (hk : k ≤ 62) : ba z = true := by
 have := aW h.h hk
 rw [CD]
 unfold sm at this
 omega
class PtB (k : outParam Nat) (p : Pt) : Prop where
 h : sm k p.1 ∧ sm k p.2.1 ∧ sm k p.2.2
instance {a b : Nat} {p q : Pt} [hp : PtB a p] [hq : PtB b q] : PtB (max a b + 1) (aB p q) :=
 ⟨f8 (aW hp.h.1 (Nat.le_max_left _ _)) (aW hq.h.1 (Nat.le_max_right _ _)), f8 (aW hp.h.2.1 (Nat.le_max_left _ _)) (aW hq.h.2.1 (Nat.le_max_right _ _)), f8 (aW hp.h.2.2 (Nat.le_max_left _ _)) (aW hq.h.2.2 (Nat.le_max_right _ _))⟩
instance {a b : Nat} {p q : Pt} [hp : PtB a p] [hq : PtB b q] : Sm (a + b + 2) (ae p q) :=
 ⟨kj (kj (cP hp.h.1 hq.h.1) (cP hp.h.2.1 hq.h.2.1)) (aW (cP hp.h.2.2 hq.h.2.2) (Nat.le_succ _))⟩
theorem PtB.of {p : Pt} (h : bP p = true) : PtB 28 p := by
 obtain ⟨h1, h2, h3⟩ := vK.1 h
 have := oQ.1 h1
 have := oQ.1 h2
 have := oQ.1 h3
 exact ⟨by unfold sm; omega, by unfold sm; omega, by unfold sm; omega⟩
theorem OA {a b : Nat} {x y : Int} [Sm a x] [Sm b y] (h1 : a ≤ 510) (h2 : b ≤ 510) (h : a + b ≤ 510) : ct x y = some (x * y) := RP (Sm.fit h1) (Sm.fit h2) (Sm.fit h)
theorem GS {a b : Nat} {x y : Int} [Sm a x] [Sm b y] (h1 : a ≤ 510) (h2 : b ≤ 510) (h : max a b + 1 ≤ 510) : xm x y = some (x + y) := RQ (Sm.fit h1) (Sm.fit h2) (Sm.fit h)
theorem Tf {a b : Nat} {x y : Int} [Sm a x] [Sm b y] (h1 : a ≤ 510) (h2 : b ≤ 510) (h : max a b + 1 ≤ 510) : eG x y = some (x - y) := RR (Sm.fit h1) (Sm.fit h2) (Sm.fit h)
theorem OB {a : Nat} {x : Int} [hx : Sm a x] (h1 : a ≤ 510) : fR x = some (-x) := by
 have e : (0 : Int) - x = -x := Int.zero_sub x
 rw [RS (Sm.fit h1) (by rw [e]; exact Sm.fit h1), e]
theorem Tg {a b : Nat} {p q : Pt} [hp : PtB a p] [hq : PtB b q] (h1 : a ≤ 62) (h2 : b ≤ 62) : be p.1 p.2.1 p.2.2 q.1 q.2.1 q.2.2 = some (ae p q) := by
 have r : ∀ {k : Nat} {z : Int}, sm k z → k ≤ 62 → ba z = true := fun {k z} h hk => (show Sm k z from ⟨h⟩).rng hk
 rw [RT (r hp.h.1 h1) (r hp.h.2.1 h1) (r hp.h.2.2 h1) (r hq.h.1 h2) (r hq.h.2.1 h2) (r hq.h.2.2 h2)]
 rfl
theorem Th {a b : Nat} {p q : Pt} [hp : PtB a p] [hq : PtB b q] (h : max a b ≤ 61) : cK p.1 p.2.1 p.2.2 q.1 q.2.1 q.2.2 = some (aB p q) := by
 have w : ∀ {x y : Int}, sm a x → sm b y → IntKind.wrap .i64 (x - y) = x - y := by
  intro x y hx hy
  have := aW (f8 (aW hx (Nat.le_max_left a b)) (aW hy (Nat.le_max_right a b))) (show max a b + 1 ≤ 62 by omega)
  unfold sm at this
  exact ce (by omega)
 unfold cK
 rw [w hp.h.1 hq.h.1, w hp.h.2.1 hq.h.2.1, w hp.h.2.2 hq.h.2.2]
 rfl
def wcs : List Int → LA_
 | [] => []
 | z :: l => .int .u64 (aa z 0) :: .int .u64 (aa z 1) :: .int .u64 (aa z 2) :: .int .u64 (aa z 3) :: .int .u64 (aa z 4) :: .int .u64 (aa z 5) :: .int .u64 (aa z 6) :: .int .u64 (aa z 7) :: wcs l
section
variable {R : Type} {Q : Option R}
theorem bZ {a b : Nat} {x y : Int} [Sm a x] [Sm b y] {f : Int → Option R} (h1 : a ≤ 510) (h2 : b ≤ 510) (h : a + b ≤ 510) (k : ∀ z, z = x * y → Sm (a + b) z → f z = Q) : (ct x y).bind f = Q := by
 rw [OA h1 h2 h]; exact k _ rfl inferInstance
theorem Jw {a b : Nat} {x y : Int} [Sm a x] [Sm b y] {f : Int → Option R} (h1 : a ≤ 510) (h2 : b ≤ 510) (h : max a b + 1 ≤ 510) (k : ∀ z, z = x + y → Sm (max a b + 1) z → f z = Q) : (xm x y).bind f = Q := by
 rw [GS h1 h2 h]; exact k _ rfl inferInstance
theorem ef {a b : Nat} {x y : Int} [Sm a x] [Sm b y] {f : Int → Option R} (h1 : a ≤ 510) (h2 : b ≤ 510) (h : max a b + 1 ≤ 510) (k : ∀ z, z = x - y → Sm (max a b + 1) z → f z = Q) : (eG x y).bind f = Q := by
 rw [Tf h1 h2 h]; exact k _ rfl inferInstance
theorem fO {a : Nat} {x : Int} [Sm a x] {f : Int → Option R} (h1 : a ≤ 510) (k : ∀ z, z = -x → Sm a z → f z = Q) : (fR x).bind f = Q := by
 rw [OB h1]; exact k _ rfl inferInstance
theorem aR {a b : Nat} {p q : Pt} [PtB a p] [PtB b q] {f : Int → Option R} (h1 : a ≤ 62) (h2 : b ≤ 62) (k : ∀ z, z = ae p q → Sm (a + b + 2) z → f z = Q) : (be p.1 p.2.1 p.2.2 q.1 q.2.1 q.2.2).bind f = Q := by
 rw [Tg h1 h2]; exact k _ rfl inferInstance
theorem yJ {a b : Nat} {p q : Pt} [PtB a p] [PtB b q] {f : Pt → Option R} (h : max a b ≤ 61) (k : ∀ z, z = aB p q → PtB (max a b + 1) z → f z = Q) : (cK p.1 p.2.1 p.2.2 q.1 q.2.1 q.2.2).bind f = Q := by
 rw [Th h]; exact k _ rfl inferInstance
end
theorem aP {p : Pt} {l : List Pt} : bd (p :: l) = true ↔ bP p = true ∧ bd l = true := by simp [bd]
def KS (S : List Pt) : Option ((I8 (LA_ × Nat))) :=
 some (aa (wts S).2 0, aa (wts S).2 1, aa (wts S).2 2, aa (wts S).2 3, aa (wts S).2 4, aa (wts S).2 5, aa (wts S).2 6, aa (wts S).2 7, wcs (wts S).1, S.length)
theorem Ug {p q : Pt} (hp : bP p = true) (hq : bP q = true) : gO p.1 p.2.1 p.2.2 q.1 q.2.1 q.2.2 = KS [p, q] := by
 haveI := PtB.of hp
 haveI := PtB.of hq
 unfold gO
 refine yJ (by decide) (fun _ _ _ => ?_)
 refine aR (by decide) (by decide) (fun _ _ _ => ?_)
 refine aR (by decide) (by decide) (fun _ _ _ => ?_)
 refine fO (by decide) (fun _ _ _ => ?_)
 refine ef (by decide) (by decide) (by decide) (fun _ _ _ => ?_)
 subst_vars
 rfl
theorem Uh {p q r : Pt} (hp : bP p = true) (hq : bP q = true) (hr : bP r = true) : gP p.1 p.2.1 p.2.2 q.1 q.2.1 q.2.2 r.1 r.2.1 r.2.2 = KS [p, q, r] := by
 haveI := PtB.of hp
 haveI := PtB.of hq
 haveI := PtB.of hr
 unfold gP
 refine yJ (by decide) (fun _ _ _ => ?_)
 refine yJ (by decide) (fun _ _ _ => ?_)
 refine aR (by decide) (by decide) (fun _ _ _ => ?_)
 refine aR (by decide) (by decide) (fun _ _ _ => ?_)
 refine bZ (by decide) (by decide) (by decide) (fun _ _ _ => ?_)
 refine aR (by decide) (by decide) (fun _ _ _ => ?_)
 refine aR (by decide) (by decide) (fun _ _ _ => ?_)
 refine bZ (by decide) (by decide) (by decide) (fun _ _ _ => ?_)
 refine ef (by decide) (by decide) (by decide) (fun _ _ _ => ?_)
 refine aR (by decide) (by decide) (fun _ _ _ => ?_)
 refine fO (by decide) (fun _ _ _ => ?_)
 refine aR (by decide) (by decide) (fun _ _ _ => ?_)
 refine bZ (by decide) (by decide) (by decide) (fun _ _ _ => ?_)
 refine aR (by decide) (by decide) (fun _ _ _ => ?_)
 refine aR (by decide) (by decide) (fun _ _ _ => ?_)
 refine fO (by decide) (fun _ _ _ => ?_)
 refine bZ (by decide) (by decide) (by decide) (fun _ _ _ => ?_)
 refine ef (by decide) (by decide) (by decide) (fun _ _ _ => ?_)
 refine ef (by decide) (by decide) (by decide) (fun _ _ _ => ?_)
 refine aR (by decide) (by decide) (fun _ _ _ => ?_)
 refine aR (by decide) (by decide) (fun _ _ _ => ?_)
 refine fO (by decide) (fun _ _ _ => ?_)
 refine bZ (by decide) (by decide) (by decide) (fun _ _ _ => ?_)
 refine aR (by decide) (by decide) (fun _ _ _ => ?_)
 refine fO (by decide) (fun _ _ _ => ?_)
 refine aR (by decide) (by decide) (fun _ _ _ => ?_)
 refine bZ (by decide) (by decide) (by decide) (fun _ _ _ => ?_)
 refine ef (by decide) (by decide) (by decide) (fun _ _ _ => ?_)
 refine ef (by decide) (by decide) (by decide) (fun _ _ _ => ?_)
 subst_vars
 rfl
theorem Ui {p q r s : Pt} (hp : bP p = true) (hq : bP q = true) (hr : bP r = true) (hs : bP s = true) : gQ p.1 p.2.1 p.2.2 q.1 q.2.1 q.2.2 r.1 r.2.1 r.2.2 s.1 s.2.1 s.2.2 = KS [p, q, r, s] := by
 haveI := PtB.of hp
 haveI := PtB.of hq
 haveI := PtB.of hr
 haveI := PtB.of hs
 unfold gQ
 refine yJ (by decide) (fun _ _ _ => ?_)
 refine yJ (by decide) (fun _ _ _ => ?_)
 refine yJ (by decide) (fun _ _ _ => ?_)
 refine aR (by decide) (by decide) (fun _ _ _ => ?_)
 refine aR (by decide) (by decide) (fun _ _ _ => ?_)
 refine aR (by decide) (by decide) (fun _ _ _ => ?_)
 refine bZ (by decide) (by decide) (by decide) (fun _ _ _ => ?_)
 refine aR (by decide) (by decide) (fun _ _ _ => ?_)
 refine aR (by decide) (by decide) (fun _ _ _ => ?_)
 refine bZ (by decide) (by decide) (by decide) (fun _ _ _ => ?_)
 refine ef (by decide) (by decide) (by decide) (fun _ _ _ => ?_)
 refine bZ (by decide) (by decide) (by decide) (fun _ _ _ => ?_)
 refine aR (by decide) (by decide) (fun _ _ _ => ?_)
 refine aR (by decide) (by decide) (fun _ _ _ => ?_)
 refine aR (by decide) (by decide) (fun _ _ _ => ?_)
 refine bZ (by decide) (by decide) (by decide) (fun _ _ _ => ?_)
 refine aR (by decide) (by decide) (fun _ _ _ => ?_)
 refine aR (by decide) (by decide) (fun _ _ _ => ?_)
 refine bZ (by decide) (by decide) (by decide) (fun _ _ _ => ?_)
 refine ef (by decide) (by decide) (by decide) (fun _ _ _ => ?_)
 refine bZ (by decide) (by decide) (by decide) (fun _ _ _ => ?_)
 refine ef (by decide) (by decide) (by decide) (fun _ _ _ => ?_)
 refine aR (by decide) (by decide) (fun _ _ _ => ?_)
 refine aR (by decide) (by decide) (fun _ _ _ => ?_)
 refine aR (by decide) (by decide) (fun _ _ _ => ?_)
 refine bZ (by decide) (by decide) (by decide) (fun _ _ _ => ?_)
 refine aR (by decide) (by decide) (fun _ _ _ => ?_)
 refine aR (by decide) (by decide) (fun _ _ _ => ?_)
 refine bZ (by decide) (by decide) (by decide) (fun _ _ _ => ?_)
 refine ef (by decide) (by decide) (by decide) (fun _ _ _ => ?_)
 refine bZ (by decide) (by decide) (by decide) (fun _ _ _ => ?_)
 refine Jw (by decide) (by decide) (by decide) (fun _ _ _ => ?_)
 refine aR (by decide) (by decide) (fun _ _ _ => ?_)
 refine fO (by decide) (fun _ _ _ => ?_)
 refine aR (by decide) (by decide) (fun _ _ _ => ?_)
 refine aR (by decide) (by decide) (fun _ _ _ => ?_)
 refine bZ (by decide) (by decide) (by decide) (fun _ _ _ => ?_)
 refine aR (by decide) (by decide) (fun _ _ _ => ?_)
 refine aR (by decide) (by decide) (fun _ _ _ => ?_)
 refine bZ (by decide) (by decide) (by decide) (fun _ _ _ => ?_)
 refine ef (by decide) (by decide) (by decide) (fun _ _ _ => ?_)
 refine bZ (by decide) (by decide) (by decide) (fun _ _ _ => ?_)
 refine aR (by decide) (by decide) (fun _ _ _ => ?_)
 refine aR (by decide) (by decide) (fun _ _ _ => ?_)
 refine fO (by decide) (fun _ _ _ => ?_)
 refine aR (by decide) (by decide) (fun _ _ _ => ?_)
 refine bZ (by decide) (by decide) (by decide) (fun _ _ _ => ?_)
 refine aR (by decide) (by decide) (fun _ _ _ => ?_)
 refine aR (by decide) (by decide) (fun _ _ _ => ?_)
 refine fO (by decide) (fun _ _ _ => ?_)
 refine bZ (by decide) (by decide) (by decide) (fun _ _ _ => ?_)
 refine ef (by decide) (by decide) (by decide) (fun _ _ _ => ?_)
 refine bZ (by decide) (by decide) (by decide) (fun _ _ _ => ?_)
 refine ef (by decide) (by decide) (by decide) (fun _ _ _ => ?_)
 refine aR (by decide) (by decide) (fun _ _ _ => ?_)
 refine aR (by decide) (by decide) (fun _ _ _ => ?_)
 refine fO (by decide) (fun _ _ _ => ?_)
 refine aR (by decide) (by decide) (fun _ _ _ => ?_)
 refine bZ (by decide) (by decide) (by decide) (fun _ _ _ => ?_)
 refine aR (by decide) (by decide) (fun _ _ _ => ?_)
 refine aR (by decide) (by decide) (fun _ _ _ => ?_)
 refine fO (by decide) (fun _ _ _ => ?_)
 refine bZ (by decide) (by decide) (by decide) (fun _ _ _ => ?_)
 refine ef (by decide) (by decide) (by decide) (fun _ _ _ => ?_)
 refine bZ (by decide) (by decide) (by decide) (fun _ _ _ => ?_)
 refine Jw (by decide) (by decide) (by decide) (fun _ _ _ => ?_)
 refine ef (by decide) (by decide) (by decide) (fun _ _ _ => ?_)
 refine aR (by decide) (by decide) (fun _ _ _ => ?_)
 refine aR (by decide) (by decide) (fun _ _ _ => ?_)
 refine fO (by decide) (fun _ _ _ => ?_)
 refine aR (by decide) (by decide) (fun _ _ _ => ?_)
 refine bZ (by decide) (by decide) (by decide) (fun _ _ _ => ?_)
 refine aR (by decide) (by decide) (fun _ _ _ => ?_)
 refine aR (by decide) (by decide) (fun _ _ _ => ?_)
 refine fO (by decide) (fun _ _ _ => ?_)
 refine bZ (by decide) (by decide) (by decide) (fun _ _ _ => ?_)
 refine ef (by decide) (by decide) (by decide) (fun _ _ _ => ?_)
 refine bZ (by decide) (by decide) (by decide) (fun _ _ _ => ?_)
 refine aR (by decide) (by decide) (fun _ _ _ => ?_)
 refine fO (by decide) (fun _ _ _ => ?_)
 refine aR (by decide) (by decide) (fun _ _ _ => ?_)
 refine aR (by decide) (by decide) (fun _ _ _ => ?_)
 refine bZ (by decide) (by decide) (by decide) (fun _ _ _ => ?_)
 refine aR (by decide) (by decide) (fun _ _ _ => ?_)
 refine aR (by decide) (by decide) (fun _ _ _ => ?_)
 refine bZ (by decide) (by decide) (by decide) (fun _ _ _ => ?_)
 refine ef (by decide) (by decide) (by decide) (fun _ _ _ => ?_)
 refine bZ (by decide) (by decide) (by decide) (fun _ _ _ => ?_)
 refine ef (by decide) (by decide) (by decide) (fun _ _ _ => ?_)
 refine aR (by decide) (by decide) (fun _ _ _ => ?_)
 refine aR (by decide) (by decide) (fun _ _ _ => ?_)
 refine aR (by decide) (by decide) (fun _ _ _ => ?_)
 refine fO (by decide) (fun _ _ _ => ?_)
 refine bZ (by decide) (by decide) (by decide) (fun _ _ _ => ?_)
 refine aR (by decide) (by decide) (fun _ _ _ => ?_)
 refine fO (by decide) (fun _ _ _ => ?_)
 refine aR (by decide) (by decide) (fun _ _ _ => ?_)
 refine bZ (by decide) (by decide) (by decide) (fun _ _ _ => ?_)
 refine ef (by decide) (by decide) (by decide) (fun _ _ _ => ?_)
 refine bZ (by decide) (by decide) (by decide) (fun _ _ _ => ?_)
 refine Jw (by decide) (by decide) (by decide) (fun _ _ _ => ?_)
 refine ef (by decide) (by decide) (by decide) (fun _ _ _ => ?_)
 refine aR (by decide) (by decide) (fun _ _ _ => ?_)
 refine aR (by decide) (by decide) (fun _ _ _ => ?_)
 refine aR (by decide) (by decide) (fun _ _ _ => ?_)
 refine fO (by decide) (fun _ _ _ => ?_)
 refine bZ (by decide) (by decide) (by decide) (fun _ _ _ => ?_)
 refine aR (by decide) (by decide) (fun _ _ _ => ?_)
 refine fO (by decide) (fun _ _ _ => ?_)
 refine aR (by decide) (by decide) (fun _ _ _ => ?_)
 refine bZ (by decide) (by decide) (by decide) (fun _ _ _ => ?_)
 refine ef (by decide) (by decide) (by decide) (fun _ _ _ => ?_)
 refine bZ (by decide) (by decide) (by decide) (fun _ _ _ => ?_)
 refine aR (by decide) (by decide) (fun _ _ _ => ?_)
 refine aR (by decide) (by decide) (fun _ _ _ => ?_)
 refine aR (by decide) (by decide) (fun _ _ _ => ?_)
 refine fO (by decide) (fun _ _ _ => ?_)
 refine bZ (by decide) (by decide) (by decide) (fun _ _ _ => ?_)
 refine aR (by decide) (by decide) (fun _ _ _ => ?_)
 refine fO (by decide) (fun _ _ _ => ?_)
 refine aR (by decide) (by decide) (fun _ _ _ => ?_)
 refine bZ (by decide) (by decide) (by decide) (fun _ _ _ => ?_)
 refine ef (by decide) (by decide) (by decide) (fun _ _ _ => ?_)
 refine bZ (by decide) (by decide) (by decide) (fun _ _ _ => ?_)
 refine ef (by decide) (by decide) (by decide) (fun _ _ _ => ?_)
 refine aR (by decide) (by decide) (fun _ _ _ => ?_)
 refine fO (by decide) (fun _ _ _ => ?_)
 refine aR (by decide) (by decide) (fun _ _ _ => ?_)
 refine aR (by decide) (by decide) (fun _ _ _ => ?_)
 refine bZ (by decide) (by decide) (by decide) (fun _ _ _ => ?_)
 refine aR (by decide) (by decide) (fun _ _ _ => ?_)
 refine aR (by decide) (by decide) (fun _ _ _ => ?_)
 refine bZ (by decide) (by decide) (by decide) (fun _ _ _ => ?_)
 refine ef (by decide) (by decide) (by decide) (fun _ _ _ => ?_)
 refine bZ (by decide) (by decide) (by decide) (fun _ _ _ => ?_)
 refine Jw (by decide) (by decide) (by decide) (fun _ _ _ => ?_)
 refine ef (by decide) (by decide) (by decide) (fun _ _ _ => ?_)
 subst_vars
 rfl
theorem Jx {a b c d e f g h i : Int} (ha : sm 60 a) (hb : sm 60 b) (hc : sm 60 c) (hd : sm 60 d) (he : sm 60 e) (hf : sm 60 f) (hg : sm 60 g) (hh : sm 60 h) (hi : sm 60 i) : sm 186 (m3 a b c d e f g h i) := by
 haveI : Sm 60 a := ⟨ha⟩
 haveI : Sm 60 b := ⟨hb⟩
 haveI : Sm 60 c := ⟨hc⟩
 haveI : Sm 60 d := ⟨hd⟩
 haveI : Sm 60 e := ⟨he⟩
 haveI : Sm 60 f := ⟨hf⟩
 haveI : Sm 60 g := ⟨hg⟩
 haveI : Sm 60 h := ⟨hh⟩
 haveI : Sm 60 i := ⟨hi⟩
 unfold m3
 exact aW Sm.h (by decide)
theorem L3 {S : List Pt} (hok : bd S = true) (h1 : 1 ≤ S.length) (h4 : S.length ≤ 4) : sm 190 (wts S).2 ∧ ∀ z ∈ (wts S).1, sm 190 z := by
 match S, h1, h4 with
 | [p], _, _ =>
  refine ⟨by simp only [wts]; unfold sm; omega, fun z hz => ?_⟩
  simp only [wts, List.mem_singleton] at hz
  subst hz; unfold sm; omega
 | [p, q], _, _ =>
  simp only [aP] at hok
  haveI := PtB.of hok.1
  haveI := PtB.of hok.2.1
  simp only [wts, wt1, List.mem_cons, List.not_mem_nil, or_false, forall_eq_or_imp, forall_eq]
  exact ⟨aW Sm.h (by decide), aW Sm.h (by decide), aW Sm.h (by decide)⟩
 | [p, q, r], _, _ =>
  simp only [aP] at hok
  haveI := PtB.of hok.1
  haveI := PtB.of hok.2.1
  haveI := PtB.of hok.2.2.1
  simp only [wts, wt2, List.mem_cons, List.not_mem_nil, or_false, forall_eq_or_imp, forall_eq]
  exact ⟨aW Sm.h (by decide), aW Sm.h (by decide), aW Sm.h (by decide), aW Sm.h (by decide)⟩
 | [p, q, r, s], _, _ =>
  simp only [aP] at hok
  haveI := PtB.of hok.1
  haveI := PtB.of hok.2.1
  haveI := PtB.of hok.2.2.1
  haveI := PtB.of hok.2.2.2.1
  have qq : ∀ {u v : Pt} {i j : Nat}, PtB i u → PtB j v → i ≤ 29 → j ≤ 29 → sm 60 (ae u v) := fun {u v i j} hu hv hi hj => aW (Sm.h (z := ae u v)) (by omega)
  have nn : ∀ {u v : Pt} {i j : Nat}, PtB i u → PtB j v → i ≤ 29 → j ≤ 29 → sm 60 (-ae u v) := fun {u v i j} hu hv hi hj => Oz (qq hu hv hi hj)
  have e1 : PtB 29 (aB q p) := inferInstance
  have e2 : PtB 29 (aB r p) := inferInstance
  have e3 : PtB 29 (aB s p) := inferInstance
  have e0 : PtB 28 p := inferInstance
  have le : (29 : Nat) ≤ 29 := Nat.le_refl _
  have l8 : (28 : Nat) ≤ 29 := by decide
  simp only [wts, wt3, List.mem_cons, List.not_mem_nil, or_false, forall_eq_or_imp, forall_eq]
  have x1 := Jx (nn e1 e0 le l8) (qq e1 e2 le le) (qq e1 e3 le le) (nn e2 e0 le l8) (qq e2 e2 le le) (qq e2 e3 le le) (nn e3 e0 le l8) (qq e3 e2 le le) (qq e3 e3 le le)
  have x2 := Jx (qq e1 e1 le le) (nn e1 e0 le l8) (qq e1 e3 le le) (qq e2 e1 le le) (nn e2 e0 le l8) (qq e2 e3 le le) (qq e3 e1 le le) (nn e3 e0 le l8) (qq e3 e3 le le)
  have x3 := Jx (qq e1 e1 le le) (qq e1 e2 le le) (nn e1 e0 le l8) (qq e2 e1 le le) (qq e2 e2 le le) (nn e2 e0 le l8) (qq e3 e1 le le) (qq e3 e2 le le) (nn e3 e0 le l8)
  have x0 := Jx (qq e1 e1 le le) (qq e1 e2 le le) (qq e1 e3 le le) (qq e2 e1 le le) (qq e2 e2 le le) (qq e2 e3 le le) (qq e3 e1 le le) (qq e3 e2 le le) (qq e3 e3 le le)
  exact ⟨aW x0 (by decide), aW (f8 (f8 (f8 x0 x1) (aW x2 (by decide))) (aW x3 (by decide))) (by decide), aW x1 (by decide), aW x2 (by decide), aW x3 (by decide)⟩
 | _ :: _ :: _ :: _ :: _ :: _, _, h => simp at h
theorem OC {S : List Pt} (hok : bd S = true) (h1 : 1 ≤ S.length) (h4 : S.length ≤ 4) : di (pcs S) S.length = some ((wts S).2, wcs (wts S).1, S.length) := by
 have hf := (L3 hok h1 h4).1
 have fin : f6 (pcs S) S.length = KS S → di (pcs S) S.length = some ((wts S).2, wcs (wts S).1, S.length) := by
  intro e
  unfold di
  rw [e]
  simp only [KS, Uy, bA, aw]
  rw [aI (bf hf (by decide))]
 apply fin
 match S, h1, h4 with
 | [p], _, _ => rfl
 | [p, q], _, _ =>
  simp only [aP] at hok
  exact Ug hok.1 hok.2.1
 | [p, q, r], _, _ =>
  simp only [aP] at hok
  exact Uh hok.1 hok.2.1 hok.2.2.1
 | [p, q, r, s], _, _ =>
  simp only [aP] at hok
  exact Ui hok.1 hok.2.1 hok.2.2.1 hok.2.2.2.1
 | _ :: _ :: _ :: _ :: _ :: _, _, h => simp at h
end Go.Ev
namespace Go.Ev
open Go.Proofs
def Bb : CH := (CH.add 27 FX CH.none)
theorem xp : aG U2 Bb := (CH.ak Im CH.aF)
def gH (a0 a1 a2 a3 a4 a5 a6 a7 a8 a9 a10 a11 a12 a13 a14 a15 : Int) : Option (Int × Int × Int × Int × Int × Int × Int × Int) :=
 (Option.bind (ua a0 a1 a2 a3 a4 a5 a6 a7 a8 a9 a10 a11 a12 a13 a14 a15) fun r1 => (some ((aa r1.1 0), (aa r1.1 1), (aa r1.1 2), (aa r1.1 3), (aa r1.1 4), (aa r1.1 5), (aa r1.1 6), (aa r1.1 7))))
def cU : FD where
 X := Int × Int × Int × Int × Int × Int × Int × Int
 k := 1
 pre := []
 F := fun s => [0]
 M := .agg (rl (.int .u64) 8 [])
 B := []
 toL := fun x => [.I x.1, .I x.2.1, .I x.2.2.1, .I x.2.2.2.1, .I x.s4.1, .I x.s4.2.1, .I x.s4.2.2.1, .I x.s4.2.2.2]
 ofL := fun ls => match ls with
  | [.I x0, .I x1, .I x2, .I x3, .I x4, .I x5, .I x6, .I x7] => some (x0, x1, x2, x3, x4, x5, x6, x7)
  | _ => none
 au := fun ls x h => by
  split at h
  ·cases h; rfl
  ·cases h
theorem zB (a0 a1 a2 a3 a4 a5 a6 a7 a8 a9 a10 a11 a12 a13 a14 a15 : Int) (x : Int × Int × Int × Int × Int × Int × Int × Int) (h : gH a0 a1 a2 a3 a4 a5 a6 a7 a8 a9 a10 a11 a12 a13 a14 a15 = some x) : bg U2 71 1 [.agg (v8 a0 a1 a2 a3 a4 a5 a6 a7 []), .ptr 0 0] [.cells (v8 a8 a9 a10 a11 a12 a13 a14 a15 []) false none] cU x :=
 FD.semA cU xp Try.func71 (fuel := 60) (by kernel_rfl) (by kernel_rfl)
  (by kernel_rfl) (Eq.trans (by kernel_rfl) h)
def bL (a0 a1 a2 a3 a4 a5 a6 a7 a8 a9 a10 a11 a12 a13 a14 a15 : Int) : Option (Int) := Option.bind (gH a0 a1 a2 a3 a4 a5 a6 a7 a8 a9 a10 a11 a12 a13 a14 a15) fun (x0, x1, x2, x3, x4, x5, x6, x7) => af (ok8 x0 x1 x2 x3 x4 x5 x6 x7) (some (num x0 x1 x2 x3 x4 x5 x6 x7))
def lr : FD := ⟨Int, cU.k, cU.pre, cU.F, cU.M, cU.B, fun y => cU.toL ((aa y 0), (aa y 1), (aa y 2), (aa y 3), (aa y 4), (aa y 5), (aa y 6), (aa y 7)), fun _ => none, fun _ _ h => by cases h⟩
theorem Bc (a0 a1 a2 a3 a4 a5 a6 a7 a8 a9 a10 a11 a12 a13 a14 a15 : Int) {y : Int} (h : bL a0 a1 a2 a3 a4 a5 a6 a7 a8 a9 a10 a11 a12 a13 a14 a15 = some y) : gH a0 a1 a2 a3 a4 a5 a6 a7 a8 a9 a10 a11 a12 a13 a14 a15 = some ((aa y 0), (aa y 1), (aa y 2), (aa y 3), (aa y 4), (aa y 5), (aa y 6), (aa y 7)) := by
 unfold bL at h
 obtain ⟨⟨x0, x1, x2, x3, x4, x5, x6, x7⟩, h1, h2⟩ := bE_ h
 obtain ⟨h3, h4⟩ := aH h2
 skip
 simp only [UB] at h4
 subst h4
 have o0 := h3
 have q0 := aQ o0
 rw [h1]
 simp only [q0]
theorem zC (a0 a1 a2 a3 a4 a5 a6 a7 a8 a9 a10 a11 a12 a13 a14 a15 y : Int) (h : bL a0 a1 a2 a3 a4 a5 a6 a7 a8 a9 a10 a11 a12 a13 a14 a15 = some y) : bg U2 71 1 [.agg (v8 a0 a1 a2 a3 a4 a5 a6 a7 []), .ptr 0 0] [.cells (v8 a8 a9 a10 a11 a12 a13 a14 a15 []) false none] lr y := zB a0 a1 a2 a3 a4 a5 a6 a7 a8 a9 a10 a11 a12 a13 a14 a15 _ (Bc a0 a1 a2 a3 a4 a5 a6 a7 a8 a9 a10 a11 a12 a13 a14 a15 h)
def n8 (z0 z8 : Int) : Option (Int) := bL (aa z0 0) (aa z0 1) (aa z0 2) (aa z0 3) (aa z0 4) (aa z0 5) (aa z0 6) (aa z0 7) (aa z8 0) (aa z8 1) (aa z8 2) (aa z8 3) (aa z8 4) (aa z8 5) (aa z8 6) (aa z8 7)
def nZ : HK where
 call := fun args σ k => match args with
  | [.agg [.int .u64 a0, .int .u64 a1, .int .u64 a2, .int .u64 a3, .int .u64 a4, .int .u64 a5, .int .u64 a6, .int .u64 a7], .ptr b0 0] => match σ.get b0 with | some (.vec cb0 _ _ _) => (af (aq fL cb0 0 && Nat.beq (List.length cb0) 8) (Option.bind (bL a0 a1 a2 a3 a4 a5 a6 a7 (ac cb0 0) (ac cb0 1) (ac cb0 2) (ac cb0 3) (ac cb0 4) (ac cb0 5) (ac cb0 6) (ac cb0 7)) fun y => aC σ 1 (lr.val y) (lr.aN y) k)) | _ => none
  | _ => none
 nat := fun args σ k => by
  repeat' split
  all_goals simp only [av, ai, UA, Uz, aC, Uy]
 pure := false
 pok := fun h => by cases h
theorem A5 : aX U2 71 nZ := by
 intro args σ r σ' h
 simp only [nZ] at h
 split at h
 ·rename_i a0 a1 a2 a3 a4 a5 a6 a7 b0
  split at h
  ·rename_i cb0 nn0 zz0 own0 hb0
   obtain ⟨hq0, h⟩ := aH h
   obtain ⟨y, hy, h⟩ := bE_ h
   exact lifted (xs := [.ptr b0 0]) (ls := [.cells (v8 (ac cb0 0) (ac cb0 1) (ac cb0 2) (ac cb0 3) (ac cb0 4) (ac cb0 5) (ac cb0 6) (ac cb0 7) []) false none]) (cargs := [.agg (v8 a0 a1 a2 a3 a4 a5 a6 a7 []), .ptr 0 0]) (bC.of ⟨⟨rfl, rfl, by simp, rfl, b0, 0, rfl, Q2 (ks := [.int .u64, .int .u64, .int .u64, .int .u64, .int .u64, .int .u64, .int .u64, .int .u64]) hb0 hq0 (by simp)⟩, trivial⟩) rfl (zC a0 a1 a2 a3 a4 a5 a6 a7 (ac cb0 0) (ac cb0 1) (ac cb0 2) (ac cb0 3) (ac cb0 4) (ac cb0 5) (ac cb0 6) (ac cb0 7) y hy) rfl rfl rfl rfl h
  ·cases h
 ·cases h
abbrev eC := LA_ × Nat × LA_ × Nat × Nat × Nat × Int × Int × Int × Int × Int × Int × Int × Int × Int × Int × Int × Int × Int × Int × Int × Int × Int × Int × Int × Int × Int × Int × Int × Int × Int
abbrev vm := (I8 (I8 (I8 (Int × Int × Int × Int × Int × Int × Int × Int))))
abbrev eE := LA_ × Nat × LA_ × Nat × Nat × Int × Int × Int × Int × Int × Int × Int × Int × Int × Int × Int × Int × Int × Int × Int × Int × Int × Int × Int × Int × Int × Int × Int × Int
abbrev eF := LA_ × Nat × LA_ × Nat × Nat × LA_ × Nat × Int
def gG : CH := (CH.add 71 nZ (CH.add 67 ya (CH.add 39 BI (CH.add 28 BA (CH.add 27 FX (CH.add 22 rq (CH.add 19 HD CH.none)))))))
theorem gN : aG U2 gG := (CH.ak A5 (CH.ak wt (CH.ak BJ (CH.ak BB (CH.ak Im (CH.ak pB (CH.ak CK CH.aF)))))))
def dG {R : Type} (cc : eF) (v : LA_ × Int) (kn : (LA_ × Int) → Option R) (ke : ((LA_)) → Option R) : Option R :=
 (cond (decide (v.2 < cc.2.2.2.2.2.2.2)) (af (decide (0 ≤ v.2) && decide (v.2 < ((cc.2.2.2.2.2.2.1 : Nat) : Int))) (af (aq kK cc.2.2.2.2.2.1 (Int.toNat v.2 * 3)) (af (aq fL v.1 0) (af (decide (0 ≤ v.2) && decide (v.2 < ((cc.2.1 : Nat) : Int))) (af (aq fL cc.1 (Int.toNat v.2 * 8)) (Option.bind (cOf (ac cc.2.2.2.2.2.1 ((Int.toNat v.2 * 3) + 0))) fun r1 => (Option.bind (iT (ac cc.1 ((Int.toNat v.2 * 8) + 0)) (ac cc.1 ((Int.toNat v.2 * 8) + 1)) (ac cc.1 ((Int.toNat v.2 * 8) + 2)) (ac cc.1 ((Int.toNat v.2 * 8) + 3)) (ac cc.1 ((Int.toNat v.2 * 8) + 4)) (ac cc.1 ((Int.toNat v.2 * 8) + 5)) (ac cc.1 ((Int.toNat v.2 * 8) + 6)) (ac cc.1 ((Int.toNat v.2 * 8) + 7)) (aa r1 0) (aa r1 1) (aa r1 2) (aa r1 3) (aa r1 4) (aa r1 5) (aa r1 6) (aa r1 7)) fun r2 => (Option.bind (nD (ac v.1 0) (ac v.1 1) (ac v.1 2) (ac v.1 3) (ac v.1 4) (ac v.1 5) (ac v.1 6) (ac v.1 7) (aa r2 0) (aa r2 1) (aa r2 2) (aa r2 3) (aa r2 4) (aa r2 5) (aa r2 6) (aa r2 7)) fun r3 => (af (decide (0 + 8 ≤ List.length v.1)) (af (aq fL (spliced v.1 0 (v8 (aa r3 0) (aa r3 1) (aa r3 2) (aa r3 3) (aa r3 4) (aa r3 5) (aa r3 6) (aa r3 7) [])) 8) (af (decide (0 ≤ v.2) && decide (v.2 < ((cc.2.1 : Nat) : Int))) (af (aq fL cc.1 (Int.toNat v.2 * 8)) (Option.bind (cOf (ac cc.2.2.2.2.2.1 ((Int.toNat v.2 * 3) + 1))) fun r4 => (Option.bind (iT (ac cc.1 ((Int.toNat v.2 * 8) + 0)) (ac cc.1 ((Int.toNat v.2 * 8) + 1)) (ac cc.1 ((Int.toNat v.2 * 8) + 2)) (ac cc.1 ((Int.toNat v.2 * 8) + 3)) (ac cc.1 ((Int.toNat v.2 * 8) + 4)) (ac cc.1 ((Int.toNat v.2 * 8) + 5)) (ac cc.1 ((Int.toNat v.2 * 8) + 6)) (ac cc.1 ((Int.toNat v.2 * 8) + 7)) (aa r4 0) (aa r4 1) (aa r4 2) (aa r4 3) (aa r4 4) (aa r4 5) (aa r4 6) (aa r4 7)) fun r5 => (Option.bind (nD (ac (spliced v.1 0 (v8 (aa r3 0) (aa r3 1) (aa r3 2) (aa r3 3) (aa r3 4) (aa r3 5) (aa r3 6) (aa r3 7) [])) 8) (ac (spliced v.1 0 (v8 (aa r3 0) (aa r3 1) (aa r3 2) (aa r3 3) (aa r3 4) (aa r3 5) (aa r3 6) (aa r3 7) [])) 9) (ac (spliced v.1 0 (v8 (aa r3 0) (aa r3 1) (aa r3 2) (aa r3 3) (aa r3 4) (aa r3 5) (aa r3 6) (aa r3 7) [])) 10) (ac (spliced v.1 0 (v8 (aa r3 0) (aa r3 1) (aa r3 2) (aa r3 3) (aa r3 4) (aa r3 5) (aa r3 6) (aa r3 7) [])) 11) (ac (spliced v.1 0 (v8 (aa r3 0) (aa r3 1) (aa r3 2) (aa r3 3) (aa r3 4) (aa r3 5) (aa r3 6) (aa r3 7) [])) 12) (ac (spliced v.1 0 (v8 (aa r3 0) (aa r3 1) (aa r3 2) (aa r3 3) (aa r3 4) (aa r3 5) (aa r3 6) (aa r3 7) [])) 13) (ac (spliced v.1 0 (v8 (aa r3 0) (aa r3 1) (aa r3 2) (aa r3 3) (aa r3 4) (aa r3 5) (aa r3 6) (aa r3 7) [])) 14) (ac (spliced v.1 0 (v8 (aa r3 0) (aa r3 1) (aa r3 2) (aa r3 3) (aa r3 4) (aa r3 5) (aa r3 6) (aa r3 7) [])) 15) (aa r5 0) (aa r5 1) (aa r5 2) (aa r5 3) (aa r5 4) (aa r5 5) (aa r5 6) (aa r5 7)) fun r6 => (af (decide (8 + 8 ≤ List.length (spliced v.1 0 (v8 (aa r3 0) (aa r3 1) (aa r3 2) (aa r3 3) (aa r3 4) (aa r3 5) (aa r3 6) (aa r3 7) [])))) (af (aq fL (spliced (spliced v.1 0 (v8 (aa r3 0) (aa r3 1) (aa r3 2) (aa r3 3) (aa r3 4) (aa r3 5) (aa r3 6) (aa r3 7) [])) 8 (v8 (aa r6 0) (aa r6 1) (aa r6 2) (aa r6 3) (aa r6 4) (aa r6 5) (aa r6 6) (aa r6 7) [])) 16) (af (decide (0 ≤ v.2) && decide (v.2 < ((cc.2.1 : Nat) : Int))) (af (aq fL cc.1 (Int.toNat v.2 * 8)) (Option.bind (cOf (ac cc.2.2.2.2.2.1 ((Int.toNat v.2 * 3) + 2))) fun r7 => (Option.bind (iT (ac cc.1 ((Int.toNat v.2 * 8) + 0)) (ac cc.1 ((Int.toNat v.2 * 8) + 1)) (ac cc.1 ((Int.toNat v.2 * 8) + 2)) (ac cc.1 ((Int.toNat v.2 * 8) + 3)) (ac cc.1 ((Int.toNat v.2 * 8) + 4)) (ac cc.1 ((Int.toNat v.2 * 8) + 5)) (ac cc.1 ((Int.toNat v.2 * 8) + 6)) (ac cc.1 ((Int.toNat v.2 * 8) + 7)) (aa r7 0) (aa r7 1) (aa r7 2) (aa r7 3) (aa r7 4) (aa r7 5) (aa r7 6) (aa r7 7)) fun r8 => (Option.bind (nD (ac (spliced (spliced v.1 0 (v8 (aa r3 0) (aa r3 1) (aa r3 2) (aa r3 3) (aa r3 4) (aa r3 5) (aa r3 6) (aa r3 7) [])) 8 (v8 (aa r6 0) (aa r6 1) (aa r6 2) (aa r6 3) (aa r6 4) (aa r6 5) (aa r6 6) (aa r6 7) [])) 16) (ac (spliced (spliced v.1 0 (v8 (aa r3 0) (aa r3 1) (aa r3 2) (aa r3 3) (aa r3 4) (aa r3 5) (aa r3 6) (aa r3 7) [])) 8 (v8 (aa r6 0) (aa r6 1) (aa r6 2) (aa r6 3) (aa r6 4) (aa r6 5) (aa r6 6) (aa r6 7) [])) 17) (ac (spliced (spliced v.1 0 (v8 (aa r3 0) (aa r3 1) (aa r3 2) (aa r3 3) (aa r3 4) (aa r3 5) (aa r3 6) (aa r3 7) [])) 8 (v8 (aa r6 0) (aa r6 1) (aa r6 2) (aa r6 3) (aa r6 4) (aa r6 5) (aa r6 6) (aa r6 7) [])) 18) (ac (spliced (spliced v.1 0 (v8 (aa r3 0) (aa r3 1) (aa r3 2) (aa r3 3) (aa r3 4) (aa r3 5) (aa r3 6) (aa r3 7) [])) 8 (v8 (aa r6 0) (aa r6 1) (aa r6 2) (aa r6 3) (aa r6 4) (aa r6 5) (aa r6 6) (aa r6 7) [])) 19) (ac (spliced (spliced v.1 0 (v8 (aa r3 0) (aa r3 1) (aa r3 2) (aa r3 3) (aa r3 4) (aa r3 5) (aa r3 6) (aa r3 7) [])) 8 (v8 (aa r6 0) (aa r6 1) (aa r6 2) (aa r6 3) (aa r6 4) (aa r6 5) (aa r6 6) (aa r6 7) [])) 20) (ac (spliced (spliced v.1 0 (v8 (aa r3 0) (aa r3 1) (aa r3 2) (aa r3 3) (aa r3 4) (aa r3 5) (aa r3 6) (aa r3 7) [])) 8 (v8 (aa r6 0) (aa r6 1) (aa r6 2) (aa r6 3) (aa r6 4) (aa r6 5) (aa r6 6) (aa r6 7) [])) 21) (ac (spliced (spliced v.1 0 (v8 (aa r3 0) (aa r3 1) (aa r3 2) (aa r3 3) (aa r3 4) (aa r3 5) (aa r3 6) (aa r3 7) [])) 8 (v8 (aa r6 0) (aa r6 1) (aa r6 2) (aa r6 3) (aa r6 4) (aa r6 5) (aa r6 6) (aa r6 7) [])) 22) (ac (spliced (spliced v.1 0 (v8 (aa r3 0) (aa r3 1) (aa r3 2) (aa r3 3) (aa r3 4) (aa r3 5) (aa r3 6) (aa r3 7) [])) 8 (v8 (aa r6 0) (aa r6 1) (aa r6 2) (aa r6 3) (aa r6 4) (aa r6 5) (aa r6 6) (aa r6 7) [])) 23) (aa r8 0) (aa r8 1) (aa r8 2) (aa r8 3) (aa r8 4) (aa r8 5) (aa r8 6) (aa r8 7)) fun r9 => (af (decide (16 + 8 ≤ List.length (spliced (spliced v.1 0 (v8 (aa r3 0) (aa r3 1) (aa r3 2) (aa r3 3) (aa r3 4) (aa r3 5) (aa r3 6) (aa r3 7) [])) 8 (v8 (aa r6 0) (aa r6 1) (aa r6 2) (aa r6 3) (aa r6 4) (aa r6 5) (aa r6 6) (aa r6 7) [])))) (kn ((spliced (spliced (spliced v.1 0 (v8 (aa r3 0) (aa r3 1) (aa r3 2) (aa r3 3) (aa r3 4) (aa r3 5) (aa r3 6) (aa r3 7) [])) 8 (v8 (aa r6 0) (aa r6 1) (aa r6 2) (aa r6 3) (aa r6 4) (aa r6 5) (aa r6 6) (aa r6 7) [])) 16 (v8 (aa r9 0) (aa r9 1) (aa r9 2) (aa r9 3) (aa r9 4) (aa r9 5) (aa r9 6) (aa r9 7) [])), (IntKind.wrap .i64 (v.2 + 1))))))))))))))))))))))))))) (ke v.1))
def fZ (cc : eF) (v : LA_ × Int) : Option ((LA_ × Int) ⊕ ((LA_))) := dG cc v (fun v => some (Sum.inl v)) fun e => some (Sum.inr e)
def n7 (cc : eF) (v : LA_ × Int) : Option ((LA_)) := dZ (fZ cc) v
def A6 (cc : eF) (v : LA_ × Int) : List ah := [.I cc.s4.2.2.2, .I v.2, .C cc.1, .N cc.2.1, .C cc.2.2.1, .N cc.2.2.2.1, .C v.1, .N cc.s4.1, .C cc.s4.2.1, .N cc.s4.2.2.1]
def qP (ls : List ah) : Option ((eF) × (LA_ × Int)) := match ls with
 | [.I x0, .I x1, .C x2, .N x3, .C x4, .N x5, .C x6, .N x7, .C x8, .N x9] => some ((x2, x3, x4, x5, x7, x8, x9, x0), (x6, x1))
 | _ => none
def qQ (e : (LA_)) : an := ((fun e => .exit 0) e)
def qR (cc : eF) (e : (LA_)) : List ah := ((fun e => [.C cc.2.2.1, .N cc.2.2.2.1, .C e, .N cc.s4.1]) e)
def jQ (cc : eF) (e : (LA_)) : List ah := ((fun e => [.C cc.2.2.1, .N cc.2.2.2.1, .N cc.s4.1]) e)
def kE (o : an) (ls : List ah) : Option (((LA_)) × List ah) := match o with
 | .exit 0 => (match ls with
  | [.C x0, .N x1, .C x2, .N x3] => some (x2, [.C x0, .N x1, .N x3])
  | _ => none)
 | _ => none
theorem xn : ∀ o ls e cl cc, kE o ls = some (e, cl) → cl = jQ cc e → ls = qR cc e ∧ qQ e = o ∧ o ≠ .normal ∧ ∀ v, o = .pan v → sc 0 v = true := by
 intro o ls e cl cc h hc
 unfold kE at h
 split at h
 ·split at h
  ·cases h
   simp only [jQ, List.cons.injEq, ah.N.injEq, ah.C.injEq, and_true] at hc
   obtain ⟨rfl, rfl, rfl⟩ := hc
   exact ⟨rfl, rfl, by simp, by intro v hv; cases hv <;> rfl⟩
  ·cases h
 ·cases h
def BK (o : an) : ExS := match o with
 | .exit 0 => ⟨5, (rl none 5 (some (.ptr 2 0) :: some (.ptr 3 0) :: some (.ptr 4 0) :: (rl none 88 []))), [(2, .vec 8 true), (3, .cells (rl (.fP .u64 0) 32 [.aL]) true none), (4, .vec 24 true)], fun s => [0, 1, nameAt s 5 [], nameAt s 6 [], nameAt s 7 []], [], []⟩
 | _ => ⟨0, [], [], fun _ => [], [], []⟩
theorem A7 {R : Type} (cc : eF) (v : LA_ × Int) (kn : (LA_ × Int) → Option R) (ke : ((LA_)) → Option R) : dG cc v kn ke = (dG cc v (fun v => some (Sum.inl v)) fun e => some (Sum.inr e)).bind (Sum.elim kn ke) := by
 simp only [dG, bX, ai, UA, cu, bS, Uy, Uz, UZ, UY]
def tM : LD where
 CC := eF
 V := LA_ × Int
 E := (LA_)
 n := 2
 K := 5
 M := (none :: some (.vec 1) :: none :: none :: none :: some (.ptr 2 0) :: some (.ptr 3 0) :: some (.ptr 4 0) :: (rl none 11 (some (.vec 0) :: some (.int .i64) :: some (.int .i64) :: (rl none 74 []))))
 B := [(1, .vec 8 false), (2, .vec 8 true), (3, .cells (rl (.fP .u64 0) 32 [.aL]) true none), (4, .vec 24 true), (0, .vec 3 false)]
 D := []
 pre := []
 F := fun s => [0, 1, nameAt s 5 [], nameAt s 6 [], nameAt s 7 []]
 toL := A6
 ofL := qP
 au := fun ls c v h => by
  unfold qP at h
  split at h
  ·cases h; rfl
  ·cases h
 cw := dG
 nat := A7
 sh := BK
 out := qQ
 toE := qR
 fQ := jQ
 ofE := kE
 dn := xn
 post := fun cc e k => ((fun e => k (.exit 0) (bo 5 (rl none 5 (some (.ptr 2 0) :: some (.ptr 3 0) :: some (.ptr 4 0) :: (rl none 88 []))) [(2, .vec cc.2.2.1 cc.2.2.2.1 8 true), (3, .cells (rl (.int .u64 0) 32 [.aL]) true none), (4, .vec e cc.s4.1 24 true)] [])) e)
 cv := fun cc e k => by rfl
theorem A8 : cX U2 2 tM.la (aO Try.f45 0) :=
 LD.ok (ch := gG) (A := bD) aJ gN mixed (fuel := 60) ⟨by kernel_rfl, fun e => by kernel_rfl, fun cc v => by kernel_rfl, aK (l := [aO Try.f45 1]) (by kernel_rfl) ⟨(eh (by kernel_rfl)), trivial⟩⟩
def dq {R : Type} (cc : eC) (v : LA_ × LA_) (kn : (LA_ × LA_) → Option R) (ke : ((LA_)) → Option R) : Option R :=
 (af (aq fL v.2 0) (cond (!((ac v.2 0) == 0 && ((ac v.2 1) == 0 && ((ac v.2 2) == 0 && ((ac v.2 3) == 0 && ((ac v.2 4) == 0 && ((ac v.2 5) == 0 && ((ac v.2 6) == 0 && ((ac v.2 7) == 0 && true))))))))) (af (aq fL v.1 0) (af (aq fL v.2 0) (Option.bind (ua (ac v.1 0) (ac v.1 1) (ac v.1 2) (ac v.1 3) (ac v.1 4) (ac v.1 5) (ac v.1 6) (ac v.1 7) (ac v.2 0) (ac v.2 1) (ac v.2 2) (ac v.2 3) (ac v.2 4) (ac v.2 5) (ac v.2 6) (ac v.2 7)) fun r14 => (af (aq fL v.2 0) (af (decide (0 + 8 ≤ List.length v.1)) (af (decide (0 + 8 ≤ List.length v.2)) (kn ((spliced v.1 0 (v8 (ac v.2 0) (ac v.2 1) (ac v.2 2) (ac v.2 3) (ac v.2 4) (ac v.2 5) (ac v.2 6) (ac v.2 7) [])), (spliced v.2 0 (v8 (aa r14.2 0) (aa r14.2 1) (aa r14.2 2) (aa r14.2 3) (aa r14.2 4) (aa r14.2 5) (aa r14.2 6) (aa r14.2 7) [])))))))))) (ke v.1)))
def eo (cc : eC) (v : LA_ × LA_) : Option ((LA_ × LA_) ⊕ ((LA_))) := dq cc v (fun v => some (Sum.inl v)) fun e => some (Sum.inr e)
def f0 (cc : eC) (v : LA_ × LA_) : Option ((LA_)) := dZ (eo cc) v
def zv (cc : eC) (v : LA_ × LA_) : List ah := [.I cc.s4.2.2.1, .I cc.s4.2.2.2.1, .I cc.s8.1, .I cc.s8.2.1, .I cc.s8.2.2.1, .I cc.s8.2.2.2.1, .I cc.s8.s4.1, .I cc.s8.s4.2.1, .I cc.s8.s4.2.2.1, .I cc.s8.s4.2.2.2.1, .I cc.s16.1, .I cc.s16.2.1, .I cc.s16.2.2.1, .I cc.s16.2.2.2.1, .I cc.s16.s4.1, .I cc.s16.s4.2.1, .I cc.s16.s4.2.2.1, .I cc.s16.s4.2.2.2.1, .I cc.s16.s8.1, .I cc.s16.s8.2.1, .I cc.s16.s8.2.2.1, .I cc.s16.s8.2.2.2.1, .I cc.s16.s8.s4.1, .I cc.s16.s8.s4.2.1, .I cc.s16.s8.s4.2.2, .C cc.1, .N cc.2.1, .C cc.2.2.1, .N cc.2.2.2.1, .C v.1, .N cc.s4.1, .C v.2, .N cc.s4.2.1]
def pC (ls : List ah) : Option ((eC) × (LA_ × LA_)) := match ls with
 | (.I x0 :: .I x1 :: .I x2 :: .I x3 :: .I x4 :: .I x5 :: .I x6 :: .I x7 :: .I x8 :: .I x9 :: .I x10 :: .I x11 :: .I x12 :: .I x13 :: .I x14 :: .I x15 :: .I x16 :: .I x17 :: .I x18 :: .I x19 :: .I x20 :: .I x21 :: .I x22 :: .I x23 :: .I x24 :: .C x25 :: .N x26 :: .C x27 :: .N x28 :: .C x29 :: .N x30 :: .C x31 :: .N x32 :: []) => some ((x25, x26, x27, x28, x30, x32, x0, x1, x2, x3, x4, x5, x6, x7, x8, x9, x10, x11, x12, x13, x14, x15, x16, x17, x18, x19, x20, x21, x22, x23, x24), (x29, x31))
 | _ => none
def pD (e : (LA_)) : an := ((fun e => .exit 6) e)
def pE (cc : eC) (e : (LA_)) : List ah := ((fun e => [.I cc.s4.2.2.1, .I cc.s4.2.2.2.1, .I cc.s8.1, .I cc.s8.2.1, .I cc.s8.2.2.1, .I cc.s8.2.2.2.1, .I cc.s8.s4.1, .I cc.s8.s4.2.1, .I cc.s8.s4.2.2.1, .I cc.s8.s4.2.2.2.1, .I cc.s16.1, .I cc.s16.2.1, .I cc.s16.2.2.1, .I cc.s16.2.2.2.1, .I cc.s16.s4.1, .I cc.s16.s4.2.1, .I cc.s16.s4.2.2.1, .I cc.s16.s4.2.2.2.1, .I cc.s16.s8.1, .I cc.s16.s8.2.1, .I cc.s16.s8.2.2.1, .I cc.s16.s8.2.2.2.1, .I cc.s16.s8.s4.1, .I cc.s16.s8.s4.2.1, .I cc.s16.s8.s4.2.2, .C cc.1, .N cc.2.1, .C cc.2.2.1, .N cc.2.2.2.1, .C e, .N cc.s4.1]) e)
def jh (cc : eC) (e : (LA_)) : List ah := ((fun e => [.I cc.s4.2.2.1, .I cc.s4.2.2.2.1, .I cc.s8.1, .I cc.s8.2.1, .I cc.s8.2.2.1, .I cc.s8.2.2.2.1, .I cc.s8.s4.1, .I cc.s8.s4.2.1, .I cc.s8.s4.2.2.1, .I cc.s8.s4.2.2.2.1, .I cc.s16.1, .I cc.s16.2.1, .I cc.s16.2.2.1, .I cc.s16.2.2.2.1, .I cc.s16.s4.1, .I cc.s16.s4.2.1, .I cc.s16.s4.2.2.1, .I cc.s16.s4.2.2.2.1, .I cc.s16.s8.1, .I cc.s16.s8.2.1, .I cc.s16.s8.2.2.1, .I cc.s16.s8.2.2.2.1, .I cc.s16.s8.s4.1, .I cc.s16.s8.s4.2.1, .I cc.s16.s8.s4.2.2, .C cc.1, .N cc.2.1, .C cc.2.2.1, .N cc.2.2.2.1, .N cc.s4.1]) e)
def jR (o : an) (ls : List ah) : Option (((LA_)) × List ah) := match o with
 | .exit 6 => (match ls with
  | [.I x0, .I x1, .I x2, .I x3, .I x4, .I x5, .I x6, .I x7, .I x8, .I x9, .I x10, .I x11, .I x12, .I x13, .I x14, .I x15, .I x16, .I x17, .I x18, .I x19, .I x20, .I x21, .I x22, .I x23, .I x24, .C x25, .N x26, .C x27, .N x28, .C x29, .N x30] => some (x29, [.I x0, .I x1, .I x2, .I x3, .I x4, .I x5, .I x6, .I x7, .I x8, .I x9, .I x10, .I x11, .I x12, .I x13, .I x14, .I x15, .I x16, .I x17, .I x18, .I x19, .I x20, .I x21, .I x22, .I x23, .I x24, .C x25, .N x26, .C x27, .N x28, .N x30])
  | _ => none)
 | _ => none
theorem v6 : ∀ o ls e cl cc, jR o ls = some (e, cl) → cl = jh cc e → ls = pE cc e ∧ pD e = o ∧ o ≠ .normal ∧ ∀ v, o = .pan v → sc 0 v = true := by
 intro o ls e cl cc h hc
 unfold jR at h
 split at h
 ·split at h
  ·cases h
   simp only [jh, List.cons.injEq, ah.I.injEq, ah.N.injEq, ah.C.injEq, and_true] at hc
   obtain ⟨rfl, rfl, rfl, rfl, rfl, rfl, rfl, rfl, rfl, rfl, rfl, rfl, rfl, rfl, rfl, rfl, rfl, rfl, rfl, rfl, rfl, rfl, rfl, rfl, rfl, rfl, rfl, rfl, rfl, rfl⟩ := hc
   exact ⟨rfl, rfl, by simp, by intro v hv; cases hv <;> rfl⟩
  ·cases h
 ·cases h
def A9 (o : an) : ExS := match o with
 | .exit 6 => ⟨6, (rl none 5 (some (.ptr 2 0) :: some (.ptr 3 0) :: some (.ptr 4 0) :: none :: none :: none :: none :: some (.ptr 5 0) :: (rl none 40 (some (.agg (rl (.int .u64) 24 [])) :: some (.int .i64) :: (rl none 41 []))))), [(2, .vec 8 true), (3, .cells (rl (.fP .u64 0) 32 [.aL]) true none), (4, .vec 24 true), (5, .vec 8 true)], fun s => [0, 1, nameAt s 5 [], nameAt s 6 [], nameAt s 7 [], nameAt s 12 []], [], []⟩
 | _ => ⟨0, [], [], fun _ => [], [], []⟩
theorem zw {R : Type} (cc : eC) (v : LA_ × LA_) (kn : (LA_ × LA_) → Option R) (ke : ((LA_)) → Option R) : dq cc v kn ke = (dq cc v (fun v => some (Sum.inl v)) fun e => some (Sum.inr e)).bind (Sum.elim kn ke) := by
 simp only [dq, bX, ai, UA, cu, bS, Uy, Uz, UZ, UY]
def ln : LD where
 CC := eC
 V := LA_ × LA_
 E := (LA_)
 n := 2
 K := 7
 M := (rl none 5 (some (.ptr 2 0) :: some (.ptr 3 0) :: some (.ptr 4 0) :: none :: none :: none :: none :: some (.ptr 5 0) :: none :: some (.ptr 6 0) :: (rl none 38 (some (.agg (rl (.int .u64) 24 [])) :: some (.int .i64) :: (rl none 41 [])))))
 B := [(2, .vec 8 true), (3, .cells (rl (.fP .u64 0) 32 [.aL]) true none), (4, .vec 24 true), (5, .vec 8 true), (6, .vec 8 true)]
 D := []
 pre := []
 F := fun s => [0, 1, nameAt s 5 [], nameAt s 6 [], nameAt s 7 [], nameAt s 12 [], nameAt s 14 []]
 toL := zv
 ofL := pC
 au := fun ls c v h => by
  unfold pC at h
  split at h
  ·cases h; rfl
  ·cases h
 cw := dq
 nat := zw
 sh := A9
 out := pD
 toE := pE
 fQ := jh
 ofE := jR
 dn := v6
 post := fun cc e k => ((fun e => k (.exit 6) (bo 6 (rl none 5 (some (.ptr 2 0) :: some (.ptr 3 0) :: some (.ptr 4 0) :: none :: none :: none :: none :: some (.ptr 5 0) :: (rl none 40 (some (.agg (v8 cc.s4.2.2.1 cc.s4.2.2.2.1 cc.s8.1 cc.s8.2.1 cc.s8.2.2.1 cc.s8.2.2.2.1 cc.s8.s4.1 cc.s8.s4.2.1 (v8 cc.s8.s4.2.2.1 cc.s8.s4.2.2.2.1 cc.s16.1 cc.s16.2.1 cc.s16.2.2.1 cc.s16.2.2.2.1 cc.s16.s4.1 cc.s16.s4.2.1 (v8 cc.s16.s4.2.2.1 cc.s16.s4.2.2.2.1 cc.s16.s8.1 cc.s16.s8.2.1 cc.s16.s8.2.2.1 cc.s16.s8.2.2.2.1 cc.s16.s8.s4.1 cc.s16.s8.s4.2.1 [])))) :: some (.int .i64 cc.s16.s8.s4.2.2) :: (rl none 41 []))))) [(2, .vec cc.1 cc.2.1 8 true), (3, .cells (rl (.int .u64 0) 32 [.aL]) true none), (4, .vec cc.2.2.1 cc.2.2.2.1 24 true), (5, .vec e cc.s4.1 8 true)] [])) e)
 cv := fun cc e k => by rfl
theorem pF : cX U2 2 ln.la (aO Try.f45 3) :=
 LD.ok (ch := gG) (A := bD) aJ gN mixed (fuel := 60) ⟨by kernel_rfl, fun e => by kernel_rfl, fun cc v => by kernel_rfl, aK (l := []) (by kernel_rfl) trivial⟩
def fF {R : Type} (cc : eE) (v : LA_ × Int) (kn : (LA_ × Int) → Option R) (ke : ((LA_)) → Option R) : Option R :=
 (cond (decide (v.2 < 3)) (let l11 := ((v8 cc.2.2.2.2.2.1 cc.2.2.2.2.2.2.1 cc.2.2.2.2.2.2.2.1 cc.2.2.2.2.2.2.2.2.1 cc.2.2.2.2.2.2.2.2.2.1 cc.2.2.2.2.2.2.2.2.2.2.1 cc.2.2.2.2.2.2.2.2.2.2.2.1 cc.2.2.2.2.2.2.2.2.2.2.2.2.1 (v8 cc.2.2.2.2.2.2.2.2.2.2.2.2.2.1 cc.2.2.2.2.2.2.2.2.2.2.2.2.2.2.1 cc.2.2.2.2.2.2.2.2.2.2.2.2.2.2.2.1 cc.2.2.2.2.2.2.2.2.2.2.2.2.2.2.2.2.1 cc.2.2.2.2.2.2.2.2.2.2.2.2.2.2.2.2.2.1 cc.2.2.2.2.2.2.2.2.2.2.2.2.2.2.2.2.2.2.1 cc.2.2.2.2.2.2.2.2.2.2.2.2.2.2.2.2.2.2.2.1 cc.2.2.2.2.2.2.2.2.2.2.2.2.2.2.2.2.2.2.2.2.1 (v8 cc.2.2.2.2.2.2.2.2.2.2.2.2.2.2.2.2.2.2.2.2.2.1 cc.2.2.2.2.2.2.2.2.2.2.2.2.2.2.2.2.2.2.2.2.2.2.1 cc.2.2.2.2.2.2.2.2.2.2.2.2.2.2.2.2.2.2.2.2.2.2.2.1 cc.2.2.2.2.2.2.2.2.2.2.2.2.2.2.2.2.2.2.2.2.2.2.2.2.1 cc.2.2.2.2.2.2.2.2.2.2.2.2.2.2.2.2.2.2.2.2.2.2.2.2.2.1 cc.2.2.2.2.2.2.2.2.2.2.2.2.2.2.2.2.2.2.2.2.2.2.2.2.2.2.1 cc.2.2.2.2.2.2.2.2.2.2.2.2.2.2.2.2.2.2.2.2.2.2.2.2.2.2.2.1 cc.2.2.2.2.2.2.2.2.2.2.2.2.2.2.2.2.2.2.2.2.2.2.2.2.2.2.2.2 []))) : LA_); (af (decide (0 ≤ v.2) && decide (v.2 < ((3 : Nat) : Int)) && aq fL l11 (Int.toNat v.2 * 8)) (Option.bind (pu (ac l11 ((Int.toNat v.2 * 8) + 0)) (ac l11 ((Int.toNat v.2 * 8) + 1)) (ac l11 ((Int.toNat v.2 * 8) + 2)) (ac l11 ((Int.toNat v.2 * 8) + 3)) (ac l11 ((Int.toNat v.2 * 8) + 4)) (ac l11 ((Int.toNat v.2 * 8) + 5)) (ac l11 ((Int.toNat v.2 * 8) + 6)) (ac l11 ((Int.toNat v.2 * 8) + 7))) fun r12 => (cond (decide (r12 < 0)) (Option.bind (CL (ac l11 ((Int.toNat v.2 * 8) + 0)) (ac l11 ((Int.toNat v.2 * 8) + 1)) (ac l11 ((Int.toNat v.2 * 8) + 2)) (ac l11 ((Int.toNat v.2 * 8) + 3)) (ac l11 ((Int.toNat v.2 * 8) + 4)) (ac l11 ((Int.toNat v.2 * 8) + 5)) (ac l11 ((Int.toNat v.2 * 8) + 6)) (ac l11 ((Int.toNat v.2 * 8) + 7))) fun r13 => (Option.bind (f0 (cc.1, cc.2.1, cc.2.2.1, cc.2.2.2.1, cc.2.2.2.2.1, 1, cc.2.2.2.2.2.1, cc.2.2.2.2.2.2.1, cc.2.2.2.2.2.2.2.1, cc.2.2.2.2.2.2.2.2.1, cc.2.2.2.2.2.2.2.2.2.1, cc.2.2.2.2.2.2.2.2.2.2.1, cc.2.2.2.2.2.2.2.2.2.2.2.1, cc.2.2.2.2.2.2.2.2.2.2.2.2.1, cc.2.2.2.2.2.2.2.2.2.2.2.2.2.1, cc.2.2.2.2.2.2.2.2.2.2.2.2.2.2.1, cc.2.2.2.2.2.2.2.2.2.2.2.2.2.2.2.1, cc.2.2.2.2.2.2.2.2.2.2.2.2.2.2.2.2.1, cc.2.2.2.2.2.2.2.2.2.2.2.2.2.2.2.2.2.1, cc.2.2.2.2.2.2.2.2.2.2.2.2.2.2.2.2.2.2.1, cc.2.2.2.2.2.2.2.2.2.2.2.2.2.2.2.2.2.2.2.1, cc.2.2.2.2.2.2.2.2.2.2.2.2.2.2.2.2.2.2.2.2.1, cc.2.2.2.2.2.2.2.2.2.2.2.2.2.2.2.2.2.2.2.2.2.1, cc.2.2.2.2.2.2.2.2.2.2.2.2.2.2.2.2.2.2.2.2.2.2.1, cc.2.2.2.2.2.2.2.2.2.2.2.2.2.2.2.2.2.2.2.2.2.2.2.1, cc.2.2.2.2.2.2.2.2.2.2.2.2.2.2.2.2.2.2.2.2.2.2.2.2.1, cc.2.2.2.2.2.2.2.2.2.2.2.2.2.2.2.2.2.2.2.2.2.2.2.2.2.1, cc.2.2.2.2.2.2.2.2.2.2.2.2.2.2.2.2.2.2.2.2.2.2.2.2.2.2.1, cc.2.2.2.2.2.2.2.2.2.2.2.2.2.2.2.2.2.2.2.2.2.2.2.2.2.2.2.1, cc.2.2.2.2.2.2.2.2.2.2.2.2.2.2.2.2.2.2.2.2.2.2.2.2.2.2.2.2, v.2) (v.1, ((v8 (aa r13 0) (aa r13 1) (aa r13 2) (aa r13 3) (aa r13 4) (aa r13 5) (aa r13 6) (aa r13 7) []) : LA_))) fun e15 => (kn (e15, (IntKind.wrap .i64 (v.2 + 1)))))) (Option.bind (f0 (cc.1, cc.2.1, cc.2.2.1, cc.2.2.2.1, cc.2.2.2.2.1, 1, cc.2.2.2.2.2.1, cc.2.2.2.2.2.2.1, cc.2.2.2.2.2.2.2.1, cc.2.2.2.2.2.2.2.2.1, cc.2.2.2.2.2.2.2.2.2.1, cc.2.2.2.2.2.2.2.2.2.2.1, cc.2.2.2.2.2.2.2.2.2.2.2.1, cc.2.2.2.2.2.2.2.2.2.2.2.2.1, cc.2.2.2.2.2.2.2.2.2.2.2.2.2.1, cc.2.2.2.2.2.2.2.2.2.2.2.2.2.2.1, cc.2.2.2.2.2.2.2.2.2.2.2.2.2.2.2.1, cc.2.2.2.2.2.2.2.2.2.2.2.2.2.2.2.2.1, cc.2.2.2.2.2.2.2.2.2.2.2.2.2.2.2.2.2.1, cc.2.2.2.2.2.2.2.2.2.2.2.2.2.2.2.2.2.2.1, cc.2.2.2.2.2.2.2.2.2.2.2.2.2.2.2.2.2.2.2.1, cc.2.2.2.2.2.2.2.2.2.2.2.2.2.2.2.2.2.2.2.2.1, cc.2.2.2.2.2.2.2.2.2.2.2.2.2.2.2.2.2.2.2.2.2.1, cc.2.2.2.2.2.2.2.2.2.2.2.2.2.2.2.2.2.2.2.2.2.2.1, cc.2.2.2.2.2.2.2.2.2.2.2.2.2.2.2.2.2.2.2.2.2.2.2.1, cc.2.2.2.2.2.2.2.2.2.2.2.2.2.2.2.2.2.2.2.2.2.2.2.2.1, cc.2.2.2.2.2.2.2.2.2.2.2.2.2.2.2.2.2.2.2.2.2.2.2.2.2.1, cc.2.2.2.2.2.2.2.2.2.2.2.2.2.2.2.2.2.2.2.2.2.2.2.2.2.2.1, cc.2.2.2.2.2.2.2.2.2.2.2.2.2.2.2.2.2.2.2.2.2.2.2.2.2.2.2.1, cc.2.2.2.2.2.2.2.2.2.2.2.2.2.2.2.2.2.2.2.2.2.2.2.2.2.2.2.2, v.2) (v.1, ([.int .u64 (ac l11 ((Int.toNat v.2 * 8) + 0)), .int .u64 (ac l11 ((Int.toNat v.2 * 8) + 1)), .int .u64 (ac l11 ((Int.toNat v.2 * 8) + 2)), .int .u64 (ac l11 ((Int.toNat v.2 * 8) + 3)), .int .u64 (ac l11 ((Int.toNat v.2 * 8) + 4)), .int .u64 (ac l11 ((Int.toNat v.2 * 8) + 5)), .int .u64 (ac l11 ((Int.toNat v.2 * 8) + 6)), .int .u64 (ac l11 ((Int.toNat v.2 * 8) + 7))] : LA_))) fun e16 => (kn (e16, (IntKind.wrap .i64 (v.2 + 1))))))))) (ke v.1))
def ir (cc : eE) (v : LA_ × Int) : Option ((LA_ × Int) ⊕ ((LA_))) := fF cc v (fun v => some (Sum.inl v)) fun e => some (Sum.inr e)
def mQ (cc : eE) (v : LA_ × Int) : Option ((LA_)) := dZ (ir cc) v
def zx (cc : eE) (v : LA_ × Int) : List ah := [.I cc.s4.2.1, .I cc.s4.2.2.1, .I cc.s4.2.2.2.1, .I cc.s8.1, .I cc.s8.2.1, .I cc.s8.2.2.1, .I cc.s8.2.2.2.1, .I cc.s8.s4.1, .I cc.s8.s4.2.1, .I cc.s8.s4.2.2.1, .I cc.s8.s4.2.2.2.1, .I cc.s16.1, .I cc.s16.2.1, .I cc.s16.2.2.1, .I cc.s16.2.2.2.1, .I cc.s16.s4.1, .I cc.s16.s4.2.1, .I cc.s16.s4.2.2.1, .I cc.s16.s4.2.2.2.1, .I cc.s16.s8.1, .I cc.s16.s8.2.1, .I cc.s16.s8.2.2.1, .I cc.s16.s8.2.2.2.1, .I cc.s16.s8.s4, .I v.2, .C cc.1, .N cc.2.1, .C cc.2.2.1, .N cc.2.2.2.1, .C v.1, .N cc.s4.1]
def pG (ls : List ah) : Option ((eE) × (LA_ × Int)) := match ls with
 | [.I x0, .I x1, .I x2, .I x3, .I x4, .I x5, .I x6, .I x7, .I x8, .I x9, .I x10, .I x11, .I x12, .I x13, .I x14, .I x15, .I x16, .I x17, .I x18, .I x19, .I x20, .I x21, .I x22, .I x23, .I x24, .C x25, .N x26, .C x27, .N x28, .C x29, .N x30] => some ((x25, x26, x27, x28, x30, x0, x1, x2, x3, x4, x5, x6, x7, x8, x9, x10, x11, x12, x13, x14, x15, x16, x17, x18, x19, x20, x21, x22, x23), (x29, x24))
 | _ => none
def pH (e : (LA_)) : an := ((fun e => .exit 4) e)
def pI (cc : eE) (e : (LA_)) : List ah := ((fun e => [.C cc.1, .N cc.2.1, .C cc.2.2.1, .N cc.2.2.2.1, .C e, .N cc.s4.1]) e)
def ji (cc : eE) (e : (LA_)) : List ah := ((fun e => [.C cc.1, .N cc.2.1, .C cc.2.2.1, .N cc.2.2.2.1, .N cc.s4.1]) e)
def jS (o : an) (ls : List ah) : Option (((LA_)) × List ah) := match o with
 | .exit 4 => (match ls with
  | [.C x0, .N x1, .C x2, .N x3, .C x4, .N x5] => some (x4, [.C x0, .N x1, .C x2, .N x3, .N x5])
  | _ => none)
 | _ => none
theorem v7 : ∀ o ls e cl cc, jS o ls = some (e, cl) → cl = ji cc e → ls = pI cc e ∧ pH e = o ∧ o ≠ .normal ∧ ∀ v, o = .pan v → sc 0 v = true := by
 intro o ls e cl cc h hc
 unfold jS at h
 split at h
 ·split at h
  ·cases h
   simp only [ji, List.cons.injEq, ah.N.injEq, ah.C.injEq, and_true] at hc
   obtain ⟨rfl, rfl, rfl, rfl, rfl⟩ := hc
   exact ⟨rfl, rfl, by simp, by intro v hv; cases hv <;> rfl⟩
  ·cases h
 ·cases h
def Ba (o : an) : ExS := match o with
 | .exit 4 => ⟨6, (rl none 5 (some (.ptr 2 0) :: some (.ptr 3 0) :: some (.ptr 4 0) :: none :: none :: none :: none :: some (.ptr 5 0) :: (rl none 83 []))), [(2, .vec 8 true), (3, .cells (rl (.fP .u64 0) 32 [.aL]) true none), (4, .vec 24 true), (5, .vec 8 true)], fun s => [0, 1, nameAt s 5 [], nameAt s 6 [], nameAt s 7 [], nameAt s 12 []], [], []⟩
 | _ => ⟨0, [], [], fun _ => [], [], []⟩
theorem zy {R : Type} (cc : eE) (v : LA_ × Int) (kn : (LA_ × Int) → Option R) (ke : ((LA_)) → Option R) : fF cc v kn ke = (fF cc v (fun v => some (Sum.inl v)) fun e => some (Sum.inr e)).bind (Sum.elim kn ke) := by
 simp only [fF, bX, ai, UA, cu, bS, Uy, Uz, UZ, UY]
def sj : LD where
 CC := eE
 V := LA_ × Int
 E := (LA_)
 n := 2
 K := 6
 M := (rl none 5 (some (.ptr 2 0) :: some (.ptr 3 0) :: some (.ptr 4 0) :: none :: none :: none :: none :: some (.ptr 5 0) :: (rl none 40 (some (.agg (rl (.int .u64) 24 [])) :: some (.int .i64) :: (rl none 41 [])))))
 B := [(2, .vec 8 true), (3, .cells (rl (.fP .u64 0) 32 [.aL]) true none), (4, .vec 24 true), (5, .vec 8 true)]
 D := []
 pre := []
 F := fun s => [0, 1, nameAt s 5 [], nameAt s 6 [], nameAt s 7 [], nameAt s 12 []]
 toL := zx
 ofL := pG
 au := fun ls c v h => by
  unfold pG at h
  split at h
  ·cases h; rfl
  ·cases h
 cw := fF
 nat := zy
 sh := Ba
 out := pH
 toE := pI
 fQ := ji
 ofE := jS
 dn := v7
 post := fun cc e k => ((fun e => k (.exit 4) (bo 6 (rl none 5 (some (.ptr 2 0) :: some (.ptr 3 0) :: some (.ptr 4 0) :: none :: none :: none :: none :: some (.ptr 5 0) :: (rl none 83 []))) [(2, .vec cc.1 cc.2.1 8 true), (3, .cells (rl (.int .u64 0) 32 [.aL]) true none), (4, .vec cc.2.2.1 cc.2.2.2.1 24 true), (5, .vec e cc.s4.1 8 true)] [])) e)
 cv := fun cc e k => by rfl
theorem zA : cX U2 2 sj.la (aO Try.f45 2) :=
 LD.ok (ch := gG) (A := eT [(17, ln.la)]) aJ gN mixed (fuel := 60) ⟨by kernel_rfl, fun e => by kernel_rfl, fun cc v => by kernel_rfl, aK (l := [aO Try.f45 3]) (by kernel_rfl) ⟨ci (by kernel_rfl) pF, trivial⟩⟩
def kg (cs0 : LA_) (n1 : Nat) (cs2 : LA_) (n3 : Nat) (a4 a5 a6 a7 a8 a9 a10 a11 : Int) : Option (vm) :=
 (Option.bind (n7 (cs2, n3, ((v8 a4 a5 a6 a7 a8 a9 a10 a11 []) : LA_), 1, 1, cs0, n1, ((n1 : Nat) : Int)) (((v8 0 0 0 0 0 0 0 0 (v8 0 0 0 0 0 0 0 0 (v8 0 0 0 0 0 0 0 0 []))) : LA_), 0)) fun e1 => (af (aq Uw e1 0) (Option.bind (mQ (((v8 a4 a5 a6 a7 a8 a9 a10 a11 []) : LA_), 1, e1, 1, 1, (ac e1 0), (ac e1 1), (ac e1 2), (ac e1 3), (ac e1 4), (ac e1 5), (ac e1 6), (ac e1 7), (ac e1 8), (ac e1 9), (ac e1 10), (ac e1 11), (ac e1 12), (ac e1 13), (ac e1 14), (ac e1 15), (ac e1 16), (ac e1 17), (ac e1 18), (ac e1 19), (ac e1 20), (ac e1 21), (ac e1 22), (ac e1 23)) (((v8 a4 a5 a6 a7 a8 a9 a10 a11 []) : LA_), 0)) fun e2 => (af (aq fL e1 0) (af (aq fL e2 0 && Nat.beq (List.length e2) 8) (Option.bind (bL (ac e1 0) (ac e1 1) (ac e1 2) (ac e1 3) (ac e1 4) (ac e1 5) (ac e1 6) (ac e1 7) (ac e2 0) (ac e2 1) (ac e2 2) (ac e2 3) (ac e2 4) (ac e2 5) (ac e2 6) (ac e2 7)) fun r3 => (af (aq fL e1 8) (af (aq fL e2 0 && Nat.beq (List.length e2) 8) (Option.bind (bL (ac e1 8) (ac e1 9) (ac e1 10) (ac e1 11) (ac e1 12) (ac e1 13) (ac e1 14) (ac e1 15) (ac e2 0) (ac e2 1) (ac e2 2) (ac e2 3) (ac e2 4) (ac e2 5) (ac e2 6) (ac e2 7)) fun r4 => (af (aq fL e1 16) (af (aq fL e2 0 && Nat.beq (List.length e2) 8) (Option.bind (bL (ac e1 16) (ac e1 17) (ac e1 18) (ac e1 19) (ac e1 20) (ac e1 21) (ac e1 22) (ac e1 23) (ac e2 0) (ac e2 1) (ac e2 2) (ac e2 3) (ac e2 4) (ac e2 5) (ac e2 6) (ac e2 7)) fun r5 => (af (aq fL e2 0 && Nat.beq (List.length e2) 8) (Option.bind (bL a4 a5 a6 a7 a8 a9 a10 a11 (ac e2 0) (ac e2 1) (ac e2 2) (ac e2 3) (ac e2 4) (ac e2 5) (ac e2 6) (ac e2 7)) fun r6 => (some (aY r3 (aY r4 (aY r5 ((aa r6 0), (aa r6 1), (aa r6 2), (aa r6 3), (aa r6 4), (aa r6 5), (aa r6 6), (aa r6 7))))))))))))))))))))
def dI : FD where
 X := vm
 k := 2
 pre := []
 F := fun s => [0, 1]
 M := .agg (rl (.int .u64) 32 [.aL])
 B := []
 toL := fun x => [.I x.1, .I x.2.1, .I x.2.2.1, .I x.2.2.2.1, .I x.s4.1, .I x.s4.2.1, .I x.s4.2.2.1, .I x.s4.2.2.2.1, .I x.s8.1, .I x.s8.2.1, .I x.s8.2.2.1, .I x.s8.2.2.2.1, .I x.s8.s4.1, .I x.s8.s4.2.1, .I x.s8.s4.2.2.1, .I x.s8.s4.2.2.2.1, .I x.s16.1, .I x.s16.2.1, .I x.s16.2.2.1, .I x.s16.2.2.2.1, .I x.s16.s4.1, .I x.s16.s4.2.1, .I x.s16.s4.2.2.1, .I x.s16.s4.2.2.2.1, .I x.s16.s8.1, .I x.s16.s8.2.1, .I x.s16.s8.2.2.1, .I x.s16.s8.2.2.2.1, .I x.s16.s8.s4.1, .I x.s16.s8.s4.2.1, .I x.s16.s8.s4.2.2.1, .I x.s16.s8.s4.2.2.2]
 ofL := fun ls => match ls with
  | [.I x0, .I x1, .I x2, .I x3, .I x4, .I x5, .I x6, .I x7, .I x8, .I x9, .I x10, .I x11, .I x12, .I x13, .I x14, .I x15, .I x16, .I x17, .I x18, .I x19, .I x20, .I x21, .I x22, .I x23, .I x24, .I x25, .I x26, .I x27, .I x28, .I x29, .I x30, .I x31] => some (x0, x1, x2, x3, x4, x5, x6, x7, x8, x9, x10, x11, x12, x13, x14, x15, x16, x17, x18, x19, x20, x21, x22, x23, x24, x25, x26, x27, x28, x29, x30, x31)
  | _ => none
 au := fun ls x h => by
  split at h
  ·cases h; rfl
  ·cases h
theorem DC (cs0 : LA_) (n1 : Nat) (cs2 : LA_) (n3 : Nat) (a4 a5 a6 a7 a8 a9 a10 a11 : Int) (x : vm) (h : kg cs0 n1 cs2 n3 a4 a5 a6 a7 a8 a9 a10 a11 = some x) : bg U2 45 2 [.vec 0, .vec 1, .agg (v8 a4 a5 a6 a7 a8 a9 a10 a11 [])] [.vec cs0 n1 3 false, .vec cs2 n3 8 false] dI x :=
 FD.sem (ch := gG) (A := eT [(3, tM.la), (17, ln.la), (13, sj.la)]) (fn := Try.f45) (c := bu Try.f45) (fuel := 60) aJ gN mixed bK dI Try.func45 (by kernel_rfl) (aK (l := [aO Try.f45 0, aO Try.f45 1, aO Try.f45 2, aO Try.f45 3]) (by kernel_rfl) ⟨ci (by kernel_rfl) A8, (eh (by kernel_rfl)), ci (by kernel_rfl) zA, ci (by kernel_rfl) pF, trivial⟩)
  (by kernel_rfl) (Eq.trans (by kernel_rfl) h)
def du (cs0 : LA_) (n1 : Nat) (cs2 : LA_) (n3 : Nat) (a4 a5 a6 a7 a8 a9 a10 a11 : Int) : Option (Int × Int × Int × Int) := Option.bind (kg cs0 n1 cs2 n3 a4 a5 a6 a7 a8 a9 a10 a11) fun (x0, x1, x2, x3, x4, x5, x6, x7, x8, x9, x10, x11, x12, x13, x14, x15, x16, x17, x18, x19, x20, x21, x22, x23, x24, x25, x26, x27, x28, x29, x30, x31) => af (ok8 x0 x1 x2 x3 x4 x5 x6 x7 && ok8 x8 x9 x10 x11 x12 x13 x14 x15 && ok8 x16 x17 x18 x19 x20 x21 x22 x23 && ok8 x24 x25 x26 x27 x28 x29 x30 x31) (some ((num x0 x1 x2 x3 x4 x5 x6 x7), (num x8 x9 x10 x11 x12 x13 x14 x15), (num x16 x17 x18 x19 x20 x21 x22 x23), (num x24 x25 x26 x27 x28 x29 x30 x31)))
def pJ : FD := ⟨Int × Int × Int × Int, dI.k, dI.pre, dI.F, dI.M, dI.B, fun y => dI.toL (aY y.1 (aY y.2.1 (aY y.2.2.1 ((aa y.2.2.2 0), (aa y.2.2.2 1), (aa y.2.2.2 2), (aa y.2.2.2 3), (aa y.2.2.2 4), (aa y.2.2.2 5), (aa y.2.2.2 6), (aa y.2.2.2 7))))), fun _ => none, fun _ _ h => by cases h⟩
theorem EN (cs0 : LA_) (n1 : Nat) (cs2 : LA_) (n3 : Nat) (a4 a5 a6 a7 a8 a9 a10 a11 : Int) {y : Int × Int × Int × Int} (h : du cs0 n1 cs2 n3 a4 a5 a6 a7 a8 a9 a10 a11 = some y) : kg cs0 n1 cs2 n3 a4 a5 a6 a7 a8 a9 a10 a11 = some (aY y.1 (aY y.2.1 (aY y.2.2.1 ((aa y.2.2.2 0), (aa y.2.2.2 1), (aa y.2.2.2 2), (aa y.2.2.2 3), (aa y.2.2.2 4), (aa y.2.2.2 5), (aa y.2.2.2 6), (aa y.2.2.2 7))))) := by
 unfold du at h
 obtain ⟨⟨x0, x1, x2, x3, x4, x5, x6, x7, x8, x9, x10, x11, x12, x13, x14, x15, x16, x17, x18, x19, x20, x21, x22, x23, x24, x25, x26, x27, x28, x29, x30, x31⟩, h1, h2⟩ := bE_ h
 obtain ⟨h3, h4⟩ := aH h2
 simp only [UC, and_assoc] at h3
 simp only [UB] at h4
 subst h4
 obtain ⟨o0, o1, o2, o3⟩ := h3
 have q0 := aQ o0
 have q1 := aQ o1
 have q2 := aQ o2
 have q3 := aQ o3
 rw [h1]
 simp only [aY, q0, q1, q2, q3]
theorem DD (cs0 : LA_) (n1 : Nat) (cs2 : LA_) (n3 : Nat) (a4 a5 a6 a7 a8 a9 a10 a11 : Int) (y : Int × Int × Int × Int) (h : du cs0 n1 cs2 n3 a4 a5 a6 a7 a8 a9 a10 a11 = some y) : bg U2 45 2 [.vec 0, .vec 1, .agg (v8 a4 a5 a6 a7 a8 a9 a10 a11 [])] [.vec cs0 n1 3 false, .vec cs2 n3 8 false] pJ y := DC cs0 n1 cs2 n3 a4 a5 a6 a7 a8 a9 a10 a11 _ (EN cs0 n1 cs2 n3 a4 a5 a6 a7 a8 a9 a10 a11 h)
def tc (cs0 : LA_) (n1 : Nat) (cs2 : LA_) (n3 : Nat) (z4 : Int) : Option (Int × Int × Int × Int) := du cs0 n1 cs2 n3 (aa z4 0) (aa z4 1) (aa z4 2) (aa z4 3) (aa z4 4) (aa z4 5) (aa z4 6) (aa z4 7)
def ta : HK where
 call := fun args σ k => match args with
  | [x0, x1, .agg [.int .u64 a4, .int .u64 a5, .int .u64 a6, .int .u64 a7, .int .u64 a8, .int .u64 a9, .int .u64 a10, .int .u64 a11]] => cW σ 3 x0 fun cs0 n1 => cW σ 8 x1 fun cs2 n3 => Option.bind (du cs0 n1 cs2 n3 a4 a5 a6 a7 a8 a9 a10 a11) fun y => aC σ 2 (pJ.val y) (pJ.aN y) k
  | _ => none
 nat := fun args σ k => by
  repeat' split
  all_goals simp only [av, ai, UA, Uz, aC, Uy]
 pure := false
 pok := fun h => by cases h
theorem EM : aX U2 45 ta := by
 intro args σ r σ' h
 simp only [ta] at h
 split at h
 ·rename_i x0 x1 a4 a5 a6 a7 a8 a9 a10 a11
  obtain ⟨cs0, n1, he0, hf0, h⟩ := bE h
  obtain ⟨cs2, n3, he1, hf1, h⟩ := bE h
  obtain ⟨y, hy, h⟩ := bE_ h
  exact lifted (xs := [x0, x1]) (ls := [.vec cs0 n1 3 false, .vec cs2 n3 8 false]) (cargs := [.vec 0, .vec 1, .agg (v8 a4 a5 a6 a7 a8 a9 a10 a11 [])]) (bC.of ⟨⟨rfl, he0, hf0, by decide⟩, ⟨rfl, he1, hf1, by decide⟩, trivial⟩) rfl (DD cs0 n1 cs2 n3 a4 a5 a6 a7 a8 a9 a10 a11 y hy) rfl rfl rfl rfl h
 ·cases h
theorem yK {a b : Nat} {x y : Int} [Sm a x] [Sm b y] (h1 : a ≤ 510) (h2 : b ≤ 510) (h : a + b ≤ 510) : iT (aa x 0) (aa x 1) (aa x 2) (aa x 3) (aa x 4) (aa x 5) (aa x 6) (aa x 7) (aa y 0) (aa y 1) (aa y 2) (aa y 3) (aa y 4) (aa y 5) (aa y 6) (aa y 7) = some (x * y) := OA h1 h2 h
theorem RU {a b : Nat} {x y : Int} [Sm a x] [Sm b y] (h1 : a ≤ 510) (h2 : b ≤ 510) (h : max a b + 1 ≤ 510) : nD (aa x 0) (aa x 1) (aa x 2) (aa x 3) (aa x 4) (aa x 5) (aa x 6) (aa x 7) (aa y 0) (aa y 1) (aa y 2) (aa y 3) (aa y 4) (aa y 5) (aa y 6) (aa y 7) = some (x + y) := GS h1 h2 h
abbrev k8 : List TK := [.int .u64, .int .u64, .int .u64, .int .u64, .int .u64, .int .u64, .int .u64, .int .u64]
theorem KT : ∀ (l : List Int) (i j : Nat), i < l.length → j < 8 → (wcs l)[i * 8 + j]? = some (.int .u64 (aa (l.getD i 0) j))
 | [], i, j, h, _ => by simp at h
 | z :: l, 0, j, _, hj => by
  rcases j with _ | _ | _ | _ | _ | _ | _ | _ | j
  all_goals first | rfl | omega
 | z :: l, i + 1, j, h, hj => by
  have ih := KT l i j (by simpa using h) hj
  rw [show (i + 1) * 8 + j = i * 8 + j + 8 by omega]
  simp only [List.getD_cons_succ]
  exact ih
theorem wg {l : List Int} {i j : Nat} (h : i < l.length) (hj : j < 8) : ac (wcs l) (i * 8 + j) = aa (l.getD i 0) j := by
 unfold ac; rw [KT l i j h hj]
theorem wro {l : List Int} {i : Nat} (h : i < l.length) : aq k8 (wcs l) (i * 8) = true := by
 have g := fun j hj => KT l i j h hj
 have g0 := g 0 (by decide)
 rw [Nat.add_zero] at g0
 simp only [aq, g0, g 1 (by decide), g 2 (by decide), g 3 (by decide), g 4 (by decide), g 5 (by decide), g 6 (by decide), g 7 (by decide), Nat.add_assoc, Nat.reduceAdd, isK, decide_true, UF]
def GT : List Int → List Pt → Pt → Pt
 | w :: ws, p :: ps, a => GT ws ps (a.1 + w * p.1, a.2.1 + w * p.2.1, a.2.2 + w * p.2.2)
 | _, _, a => a
theorem KU : ∀ (w : List Int) (l : List Pt) (a : Pt), w.length = l.length → GT w l a = (a.1 + (bB w l).1, a.2.1 + (bB w l).2.1, a.2.2 + (bB w l).2.2)
 | [], [], a, _ => by simp [GT, bB]
 | x :: w, p :: l, a, h => by
  rw [GT, KU w l _ (by simpa using h)]
  simp only [bB, UD]
  grind
 | [], _ :: _, _, h => by simp at h
 | _ :: _, [], _, h => by simp at h
abbrev p24 (p : Pt) : LA_ := wcs [p.1, p.2.1, p.2.2]
theorem KV {w : List Int} {l : List Pt} (hlen : w.length = l.length) (hok : bd l = true) (hw : ∀ z ∈ w, sm 190 z) (h4 : l.length ≤ 4) (D : LA_) : ∀ (n i : Nat) (a : Pt) (k : Nat), l.length - i = n → i ≤ l.length → PtB (230 + i) a →
  iter (fZ (wcs w, w.length, D, 1, 1, pcs l, l.length, ((l.length : Nat) : Int))) (n + 1) (p24 a, (i : Int)) = some (p24 (GT (w.drop i) (l.drop i) a))
 | 0, i, a, k, hn, hi, ha => by
  have he : i = l.length := by omega
  subst he
  refine gK 0 ?_
  rw [List.drop_length, ← hlen, List.drop_length, hlen]
  simp only [fZ, dG, UG (show ¬ ((l.length : Int) < ((l.length : Nat) : Int)) by omega), cond_false]
  rfl
 | n + 1, i, a, k, hn, hi, ha => by
  have h : i < l.length := by omega
  have hwi : i < w.length := by omega
  have hd : l.drop i = pat l i :: l.drop (i + 1) := by
   rw [List.drop_eq_getElem_cons h]; simp [pat, UK, UJ h]
  have hdw : w.drop i = w.getD i 0 :: w.drop (i + 1) := by
   rw [List.drop_eq_getElem_cons hwi]; simp [UK, UJ hwi]
  have wr : IntKind.wrap .i64 ((i : Int) + 1) = ((i + 1 : Nat) : Int) := by rw [ce (by omega)]; omega
  have hp := PtB.of (eI hok h)
  haveI : Sm 190 (w.getD i 0) := ⟨by
   rw [UK, UJ hwi]
   exact hw _ (List.getElem_mem hwi)⟩
  haveI p1 : Sm 28 (pat l i).1 := ⟨hp.h.1⟩
  haveI p2 : Sm 28 (pat l i).2.1 := ⟨hp.h.2.1⟩
  haveI p3 : Sm 28 (pat l i).2.2 := ⟨hp.h.2.2⟩
  have hi3 : 230 + i ≤ 233 := by omega
  haveI a1 : Sm 233 a.1 := ⟨aW ha.h.1 hi3⟩
  haveI a2 : Sm 233 a.2.1 := ⟨aW ha.h.2.1 hi3⟩
  haveI a3 : Sm 233 a.2.2 := ⟨aW ha.h.2.2 hi3⟩
  have o1 : cOf (pat l i).1 = some (pat l i).1 := C5 (p1.rng (by decide))
  have o2 : cOf (pat l i).2.1 = some (pat l i).2.1 := C5 (p2.rng (by decide))
  have o3 : cOf (pat l i).2.2 = some (pat l i).2.2 := C5 (p3.rng (by decide))
  have key : fZ (wcs w, w.length, D, 1, 1, pcs l, l.length, ((l.length : Nat) : Int)) (p24 a, (i : Int)) =
    some (.inl (p24 (a.1 + w.getD i 0 * (pat l i).1, a.2.1 + w.getD i 0 * (pat l i).2.1, a.2.2 + w.getD i 0 * (pat l i).2.2), ((i + 1 : Nat) : Int))) := by
   have dw : decide ((i : Int) < ((w.length : Nat) : Int)) = true := decLt hwi
   have w0 : ac (wcs w) (i * 8 + 0) = aa (w.getD i 0) 0 := wg hwi (by decide)
   have w1 : ac (wcs w) (i * 8 + 1) = aa (w.getD i 0) 1 := wg hwi (by decide)
   have w2 : ac (wcs w) (i * 8 + 2) = aa (w.getD i 0) 2 := wg hwi (by decide)
   have w3 : ac (wcs w) (i * 8 + 3) = aa (w.getD i 0) 3 := wg hwi (by decide)
   have w4 : ac (wcs w) (i * 8 + 4) = aa (w.getD i 0) 4 := wg hwi (by decide)
   have w5 : ac (wcs w) (i * 8 + 5) = aa (w.getD i 0) 5 := wg hwi (by decide)
   have w6 : ac (wcs w) (i * 8 + 6) = aa (w.getD i 0) 6 := wg hwi (by decide)
   have w7 : ac (wcs w) (i * 8 + 7) = aa (w.getD i 0) 7 := wg hwi (by decide)
   have s0 : ∀ x y z r : Int, spliced (wcs [x, y, z]) 0 [.int .u64 (aa r 0), .int .u64 (aa r 1), .int .u64 (aa r 2), .int .u64 (aa r 3), .int .u64 (aa r 4), .int .u64 (aa r 5), .int .u64 (aa r 6), .int .u64 (aa r 7)] = wcs [r, y, z] := fun _ _ _ _ => rfl
   have s8 : ∀ x y z r : Int, spliced (wcs [x, y, z]) 8 [.int .u64 (aa r 0), .int .u64 (aa r 1), .int .u64 (aa r 2), .int .u64 (aa r 3), .int .u64 (aa r 4), .int .u64 (aa r 5), .int .u64 (aa r 6), .int .u64 (aa r 7)] = wcs [x, r, z] := fun _ _ _ _ => rfl
   have s16 : ∀ x y z r : Int, spliced (wcs [x, y, z]) 16 [.int .u64 (aa r 0), .int .u64 (aa r 1), .int .u64 (aa r 2), .int .u64 (aa r 3), .int .u64 (aa r 4), .int .u64 (aa r 5), .int .u64 (aa r 6), .int .u64 (aa r 7)] = wcs [x, y, r] := fun _ _ _ _ => rfl
   have l24 : ∀ x y z : Int, List.length (wcs [x, y, z]) = 24 := fun _ _ _ => rfl
   have r0 : ∀ x y z : Int, aq k8 (wcs [x, y, z]) 0 = true := fun x y z => wro (l := [x, y, z]) (i := 0) (by simp)
   have r8 : ∀ x y z : Int, aq k8 (wcs [x, y, z]) 8 = true := fun x y z => wro (l := [x, y, z]) (i := 1) (by simp)
   have r16 : ∀ x y z : Int, aq k8 (wcs [x, y, z]) 16 = true := fun x y z => wro (l := [x, y, z]) (i := 2) (by simp)
   have G0 : ∀ x y z : Int, ac (wcs [x, y, z]) 0 = aa x 0 := fun _ _ _ => rfl
   have G1 : ∀ x y z : Int, ac (wcs [x, y, z]) 1 = aa x 1 := fun _ _ _ => rfl
   have G2 : ∀ x y z : Int, ac (wcs [x, y, z]) 2 = aa x 2 := fun _ _ _ => rfl
   have G3 : ∀ x y z : Int, ac (wcs [x, y, z]) 3 = aa x 3 := fun _ _ _ => rfl
   have G4 : ∀ x y z : Int, ac (wcs [x, y, z]) 4 = aa x 4 := fun _ _ _ => rfl
   have G5 : ∀ x y z : Int, ac (wcs [x, y, z]) 5 = aa x 5 := fun _ _ _ => rfl
   have G6 : ∀ x y z : Int, ac (wcs [x, y, z]) 6 = aa x 6 := fun _ _ _ => rfl
   have G7 : ∀ x y z : Int, ac (wcs [x, y, z]) 7 = aa x 7 := fun _ _ _ => rfl
   have G8 : ∀ x y z : Int, ac (wcs [x, y, z]) 8 = aa y 0 := fun _ _ _ => rfl
   have G9 : ∀ x y z : Int, ac (wcs [x, y, z]) 9 = aa y 1 := fun _ _ _ => rfl
   have G10 : ∀ x y z : Int, ac (wcs [x, y, z]) 10 = aa y 2 := fun _ _ _ => rfl
   have G11 : ∀ x y z : Int, ac (wcs [x, y, z]) 11 = aa y 3 := fun _ _ _ => rfl
   have G12 : ∀ x y z : Int, ac (wcs [x, y, z]) 12 = aa y 4 := fun _ _ _ => rfl
   have G13 : ∀ x y z : Int, ac (wcs [x, y, z]) 13 = aa y 5 := fun _ _ _ => rfl
   have G14 : ∀ x y z : Int, ac (wcs [x, y, z]) 14 = aa y 6 := fun _ _ _ => rfl
   have G15 : ∀ x y z : Int, ac (wcs [x, y, z]) 15 = aa y 7 := fun _ _ _ => rfl
   have G16 : ∀ x y z : Int, ac (wcs [x, y, z]) 16 = aa z 0 := fun _ _ _ => rfl
   have G17 : ∀ x y z : Int, ac (wcs [x, y, z]) 17 = aa z 1 := fun _ _ _ => rfl
   have G18 : ∀ x y z : Int, ac (wcs [x, y, z]) 18 = aa z 2 := fun _ _ _ => rfl
   have G19 : ∀ x y z : Int, ac (wcs [x, y, z]) 19 = aa z 3 := fun _ _ _ => rfl
   have G20 : ∀ x y z : Int, ac (wcs [x, y, z]) 20 = aa z 4 := fun _ _ _ => rfl
   have G21 : ∀ x y z : Int, ac (wcs [x, y, z]) 21 = aa z 5 := fun _ _ _ => rfl
   have G22 : ∀ x y z : Int, ac (wcs [x, y, z]) 22 = aa z 6 := fun _ _ _ => rfl
   have G23 : ∀ x y z : Int, ac (wcs [x, y, z]) 23 = aa z 7 := fun _ _ _ => rfl
   have d8 : decide (0 + 8 ≤ 24) = true := rfl
   have d16 : decide (8 + 8 ≤ 24) = true := rfl
   have d24 : decide (16 + 8 ≤ 24) = true := rfl
   have wro' := wro hwi
   simp (disch := decide) only [fZ, dG, decLt h, gt, dw, cond_true, UF, aw, iY, pro h, pg0 h, pg1 h, pg2 h, o1, o2, o3, Uy, wr, w0, w1, w2, w3, w4, w5, w6, w7, wro',
    s0, s8, s16, l24, r0, r8, r16, d8, d16, d24, yK, RU, G0, G1, G2, G3, G4, G5, G6, G7, G8, G9, G10, G11, G12, G13, G14, G15, G16, G17, G18, G19, G20, G21, G22, G23]
  refine dL key ?_
  have ha' : PtB (230 + (i + 1)) (a.1 + w.getD i 0 * (pat l i).1, a.2.1 + w.getD i 0 * (pat l i).2.1, a.2.2 + w.getD i 0 * (pat l i).2.2) := by
   have q : ∀ {x y : Int}, sm (230 + i) x → sm 28 y → sm (230 + (i + 1)) (x + w.getD i 0 * y) := by
    intro x y hx hy
    exact kj hx (aW (cP (Sm.h (z := w.getD i 0)) hy) (Nat.le_trans (show 190 + 28 ≤ 230 by decide) (Nat.le_add_right _ _)))
   exact ⟨q ha.h.1 hp.h.1, q ha.h.2.1 hp.h.2.1, q ha.h.2.2 hp.h.2.2⟩
  have ih := KV hlen hok hw h4 D n (i + 1) _ k (by omega) (by omega) ha'
  rw [ih, hd, hdw]
  rfl
def M6 (g x h : Int) : Prop := 0 < h ∧ h ∣ g ∧ h ∣ x ∧ ∀ e, e ∣ g → e ∣ x → e ∣ h
theorem Ti {x : Int} (hx : fit x) : (aa x 0 == 0 && (aa x 1 == 0 && (aa x 2 == 0 && (aa x 3 == 0 && (aa x 4 == 0 && (aa x 5 == 0 && (aa x 6 == 0 && (aa x 7 == 0 && true)))))))) = decide (x = 0) := by
 have h := H8 hx xF
 simp only [fy] at h
 exact h
theorem Tj (cc : LA_ × Nat × LA_ × Nat × Nat × Nat × Int × Int × Int × Int × Int × Int × Int × Int × Int × Int × Int × Int × Int × Int × Int × Int × Int × Int × Int × Int × Int × Int × Int × Int × Int) :
  ∀ (k : Nat) (g x : Int), 0 < g → fit g → 0 ≤ x → fit x → x < ((2 ^ k : Nat) : Int) → ∃ h, M6 g x h ∧ h ≤ g ∧ iter (eo cc) (2 * k + 1) (wcs [g], wcs [x]) = some (wcs [h]) := by
 have ends : ∀ (g : Int) (n : Nat), iter (eo cc) (n + 1) (wcs [g], wcs [0]) = some (wcs [g]) := by
  intro g n
  refine gK n ?_
  have r0 : aq k8 (wcs [0]) 0 = true := wro (l := [0]) (i := 0) (by simp)
  have e0 : (!((ac (wcs [(0 : Int)]) 0) == 0 && ((ac (wcs [(0 : Int)]) 1) == 0 && ((ac (wcs [(0 : Int)]) 2) == 0 && ((ac (wcs [(0 : Int)]) 3) == 0 && ((ac (wcs [(0 : Int)]) 4) == 0 && ((ac (wcs [(0 : Int)]) 5) == 0 && ((ac (wcs [(0 : Int)]) 6) == 0 && ((ac (wcs [(0 : Int)]) 7) == 0 && true))))))))) = false := by
   have := Ti xF
   rw [UH rfl] at this
   exact congrArg (fun b => !b) this
  simp only [eo, dq, r0, aw, e0, cond_false]
 have next : ∀ {g x : Int}, fit g → fit x → x ≠ 0 → fit (g.fdiv x) → eo cc (wcs [g], wcs [x]) = some (.inl (wcs [x], wcs [g.fmod x])) := by
  intro g x hg hx h0 hd
  have r0 : ∀ z : Int, aq k8 (wcs [z]) 0 = true := fun z => wro (l := [z]) (i := 0) (by simp)
  have e0 : (!((ac (wcs [x]) 0) == 0 && ((ac (wcs [x]) 1) == 0 && ((ac (wcs [x]) 2) == 0 && ((ac (wcs [x]) 3) == 0 && ((ac (wcs [x]) 4) == 0 && ((ac (wcs [x]) 5) == 0 && ((ac (wcs [x]) 6) == 0 && ((ac (wcs [x]) 7) == 0 && true))))))))) = true := by
   have := Ti hx
   rw [UG h0] at this
   exact congrArg (fun b => !b) this
  have q : ua (ac (wcs [g]) 0) (ac (wcs [g]) 1) (ac (wcs [g]) 2) (ac (wcs [g]) 3) (ac (wcs [g]) 4) (ac (wcs [g]) 5) (ac (wcs [g]) 6) (ac (wcs [g]) 7) (ac (wcs [x]) 0) (ac (wcs [x]) 1) (ac (wcs [x]) 2) (ac (wcs [x]) 3) (ac (wcs [x]) 4) (ac (wcs [x]) 5) (ac (wcs [x]) 6) (ac (wcs [x]) 7) = some (g.fdiv x, g.fmod x) := L4 hg hx h0 hd
  have l8 : ∀ z : Int, decide (0 + 8 ≤ List.length (wcs [z])) = true := fun _ => rfl
  simp only [eo, dq, r0, aw, e0, cond_true, q, Uy, l8]
  rfl
 have fitle : ∀ {a b : Int}, fit b → 0 ≤ a → a ≤ b → fit a := by
  intro a b hb h0 h1
  unfold fit at *
  omega
 have fdiv_fit : ∀ {g x : Int}, fit g → 0 < g → 0 < x → fit (g.fdiv x) := by
  intro g x hg h1 h2
  have e : g.fdiv x = g / x := Int.fdiv_eq_ediv_of_nonneg _ (by omega)
  rw [e]
  exact fitle hg (Int.ediv_nonneg (by omega) (by omega)) (Int.ediv_le_self _ (by omega))
 have fm : ∀ {g x : Int}, 0 < x → g.fmod x = g % x := fun {g x} h => Int.fmod_eq_emod_of_nonneg _ (by omega)
 intro k
 induction k with
 | zero =>
  intro g x hg hfg h0 hx hlt
  obtain rfl : x = 0 := by simp at hlt; omega
  exact ⟨g, ⟨hg, Int.dvd_refl _, Int.dvd_zero _, fun e h _ => h⟩, Int.le_refl _, ends g 0⟩
 | succ k ih =>
  intro g x hg hfg h0 hx hlt
  by_cases hx0 : x = 0
  ·subst hx0
   exact ⟨g, ⟨hg, Int.dvd_refl _, Int.dvd_zero _, fun e h _ => h⟩, Int.le_refl _, ends g _⟩
  ·have hxp : 0 < x := by omega
   have n1 := next hfg hx hx0 (fdiv_fit hfg hg hxp)
   rw [fm hxp] at n1
   have r1 := Int.emod_nonneg g hx0
   have r2 := Int.emod_lt_of_pos g hxp
   have dg : x * (g / x) + g % x = g := Int.mul_ediv_add_emod g x
   have hle : x ≤ g ∨ g < x := by omega
   generalize hr : g % x = r at *
   by_cases hr0 : r = 0
   ·subst hr0
    refine ⟨x, ⟨hxp, Int.dvd_of_emod_eq_zero hr, Int.dvd_refl _, fun e _ h => h⟩, ?_, ?_⟩
    ·rcases hle with h | h
     ·exact h
     ·exfalso
      have : g % x = g := Int.emod_eq_of_lt (by omega) h
      omega
    ·rw [show 2 * (k + 1) + 1 = (2 * k + 1 + 1) + 1 by omega]
     exact dL n1 (ends x _)
   ·have hrp : 0 < r := by omega
    have hfr := fitle hx (by omega) (Int.le_of_lt r2)
    have n2 := next hx hfr (by omega) (fdiv_fit hx hxp hrp)
    rw [fm hrp] at n2
    have s1 := Int.emod_nonneg x (show r ≠ 0 by omega)
    have s2 := Int.emod_lt_of_pos x hrp
    have dx : r * (x / r) + x % r = x := Int.mul_ediv_add_emod x r
    have q1 : 1 ≤ x / r := (Int.le_ediv_iff_mul_le hrp).2 (by omega)
    have q2 : r * 1 ≤ r * (x / r) := UU q1 (by omega)
    generalize hs : x % r = s at *
    have hs2 : s < ((2 ^ k : Nat) : Int) := by
     rw [Nat.pow_succ] at hlt
     omega
    obtain ⟨h, ⟨h1, h2, h3, h4⟩, h5, h6⟩ := ih r s hrp hfr (by omega) (fitle hfr (by omega) (by omega)) hs2
    have hxd : h ∣ x := by rw [← dx]; exact Int.dvd_add (Int.dvd_mul_of_dvd_left h2) h3
    have hgd : h ∣ g := by rw [← dg]; exact Int.dvd_add (Int.dvd_mul_of_dvd_left hxd) h2
    refine ⟨h, ⟨h1, hgd, hxd, fun e eg ex => ?_⟩, Int.le_of_dvd hg hgd, ?_⟩
    ·have er : e ∣ r := by
      have : r = g - x * (g / x) := by omega
      rw [this]; exact Int.dvd_sub eg (Int.dvd_mul_of_dvd_left ex)
     have es : e ∣ s := by
      have : s = x - r * (x / r) := by omega
      rw [this]; exact Int.dvd_sub ex (Int.dvd_mul_of_dvd_left er)
     exact h4 e er es
    ·rw [show 2 * (k + 1) + 1 = (2 * k + 1 + 1) + 1 by omega]
     exact dL n1 (dL n2 h6)
theorem QV (cc : LA_ × Nat × LA_ × Nat × Nat × Nat × Int × Int × Int × Int × Int × Int × Int × Int × Int × Int × Int × Int × Int × Int × Int × Int × Int × Int × Int × Int × Int × Int × Int × Int × Int)
  {g x : Int} (hg : 0 < g) (hfg : fit g) (h0 : 0 ≤ x) (hx : fit x) : ∃ h, M6 g x h ∧ h ≤ g ∧ f0 cc (wcs [g], wcs [x]) = some (wcs [h]) := by
 have hlt : ∀ k, k = 255 → x < ((2 ^ (k + 1 + k) : Nat) : Int) := by
  rintro k hk
  rw [Nat.pow_add, Nat.pow_succ, hk]
  unfold fit at hx
  omega
 obtain ⟨h, h1, h2, h3⟩ := Tj cc _ g x hg hfg h0 hx (hlt 255 rfl)
 exact ⟨h, h1, h2, lO (by unfold vI; decide) h3⟩
abbrev M7 (n : Pt) (d : Int) : LA_ × Nat × LA_ × Nat × Nat × Int × Int × Int × Int × Int × Int × Int × Int × Int × Int × Int × Int × Int × Int × Int × Int × Int × Int × Int × Int × Int × Int × Int × Int :=
 (wcs [d], 1, p24 n, 1, 1, aa n.1 0, aa n.1 1, aa n.1 2, aa n.1 3, aa n.1 4, aa n.1 5, aa n.1 6, aa n.1 7, aa n.2.1 0, aa n.2.1 1, aa n.2.1 2, aa n.2.1 3, aa n.2.1 4, aa n.2.1 5, aa n.2.1 6, aa n.2.1 7, aa n.2.2 0, aa n.2.2 1, aa n.2.2 2, aa n.2.2 3, aa n.2.2 4, aa n.2.2 5, aa n.2.2 6, aa n.2.2 7)
abbrev M8 (n : Pt) (d i : Int) : LA_ × Nat × LA_ × Nat × Nat × Nat × Int × Int × Int × Int × Int × Int × Int × Int × Int × Int × Int × Int × Int × Int × Int × Int × Int × Int × Int × Int × Int × Int × Int × Int × Int :=
 (wcs [d], 1, p24 n, 1, 1, 1, aa n.1 0, aa n.1 1, aa n.1 2, aa n.1 3, aa n.1 4, aa n.1 5, aa n.1 6, aa n.1 7, aa n.2.1 0, aa n.2.1 1, aa n.2.1 2, aa n.2.1 3, aa n.2.1 4, aa n.2.1 5, aa n.2.1 6, aa n.2.1 7, aa n.2.2 0, aa n.2.2 1, aa n.2.2 2, aa n.2.2 3, aa n.2.2 4, aa n.2.2 5, aa n.2.2 6, aa n.2.2 7, i)
theorem M9 {n : Pt} {d g c i j : Int} {V : LA_ × Int} (hg : 0 < g) (hfg : fit g) (hc : Sm 240 c)
  (e : ir (M7 n d) V = Option.bind (Na c) fun r => cond (decide (r < 0)) (Option.bind (fR c) fun r1 => Option.bind (f0 (M8 n d i) (wcs [g], wcs [r1])) fun e => some (.inl (e, j)))
   (Option.bind (f0 (M8 n d i) (wcs [g], wcs [c])) fun e => some (.inl (e, j)))) : ∃ h, M6 g c h ∧ h ≤ g ∧ ir (M7 n d) V = some (.inl (wcs [h], j)) := by
 have hf : fit c := Sm.fit (by decide)
 have hf' : fit (-c) := Sm.fit (by decide)
 rw [e, PY hf, Uy]
 by_cases h : c < 0
 ·have : decide (sgn c < 0) = true := by simp [sgn, h]
  rw [this, cond_true, OB (by decide), Uy]
  obtain ⟨q, h1, h2, h3⟩ := QV (M8 n d i) hg hfg (x := -c) (by omega) hf'
  rw [h3]
  refine ⟨q, ⟨h1.1, h1.2.1, (Int.dvd_neg).1 h1.2.2.1, fun e a b => h1.2.2.2 e a ((Int.dvd_neg).2 b)⟩, h2, rfl⟩
 ·have : decide (sgn c < 0) = false := by
   unfold sgn
   rw [UG h, cond_false]
   by_cases h0 : c = 0
   ·rw [UH h0]; rfl
   ·rw [UG h0]; rfl
  rw [this, cond_false]
  obtain ⟨q, h1, h2, h3⟩ := QV (M8 n d i) hg hfg (x := c) (by omega) hf
  rw [h3]
  exact ⟨q, h1, h2, rfl⟩
theorem TW {n : Pt} {d : Int} (hn : PtB 240 n) (hd : 0 < d) (hfd : fit d) : ∃ g, (0 < g ∧ g ∣ d ∧ g ∣ n.1 ∧ g ∣ n.2.1 ∧ g ∣ n.2.2 ∧ ∀ e, e ∣ d → e ∣ n.1 → e ∣ n.2.1 → e ∣ n.2.2 → e ∣ g) ∧ g ≤ d ∧ mQ (M7 n d) (wcs [d], 0) = some (wcs [g]) := by
 have fl : ∀ {a : Int}, 0 < a → a ≤ d → fit a := by intro a h1 h2; unfold fit at *; omega
 obtain ⟨g1, a1, b1, c1⟩ := M9 (n := n) (d := d) (g := d) (c := n.1) (i := 0) (j := 1) (V := (wcs [d], 0)) hd hfd ⟨hn.h.1⟩ (by kernel_rfl)
 obtain ⟨g2, a2, b2, c2⟩ := M9 (n := n) (d := d) (g := g1) (c := n.2.1) (i := 1) (j := 2) (V := (wcs [g1], 1)) a1.1 (fl a1.1 b1) ⟨hn.h.2.1⟩ (by kernel_rfl)
 obtain ⟨g3, a3, b3, c3⟩ := M9 (n := n) (d := d) (g := g2) (c := n.2.2) (i := 2) (j := 3) (V := (wcs [g2], 2)) a2.1 (fl a2.1 (by omega)) ⟨hn.h.2.2⟩ (by kernel_rfl)
 have fin : ir (M7 n d) (wcs [g3], 3) = some (.inr (wcs [g3])) := by kernel_rfl
 refine ⟨g3, ⟨a3.1, ?_, ?_, ?_, a3.2.2.1, fun e h1 h2 h3 h4 => a3.2.2.2 e (a2.2.2.2 e (a1.2.2.2 e h1 h2) h3) h4⟩, by omega, ?_⟩
 ·exact Int.dvd_trans a3.2.1 (Int.dvd_trans a2.2.1 a1.2.1)
 ·exact Int.dvd_trans a3.2.1 (Int.dvd_trans a2.2.1 a1.2.2.1)
 ·exact Int.dvd_trans a3.2.1 a2.2.2.1
 ·exact lO (n := 4) (by unfold vI; decide) (dL c1 (dL c2 (dL c3 (gK 0 fin))))
theorem Uj {a g : Int} (ha : fit a) (hg : fit g) (h0 : g ≠ 0) (hd : fit (a.fdiv g)) : n8 a g = some (a.fdiv g) := by
 have q : gH (aa a 0) (aa a 1) (aa a 2) (aa a 3) (aa a 4) (aa a 5) (aa a 6) (aa a 7) (aa g 0) (aa g 1) (aa g 2) (aa g 3) (aa g 4) (aa g 5) (aa g 6) (aa g 7) = some (t8 (a.fdiv g)) := by
  unfold gH
  rw [show ua (aa a 0) (aa a 1) (aa a 2) (aa a 3) (aa a 4) (aa a 5) (aa a 6) (aa a 7) (aa g 0) (aa g 1) (aa g 2) (aa g 3) (aa g 4) (aa g 5) (aa g 6) (aa g 7) = some (a.fdiv g, a.fmod g) from L4 ha hg h0 hd]
  rfl
 unfold n8 bL
 rw [q]
 simp only [t8, Uy, bA, aw]
 rw [aI hd]
structure Prim (n : Pt) (d : Int) (N : Pt) (D : Int) : Prop where
 ex : ∃ g, 0 < g ∧ n = (g * N.1, g * N.2.1, g * N.2.2) ∧ d = g * D
 one : ∀ e, e ∣ N.1 → e ∣ N.2.1 → e ∣ N.2.2 → e ∣ D → e ∣ 1
theorem TX {w : List Int} {l : List Pt} {d : Int} (hlen : w.length = l.length) (hok : bd l = true) (hw : ∀ z ∈ w, sm 190 z) (h4 : l.length ≤ 4) (hd : 0 < d) (hfd : sm 190 d) :
  ∃ N D, Prim (bB w l) d N D ∧ tc (pcs l) l.length (wcs w) w.length d = some (N.1, N.2.1, N.2.2, D) := by
 have hL := KV hlen hok hw h4 (wcs [d]) l.length 0 (0, 0, 0) 0 (by omega) (by omega) ⟨⟨mt, mt, mt⟩⟩
 rw [List.drop_zero, List.drop_zero, KU _ _ _ hlen] at hL
 simp only [Int.zero_add] at hL
 have hL3 : n7 (wcs w, w.length, wcs [d], 1, 1, pcs l, l.length, ((l.length : Nat) : Int)) (p24 (0, 0, 0), 0) = some (p24 (bB w l)) := lO (by unfold vI; omega) hL
 have hn : PtB 240 (bB w l) := by
  have key : ∀ (w : List Int) (l : List Pt) (k : Nat), w.length = l.length → bd l = true → (∀ z ∈ w, sm 190 z) → l.length ≤ k → PtB (218 + k) (bB w l) := by
   intro w
   induction w with
   | nil => intro l k _ _ _ _; cases l <;> exact ⟨⟨mt, mt, mt⟩⟩
   | cons x w ih =>
    intro l k hl ho hw hk
    cases l with
    | nil => simp at hl
    | cons p l =>
     simp only [aP] at ho
     cases k with
     | zero => simp at hk
     | succ k =>
      have h1 := ih l k (by simpa using hl) ho.2 (fun z hz => hw z (by simp [hz])) (by simpa using hk)
      have hp := PtB.of ho.1
      have hx := hw x (by simp)
      have q : ∀ {u v : Int}, sm 28 u → sm (218 + k) v → sm (218 + (k + 1)) (x * u + v) := fun {u v} hu hv => kj (aW (cP hx hu) (Nat.le_add_right 218 k)) hv
      exact ⟨⟨q hp.h.1 h1.h.1, q hp.h.2.1 h1.h.2.1, q hp.h.2.2 h1.h.2.2⟩⟩
  have h := key w l l.length hlen hok hw (Nat.le_refl _)
  exact ⟨⟨aW h.h.1 (by omega), aW h.h.2.1 (by omega), aW h.h.2.2 (by omega)⟩⟩
 generalize bB w l = n at *
 obtain ⟨g, ⟨g0, g1, g2, g3, g4, g5⟩, g6, hL13⟩ := TW hn hd (bf hfd (by decide))
 have fg : fit g := bf (a := 190) (by unfold sm at *; omega) (by decide)
 have dv : ∀ {a : Int}, sm 240 a → g ∣ a → ∃ q, a = g * q ∧ n8 a g = some q := by
  rintro a ha ⟨q, rfl⟩
  have e : (g * q).fdiv g = q := by rw [Int.mul_comm]; exact Int.mul_fdiv_cancel _ (by omega)
  have fq : fit q := by
   refine bf (a := 240) ?_ (by decide)
   unfold sm at *
   rcases Int.le_total 0 q with h | h
   ·have : 1 * q ≤ g * q := UT (by omega) h
    omega
   ·have : g * q ≤ 1 * q := Int.mul_le_mul_of_nonpos_right (by omega) h
    omega
  exact ⟨q, rfl, by have := Uj (bf ha (by decide)) fg (by omega) (by rw [e]; exact fq); rwa [e] at this⟩
 obtain ⟨x, x1, x2⟩ := dv hn.h.1 g2
 obtain ⟨y, y1, y2⟩ := dv hn.h.2.1 g3
 obtain ⟨z, z1, z2⟩ := dv hn.h.2.2 g4
 obtain ⟨D, d1, d2⟩ := dv (aW hfd (by decide)) g1
 refine ⟨(x, y, z), D, ⟨⟨g, g0, by rw [← x1, ← y1, ← z1], d1⟩, fun e h1 h2 h3 h4 => ?_⟩, ?_⟩
 ·obtain ⟨q, hq⟩ := g5 (g * e) (by rw [d1]; exact Int.mul_dvd_mul_left g h4) (by rw [x1]; exact Int.mul_dvd_mul_left g h1) (by rw [y1]; exact Int.mul_dvd_mul_left g h2) (by rw [z1]; exact Int.mul_dvd_mul_left g h3)
  refine ⟨q, Int.eq_of_mul_eq_mul_left (show g ≠ 0 by omega) ?_⟩
  rw [Int.mul_one, ← Int.mul_assoc]
  exact hq
 have sq : ∀ {a q : Int}, sm 240 a → a = g * q → fit q := by
  intro a q ha e
  refine bf (a := 240) ?_ (by decide)
  subst e
  unfold sm at *
  rcases Int.le_total 0 q with h | h
  ·have : 1 * q ≤ g * q := UT (by omega) h
   omega
  ·have : g * q ≤ 1 * q := Int.mul_le_mul_of_nonpos_right (by omega) h
   omega
 have key : tc (pcs l) l.length (wcs w) w.length d = Option.bind (n7 (wcs w, w.length, wcs [d], 1, 1, pcs l, l.length, ((l.length : Nat) : Int)) (p24 (0, 0, 0), 0)) fun e1 => Option.bind (du (pcs l) l.length (wcs w) w.length (aa d 0) (aa d 1) (aa d 2) (aa d 3) (aa d 4) (aa d 5) (aa d 6) (aa d 7)) some := by
  rw [hL3, Uy]
  show du _ _ _ _ _ _ _ _ _ _ _ _ = _
  cases du (pcs l) l.length (wcs w) w.length (aa d 0) (aa d 1) (aa d 2) (aa d 3) (aa d 4) (aa d 5) (aa d 6) (aa d 7) <;> rfl
 have F : kg (pcs l) l.length (wcs w) w.length (aa d 0) (aa d 1) (aa d 2) (aa d 3) (aa d 4) (aa d 5) (aa d 6) (aa d 7) = some (aa x 0, aa x 1, aa x 2, aa x 3, aa x 4, aa x 5, aa x 6, aa x 7, aa y 0, aa y 1, aa y 2, aa y 3, aa y 4, aa y 5, aa y 6, aa y 7, aa z 0, aa z 1, aa z 2, aa z 3, aa z 4, aa z 5, aa z 6, aa z 7, aa D 0, aa D 1, aa D 2, aa D 3, aa D 4, aa D 5, aa D 6, aa D 7) := by
  have z24 : (([.int .u64 0, .int .u64 0, .int .u64 0, .int .u64 0, .int .u64 0, .int .u64 0, .int .u64 0, .int .u64 0, .int .u64 0, .int .u64 0, .int .u64 0, .int .u64 0, .int .u64 0, .int .u64 0, .int .u64 0, .int .u64 0, .int .u64 0, .int .u64 0, .int .u64 0, .int .u64 0, .int .u64 0, .int .u64 0, .int .u64 0, .int .u64 0] : LA_)) = p24 (0, 0, 0) := by simp only [wcs, fy]
  unfold kg
  unfold v8 aY
  rw [z24]
  rw [show ([.int .u64 (aa d 0), .int .u64 (aa d 1), .int .u64 (aa d 2), .int .u64 (aa d 3), .int .u64 (aa d 4), .int .u64 (aa d 5), .int .u64 (aa d 6), .int .u64 (aa d 7)] : LA_) = wcs [d] from rfl, hL3, Uy]
  have r24 : aq Uw (p24 n) 0 = true := rfl
  have r0 : aq k8 (p24 n) 0 = true := rfl
  have r8 : aq k8 (p24 n) 8 = true := rfl
  have r16 : aq k8 (p24 n) 16 = true := rfl
  have rg : (aq k8 (wcs [g]) 0 && Nat.beq (List.length (wcs [g])) 8) = true := rfl
  have hL13' : mQ (wcs [d], 1, p24 n, 1, 1, ac (p24 n) 0, ac (p24 n) 1, ac (p24 n) 2, ac (p24 n) 3, ac (p24 n) 4, ac (p24 n) 5, ac (p24 n) 6, ac (p24 n) 7, ac (p24 n) 8, ac (p24 n) 9, ac (p24 n) 10, ac (p24 n) 11, ac (p24 n) 12, ac (p24 n) 13, ac (p24 n) 14, ac (p24 n) 15, ac (p24 n) 16, ac (p24 n) 17, ac (p24 n) 18, ac (p24 n) 19, ac (p24 n) 20, ac (p24 n) 21, ac (p24 n) 22, ac (p24 n) 23) (wcs [d], 0) = some (wcs [g]) := hL13
  rw [r24, aw, hL13', Uy, r0, aw, rg, aw]
  rw [show bL (ac (p24 n) 0) (ac (p24 n) 1) (ac (p24 n) 2) (ac (p24 n) 3) (ac (p24 n) 4) (ac (p24 n) 5) (ac (p24 n) 6) (ac (p24 n) 7) (ac (wcs [g]) 0) (ac (wcs [g]) 1) (ac (wcs [g]) 2) (ac (wcs [g]) 3) (ac (wcs [g]) 4) (ac (wcs [g]) 5) (ac (wcs [g]) 6) (ac (wcs [g]) 7) = some x from x2, Uy, r8, aw, aw]
  rw [show bL (ac (p24 n) 8) (ac (p24 n) 9) (ac (p24 n) 10) (ac (p24 n) 11) (ac (p24 n) 12) (ac (p24 n) 13) (ac (p24 n) 14) (ac (p24 n) 15) (ac (wcs [g]) 0) (ac (wcs [g]) 1) (ac (wcs [g]) 2) (ac (wcs [g]) 3) (ac (wcs [g]) 4) (ac (wcs [g]) 5) (ac (wcs [g]) 6) (ac (wcs [g]) 7) = some y from y2, Uy, r16, aw, aw]
  rw [show bL (ac (p24 n) 16) (ac (p24 n) 17) (ac (p24 n) 18) (ac (p24 n) 19) (ac (p24 n) 20) (ac (p24 n) 21) (ac (p24 n) 22) (ac (p24 n) 23) (ac (wcs [g]) 0) (ac (wcs [g]) 1) (ac (wcs [g]) 2) (ac (wcs [g]) 3) (ac (wcs [g]) 4) (ac (wcs [g]) 5) (ac (wcs [g]) 6) (ac (wcs [g]) 7) = some z from z2, Uy, aw]
  rw [show bL (aa d 0) (aa d 1) (aa d 2) (aa d 3) (aa d 4) (aa d 5) (aa d 6) (aa d 7) (ac (wcs [g]) 0) (ac (wcs [g]) 1) (ac (wcs [g]) 2) (ac (wcs [g]) 3) (ac (wcs [g]) 4) (ac (wcs [g]) 5) (ac (wcs [g]) 6) (ac (wcs [g]) 7) = some D from d2, Uy]
 show du _ _ _ _ _ _ _ _ _ _ _ _ = _
 unfold du
 rw [F]
 simp only [Uy, bA, UF, aw]
 rw [aI (sq hn.h.1 x1), aI (sq hn.h.2.1 y1), aI (sq hn.h.2.2 z1), aI (sq (aW hfd (by decide)) d1)]
end Go.Ev
