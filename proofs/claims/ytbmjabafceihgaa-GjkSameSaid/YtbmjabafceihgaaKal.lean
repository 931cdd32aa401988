import Derived.Test.YtbmjabafceihgaaKak
set_option linter.unusedVariables false
set_option linter.unusedSimpArgs false
set_option maxRecDepth 100000
noncomputable section
namespace Go.Ev
open Go.Proofs
def A3 : CH := (CH.add 39 BI (CH.add 22 rq CH.none))
theorem xl : aG U2 A3 := (CH.ak BJ (CH.ak pB CH.aF))
def gF (a0 a1 a2 a3 a4 a5 a6 a7 a8 a9 a10 a11 a12 a13 a14 a15 a16 a17 a18 a19 a20 a21 a22 a23 : Int) : Option (Int × Int × Int × Int × Int × Int × Int × Int) :=
 (Option.bind (iT a0 a1 a2 a3 a4 a5 a6 a7 a0 a1 a2 a3 a4 a5 a6 a7) fun r1 => (Option.bind (iT a8 a9 a10 a11 a12 a13 a14 a15 a8 a9 a10 a11 a12 a13 a14 a15) fun r2 => (Option.bind (xm r1 r2) fun r3 => (Option.bind (iT a16 a17 a18 a19 a20 a21 a22 a23 a16 a17 a18 a19 a20 a21 a22 a23) fun r4 => (Option.bind (xm r3 r4) fun r5 => (some ((aa r5 0), (aa r5 1), (aa r5 2), (aa r5 3), (aa r5 4), (aa r5 5), (aa r5 6), (aa r5 7))))))))
def cT : FD where
 X := Int × Int × Int × Int × Int × Int × Int × Int
 k := 0
 pre := []
 F := fun s => []
 M := .agg (rl (.int .u64) 8 [])
 B := []
 toL := fun x => [.I x.1, .I x.2.1, .I x.2.2.1, .I x.2.2.2.1, .I x.s4.1, .I x.s4.2.1, .I x.s4.2.2.1, .I x.s4.2.2.2]
 ofL := fun ls => match ls with
  | [.I x0, .I x1, .I x2, .I x3, .I x4, .I x5, .I x6, .I x7] => some (x0, x1, x2, x3, x4, x5, x6, x7)
  | _ => none
 au := fun ls x h => by
  split at h
  ·cases h; rfl
  ·cases h
theorem zt (a0 a1 a2 a3 a4 a5 a6 a7 a8 a9 a10 a11 a12 a13 a14 a15 a16 a17 a18 a19 a20 a21 a22 a23 : Int) (x : Int × Int × Int × Int × Int × Int × Int × Int) (h : gF a0 a1 a2 a3 a4 a5 a6 a7 a8 a9 a10 a11 a12 a13 a14 a15 a16 a17 a18 a19 a20 a21 a22 a23 = some x) : bg U2 23 0 [.agg (v8 a0 a1 a2 a3 a4 a5 a6 a7 (v8 a8 a9 a10 a11 a12 a13 a14 a15 (v8 a16 a17 a18 a19 a20 a21 a22 a23 [])))] [] cT x :=
 FD.semA cT xl Try.func23 (fuel := 60) (by kernel_rfl) (by kernel_rfl)
  (by kernel_rfl) (Eq.trans (by kernel_rfl) h)
def ej (a0 a1 a2 a3 a4 a5 a6 a7 a8 a9 a10 a11 a12 a13 a14 a15 a16 a17 a18 a19 a20 a21 a22 a23 : Int) : Option (Int) := Option.bind (gF a0 a1 a2 a3 a4 a5 a6 a7 a8 a9 a10 a11 a12 a13 a14 a15 a16 a17 a18 a19 a20 a21 a22 a23) fun (x0, x1, x2, x3, x4, x5, x6, x7) => af (ok8 x0 x1 x2 x3 x4 x5 x6 x7) (some (num x0 x1 x2 x3 x4 x5 x6 x7))
def lm : FD := ⟨Int, cT.k, cT.pre, cT.F, cT.M, cT.B, fun y => cT.toL ((aa y 0), (aa y 1), (aa y 2), (aa y 3), (aa y 4), (aa y 5), (aa y 6), (aa y 7)), fun _ => none, fun _ _ h => by cases h⟩
theorem A4 (a0 a1 a2 a3 a4 a5 a6 a7 a8 a9 a10 a11 a12 a13 a14 a15 a16 a17 a18 a19 a20 a21 a22 a23 : Int) {y : Int} (h : ej a0 a1 a2 a3 a4 a5 a6 a7 a8 a9 a10 a11 a12 a13 a14 a15 a16 a17 a18 a19 a20 a21 a22 a23 = some y) : gF a0 a1 a2 a3 a4 a5 a6 a7 a8 a9 a10 a11 a12 a13 a14 a15 a16 a17 a18 a19 a20 a21 a22 a23 = some ((aa y 0), (aa y 1), (aa y 2), (aa y 3), (aa y 4), (aa y 5), (aa y 6), (aa y 7)) := by
 unfold ej at h
 obtain ⟨⟨x0, x1, x2, x3, x4, x5, x6, x7⟩, h1, h2⟩ := bE_ h
 obtain ⟨h3, h4⟩ := aH h2
 skip
 simp only [UB] at h4
 subst h4
 have o0 := h3
 have q0 := aQ o0
 rw [h1]
 simp only [q0]
theorem zu (a0 a1 a2 a3 a4 a5 a6 a7 a8 a9 a10 a11 a12 a13 a14 a15 a16 a17 a18 a19 a20 a21 a22 a23 y : Int) (h : ej a0 a1 a2 a3 a4 a5 a6 a7 a8 a9 a10 a11 a12 a13 a14 a15 a16 a17 a18 a19 a20 a21 a22 a23 = some y) : bg U2 23 0 [.agg (v8 a0 a1 a2 a3 a4 a5 a6 a7 (v8 a8 a9 a10 a11 a12 a13 a14 a15 (v8 a16 a17 a18 a19 a20 a21 a22 a23 [])))] [] lm y := zt a0 a1 a2 a3 a4 a5 a6 a7 a8 a9 a10 a11 a12 a13 a14 a15 a16 a17 a18 a19 a20 a21 a22 a23 _ (A4 a0 a1 a2 a3 a4 a5 a6 a7 a8 a9 a10 a11 a12 a13 a14 a15 a16 a17 a18 a19 a20 a21 a22 a23 h)
def nY : HK where
 call := fun args σ k => match args with
  | [.agg [.int .u64 a0, .int .u64 a1, .int .u64 a2, .int .u64 a3, .int .u64 a4, .int .u64 a5, .int .u64 a6, .int .u64 a7, .int .u64 a8, .int .u64 a9, .int .u64 a10, .int .u64 a11, .int .u64 a12, .int .u64 a13, .int .u64 a14, .int .u64 a15, .int .u64 a16, .int .u64 a17, .int .u64 a18, .int .u64 a19, .int .u64 a20, .int .u64 a21, .int .u64 a22, .int .u64 a23]] => Option.bind (ej a0 a1 a2 a3 a4 a5 a6 a7 a8 a9 a10 a11 a12 a13 a14 a15 a16 a17 a18 a19 a20 a21 a22 a23) fun y => aC σ 0 (lm.val y) (lm.aN y) k
  | _ => none
 nat := fun args σ k => by
  repeat' split
  all_goals simp only [av, ai, UA, Uz, aC, Uy]
 pure := true
 pok := fun _ args σ r σ' h => by
  split at h
  ·exact bq h (fun y => rfl) (fun y f => rfl)
  ·cases h
theorem A2 : aX U2 23 nY := by
 intro args σ r σ' h
 simp only [nY] at h
 split at h
 ·rename_i a0 a1 a2 a3 a4 a5 a6 a7 a8 a9 a10 a11 a12 a13 a14 a15 a16 a17 a18 a19 a20 a21 a22 a23
  obtain ⟨y, hy, h⟩ := bE_ h
  exact lifted (xs := []) (ls := []) (cargs := [.agg (v8 a0 a1 a2 a3 a4 a5 a6 a7 (v8 a8 a9 a10 a11 a12 a13 a14 a15 (v8 a16 a17 a18 a19 a20 a21 a22 a23 [])))]) (bC.of trivial) rfl (zu a0 a1 a2 a3 a4 a5 a6 a7 a8 a9 a10 a11 a12 a13 a14 a15 a16 a17 a18 a19 a20 a21 a22 a23 y hy) rfl rfl rfl rfl h
 ·cases h
def Dz : CH := (CH.add 23 nY (CH.add 22 rq (CH.add 21 Jj (CH.add 20 y8 CH.none))))
theorem zq : aG U2 Dz := (CH.ak A2 (CH.ak pB (CH.ak JF (CH.ak DS CH.aF))))
def gw (a0 a1 a2 a3 a4 a5 a6 a7 a8 a9 a10 a11 a12 a13 a14 a15 a16 a17 a18 a19 a20 a21 a22 a23 a24 a25 a26 a27 a28 a29 a30 a31 : Int) (cs32 : LA_) (n33 : Nat) (a34 a35 a36 : Int) : Option (Bool) :=
 (Option.bind (lY a0 a1 a2 a3 a4 a5 a6 a7 a8 a9 a10 a11 a12 a13 a14 a15 a16 a17 a18 a19 a20 a21 a22 a23 a34 a35 a36) fun r1 => (Option.bind (iT (aa r1 0) (aa r1 1) (aa r1 2) (aa r1 3) (aa r1 4) (aa r1 5) (aa r1 6) (aa r1 7) a24 a25 a26 a27 a28 a29 a30 a31) fun r2 => (Option.bind (ej a0 a1 a2 a3 a4 a5 a6 a7 a8 a9 a10 a11 a12 a13 a14 a15 a16 a17 a18 a19 a20 a21 a22 a23) fun r3 => (Option.bind (O8 r2 r3) fun r4 => (cond (decide (r4 < 0)) (some true) (some false))))))
def jO : FD where
 X := Bool
 k := 1
 pre := []
 F := fun s => [0]
 M := .bool
 B := []
 toL := fun x => [.B x]
 ofL := fun ls => match ls with
  | [.B x0] => some x0
  | _ => none
 au := fun ls x h => by
  split at h
  ·cases h; rfl
  ·cases h
theorem BG (a0 a1 a2 a3 a4 a5 a6 a7 a8 a9 a10 a11 a12 a13 a14 a15 a16 a17 a18 a19 a20 a21 a22 a23 a24 a25 a26 a27 a28 a29 a30 a31 : Int) (cs32 : LA_) (n33 : Nat) (a34 a35 a36 : Int) (x : Bool) (h : gw a0 a1 a2 a3 a4 a5 a6 a7 a8 a9 a10 a11 a12 a13 a14 a15 a16 a17 a18 a19 a20 a21 a22 a23 a24 a25 a26 a27 a28 a29 a30 a31 cs32 n33 a34 a35 a36 = some x) : bg U2 10 1 [.agg (v8 a0 a1 a2 a3 a4 a5 a6 a7 (v8 a8 a9 a10 a11 a12 a13 a14 a15 (v8 a16 a17 a18 a19 a20 a21 a22 a23 (v8 a24 a25 a26 a27 a28 a29 a30 a31 [.vec 0])))), .agg [.int .i64 a34, .int .i64 a35, .int .i64 a36]] [.vec cs32 n33 1 false] jO x :=
 FD.semA jO zq Try.func10 (fuel := 60) (by kernel_rfl) (by kernel_rfl)
  (by kernel_rfl) (Eq.trans (by kernel_rfl) h)
def q9 (z0 z8 z16 z24 : Int) (cs32 : LA_) (n33 : Nat) (a34 a35 a36 : Int) : Option (Bool) := gw (aa z0 0) (aa z0 1) (aa z0 2) (aa z0 3) (aa z0 4) (aa z0 5) (aa z0 6) (aa z0 7) (aa z8 0) (aa z8 1) (aa z8 2) (aa z8 3) (aa z8 4) (aa z8 5) (aa z8 6) (aa z8 7) (aa z16 0) (aa z16 1) (aa z16 2) (aa z16 3) (aa z16 4) (aa z16 5) (aa z16 6) (aa z16 7) (aa z24 0) (aa z24 1) (aa z24 2) (aa z24 3) (aa z24 4) (aa z24 5) (aa z24 6) (aa z24 7) cs32 n33 a34 a35 a36
def lW : HK where
 call := fun args σ k => match args with
  | [.agg (.int .u64 a0 :: .int .u64 a1 :: .int .u64 a2 :: .int .u64 a3 :: .int .u64 a4 :: .int .u64 a5 :: .int .u64 a6 :: .int .u64 a7 :: .int .u64 a8 :: .int .u64 a9 :: .int .u64 a10 :: .int .u64 a11 :: .int .u64 a12 :: .int .u64 a13 :: .int .u64 a14 :: .int .u64 a15 :: .int .u64 a16 :: .int .u64 a17 :: .int .u64 a18 :: .int .u64 a19 :: .int .u64 a20 :: .int .u64 a21 :: .int .u64 a22 :: .int .u64 a23 :: .int .u64 a24 :: .int .u64 a25 :: .int .u64 a26 :: .int .u64 a27 :: .int .u64 a28 :: .int .u64 a29 :: .int .u64 a30 :: .int .u64 a31 :: x0 :: []), .agg [.int .i64 a34, .int .i64 a35, .int .i64 a36]] => cW σ 1 x0 fun cs32 n33 => Option.bind (gw a0 a1 a2 a3 a4 a5 a6 a7 a8 a9 a10 a11 a12 a13 a14 a15 a16 a17 a18 a19 a20 a21 a22 a23 a24 a25 a26 a27 a28 a29 a30 a31 cs32 n33 a34 a35 a36) fun y => aC σ 1 (jO.val y) (jO.aN y) k
  | _ => none
 nat := fun args σ k => by
  repeat' split
  all_goals simp only [av, ai, UA, Uz, aC, Uy]
 pure := false
 pok := fun h => by cases h
theorem tE : aX U2 10 lW := by
 intro args σ r σ' h
 simp only [lW] at h
 split at h
 ·rename_i a0 a1 a2 a3 a4 a5 a6 a7 a8 a9 a10 a11 a12 a13 a14 a15 a16 a17 a18 a19 a20 a21 a22 a23 a24 a25 a26 a27 a28 a29 a30 a31 x0 a34 a35 a36
  obtain ⟨cs32, n33, he0, hf0, h⟩ := bE h
  obtain ⟨y, hy, h⟩ := bE_ h
  exact lifted (xs := [x0]) (ls := [.vec cs32 n33 1 false]) (cargs := [.agg (v8 a0 a1 a2 a3 a4 a5 a6 a7 (v8 a8 a9 a10 a11 a12 a13 a14 a15 (v8 a16 a17 a18 a19 a20 a21 a22 a23 (v8 a24 a25 a26 a27 a28 a29 a30 a31 [.vec 0])))), .agg [.int .i64 a34, .int .i64 a35, .int .i64 a36]]) (bC.of ⟨⟨rfl, he0, hf0, by decide⟩, trivial⟩) rfl (BG a0 a1 a2 a3 a4 a5 a6 a7 a8 a9 a10 a11 a12 a13 a14 a15 a16 a17 a18 a19 a20 a21 a22 a23 a24 a25 a26 a27 a28 a29 a30 a31 cs32 n33 a34 a35 a36 y hy) rfl rfl rfl rfl h
 ·cases h
abbrev cY := (I8 (I8 (I8 (I8 (LA_ × Nat × Int)))))
abbrev nX := (I8 (I8 (I8 (I8 Bool))))
abbrev cZ := LA_ × Nat × LA_ × Nat × LA_ × Nat × LA_ × Nat × Int
def gb : CH := (CH.add 45 ta (CH.add 44 mP (CH.add 10 lW (CH.add 28 BA CH.none))))
theorem gT : aG U2 gb := (CH.ak EM (CH.ak zo (CH.ak tE (CH.ak BB CH.aF))))
def cL {R : Type} (cc : cZ) (v : Int) (kn : (Int) → Option R) (ke : ((Unit) ⊕ (Unit)) → Option R) : Option R :=
 (cond (decide (v < cc.2.2.2.2.2.2.2.2)) (af (decide (0 ≤ v) && decide (v < ((cc.2.2.2.2.2.1 : Nat) : Int))) (af (aq fL cc.2.2.2.2.1 (Int.toNat v * 8)) (Option.bind (pu (ac cc.2.2.2.2.1 ((Int.toNat v * 8) + 0)) (ac cc.2.2.2.2.1 ((Int.toNat v * 8) + 1)) (ac cc.2.2.2.2.1 ((Int.toNat v * 8) + 2)) (ac cc.2.2.2.2.1 ((Int.toNat v * 8) + 3)) (ac cc.2.2.2.2.1 ((Int.toNat v * 8) + 4)) (ac cc.2.2.2.2.1 ((Int.toNat v * 8) + 5)) (ac cc.2.2.2.2.1 ((Int.toNat v * 8) + 6)) (ac cc.2.2.2.2.1 ((Int.toNat v * 8) + 7))) fun r2 => (cond (decide (r2 ≤ 0)) (ke (.inl ())) (kn (IntKind.wrap .i64 (v + 1))))))) (ke (.inr ())))
def en (cc : cZ) (v : Int) : Option ((Int) ⊕ ((Unit) ⊕ (Unit))) := cL cc v (fun v => some (Sum.inl v)) fun e => some (Sum.inr e)
def jN (cc : cZ) (v : Int) : Option ((Unit) ⊕ (Unit)) := dZ (en cc) v
def vY (cc : cZ) (v : Int) : List ah := [.I cc.s8, .I v, .C cc.1, .N cc.2.1, .C cc.2.2.1, .N cc.2.2.2.1, .C cc.s4.1, .N cc.s4.2.1, .C cc.s4.2.2.1, .N cc.s4.2.2.2.1]
def mu (ls : List ah) : Option ((cZ) × (Int)) := match ls with
 | [.I x0, .I x1, .C x2, .N x3, .C x4, .N x5, .C x6, .N x7, .C x8, .N x9] => some ((x2, x3, x4, x5, x6, x7, x8, x9, x0), x1)
 | _ => none
def mv (e : (Unit) ⊕ (Unit)) : an := ((Sum.elim (fun e => .ret) (fun e => .exit 0)) e)
def mw (cc : cZ) (e : (Unit) ⊕ (Unit)) : List ah := ((Sum.elim (fun e => []) (fun e => [.C cc.1, .N cc.2.1, .C cc.2.2.1, .N cc.2.2.2.1, .C cc.s4.1, .N cc.s4.2.1, .C cc.s4.2.2.1, .N cc.s4.2.2.2.1])) e)
def gD (cc : cZ) (e : (Unit) ⊕ (Unit)) : List ah := ((Sum.elim (fun e => []) (fun e => [.C cc.1, .N cc.2.1, .C cc.2.2.1, .N cc.2.2.2.1, .C cc.s4.1, .N cc.s4.2.1, .C cc.s4.2.2.1, .N cc.s4.2.2.2.1])) e)
def gU (o : an) (ls : List ah) : Option (((Unit) ⊕ (Unit)) × List ah) := match o with
 | .ret => (match ls with
  | [] => some ((.inl ()), [])
  | _ => none)
 | .exit 0 => (match ls with
  | [.C x0, .N x1, .C x2, .N x3, .C x4, .N x5, .C x6, .N x7] => some ((.inr ()), [.C x0, .N x1, .C x2, .N x3, .C x4, .N x5, .C x6, .N x7])
  | _ => none)
 | _ => none
theorem tb : ∀ o ls e cl cc, gU o ls = some (e, cl) → cl = gD cc e → ls = mw cc e ∧ mv e = o ∧ o ≠ .normal ∧ ∀ v, o = .pan v → sc 0 v = true := by
 intro o ls e cl cc h hc
 unfold gU at h
 split at h
 ·split at h
  ·cases h
   exact ⟨rfl, rfl, by simp, by intro v hv; cases hv <;> rfl⟩
  ·cases h
 ·split at h
  ·cases h
   simp only [gD, UZ, UY, List.cons.injEq, ah.N.injEq, ah.C.injEq, and_true] at hc
   obtain ⟨rfl, rfl, rfl, rfl, rfl, rfl, rfl, rfl⟩ := hc
   exact ⟨rfl, rfl, by simp, by intro v hv; cases hv <;> rfl⟩
  ·cases h
 ·cases h
def xk (o : an) : ExS := match o with
 | .ret => ⟨3, (none :: none :: none :: none :: some (.ptr 2 0) :: some (.s6 false) :: (rl none 39 [])), [(2, .cells (rl (.fP .u64 0) 32 [.aL]) true none)], fun s => [0, 1, nameAt s 4 []], [], []⟩
 | .exit 0 => ⟨5, (some (.vec 0) :: some (.vec 1) :: none :: none :: some (.ptr 2 0) :: none :: some (.vec 3) :: some (.ptr 4 0) :: (rl none 37 [])), [(0, .vec 3 false), (1, .vec 3 false), (2, .cells (rl (.fP .u64 0) 32 [.aL]) true none), (3, .vec 8 true), (4, .vec 8 true)], fun s => [0, 1, nameAt s 4 [], nameAt s 6 [], nameAt s 7 []], [], []⟩
 | _ => ⟨0, [], [], fun _ => [], [], []⟩
theorem vZ {R : Type} (cc : cZ) (v : Int) (kn : (Int) → Option R) (ke : ((Unit) ⊕ (Unit)) → Option R) : cL cc v kn ke = (cL cc v (fun v => some (Sum.inl v)) fun e => some (Sum.inr e)).bind (Sum.elim kn ke) := by
 simp only [cL, bX, ai, UA, cu, bS, Uy, Uz, UZ, UY]
def oF : LD where
 CC := cZ
 V := Int
 E := (Unit) ⊕ (Unit)
 n := 2
 K := 5
 M := (some (.vec 0) :: some (.vec 1) :: none :: none :: some (.ptr 2 0) :: none :: some (.vec 3) :: some (.ptr 4 0) :: (rl none 10 (some (.vec 3) :: some (.int .i64) :: some (.int .i64) :: (rl none 24 []))))
 B := [(0, .vec 3 false), (1, .vec 3 false), (2, .cells (rl (.fP .u64 0) 32 [.aL]) true none), (3, .vec 8 true), (4, .vec 8 true)]
 D := []
 pre := []
 F := fun s => [0, 1, nameAt s 4 [], nameAt s 6 [], nameAt s 7 []]
 toL := vY
 ofL := mu
 au := fun ls c v h => by
  unfold mu at h
  split at h
  ·cases h; rfl
  ·cases h
 cw := cL
 nat := vZ
 sh := xk
 out := mv
 toE := mw
 fQ := gD
 ofE := gU
 dn := tb
 post := fun cc e k => ((Sum.elim (fun e => k (.ret) (bo 3 (none :: none :: none :: none :: some (.ptr 2 0) :: some (.bool false) :: (rl none 39 [])) [(2, .cells (rl (.int .u64 0) 32 [.aL]) true none)] [])) (fun e => k (.exit 0) (bo 5 (some (.vec 0) :: some (.vec 1) :: none :: none :: some (.ptr 2 0) :: none :: some (.vec 3) :: some (.ptr 4 0) :: (rl none 37 [])) [(0, .vec cc.1 cc.2.1 3 false), (1, .vec cc.2.2.1 cc.2.2.2.1 3 false), (2, .cells (rl (.int .u64 0) 32 [.aL]) true none), (3, .vec cc.s4.1 cc.s4.2.1 8 true), (4, .vec cc.s4.2.2.1 cc.s4.2.2.2.1 8 true)] []))) e)
 cv := fun cc e k => by rcases e with e | e <;> rfl
theorem v4 : cX U2 2 oF.la (aO Try.f26 0) :=
 LD.ok (ch := gb) (A := bD) aJ gT mixed (fuel := 60) ⟨by kernel_rfl, fun e => by (rcases e with e | e <;> kernel_rfl), fun cc v => by kernel_rfl, aK (l := []) (by kernel_rfl) trivial⟩
def cB {R : Type} (cc : cY) (v : Int) (kn : (Int) → Option R) (ke : ((Unit) ⊕ (Unit)) → Option R) : Option R :=
 (cond (decide (v < cc.2.2.2.2.2.2.2.2.2.2.2.2.2.2.2.2.2.2.2.2.2.2.2.2.2.2.2.2.2.2.2.2.2.2)) (af (decide (0 ≤ v) && decide (v < ((cc.2.2.2.2.2.2.2.2.2.2.2.2.2.2.2.2.2.2.2.2.2.2.2.2.2.2.2.2.2.2.2.2.2.1 : Nat) : Int))) (af (aq kK cc.2.2.2.2.2.2.2.2.2.2.2.2.2.2.2.2.2.2.2.2.2.2.2.2.2.2.2.2.2.2.2.2.1 (Int.toNat v * 3)) (Option.bind (gw cc.1 cc.2.1 cc.2.2.1 cc.2.2.2.1 cc.2.2.2.2.1 cc.2.2.2.2.2.1 cc.2.2.2.2.2.2.1 cc.2.2.2.2.2.2.2.1 cc.2.2.2.2.2.2.2.2.1 cc.2.2.2.2.2.2.2.2.2.1 cc.2.2.2.2.2.2.2.2.2.2.1 cc.2.2.2.2.2.2.2.2.2.2.2.1 cc.2.2.2.2.2.2.2.2.2.2.2.2.1 cc.2.2.2.2.2.2.2.2.2.2.2.2.2.1 cc.2.2.2.2.2.2.2.2.2.2.2.2.2.2.1 cc.2.2.2.2.2.2.2.2.2.2.2.2.2.2.2.1 cc.2.2.2.2.2.2.2.2.2.2.2.2.2.2.2.2.1 cc.2.2.2.2.2.2.2.2.2.2.2.2.2.2.2.2.2.1 cc.2.2.2.2.2.2.2.2.2.2.2.2.2.2.2.2.2.2.1 cc.2.2.2.2.2.2.2.2.2.2.2.2.2.2.2.2.2.2.2.1 cc.2.2.2.2.2.2.2.2.2.2.2.2.2.2.2.2.2.2.2.2.1 cc.2.2.2.2.2.2.2.2.2.2.2.2.2.2.2.2.2.2.2.2.2.1 cc.2.2.2.2.2.2.2.2.2.2.2.2.2.2.2.2.2.2.2.2.2.2.1 cc.2.2.2.2.2.2.2.2.2.2.2.2.2.2.2.2.2.2.2.2.2.2.2.1 cc.2.2.2.2.2.2.2.2.2.2.2.2.2.2.2.2.2.2.2.2.2.2.2.2.1 cc.2.2.2.2.2.2.2.2.2.2.2.2.2.2.2.2.2.2.2.2.2.2.2.2.2.1 cc.2.2.2.2.2.2.2.2.2.2.2.2.2.2.2.2.2.2.2.2.2.2.2.2.2.2.1 cc.2.2.2.2.2.2.2.2.2.2.2.2.2.2.2.2.2.2.2.2.2.2.2.2.2.2.2.1 cc.2.2.2.2.2.2.2.2.2.2.2.2.2.2.2.2.2.2.2.2.2.2.2.2.2.2.2.2.1 cc.2.2.2.2.2.2.2.2.2.2.2.2.2.2.2.2.2.2.2.2.2.2.2.2.2.2.2.2.2.1 cc.2.2.2.2.2.2.2.2.2.2.2.2.2.2.2.2.2.2.2.2.2.2.2.2.2.2.2.2.2.2.1 cc.2.2.2.2.2.2.2.2.2.2.2.2.2.2.2.2.2.2.2.2.2.2.2.2.2.2.2.2.2.2.2.1 ([] : LA_) 0 (ac cc.2.2.2.2.2.2.2.2.2.2.2.2.2.2.2.2.2.2.2.2.2.2.2.2.2.2.2.2.2.2.2.2.1 ((Int.toNat v * 3) + 0)) (ac cc.2.2.2.2.2.2.2.2.2.2.2.2.2.2.2.2.2.2.2.2.2.2.2.2.2.2.2.2.2.2.2.2.1 ((Int.toNat v * 3) + 1)) (ac cc.2.2.2.2.2.2.2.2.2.2.2.2.2.2.2.2.2.2.2.2.2.2.2.2.2.2.2.2.2.2.2.2.1 ((Int.toNat v * 3) + 2))) fun r5 => (cond r5 (ke (.inl ())) (kn (IntKind.wrap .i64 (v + 1))))))) (ke (.inr ())))
def dQ (cc : cY) (v : Int) : Option ((Int) ⊕ ((Unit) ⊕ (Unit))) := cB cc v (fun v => some (Sum.inl v)) fun e => some (Sum.inr e)
def oG (cc : cY) (v : Int) : Option ((Unit) ⊕ (Unit)) := dZ (dQ cc) v
def vj (cc : cY) (v : Int) : List ah := [.I cc.s16.s16.2.2, .I v, .I cc.1, .I cc.2.1, .I cc.2.2.1, .I cc.2.2.2.1, .I cc.s4.1, .I cc.s4.2.1, .I cc.s4.2.2.1, .I cc.s4.2.2.2.1, .I cc.s8.1, .I cc.s8.2.1, .I cc.s8.2.2.1, .I cc.s8.2.2.2.1, .I cc.s8.s4.1, .I cc.s8.s4.2.1, .I cc.s8.s4.2.2.1, .I cc.s8.s4.2.2.2.1, .I cc.s16.1, .I cc.s16.2.1, .I cc.s16.2.2.1, .I cc.s16.2.2.2.1, .I cc.s16.s4.1, .I cc.s16.s4.2.1, .I cc.s16.s4.2.2.1, .I cc.s16.s4.2.2.2.1, .I cc.s16.s8.1, .I cc.s16.s8.2.1, .I cc.s16.s8.2.2.1, .I cc.s16.s8.2.2.2.1, .I cc.s16.s8.s4.1, .I cc.s16.s8.s4.2.1, .I cc.s16.s8.s4.2.2.1, .I cc.s16.s8.s4.2.2.2.1, .C cc.s16.s16.1, .N cc.s16.s16.2.1]
def li (ls : List ah) : Option ((cY) × (Int)) := match ls with
 | (.I x0 :: .I x1 :: .I x2 :: .I x3 :: .I x4 :: .I x5 :: .I x6 :: .I x7 :: .I x8 :: .I x9 :: .I x10 :: .I x11 :: .I x12 :: .I x13 :: .I x14 :: .I x15 :: .I x16 :: .I x17 :: .I x18 :: .I x19 :: .I x20 :: .I x21 :: .I x22 :: .I x23 :: .I x24 :: .I x25 :: .I x26 :: .I x27 :: .I x28 :: .I x29 :: .I x30 :: .I x31 :: .I x32 :: .I x33 :: .C x34 :: .N x35 :: []) => some ((x2, x3, x4, x5, x6, x7, x8, x9, x10, x11, x12, x13, x14, x15, x16, x17, x18, x19, x20, x21, x22, x23, x24, x25, x26, x27, x28, x29, x30, x31, x32, x33, x34, x35, x0), x1)
 | _ => none
def lj (e : (Unit) ⊕ (Unit)) : an := ((Sum.elim (fun e => .ret) (fun e => .exit 2)) e)
def ll (cc : cY) (e : (Unit) ⊕ (Unit)) : List ah := ((Sum.elim (fun e => []) (fun e => [.I cc.1, .I cc.2.1, .I cc.2.2.1, .I cc.2.2.2.1, .I cc.s4.1, .I cc.s4.2.1, .I cc.s4.2.2.1, .I cc.s4.2.2.2.1, .I cc.s8.1, .I cc.s8.2.1, .I cc.s8.2.2.1, .I cc.s8.2.2.2.1, .I cc.s8.s4.1, .I cc.s8.s4.2.1, .I cc.s8.s4.2.2.1, .I cc.s8.s4.2.2.2.1, .I cc.s16.1, .I cc.s16.2.1, .I cc.s16.2.2.1, .I cc.s16.2.2.2.1, .I cc.s16.s4.1, .I cc.s16.s4.2.1, .I cc.s16.s4.2.2.1, .I cc.s16.s4.2.2.2.1, .I cc.s16.s8.1, .I cc.s16.s8.2.1, .I cc.s16.s8.2.2.1, .I cc.s16.s8.2.2.2.1, .I cc.s16.s8.s4.1, .I cc.s16.s8.s4.2.1, .I cc.s16.s8.s4.2.2.1, .I cc.s16.s8.s4.2.2.2.1])) e)
def gc (cc : cY) (e : (Unit) ⊕ (Unit)) : List ah := ((Sum.elim (fun e => []) (fun e => [.I cc.1, .I cc.2.1, .I cc.2.2.1, .I cc.2.2.2.1, .I cc.s4.1, .I cc.s4.2.1, .I cc.s4.2.2.1, .I cc.s4.2.2.2.1, .I cc.s8.1, .I cc.s8.2.1, .I cc.s8.2.2.1, .I cc.s8.2.2.2.1, .I cc.s8.s4.1, .I cc.s8.s4.2.1, .I cc.s8.s4.2.2.1, .I cc.s8.s4.2.2.2.1, .I cc.s16.1, .I cc.s16.2.1, .I cc.s16.2.2.1, .I cc.s16.2.2.2.1, .I cc.s16.s4.1, .I cc.s16.s4.2.1, .I cc.s16.s4.2.2.1, .I cc.s16.s4.2.2.2.1, .I cc.s16.s8.1, .I cc.s16.s8.2.1, .I cc.s16.s8.2.2.1, .I cc.s16.s8.2.2.2.1, .I cc.s16.s8.s4.1, .I cc.s16.s8.s4.2.1, .I cc.s16.s8.s4.2.2.1, .I cc.s16.s8.s4.2.2.2.1])) e)
def gE (o : an) (ls : List ah) : Option (((Unit) ⊕ (Unit)) × List ah) := match o with
 | .ret => (match ls with
  | [] => some ((.inl ()), [])
  | _ => none)
 | .exit 2 => (match ls with
  | [.I x0, .I x1, .I x2, .I x3, .I x4, .I x5, .I x6, .I x7, .I x8, .I x9, .I x10, .I x11, .I x12, .I x13, .I x14, .I x15, .I x16, .I x17, .I x18, .I x19, .I x20, .I x21, .I x22, .I x23, .I x24, .I x25, .I x26, .I x27, .I x28, .I x29, .I x30, .I x31] => some ((.inr ()), [.I x0, .I x1, .I x2, .I x3, .I x4, .I x5, .I x6, .I x7, .I x8, .I x9, .I x10, .I x11, .I x12, .I x13, .I x14, .I x15, .I x16, .I x17, .I x18, .I x19, .I x20, .I x21, .I x22, .I x23, .I x24, .I x25, .I x26, .I x27, .I x28, .I x29, .I x30, .I x31])
  | _ => none)
 | _ => none
theorem sg : ∀ o ls e cl cc, gE o ls = some (e, cl) → cl = gc cc e → ls = ll cc e ∧ lj e = o ∧ o ≠ .normal ∧ ∀ v, o = .pan v → sc 0 v = true := by
 intro o ls e cl cc h hc
 unfold gE at h
 split at h
 ·split at h
  ·cases h
   exact ⟨rfl, rfl, by simp, by intro v hv; cases hv <;> rfl⟩
  ·cases h
 ·split at h
  ·cases h
   simp only [gc, UZ, UY, List.cons.injEq, ah.I.injEq, and_true] at hc
   obtain ⟨rfl, rfl, rfl, rfl, rfl, rfl, rfl, rfl, rfl, rfl, rfl, rfl, rfl, rfl, rfl, rfl, rfl, rfl, rfl, rfl, rfl, rfl, rfl, rfl, rfl, rfl, rfl, rfl, rfl, rfl, rfl, rfl⟩ := hc
   exact ⟨rfl, rfl, by simp, by intro v hv; cases hv <;> rfl⟩
  ·cases h
 ·cases h
def v5 (o : an) : ExS := match o with
 | .ret => ⟨3, (none :: none :: none :: none :: some (.ptr 2 0) :: some (.s6 false) :: (rl none 39 [])), [(2, .cells (rl (.fP .u64 0) 32 [.aL]) true none)], fun s => [0, 1, nameAt s 4 []], [], []⟩
 | .exit 2 => ⟨4, (none :: none :: none :: none :: some (.ptr 2 0) :: (rl none 5 (some (.ptr 3 0) :: (rl none 34 [])))), [(2, .cells (rl (.fP .u64 0) 32 [.aL]) true none), (3, .cells (rl (.int .u64) 32 [.aL]) true none)], fun s => [0, 1, nameAt s 4 [], nameAt s 10 []], [], []⟩
 | _ => ⟨0, [], [], fun _ => [], [], []⟩
theorem vk {R : Type} (cc : cY) (v : Int) (kn : (Int) → Option R) (ke : ((Unit) ⊕ (Unit)) → Option R) : cB cc v kn ke = (cB cc v (fun v => some (Sum.inl v)) fun e => some (Sum.inr e)).bind (Sum.elim kn ke) := by
 simp only [cB, bX, ai, UA, cu, bS, Uy, Uz, UZ, UY]
def nk : LD where
 CC := cY
 V := Int
 E := (Unit) ⊕ (Unit)
 n := 2
 K := 4
 M := (none :: none :: none :: none :: some (.ptr 2 0) :: (rl none 5 (some (.ptr 3 0) :: (rl none 22 (some (.vec 0) :: some (.int .i64) :: some (.int .i64) :: (rl none 9 []))))))
 B := [(2, .cells (rl (.fP .u64 0) 32 [.aL]) true none), (3, .cells (rl (.int .u64) 32 [.aL]) true none), (0, .vec 3 false)]
 D := []
 pre := []
 F := fun s => [0, 1, nameAt s 4 [], nameAt s 10 []]
 toL := vj
 ofL := li
 au := fun ls c v h => by
  unfold li at h
  split at h
  ·cases h; rfl
  ·cases h
 cw := cB
 nat := vk
 sh := v5
 out := lj
 toE := ll
 fQ := gc
 ofE := gE
 dn := sg
 post := fun cc e k => ((Sum.elim (fun e => k (.ret) (bo 3 (none :: none :: none :: none :: some (.ptr 2 0) :: some (.bool false) :: (rl none 39 [])) [(2, .cells (rl (.int .u64 0) 32 [.aL]) true none)] [])) (fun e => k (.exit 2) (bo 4 (none :: none :: none :: none :: some (.ptr 2 0) :: (rl none 5 (some (.ptr 3 0) :: (rl none 34 [])))) [(2, .cells (rl (.int .u64 0) 32 [.aL]) true none), (3, .cells (v8 cc.1 cc.2.1 cc.2.2.1 cc.2.2.2.1 cc.s4.1 cc.s4.2.1 cc.s4.2.2.1 cc.s4.2.2.2.1 (v8 cc.s8.1 cc.s8.2.1 cc.s8.2.2.1 cc.s8.2.2.2.1 cc.s8.s4.1 cc.s8.s4.2.1 cc.s8.s4.2.2.1 cc.s8.s4.2.2.2.1 (v8 cc.s16.1 cc.s16.2.1 cc.s16.2.2.1 cc.s16.2.2.2.1 cc.s16.s4.1 cc.s16.s4.2.1 cc.s16.s4.2.2.1 cc.s16.s4.2.2.2.1 (v8 cc.s16.s8.1 cc.s16.s8.2.1 cc.s16.s8.2.2.1 cc.s16.s8.2.2.2.1 cc.s16.s8.s4.1 cc.s16.s8.s4.2.1 cc.s16.s8.s4.2.2.1 cc.s16.s8.s4.2.2.2.1 [.aL])))) true none)] []))) e)
 cv := fun cc e k => by rcases e with e | e <;> rfl
theorem vl : cX U2 2 nk.la (aO Try.f26 1) :=
 LD.ok (ch := gb) (A := bD) aJ gT mixed (fuel := 60) ⟨by kernel_rfl, fun e => by (rcases e with e | e <;> kernel_rfl), fun cc v => by kernel_rfl, aK (l := []) (by kernel_rfl) trivial⟩
def dF (cs0 : LA_) (n1 : Nat) (cs2 : LA_) (n3 : Nat) : Option (nX) :=
 (Option.bind (di cs2 n3) fun r1 => (Option.bind (jN (cs0, n1, cs2, n3, r1.2.1, r1.2.2, ((v8 (aa r1.1 0) (aa r1.1 1) (aa r1.1 2) (aa r1.1 3) (aa r1.1 4) (aa r1.1 5) (aa r1.1 6) (aa r1.1 7) []) : LA_), 1, ((r1.2.2 : Nat) : Int)) 0) (Sum.elim (fun e2 => (some (0, 0, 0, 0, 0, 0, 0, 0, 0, 0, 0, 0, 0, 0, 0, 0, 0, 0, 0, 0, 0, 0, 0, 0, 0, 0, 0, 0, 0, 0, 0, 0, false))) (fun e2 => (Option.bind (tc cs2 n3 r1.2.1 r1.2.2 r1.1) fun r3 => (Option.bind (oG (aY r3.1 (aY r3.2.1 (aY r3.2.2.1 (aY r3.2.2.2 (cs0, n1, ((n1 : Nat) : Int)))))) 0) (Sum.elim (fun e4 => (some (0, 0, 0, 0, 0, 0, 0, 0, 0, 0, 0, 0, 0, 0, 0, 0, 0, 0, 0, 0, 0, 0, 0, 0, 0, 0, 0, 0, 0, 0, 0, 0, false))) (fun e4 => (some (aY r3.1 (aY r3.2.1 (aY r3.2.2.1 (aY r3.2.2.2 true)))))))))))))
def cH : FD where
 X := nX
 k := 2
 pre := []
 F := fun s => [0, 1]
 M := .tup [.agg (rl (.int .u64) 32 [.aL]), .bool]
 B := []
 toL := fun x => [.I x.1, .I x.2.1, .I x.2.2.1, .I x.2.2.2.1, .I x.s4.1, .I x.s4.2.1, .I x.s4.2.2.1, .I x.s4.2.2.2.1, .I x.s8.1, .I x.s8.2.1, .I x.s8.2.2.1, .I x.s8.2.2.2.1, .I x.s8.s4.1, .I x.s8.s4.2.1, .I x.s8.s4.2.2.1, .I x.s8.s4.2.2.2.1, .I x.s16.1, .I x.s16.2.1, .I x.s16.2.2.1, .I x.s16.2.2.2.1, .I x.s16.s4.1, .I x.s16.s4.2.1, .I x.s16.s4.2.2.1, .I x.s16.s4.2.2.2.1, .I x.s16.s8.1, .I x.s16.s8.2.1, .I x.s16.s8.2.2.1, .I x.s16.s8.2.2.2.1, .I x.s16.s8.s4.1, .I x.s16.s8.s4.2.1, .I x.s16.s8.s4.2.2.1, .I x.s16.s8.s4.2.2.2.1, .B x.s16.s16]
 ofL := fun ls => match ls with
  | (.I x0 :: .I x1 :: .I x2 :: .I x3 :: .I x4 :: .I x5 :: .I x6 :: .I x7 :: .I x8 :: .I x9 :: .I x10 :: .I x11 :: .I x12 :: .I x13 :: .I x14 :: .I x15 :: .I x16 :: .I x17 :: .I x18 :: .I x19 :: .I x20 :: .I x21 :: .I x22 :: .I x23 :: .I x24 :: .I x25 :: .I x26 :: .I x27 :: .I x28 :: .I x29 :: .I x30 :: .I x31 :: .B x32 :: []) => some (x0, x1, x2, x3, x4, x5, x6, x7, x8, x9, x10, x11, x12, x13, x14, x15, x16, x17, x18, x19, x20, x21, x22, x23, x24, x25, x26, x27, x28, x29, x30, x31, x32)
  | _ => none
 au := fun ls x h => by
  split at h
  ·cases h; rfl
  ·cases h
theorem xY (cs0 : LA_) (n1 : Nat) (cs2 : LA_) (n3 : Nat) (x : nX) (h : dF cs0 n1 cs2 n3 = some x) : bg U2 26 2 [.vec 0, .vec 1] [.vec cs0 n1 3 false, .vec cs2 n3 3 false] cH x :=
 FD.sem (ch := gb) (A := eT [(3, oF.la), (10, nk.la)]) (fn := Try.f26) (c := bu Try.f26) (fuel := 60) aJ gT mixed bK cH Try.func26 (by kernel_rfl) (aK (l := [aO Try.f26 0, aO Try.f26 1]) (by kernel_rfl) ⟨ci (by kernel_rfl) v4, ci (by kernel_rfl) vl, trivial⟩)
  (by kernel_rfl) (Eq.trans (by kernel_rfl) h)
def ao (cs0 : LA_) (n1 : Nat) (cs2 : LA_) (n3 : Nat) : Option (Int × Int × Int × Int × Bool) := Option.bind (dF cs0 n1 cs2 n3) fun (x0, x1, x2, x3, x4, x5, x6, x7, x8, x9, x10, x11, x12, x13, x14, x15, x16, x17, x18, x19, x20, x21, x22, x23, x24, x25, x26, x27, x28, x29, x30, x31, x32) => af (ok8 x0 x1 x2 x3 x4 x5 x6 x7 && ok8 x8 x9 x10 x11 x12 x13 x14 x15 && ok8 x16 x17 x18 x19 x20 x21 x22 x23 && ok8 x24 x25 x26 x27 x28 x29 x30 x31) (some ((num x0 x1 x2 x3 x4 x5 x6 x7), (num x8 x9 x10 x11 x12 x13 x14 x15), (num x16 x17 x18 x19 x20 x21 x22 x23), (num x24 x25 x26 x27 x28 x29 x30 x31), x32))
def kD : FD := ⟨Int × Int × Int × Int × Bool, cH.k, cH.pre, cH.F, cH.M, cH.B, fun y => cH.toL (aY y.1 (aY y.2.1 (aY y.2.2.1 (aY y.2.2.2.1 y.s4)))), fun _ => none, fun _ _ h => by cases h⟩
theorem zp (cs0 : LA_) (n1 : Nat) (cs2 : LA_) (n3 : Nat) {y : Int × Int × Int × Int × Bool} (h : ao cs0 n1 cs2 n3 = some y) : dF cs0 n1 cs2 n3 = some (aY y.1 (aY y.2.1 (aY y.2.2.1 (aY y.2.2.2.1 y.s4)))) := by
 unfold ao at h
 obtain ⟨⟨x0, x1, x2, x3, x4, x5, x6, x7, x8, x9, x10, x11, x12, x13, x14, x15, x16, x17, x18, x19, x20, x21, x22, x23, x24, x25, x26, x27, x28, x29, x30, x31, x32⟩, h1, h2⟩ := bE_ h
 obtain ⟨h3, h4⟩ := aH h2
 simp only [UC, and_assoc] at h3
 simp only [UB] at h4
 subst h4
 obtain ⟨o0, o1, o2, o3⟩ := h3
 have q0 := aQ o0
 have q1 := aQ o1
 have q2 := aQ o2
 have q3 := aQ o3
 rw [h1]
 simp only [aY, q0, q1, q2, q3]
theorem xZ (cs0 : LA_) (n1 : Nat) (cs2 : LA_) (n3 : Nat) (y : Int × Int × Int × Int × Bool) (h : ao cs0 n1 cs2 n3 = some y) : bg U2 26 2 [.vec 0, .vec 1] [.vec cs0 n1 3 false, .vec cs2 n3 3 false] kD y := xY cs0 n1 cs2 n3 _ (zp cs0 n1 cs2 n3 h)
def eL : HK where
 call := fun args σ k => match args with
  | [x0, x1] => cW σ 3 x0 fun cs0 n1 => cW σ 3 x1 fun cs2 n3 => Option.bind (ao cs0 n1 cs2 n3) fun y => aC σ 2 (kD.val y) (kD.aN y) k
  | _ => none
 nat := fun args σ k => by
  repeat' split
  all_goals simp only [av, ai, UA, Uz, aC, Uy]
 pure := false
 pok := fun h => by cases h
theorem ga : aX U2 26 eL := by
 intro args σ r σ' h
 simp only [eL] at h
 split at h
 ·rename_i x0 x1
  obtain ⟨cs0, n1, he0, hf0, h⟩ := bE h
  obtain ⟨cs2, n3, he1, hf1, h⟩ := bE h
  obtain ⟨y, hy, h⟩ := bE_ h
  exact lifted (xs := [x0, x1]) (ls := [.vec cs0 n1 3 false, .vec cs2 n3 3 false]) (cargs := [.vec 0, .vec 1]) (bC.of ⟨⟨rfl, he0, hf0, by decide⟩, ⟨rfl, he1, hf1, by decide⟩, trivial⟩) rfl (xZ cs0 n1 cs2 n3 y hy) rfl rfl rfl rfl h
 ·cases h
def iE (N : Pt) (D : Int) (p : Pt) : Bool := decide (ae N p * D < ae N N)
theorem PZ {x y z : Int} [Sm 240 x] [Sm 240 y] [Sm 240 z] : ej (aa x 0) (aa x 1) (aa x 2) (aa x 3) (aa x 4) (aa x 5) (aa x 6) (aa x 7) (aa y 0) (aa y 1) (aa y 2) (aa y 3) (aa y 4) (aa y 5) (aa y 6) (aa y 7) (aa z 0) (aa z 1) (aa z 2) (aa z 3) (aa z 4) (aa z 5) (aa z 6) (aa z 7) = some (x * x + y * y + z * z) := by
 have q : gF (aa x 0) (aa x 1) (aa x 2) (aa x 3) (aa x 4) (aa x 5) (aa x 6) (aa x 7) (aa y 0) (aa y 1) (aa y 2) (aa y 3) (aa y 4) (aa y 5) (aa y 6) (aa y 7) (aa z 0) (aa z 1) (aa z 2) (aa z 3) (aa z 4) (aa z 5) (aa z 6) (aa z 7) = some (t8 (x * x + y * y + z * z)) := by
  unfold gF
  rw [yK (by decide) (by decide) (by decide), Uy, yK (by decide) (by decide) (by decide), Uy, GS (by decide) (by decide) (by decide), Uy,
   yK (by decide) (by decide) (by decide), Uy, GS (by decide) (by decide) (by decide), Uy]
  rfl
 unfold ej
 rw [q]
 simp only [t8, Uy, bA, aw]
 rw [aI (Sm.fit (by decide))]
theorem OD {N p : Pt} {D : Int} (hN : PtB 240 N) (hD : sm 190 D) (hp : bP p = true) (cs : LA_) (n : Nat) : q9 N.1 N.2.1 N.2.2 D cs n p.1 p.2.1 p.2.2 = some (iE N D p) := by
 have hq := PtB.of hp
 haveI n1 : Sm 240 N.1 := ⟨hN.h.1⟩
 haveI n2 : Sm 240 N.2.1 := ⟨hN.h.2.1⟩
 haveI n3 : Sm 240 N.2.2 := ⟨hN.h.2.2⟩
 haveI p1 : Sm 28 p.1 := ⟨hq.h.1⟩
 haveI p2 : Sm 28 p.2.1 := ⟨hq.h.2.1⟩
 haveI p3 : Sm 28 p.2.2 := ⟨hq.h.2.2⟩
 haveI d1 : Sm 190 D := ⟨hD⟩
 have a : lY (aa N.1 0) (aa N.1 1) (aa N.1 2) (aa N.1 3) (aa N.1 4) (aa N.1 5) (aa N.1 6) (aa N.1 7) (aa N.2.1 0) (aa N.2.1 1) (aa N.2.1 2) (aa N.2.1 3) (aa N.2.1 4) (aa N.2.1 5) (aa N.2.1 6) (aa N.2.1 7) (aa N.2.2 0) (aa N.2.2 1) (aa N.2.2 2) (aa N.2.2 3) (aa N.2.2 4) (aa N.2.2 5) (aa N.2.2 6) (aa N.2.2 7) p.1 p.2.1 p.2.2 = some (ae N p) :=
  IN (Sm.fit (by decide)) (Sm.fit (by decide)) (Sm.fit (by decide)) (p1.rng (by decide)) (p2.rng (by decide)) (p3.rng (by decide)) (Sm.fit (by decide)) (Sm.fit (by decide)) (Sm.fit (by decide)) (Sm.fit (by decide)) (Sm.fit (by decide))
 haveI s1 : Sm 270 (ae N p) := inferInstance
 unfold q9 gw
 rw [a, Uy, yK (by decide) (by decide) (by decide), Uy, PZ, Uy, L5 (Sm.fit (by decide)) (Sm.fit (by decide)), Uy]
 unfold iE
 have e : N.1 * N.1 + N.2.1 * N.2.1 + N.2.2 * N.2.2 = ae N N := rfl
 rw [e]
 by_cases h : ae N p * D < ae N N
 ·rw [UH h]
  have : decide (sgn (ae N p * D - ae N N) < 0) = true := by
   have : ae N p * D - ae N N < 0 := by omega
   simp [sgn, this]
  rw [this]; rfl
 ·rw [UG h]
  have : decide (sgn (ae N p * D - ae N N) < 0) = false := by
   have h1 : ¬ ae N p * D - ae N N < 0 := by omega
   unfold sgn
   rw [UG h1, cond_false]
   by_cases h0 : ae N p * D - ae N N = 0
   ·rw [UH h0]; rfl
   ·rw [UG h0]; rfl
  rw [this]; rfl
theorem Tk {w : List Int} (hw : ∀ z ∈ w, sm 190 z) (h4 : w.length ≤ 4) (a1 : LA_) (a2 : Nat) (a3 : LA_) (a4 : Nat) (D : LA_) :
  jN (a1, a2, a3, a4, wcs w, w.length, D, 1, ((w.length : Nat) : Int)) 0 = some (cond (w.all fun z => decide (0 < z)) (.inr ()) (.inl ())) := by
 have key : ∀ (n i : Nat), w.length - i = n → i ≤ w.length → iter (en (a1, a2, a3, a4, wcs w, w.length, D, 1, ((w.length : Nat) : Int))) (n + 1) (i : Int) = some (cond ((w.drop i).all fun z => decide (0 < z)) (.inr ()) (.inl ())) := by
  intro n
  induction n with
  | zero =>
   intro i hn hi
   have he : i = w.length := by omega
   subst he
   refine gK 0 ?_
   rw [List.drop_length]
   simp only [en, cL, UG (show ¬ ((w.length : Int) < ((w.length : Nat) : Int)) by omega), cond_false]
   rfl
  | succ n ih =>
   intro i hn hi
   have h : i < w.length := by omega
   have hdw : w.drop i = w.getD i 0 :: w.drop (i + 1) := by
    rw [List.drop_eq_getElem_cons h]; simp [UK, UJ h]
   have wr : IntKind.wrap .i64 ((i : Int) + 1) = ((i + 1 : Nat) : Int) := by rw [ce (by omega)]; omega
   have hz : fit (w.getD i 0) := bf (a := 190) (by
    rw [UK, UJ h]
    exact hw _ (List.getElem_mem h)) (by decide)
   have g := fun j hj => wg (j := j) h hj
   have step : en (a1, a2, a3, a4, wcs w, w.length, D, 1, ((w.length : Nat) : Int)) (i : Int) = cond (decide (sgn (w.getD i 0) ≤ 0)) (some (.inr (.inl ()))) (some (.inl ((i + 1 : Nat) : Int))) := by
    simp only [en, cL, decLt h, gt, cond_true, UF, aw, iY, wro h, g 0 (by decide), g 1 (by decide), g 2 (by decide), g 3 (by decide), g 4 (by decide), g 5 (by decide), g 6 (by decide), g 7 (by decide), wr, L6 hz, Uy]
   rw [hdw, List.all_cons]
   by_cases h0 : 0 < w.getD i 0
   ·have : decide (sgn (w.getD i 0) ≤ 0) = false := by
     unfold sgn
     rw [UG (show ¬ w.getD i 0 < 0 by omega), UG (show ¬ w.getD i 0 = 0 by omega)]; rfl
    rw [this] at step
    rw [UH h0, Bool.true_and]
    exact dL step (ih (i + 1) (by omega) (by omega))
   ·have : decide (sgn (w.getD i 0) ≤ 0) = true := by
     unfold sgn
     by_cases h1 : w.getD i 0 < 0
     ·rw [UH h1]; rfl
     ·rw [UG h1, UH (show w.getD i 0 = 0 by omega)]; rfl
    rw [this] at step
    rw [UG h0, Bool.false_and]
    exact gK _ step
 have := key w.length 0 (by omega) (by omega)
 rw [List.drop_zero] at this
 exact lO (by unfold vI; omega) this
theorem Tl {N : Pt} {D : Int} {l : List Pt} (hN : PtB 240 N) (hD : sm 190 D) (hok : bd l = true) (hl : l.length < 1000000000) :
  oG (aa N.1 0, aa N.1 1, aa N.1 2, aa N.1 3, aa N.1 4, aa N.1 5, aa N.1 6, aa N.1 7, aa N.2.1 0, aa N.2.1 1, aa N.2.1 2, aa N.2.1 3, aa N.2.1 4, aa N.2.1 5, aa N.2.1 6, aa N.2.1 7, aa N.2.2 0, aa N.2.2 1, aa N.2.2 2, aa N.2.2 3, aa N.2.2 4, aa N.2.2 5, aa N.2.2 6, aa N.2.2 7, aa D 0, aa D 1, aa D 2, aa D 3, aa D 4, aa D 5, aa D 6, aa D 7, pcs l, l.length, ((l.length : Nat) : Int)) 0 = some (cond (l.all fun p => !iE N D p) (.inr ()) (.inl ())) := by
 have key : ∀ (n i : Nat), l.length - i = n → i ≤ l.length → iter (dQ (aa N.1 0, aa N.1 1, aa N.1 2, aa N.1 3, aa N.1 4, aa N.1 5, aa N.1 6, aa N.1 7, aa N.2.1 0, aa N.2.1 1, aa N.2.1 2, aa N.2.1 3, aa N.2.1 4, aa N.2.1 5, aa N.2.1 6, aa N.2.1 7, aa N.2.2 0, aa N.2.2 1, aa N.2.2 2, aa N.2.2 3, aa N.2.2 4, aa N.2.2 5, aa N.2.2 6, aa N.2.2 7, aa D 0, aa D 1, aa D 2, aa D 3, aa D 4, aa D 5, aa D 6, aa D 7, pcs l, l.length, ((l.length : Nat) : Int))) (n + 1) (i : Int) = some (cond ((l.drop i).all fun p => !iE N D p) (.inr ()) (.inl ())) := by
  intro n
  induction n with
  | zero =>
   intro i hn hi
   have he : i = l.length := by omega
   subst he
   refine gK 0 ?_
   rw [List.drop_length]
   simp only [dQ, cB, UG (show ¬ ((l.length : Int) < ((l.length : Nat) : Int)) by omega), cond_false]
   rfl
  | succ n ih =>
   intro i hn hi
   have h : i < l.length := by omega
   have hd : l.drop i = pat l i :: l.drop (i + 1) := by
    rw [List.drop_eq_getElem_cons h]; simp [pat, UK, UJ h]
   have wr : IntKind.wrap .i64 ((i : Int) + 1) = ((i + 1 : Nat) : Int) := by rw [ce (by omega)]; omega
   have hp : gw (aa N.1 0) (aa N.1 1) (aa N.1 2) (aa N.1 3) (aa N.1 4) (aa N.1 5) (aa N.1 6) (aa N.1 7) (aa N.2.1 0) (aa N.2.1 1) (aa N.2.1 2) (aa N.2.1 3) (aa N.2.1 4) (aa N.2.1 5) (aa N.2.1 6) (aa N.2.1 7) (aa N.2.2 0) (aa N.2.2 1) (aa N.2.2 2) (aa N.2.2 3) (aa N.2.2 4) (aa N.2.2 5) (aa N.2.2 6) (aa N.2.2 7) (aa D 0) (aa D 1) (aa D 2) (aa D 3) (aa D 4) (aa D 5) (aa D 6) (aa D 7) [] 0 (pat l i).1 (pat l i).2.1 (pat l i).2.2 = some (iE N D (pat l i)) := OD hN hD (eI hok h) [] 0
   have step : dQ (aa N.1 0, aa N.1 1, aa N.1 2, aa N.1 3, aa N.1 4, aa N.1 5, aa N.1 6, aa N.1 7, aa N.2.1 0, aa N.2.1 1, aa N.2.1 2, aa N.2.1 3, aa N.2.1 4, aa N.2.1 5, aa N.2.1 6, aa N.2.1 7, aa N.2.2 0, aa N.2.2 1, aa N.2.2 2, aa N.2.2 3, aa N.2.2 4, aa N.2.2 5, aa N.2.2 6, aa N.2.2 7, aa D 0, aa D 1, aa D 2, aa D 3, aa D 4, aa D 5, aa D 6, aa D 7, pcs l, l.length, ((l.length : Nat) : Int)) (i : Int) = cond (iE N D (pat l i)) (some (.inr (.inl ()))) (some (.inl ((i + 1 : Nat) : Int))) := by
    simp only [dQ, cB, decLt h, gt, cond_true, UF, aw, iY, pro h, pg0 h, pg1 h, pg2 h, wr, hp, Uy]
   rw [hd, List.all_cons]
   cases hb : iE N D (pat l i) with
   | true =>
    rw [hb] at step
    exact gK _ step
   | false =>
    rw [hb] at step
    exact dL step (ih (i + 1) (by omega) (by omega))
 have := key l.length 0 (by omega) (by omega)
 rw [List.drop_zero] at this
 exact lO (by unfold vI; omega) this
def GU (l S : List Pt) : Prop := (∀ x ∈ (wts S).1, 0 < x) ∧ rG l S
theorem Prim.Nb {n N p : Pt} {d D s : Int} (h : Prim n d N D) (hd : 0 < d) (hs : ae n n = d * s) : iE N D p = true ↔ ae p n < s := by
 obtain ⟨⟨g, g0, rfl, rfl⟩, _⟩ := h
 have hD : 0 < D := by
  rcases Int.lt_or_le 0 D with q | q
  ·exact q
  ·have := Int.mul_nonpos_of_nonneg_of_nonpos (Int.le_of_lt g0) q
   omega
 have e1 : ae (g * N.1, g * N.2.1, g * N.2.2) (g * N.1, g * N.2.1, g * N.2.2) = g * g * ae N N := by simp only [ae]; grind
 have e2 : ae p (g * N.1, g * N.2.1, g * N.2.2) = g * ae N p := by simp only [ae]; grind
 rw [e1] at hs
 have e3 : g * ae N N = D * s := by
  have : g * (g * ae N N) = g * (D * s) := by grind
  exact Int.eq_of_mul_eq_mul_left (by omega) this
 rw [e2]
 unfold iE
 rw [UI]
 constructor
 ·intro q
  have q1 := Int.mul_lt_mul_of_pos_left q g0
  have q2 : D * (g * ae N p) < D * s := by
   have : g * (ae N p * D) = D * (g * ae N p) := by grind
   omega
  exact Int.lt_of_mul_lt_mul_left q2 (Int.le_of_lt hD)
 ·intro q
  have q1 := Int.mul_lt_mul_of_pos_left q hD
  have q2 : g * (ae N p * D) < g * ae N N := by
   have : D * (g * ae N p) = g * (ae N p * D) := by grind
   omega
  exact Int.lt_of_mul_lt_mul_left q2 (Int.le_of_lt g0)
theorem Prim.sm {n N : Pt} {d D : Int} (h : Prim n d N D) (hn : PtB 240 n) (hd : sm 190 d) : PtB 240 N ∧ sm 190 D := by
 obtain ⟨⟨g, g0, rfl, rfl⟩, _⟩ := h
 have q : ∀ {k : Nat} {z : Int}, Go.Ev.sm k (g * z) → Go.Ev.sm k z := by
  intro k z ha
  unfold Go.Ev.sm at *
  rcases Int.le_total 0 z with h | h
  ·have : 1 * z ≤ g * z := UT (by omega) h
   have := Int.natCast_nonneg (2 ^ k)
   omega
  ·have : g * z ≤ 1 * z := Int.mul_le_mul_of_nonpos_right (by omega) h
   have := Int.natCast_nonneg (2 ^ k)
   omega
 exact ⟨⟨⟨q hn.h.1, q hn.h.2.1, q hn.h.2.2⟩⟩, q hd⟩
theorem L7 : ∀ (w : List Int) (l : List Pt), w.length = l.length → bd l = true → (∀ z ∈ w, sm 190 z) → PtB (218 + l.length) (bB w l)
 | [], [], _, _, _ => ⟨⟨mt, mt, mt⟩⟩
 | x :: w, p :: l, hl, ho, hw => by
  simp only [aP] at ho
  have h1 := L7 w l (by simpa using hl) ho.2 (fun z hz => hw z (by simp [hz]))
  have hp := PtB.of ho.1
  have hx := hw x (by simp)
  have q : ∀ {u v : Int}, sm 28 u → sm (218 + l.length) v → sm (218 + (l.length + 1)) (x * u + v) := fun {u v} hu hv => kj (aW (cP hx hu) (Nat.le_add_right 218 _)) hv
  exact ⟨⟨q hp.h.1 h1.h.1, q hp.h.2.1 h1.h.2.1, q hp.h.2.2 h1.h.2.2⟩⟩
 | [], _ :: _, h, _, _ => by simp at h
 | _ :: _, [], h, _, _ => by simp at h
theorem OE {l S : List Pt} (hok : bd l = true) (hl : l.length < 1000000000) (hS : bd S = true) (hi : ind S) :
  ∃ (b : Bool) (N : Pt) (D : Int), ao (pcs l) l.length (pcs S) S.length = some (cond b (N.1, N.2.1, N.2.2, D, true) (0, 0, 0, 0, false)) ∧ (b = true ↔ GU l S) ∧ (b = true → Prim (bp S) (wts S).2 N D ∧ PtB 240 N ∧ sm 190 D) := by
 obtain ⟨h1, h4⟩ := C6 hi
 obtain ⟨f1, f2⟩ := L3 hS h1 h4
 obtain ⟨s1, s2⟩ := Fp S h1 h4
 have hd := oR hi
 have hw := OC hS h1 h4
 have hL3 := Tk f2 (by omega) (pcs l) l.length (pcs S) S.length (wcs [(wts S).2])
 have zero : ∀ x, ao (pcs l) l.length (pcs S) S.length = Option.bind (some x) some → True := fun _ _ => trivial
 have fin0 : dF (pcs l) l.length (pcs S) S.length = some (0, 0, 0, 0, 0, 0, 0, 0, 0, 0, 0, 0, 0, 0, 0, 0, 0, 0, 0, 0, 0, 0, 0, 0, 0, 0, 0, 0, 0, 0, 0, 0, false) → ao (pcs l) l.length (pcs S) S.length = some (0, 0, 0, 0, false) := by
  intro e
  unfold ao
  rw [e]
  rfl
 have hL3' : jN (pcs l, l.length, pcs S, S.length, wcs (wts S).1, S.length, ([.int .u64 (aa (wts S).2 0), .int .u64 (aa (wts S).2 1), .int .u64 (aa (wts S).2 2), .int .u64 (aa (wts S).2 3), .int .u64 (aa (wts S).2 4), .int .u64 (aa (wts S).2 5), .int .u64 (aa (wts S).2 6), .int .u64 (aa (wts S).2 7)] : LA_), 1, ((S.length : Nat) : Int)) 0 = some (cond ((wts S).1.all fun z => decide (0 < z)) (.inr ()) (.inl ())) := by
  rw [s2] at hL3
  exact hL3
 cases hpos : (wts S).1.all fun z => decide (0 < z) with
 | false =>
  refine ⟨false, (0, 0, 0), 0, fin0 ?_, ⟨fun h => (by cases h), fun h => ?_⟩, fun h => (by cases h)⟩
  ·unfold dF
   unfold v8 aY
   rw [hw, Uy]
   simp only
   rw [hL3', hpos]
   rfl
  ·exfalso
   have : ((wts S).1.all fun z => decide (0 < z)) = true := List.all_eq_true.2 fun z hz => by simpa using h.1 z hz
   rw [hpos] at this
   cases this
 | true =>
  have hp : ∀ x ∈ (wts S).1, 0 < x := fun x hx => by simpa using List.all_eq_true.1 hpos x hx
  obtain ⟨N, D, hP, hZ⟩ := TX s2 hS f2 h4 hd f1
  have hn : PtB 240 (bp S) := by
   have h := L7 (wts S).1 S s2 hS f2
   exact ⟨⟨aW h.h.1 (by omega), aW h.h.2.1 (by omega), aW h.h.2.2 (by omega)⟩⟩
  obtain ⟨hN, hD⟩ := hP.sm hn f1
  have hL10 := Tl hN hD hok hl
  have hst := Nst.of hi hp
  have hpast : ∀ p, iE N D p = true ↔ ae p (bp S) < ae (S.headD (0, 0, 0)) (bp S) := fun p => hP.Nb hd hst.sq
  have hall : (l.all fun p => !iE N D p) = true ↔ rG l S := by
   rw [List.all_eq_true]
   constructor
   ·intro h p hpl
    have := h p hpl
    rw [Bool.not_eq_true'] at this
    rcases Int.lt_or_le (ae p (bp S)) (ae (S.headD (0, 0, 0)) (bp S)) with q | q
    ·rw [(hpast p).2 q] at this; cases this
    ·exact q
   ·intro h p hpl
    cases hb : iE N D p with
    | false => rfl
    | true => have := (hpast p).1 hb; have := h p hpl; omega
  have F : dF (pcs l) l.length (pcs S) S.length = (Sum.elim (fun _ => some (0, 0, 0, 0, 0, 0, 0, 0, 0, 0, 0, 0, 0, 0, 0, 0, 0, 0, 0, 0, 0, 0, 0, 0, 0, 0, 0, 0, 0, 0, 0, 0, false)) (fun _ => some (aa N.1 0, aa N.1 1, aa N.1 2, aa N.1 3, aa N.1 4, aa N.1 5, aa N.1 6, aa N.1 7, aa N.2.1 0, aa N.2.1 1, aa N.2.1 2, aa N.2.1 3, aa N.2.1 4, aa N.2.1 5, aa N.2.1 6, aa N.2.1 7, aa N.2.2 0, aa N.2.2 1, aa N.2.2 2, aa N.2.2 3, aa N.2.2 4, aa N.2.2 5, aa N.2.2 6, aa N.2.2 7, aa D 0, aa D 1, aa D 2, aa D 3, aa D 4, aa D 5, aa D 6, aa D 7, true)) (cond (l.all fun p => !iE N D p) (Sum.inr () : Unit ⊕ Unit) (.inl ()))) := by
   unfold dF
   unfold v8 aY
   rw [hw, Uy]
   simp only
   rw [hL3', hpos]
   simp only [cond_true, Uy, UY]
   rw [s2] at hZ
   rw [hZ, Uy]
   simp only
   rw [hL10, Uy]
  cases hb : l.all fun p => !iE N D p with
  | false =>
   rw [hb] at F hall
   refine ⟨false, (0, 0, 0), 0, fin0 F, ⟨fun h => (by cases h), fun h => ?_⟩, fun h => (by cases h)⟩
   have := hall.2 h.2
   cases this
  | true =>
   rw [hb] at F hall
   refine ⟨true, N, D, ?_, ⟨fun _ => ⟨hp, hall.1 rfl⟩, fun _ => rfl⟩, fun _ => ⟨hP, hN, hD⟩⟩
   unfold ao
   rw [F]
   simp only [cond_true, UY, Uy, bA, UF, aw]
   rw [aI (bf hN.h.1 (by decide)), aI (bf hN.h.2.1 (by decide)), aI (bf hN.h.2.2 (by decide)), aI (bf hD (by decide))]
abbrev ri := (I8 (I8 (I8 (I8 (Int × LA_ × Nat)))))
def pv : CH := (CH.add 26 eL (CH.add 11 gW CH.none))
def qL : CH := uJ U2 iQ [25, 43, 64, 82] 600 pv 5
theorem vU : aG U2 pv := (CH.ak ga (CH.ak jG CH.aF))
theorem xe : aG U2 qL := ik aJ mixed bK vU 5
def jJ (u0 u1 u2 : Int) : Option (ri) :=
 (Option.bind (aA ([.int .i64 u0, .int .i64 u1, .int .i64 u2] : LA_) 1) fun r1 => (cond (r1.2 != 0) (some (0, 0, 0, 0, 0, 0, 0, 0, 0, 0, 0, 0, 0, 0, 0, 0, 0, 0, 0, 0, 0, 0, 0, 0, 0, 0, 0, 0, 0, 0, 0, 0, r1.2, ([] : LA_), 0)) (Option.bind (Option.bind (aA ([.int .i64 u0, .int .i64 u1, .int .i64 u2] : LA_) 1) fun r2 => (cond (r2.1 != 0) (some (true, fun _ => 0)) (Option.bind (ao ([.int .i64 u0, .int .i64 u1, .int .i64 u2] : LA_) 1 ([.int .i64 u0, .int .i64 u1, .int .i64 u2] : LA_) 1) fun r3 => (cond r3.2.2.2.2 (some (false, fun i => ac (li8 r3.1 (li8 r3.2.1 (li8 r3.2.2.1 (li8 r3.2.2.2.1 [.vec 8])))) i)) (some (true, fun _ => 0)))))) fun q4 => (cond q4.1 (some (0, 0, 0, 0, 0, 0, 0, 0, 0, 0, 0, 0, 0, 0, 0, 0, 0, 0, 0, 0, 0, 0, 0, 0, 0, 0, 0, 0, 0, 0, 0, 0, 2, ([] : LA_), 0)) (some (fE q4.2 (0, ([.int .i64 0] : LA_), 1)))))))
def lh : FD where
 X := ri
 k := 1
 pre := [(33000002, 1)]
 F := fun s => [0, nameAt s 0 [.c 0, .c 32]]
 M := .tup [.agg (rl (.int .u64) 32 [.vec 1]), .int .i64]
 B := [.vec 1 true]
 toL := fun x => [.I x.1, .I x.2.1, .I x.2.2.1, .I x.2.2.2.1, .I x.s4.1, .I x.s4.2.1, .I x.s4.2.2.1, .I x.s4.2.2.2.1, .I x.s8.1, .I x.s8.2.1, .I x.s8.2.2.1, .I x.s8.2.2.2.1, .I x.s8.s4.1, .I x.s8.s4.2.1, .I x.s8.s4.2.2.1, .I x.s8.s4.2.2.2.1, .I x.s16.1, .I x.s16.2.1, .I x.s16.2.2.1, .I x.s16.2.2.2.1, .I x.s16.s4.1, .I x.s16.s4.2.1, .I x.s16.s4.2.2.1, .I x.s16.s4.2.2.2.1, .I x.s16.s8.1, .I x.s16.s8.2.1, .I x.s16.s8.2.2.1, .I x.s16.s8.2.2.2.1, .I x.s16.s8.s4.1, .I x.s16.s8.s4.2.1, .I x.s16.s8.s4.2.2.1, .I x.s16.s8.s4.2.2.2.1, .I x.s16.s16.1, .C x.s16.s16.2.1, .N x.s16.s16.2.2]
 ofL := fun ls => match ls with
  | (.I x0 :: .I x1 :: .I x2 :: .I x3 :: .I x4 :: .I x5 :: .I x6 :: .I x7 :: .I x8 :: .I x9 :: .I x10 :: .I x11 :: .I x12 :: .I x13 :: .I x14 :: .I x15 :: .I x16 :: .I x17 :: .I x18 :: .I x19 :: .I x20 :: .I x21 :: .I x22 :: .I x23 :: .I x24 :: .I x25 :: .I x26 :: .I x27 :: .I x28 :: .I x29 :: .I x30 :: .I x31 :: .I x32 :: .C x33 :: .N x34 :: []) => some (x0, x1, x2, x3, x4, x5, x6, x7, x8, x9, x10, x11, x12, x13, x14, x15, x16, x17, x18, x19, x20, x21, x22, x23, x24, x25, x26, x27, x28, x29, x30, x31, x32, x33, x34)
  | _ => none
 au := fun ls x h => by
  split at h
  ·cases h; rfl
  ·cases h
theorem zj (u0 u1 u2 : Int) (x : ri) (h : jJ u0 u1 u2 = some x) : bg U2 12 1 [.vec 0] [.vec [.int .i64 u0, .int .i64 u1, .int .i64 u2] 1 3 false] lh x :=
 FD.Mt (il := fun _ => false) (ro := 2) (m := 32) (ch := qL) (fn := Try.f12) (c := bu Try.f12) (fuel := 600) aJ xe mixed bK lh Try.func12 (by kernel_rfl)
  (by kernel_rfl) (Eq.trans (by kernel_rfl) h)
abbrev rk := (I8 (I8 (I8 (I8 (Int × LA_ × Nat)))))
def pw : CH := (CH.add 26 eL (CH.add 11 gW CH.none))
def qM : CH := uJ U2 iQ [25, 43, 64, 82] 600 pw 5
theorem vV : aG U2 pw := (CH.ak ga (CH.ak jG CH.aF))
theorem xf : aG U2 qM := ik aJ mixed bK vV 5
def jK (u0 u1 u2 u3 u4 u5 : Int) : Option (rk) :=
 (Option.bind (aA ([.int .i64 u0, .int .i64 u1, .int .i64 u2, .int .i64 u3, .int .i64 u4, .int .i64 u5] : LA_) 2) fun r1 => (cond (r1.2 != 0) (some (0, 0, 0, 0, 0, 0, 0, 0, 0, 0, 0, 0, 0, 0, 0, 0, 0, 0, 0, 0, 0, 0, 0, 0, 0, 0, 0, 0, 0, 0, 0, 0, r1.2, ([] : LA_), 0)) (Option.bind (Option.bind (aA ([.int .i64 u0, .int .i64 u1, .int .i64 u2] : LA_) 1) fun r2 => (cond (r2.1 != 0) (some (true, fun _ => 0)) (Option.bind (ao ([.int .i64 u0, .int .i64 u1, .int .i64 u2, .int .i64 u3, .int .i64 u4, .int .i64 u5] : LA_) 2 ([.int .i64 u0, .int .i64 u1, .int .i64 u2] : LA_) 1) fun r3 => (cond r3.2.2.2.2 (some (false, fun i => ac (li8 r3.1 (li8 r3.2.1 (li8 r3.2.2.1 (li8 r3.2.2.2.1 [.vec 8])))) i)) (some (true, fun _ => 0)))))) fun q4 => (cond q4.1 (Option.bind (Option.bind (aA ([.int .i64 u3, .int .i64 u4, .int .i64 u5] : LA_) 1) fun r5 => (cond (r5.1 != 0) (some (true, fun _ => 0)) (Option.bind (ao ([.int .i64 u0, .int .i64 u1, .int .i64 u2, .int .i64 u3, .int .i64 u4, .int .i64 u5] : LA_) 2 ([.int .i64 u3, .int .i64 u4, .int .i64 u5] : LA_) 1) fun r6 => (cond r6.2.2.2.2 (some (false, fun i => ac (li8 r6.1 (li8 r6.2.1 (li8 r6.2.2.1 (li8 r6.2.2.2.1 [.vec 12])))) i)) (some (true, fun _ => 0)))))) fun q7 => (cond q7.1 (Option.bind (Option.bind (aA ([.int .i64 u0, .int .i64 u1, .int .i64 u2, .int .i64 u3, .int .i64 u4, .int .i64 u5] : LA_) 2) fun r8 => (cond (r8.1 != 1) (some (true, fun _ => 0)) (Option.bind (ao ([.int .i64 u0, .int .i64 u1, .int .i64 u2, .int .i64 u3, .int .i64 u4, .int .i64 u5] : LA_) 2 ([.int .i64 u0, .int .i64 u1, .int .i64 u2, .int .i64 u3, .int .i64 u4, .int .i64 u5] : LA_) 2) fun r9 => (cond r9.2.2.2.2 (some (false, fun i => ac (li8 r9.1 (li8 r9.2.1 (li8 r9.2.2.1 (li8 r9.2.2.2.1 [.vec 18])))) i)) (some (true, fun _ => 0)))))) fun q10 => (cond q10.1 (some (0, 0, 0, 0, 0, 0, 0, 0, 0, 0, 0, 0, 0, 0, 0, 0, 0, 0, 0, 0, 0, 0, 0, 0, 0, 0, 0, 0, 0, 0, 0, 0, 2, ([] : LA_), 0)) (some (fE q10.2 (0, ([.int .i64 0, .int .i64 1] : LA_), 2))))) (some (fE q7.2 (0, ([.int .i64 1] : LA_), 1))))) (some (fE q4.2 (0, ([.int .i64 0] : LA_), 1)))))))
def sd : FD where
 X := rk
 k := 1
 pre := [(33000002, 1)]
 F := fun s => [0, nameAt s 0 [.c 0, .c 32]]
 M := .tup [.agg (rl (.int .u64) 32 [.vec 1]), .int .i64]
 B := [.vec 1 true]
 toL := fun x => [.I x.1, .I x.2.1, .I x.2.2.1, .I x.2.2.2.1, .I x.s4.1, .I x.s4.2.1, .I x.s4.2.2.1, .I x.s4.2.2.2.1, .I x.s8.1, .I x.s8.2.1, .I x.s8.2.2.1, .I x.s8.2.2.2.1, .I x.s8.s4.1, .I x.s8.s4.2.1, .I x.s8.s4.2.2.1, .I x.s8.s4.2.2.2.1, .I x.s16.1, .I x.s16.2.1, .I x.s16.2.2.1, .I x.s16.2.2.2.1, .I x.s16.s4.1, .I x.s16.s4.2.1, .I x.s16.s4.2.2.1, .I x.s16.s4.2.2.2.1, .I x.s16.s8.1, .I x.s16.s8.2.1, .I x.s16.s8.2.2.1, .I x.s16.s8.2.2.2.1, .I x.s16.s8.s4.1, .I x.s16.s8.s4.2.1, .I x.s16.s8.s4.2.2.1, .I x.s16.s8.s4.2.2.2.1, .I x.s16.s16.1, .C x.s16.s16.2.1, .N x.s16.s16.2.2]
 ofL := fun ls => match ls with
  | (.I x0 :: .I x1 :: .I x2 :: .I x3 :: .I x4 :: .I x5 :: .I x6 :: .I x7 :: .I x8 :: .I x9 :: .I x10 :: .I x11 :: .I x12 :: .I x13 :: .I x14 :: .I x15 :: .I x16 :: .I x17 :: .I x18 :: .I x19 :: .I x20 :: .I x21 :: .I x22 :: .I x23 :: .I x24 :: .I x25 :: .I x26 :: .I x27 :: .I x28 :: .I x29 :: .I x30 :: .I x31 :: .I x32 :: .C x33 :: .N x34 :: []) => some (x0, x1, x2, x3, x4, x5, x6, x7, x8, x9, x10, x11, x12, x13, x14, x15, x16, x17, x18, x19, x20, x21, x22, x23, x24, x25, x26, x27, x28, x29, x30, x31, x32, x33, x34)
  | _ => none
 au := fun ls x h => by
  split at h
  ·cases h; rfl
  ·cases h
theorem zk (u0 u1 u2 u3 u4 u5 : Int) (x : rk) (h : jK u0 u1 u2 u3 u4 u5 = some x) : bg U2 12 1 [.vec 0] [.vec [.int .i64 u0, .int .i64 u1, .int .i64 u2, .int .i64 u3, .int .i64 u4, .int .i64 u5] 2 3 false] sd x :=
 FD.Mt (il := fun _ => false) (ro := 2) (m := 32) (ch := qM) (fn := Try.f12) (c := bu Try.f12) (fuel := 600) aJ xf mixed bK sd Try.func12 (by kernel_rfl)
  (by kernel_rfl) (Eq.trans (by kernel_rfl) h)
abbrev rm := (I8 (I8 (I8 (I8 (Int × LA_ × Nat)))))
def pz : CH := (CH.add 26 eL (CH.add 11 gW CH.none))
def qN : CH := uJ U2 iQ [25, 43, 64, 82] 600 pz 5
theorem vW : aG U2 pz := (CH.ak ga (CH.ak jG CH.aF))
theorem xh : aG U2 qN := ik aJ mixed bK vW 5
def jL (u0 u1 u2 u3 u4 u5 u6 u7 u8 : Int) : Option (rm) :=
 (Option.bind (aA ([.int .i64 u0, .int .i64 u1, .int .i64 u2, .int .i64 u3, .int .i64 u4, .int .i64 u5, .int .i64 u6, .int .i64 u7, .int .i64 u8] : LA_) 3) fun r1 => (cond (r1.2 != 0) (some (0, 0, 0, 0, 0, 0, 0, 0, 0, 0, 0, 0, 0, 0, 0, 0, 0, 0, 0, 0, 0, 0, 0, 0, 0, 0, 0, 0, 0, 0, 0, 0, r1.2, ([] : LA_), 0)) (Option.bind (Option.bind (aA ([.int .i64 u0, .int .i64 u1, .int .i64 u2] : LA_) 1) fun r2 => (cond (r2.1 != 0) (some (true, fun _ => 0)) (Option.bind (ao ([.int .i64 u0, .int .i64 u1, .int .i64 u2, .int .i64 u3, .int .i64 u4, .int .i64 u5, .int .i64 u6, .int .i64 u7, .int .i64 u8] : LA_) 3 ([.int .i64 u0, .int .i64 u1, .int .i64 u2] : LA_) 1) fun r3 => (cond r3.2.2.2.2 (some (false, fun i => ac (li8 r3.1 (li8 r3.2.1 (li8 r3.2.2.1 (li8 r3.2.2.2.1 [.vec 8])))) i)) (some (true, fun _ => 0)))))) fun q4 => (cond q4.1 (Option.bind (Option.bind (aA ([.int .i64 u3, .int .i64 u4, .int .i64 u5] : LA_) 1) fun r5 => (cond (r5.1 != 0) (some (true, fun _ => 0)) (Option.bind (ao ([.int .i64 u0, .int .i64 u1, .int .i64 u2, .int .i64 u3, .int .i64 u4, .int .i64 u5, .int .i64 u6, .int .i64 u7, .int .i64 u8] : LA_) 3 ([.int .i64 u3, .int .i64 u4, .int .i64 u5] : LA_) 1) fun r6 => (cond r6.2.2.2.2 (some (false, fun i => ac (li8 r6.1 (li8 r6.2.1 (li8 r6.2.2.1 (li8 r6.2.2.2.1 [.vec 12])))) i)) (some (true, fun _ => 0)))))) fun q7 => (cond q7.1 (Option.bind (Option.bind (aA ([.int .i64 u6, .int .i64 u7, .int .i64 u8] : LA_) 1) fun r8 => (cond (r8.1 != 0) (some (true, fun _ => 0)) (Option.bind (ao ([.int .i64 u0, .int .i64 u1, .int .i64 u2, .int .i64 u3, .int .i64 u4, .int .i64 u5, .int .i64 u6, .int .i64 u7, .int .i64 u8] : LA_) 3 ([.int .i64 u6, .int .i64 u7, .int .i64 u8] : LA_) 1) fun r9 => (cond r9.2.2.2.2 (some (false, fun i => ac (li8 r9.1 (li8 r9.2.1 (li8 r9.2.2.1 (li8 r9.2.2.2.1 [.vec 16])))) i)) (some (true, fun _ => 0)))))) fun q10 => (cond q10.1 (Option.bind (Option.bind (aA ([.int .i64 u0, .int .i64 u1, .int .i64 u2, .int .i64 u3, .int .i64 u4, .int .i64 u5] : LA_) 2) fun r11 => (cond (r11.1 != 1) (some (true, fun _ => 0)) (Option.bind (ao ([.int .i64 u0, .int .i64 u1, .int .i64 u2, .int .i64 u3, .int .i64 u4, .int .i64 u5, .int .i64 u6, .int .i64 u7, .int .i64 u8] : LA_) 3 ([.int .i64 u0, .int .i64 u1, .int .i64 u2, .int .i64 u3, .int .i64 u4, .int .i64 u5] : LA_) 2) fun r12 => (cond r12.2.2.2.2 (some (false, fun i => ac (li8 r12.1 (li8 r12.2.1 (li8 r12.2.2.1 (li8 r12.2.2.2.1 [.vec 22])))) i)) (some (true, fun _ => 0)))))) fun q13 => (cond q13.1 (Option.bind (Option.bind (aA ([.int .i64 u0, .int .i64 u1, .int .i64 u2, .int .i64 u6, .int .i64 u7, .int .i64 u8] : LA_) 2) fun r14 => (cond (r14.1 != 1) (some (true, fun _ => 0)) (Option.bind (ao ([.int .i64 u0, .int .i64 u1, .int .i64 u2, .int .i64 u3, .int .i64 u4, .int .i64 u5, .int .i64 u6, .int .i64 u7, .int .i64 u8] : LA_) 3 ([.int .i64 u0, .int .i64 u1, .int .i64 u2, .int .i64 u6, .int .i64 u7, .int .i64 u8] : LA_) 2) fun r15 => (cond r15.2.2.2.2 (some (false, fun i => ac (li8 r15.1 (li8 r15.2.1 (li8 r15.2.2.1 (li8 r15.2.2.2.1 [.vec 28])))) i)) (some (true, fun _ => 0)))))) fun q16 => (cond q16.1 (Option.bind (Option.bind (aA ([.int .i64 u3, .int .i64 u4, .int .i64 u5, .int .i64 u6, .int .i64 u7, .int .i64 u8] : LA_) 2) fun r17 => (cond (r17.1 != 1) (some (true, fun _ => 0)) (Option.bind (ao ([.int .i64 u0, .int .i64 u1, .int .i64 u2, .int .i64 u3, .int .i64 u4, .int .i64 u5, .int .i64 u6, .int .i64 u7, .int .i64 u8] : LA_) 3 ([.int .i64 u3, .int .i64 u4, .int .i64 u5, .int .i64 u6, .int .i64 u7, .int .i64 u8] : LA_) 2) fun r18 => (cond r18.2.2.2.2 (some (false, fun i => ac (li8 r18.1 (li8 r18.2.1 (li8 r18.2.2.1 (li8 r18.2.2.2.1 [.vec 34])))) i)) (some (true, fun _ => 0)))))) fun q19 => (cond q19.1 (Option.bind (Option.bind (aA ([.int .i64 u0, .int .i64 u1, .int .i64 u2, .int .i64 u3, .int .i64 u4, .int .i64 u5, .int .i64 u6, .int .i64 u7, .int .i64 u8] : LA_) 3) fun r20 => (cond (r20.1 != 2) (some (true, fun _ => 0)) (Option.bind (ao ([.int .i64 u0, .int .i64 u1, .int .i64 u2, .int .i64 u3, .int .i64 u4, .int .i64 u5, .int .i64 u6, .int .i64 u7, .int .i64 u8] : LA_) 3 ([.int .i64 u0, .int .i64 u1, .int .i64 u2, .int .i64 u3, .int .i64 u4, .int .i64 u5, .int .i64 u6, .int .i64 u7, .int .i64 u8] : LA_) 3) fun r21 => (cond r21.2.2.2.2 (some (false, fun i => ac (li8 r21.1 (li8 r21.2.1 (li8 r21.2.2.1 (li8 r21.2.2.2.1 [.vec 42])))) i)) (some (true, fun _ => 0)))))) fun q22 => (cond q22.1 (some (0, 0, 0, 0, 0, 0, 0, 0, 0, 0, 0, 0, 0, 0, 0, 0, 0, 0, 0, 0, 0, 0, 0, 0, 0, 0, 0, 0, 0, 0, 0, 0, 2, ([] : LA_), 0)) (some (fE q22.2 (0, ([.int .i64 0, .int .i64 1, .int .i64 2] : LA_), 3))))) (some (fE q19.2 (0, ([.int .i64 1, .int .i64 2] : LA_), 2))))) (some (fE q16.2 (0, ([.int .i64 0, .int .i64 2] : LA_), 2))))) (some (fE q13.2 (0, ([.int .i64 0, .int .i64 1] : LA_), 2))))) (some (fE q10.2 (0, ([.int .i64 2] : LA_), 1))))) (some (fE q7.2 (0, ([.int .i64 1] : LA_), 1))))) (some (fE q4.2 (0, ([.int .i64 0] : LA_), 1)))))))
def se : FD where
 X := rm
 k := 1
 pre := [(33000002, 1)]
 F := fun s => [0, nameAt s 0 [.c 0, .c 32]]
 M := .tup [.agg (rl (.int .u64) 32 [.vec 1]), .int .i64]
 B := [.vec 1 true]
 toL := fun x => [.I x.1, .I x.2.1, .I x.2.2.1, .I x.2.2.2.1, .I x.s4.1, .I x.s4.2.1, .I x.s4.2.2.1, .I x.s4.2.2.2.1, .I x.s8.1, .I x.s8.2.1, .I x.s8.2.2.1, .I x.s8.2.2.2.1, .I x.s8.s4.1, .I x.s8.s4.2.1, .I x.s8.s4.2.2.1, .I x.s8.s4.2.2.2.1, .I x.s16.1, .I x.s16.2.1, .I x.s16.2.2.1, .I x.s16.2.2.2.1, .I x.s16.s4.1, .I x.s16.s4.2.1, .I x.s16.s4.2.2.1, .I x.s16.s4.2.2.2.1, .I x.s16.s8.1, .I x.s16.s8.2.1, .I x.s16.s8.2.2.1, .I x.s16.s8.2.2.2.1, .I x.s16.s8.s4.1, .I x.s16.s8.s4.2.1, .I x.s16.s8.s4.2.2.1, .I x.s16.s8.s4.2.2.2.1, .I x.s16.s16.1, .C x.s16.s16.2.1, .N x.s16.s16.2.2]
 ofL := fun ls => match ls with
  | (.I x0 :: .I x1 :: .I x2 :: .I x3 :: .I x4 :: .I x5 :: .I x6 :: .I x7 :: .I x8 :: .I x9 :: .I x10 :: .I x11 :: .I x12 :: .I x13 :: .I x14 :: .I x15 :: .I x16 :: .I x17 :: .I x18 :: .I x19 :: .I x20 :: .I x21 :: .I x22 :: .I x23 :: .I x24 :: .I x25 :: .I x26 :: .I x27 :: .I x28 :: .I x29 :: .I x30 :: .I x31 :: .I x32 :: .C x33 :: .N x34 :: []) => some (x0, x1, x2, x3, x4, x5, x6, x7, x8, x9, x10, x11, x12, x13, x14, x15, x16, x17, x18, x19, x20, x21, x22, x23, x24, x25, x26, x27, x28, x29, x30, x31, x32, x33, x34)
  | _ => none
 au := fun ls x h => by
  split at h
  ·cases h; rfl
  ·cases h
theorem zm (u0 u1 u2 u3 u4 u5 u6 u7 u8 : Int) (x : rm) (h : jL u0 u1 u2 u3 u4 u5 u6 u7 u8 = some x) : bg U2 12 1 [.vec 0] [.vec [.int .i64 u0, .int .i64 u1, .int .i64 u2, .int .i64 u3, .int .i64 u4, .int .i64 u5, .int .i64 u6, .int .i64 u7, .int .i64 u8] 3 3 false] se x :=
 FD.Mt (il := fun _ => false) (ro := 2) (m := 32) (ch := qN) (fn := Try.f12) (c := bu Try.f12) (fuel := 600) aJ xh mixed bK se Try.func12 (by kernel_rfl)
  (by kernel_rfl) (Eq.trans (by kernel_rfl) h)
abbrev rp := (I8 (I8 (I8 (I8 (Int × LA_ × Nat)))))
def pA : CH := (CH.add 26 eL (CH.add 11 gW CH.none))
def qO : CH := uJ U2 iQ [25, 43, 64, 82] 600 pA 5
theorem vX : aG U2 pA := (CH.ak ga (CH.ak jG CH.aF))
theorem xj : aG U2 qO := ik aJ mixed bK vX 5
def jM (u0 u1 u2 u3 u4 u5 u6 u7 u8 u9 u10 u11 : Int) : Option (rp) :=
 (Option.bind (aA ([.int .i64 u0, .int .i64 u1, .int .i64 u2, .int .i64 u3, .int .i64 u4, .int .i64 u5, .int .i64 u6, .int .i64 u7, .int .i64 u8, .int .i64 u9, .int .i64 u10, .int .i64 u11] : LA_) 4) fun r1 => (cond (r1.2 != 0) (some (0, 0, 0, 0, 0, 0, 0, 0, 0, 0, 0, 0, 0, 0, 0, 0, 0, 0, 0, 0, 0, 0, 0, 0, 0, 0, 0, 0, 0, 0, 0, 0, r1.2, ([] : LA_), 0)) (Option.bind (Option.bind (aA ([.int .i64 u0, .int .i64 u1, .int .i64 u2] : LA_) 1) fun r2 => (cond (r2.1 != 0) (some (true, fun _ => 0)) (Option.bind (ao ([.int .i64 u0, .int .i64 u1, .int .i64 u2, .int .i64 u3, .int .i64 u4, .int .i64 u5, .int .i64 u6, .int .i64 u7, .int .i64 u8, .int .i64 u9, .int .i64 u10, .int .i64 u11] : LA_) 4 ([.int .i64 u0, .int .i64 u1, .int .i64 u2] : LA_) 1) fun r3 => (cond r3.2.2.2.2 (some (false, fun i => ac (li8 r3.1 (li8 r3.2.1 (li8 r3.2.2.1 (li8 r3.2.2.2.1 [.vec 8])))) i)) (some (true, fun _ => 0)))))) fun q4 => (cond q4.1 (Option.bind (Option.bind (aA ([.int .i64 u3, .int .i64 u4, .int .i64 u5] : LA_) 1) fun r5 => (cond (r5.1 != 0) (some (true, fun _ => 0)) (Option.bind (ao ([.int .i64 u0, .int .i64 u1, .int .i64 u2, .int .i64 u3, .int .i64 u4, .int .i64 u5, .int .i64 u6, .int .i64 u7, .int .i64 u8, .int .i64 u9, .int .i64 u10, .int .i64 u11] : LA_) 4 ([.int .i64 u3, .int .i64 u4, .int .i64 u5] : LA_) 1) fun r6 => (cond r6.2.2.2.2 (some (false, fun i => ac (li8 r6.1 (li8 r6.2.1 (li8 r6.2.2.1 (li8 r6.2.2.2.1 [.vec 12])))) i)) (some (true, fun _ => 0)))))) fun q7 => (cond q7.1 (Option.bind (Option.bind (aA ([.int .i64 u6, .int .i64 u7, .int .i64 u8] : LA_) 1) fun r8 => (cond (r8.1 != 0) (some (true, fun _ => 0)) (Option.bind (ao ([.int .i64 u0, .int .i64 u1, .int .i64 u2, .int .i64 u3, .int .i64 u4, .int .i64 u5, .int .i64 u6, .int .i64 u7, .int .i64 u8, .int .i64 u9, .int .i64 u10, .int .i64 u11] : LA_) 4 ([.int .i64 u6, .int .i64 u7, .int .i64 u8] : LA_) 1) fun r9 => (cond r9.2.2.2.2 (some (false, fun i => ac (li8 r9.1 (li8 r9.2.1 (li8 r9.2.2.1 (li8 r9.2.2.2.1 [.vec 16])))) i)) (some (true, fun _ => 0)))))) fun q10 => (cond q10.1 (Option.bind (Option.bind (aA ([.int .i64 u9, .int .i64 u10, .int .i64 u11] : LA_) 1) fun r11 => (cond (r11.1 != 0) (some (true, fun _ => 0)) (Option.bind (ao ([.int .i64 u0, .int .i64 u1, .int .i64 u2, .int .i64 u3, .int .i64 u4, .int .i64 u5, .int .i64 u6, .int .i64 u7, .int .i64 u8, .int .i64 u9, .int .i64 u10, .int .i64 u11] : LA_) 4 ([.int .i64 u9, .int .i64 u10, .int .i64 u11] : LA_) 1) fun r12 => (cond r12.2.2.2.2 (some (false, fun i => ac (li8 r12.1 (li8 r12.2.1 (li8 r12.2.2.1 (li8 r12.2.2.2.1 [.vec 20])))) i)) (some (true, fun _ => 0)))))) fun q13 => (cond q13.1 (Option.bind (Option.bind (aA ([.int .i64 u0, .int .i64 u1, .int .i64 u2, .int .i64 u3, .int .i64 u4, .int .i64 u5] : LA_) 2) fun r14 => (cond (r14.1 != 1) (some (true, fun _ => 0)) (Option.bind (ao ([.int .i64 u0, .int .i64 u1, .int .i64 u2, .int .i64 u3, .int .i64 u4, .int .i64 u5, .int .i64 u6, .int .i64 u7, .int .i64 u8, .int .i64 u9, .int .i64 u10, .int .i64 u11] : LA_) 4 ([.int .i64 u0, .int .i64 u1, .int .i64 u2, .int .i64 u3, .int .i64 u4, .int .i64 u5] : LA_) 2) fun r15 => (cond r15.2.2.2.2 (some (false, fun i => ac (li8 r15.1 (li8 r15.2.1 (li8 r15.2.2.1 (li8 r15.2.2.2.1 [.vec 26])))) i)) (some (true, fun _ => 0)))))) fun q16 => (cond q16.1 (Option.bind (Option.bind (aA ([.int .i64 u0, .int .i64 u1, .int .i64 u2, .int .i64 u6, .int .i64 u7, .int .i64 u8] : LA_) 2) fun r17 => (cond (r17.1 != 1) (some (true, fun _ => 0)) (Option.bind (ao ([.int .i64 u0, .int .i64 u1, .int .i64 u2, .int .i64 u3, .int .i64 u4, .int .i64 u5, .int .i64 u6, .int .i64 u7, .int .i64 u8, .int .i64 u9, .int .i64 u10, .int .i64 u11] : LA_) 4 ([.int .i64 u0, .int .i64 u1, .int .i64 u2, .int .i64 u6, .int .i64 u7, .int .i64 u8] : LA_) 2) fun r18 => (cond r18.2.2.2.2 (some (false, fun i => ac (li8 r18.1 (li8 r18.2.1 (li8 r18.2.2.1 (li8 r18.2.2.2.1 [.vec 32])))) i)) (some (true, fun _ => 0)))))) fun q19 => (cond q19.1 (Option.bind (Option.bind (aA ([.int .i64 u0, .int .i64 u1, .int .i64 u2, .int .i64 u9, .int .i64 u10, .int .i64 u11] : LA_) 2) fun r20 => (cond (r20.1 != 1) (some (true, fun _ => 0)) (Option.bind (ao ([.int .i64 u0, .int .i64 u1, .int .i64 u2, .int .i64 u3, .int .i64 u4, .int .i64 u5, .int .i64 u6, .int .i64 u7, .int .i64 u8, .int .i64 u9, .int .i64 u10, .int .i64 u11] : LA_) 4 ([.int .i64 u0, .int .i64 u1, .int .i64 u2, .int .i64 u9, .int .i64 u10, .int .i64 u11] : LA_) 2) fun r21 => (cond r21.2.2.2.2 (some (false, fun i => ac (li8 r21.1 (li8 r21.2.1 (li8 r21.2.2.1 (li8 r21.2.2.2.1 [.vec 38])))) i)) (some (true, fun _ => 0)))))) fun q22 => (cond q22.1 (Option.bind (Option.bind (aA ([.int .i64 u3, .int .i64 u4, .int .i64 u5, .int .i64 u6, .int .i64 u7, .int .i64 u8] : LA_) 2) fun r23 => (cond (r23.1 != 1) (some (true, fun _ => 0)) (Option.bind (ao ([.int .i64 u0, .int .i64 u1, .int .i64 u2, .int .i64 u3, .int .i64 u4, .int .i64 u5, .int .i64 u6, .int .i64 u7, .int .i64 u8, .int .i64 u9, .int .i64 u10, .int .i64 u11] : LA_) 4 ([.int .i64 u3, .int .i64 u4, .int .i64 u5, .int .i64 u6, .int .i64 u7, .int .i64 u8] : LA_) 2) fun r24 => (cond r24.2.2.2.2 (some (false, fun i => ac (li8 r24.1 (li8 r24.2.1 (li8 r24.2.2.1 (li8 r24.2.2.2.1 [.vec 44])))) i)) (some (true, fun _ => 0)))))) fun q25 => (cond q25.1 (Option.bind (Option.bind (aA ([.int .i64 u3, .int .i64 u4, .int .i64 u5, .int .i64 u9, .int .i64 u10, .int .i64 u11] : LA_) 2) fun r26 => (cond (r26.1 != 1) (some (true, fun _ => 0)) (Option.bind (ao ([.int .i64 u0, .int .i64 u1, .int .i64 u2, .int .i64 u3, .int .i64 u4, .int .i64 u5, .int .i64 u6, .int .i64 u7, .int .i64 u8, .int .i64 u9, .int .i64 u10, .int .i64 u11] : LA_) 4 ([.int .i64 u3, .int .i64 u4, .int .i64 u5, .int .i64 u9, .int .i64 u10, .int .i64 u11] : LA_) 2) fun r27 => (cond r27.2.2.2.2 (some (false, fun i => ac (li8 r27.1 (li8 r27.2.1 (li8 r27.2.2.1 (li8 r27.2.2.2.1 [.vec 50])))) i)) (some (true, fun _ => 0)))))) fun q28 => (cond q28.1 (Option.bind (Option.bind (aA ([.int .i64 u6, .int .i64 u7, .int .i64 u8, .int .i64 u9, .int .i64 u10, .int .i64 u11] : LA_) 2) fun r29 => (cond (r29.1 != 1) (some (true, fun _ => 0)) (Option.bind (ao ([.int .i64 u0, .int .i64 u1, .int .i64 u2, .int .i64 u3, .int .i64 u4, .int .i64 u5, .int .i64 u6, .int .i64 u7, .int .i64 u8, .int .i64 u9, .int .i64 u10, .int .i64 u11] : LA_) 4 ([.int .i64 u6, .int .i64 u7, .int .i64 u8, .int .i64 u9, .int .i64 u10, .int .i64 u11] : LA_) 2) fun r30 => (cond r30.2.2.2.2 (some (false, fun i => ac (li8 r30.1 (li8 r30.2.1 (li8 r30.2.2.1 (li8 r30.2.2.2.1 [.vec 56])))) i)) (some (true, fun _ => 0)))))) fun q31 => (cond q31.1 (Option.bind (Option.bind (aA ([.int .i64 u0, .int .i64 u1, .int .i64 u2, .int .i64 u3, .int .i64 u4, .int .i64 u5, .int .i64 u6, .int .i64 u7, .int .i64 u8] : LA_) 3) fun r32 => (cond (r32.1 != 2) (some (true, fun _ => 0)) (Option.bind (ao ([.int .i64 u0, .int .i64 u1, .int .i64 u2, .int .i64 u3, .int .i64 u4, .int .i64 u5, .int .i64 u6, .int .i64 u7, .int .i64 u8, .int .i64 u9, .int .i64 u10, .int .i64 u11] : LA_) 4 ([.int .i64 u0, .int .i64 u1, .int .i64 u2, .int .i64 u3, .int .i64 u4, .int .i64 u5, .int .i64 u6, .int .i64 u7, .int .i64 u8] : LA_) 3) fun r33 => (cond r33.2.2.2.2 (some (false, fun i => ac (li8 r33.1 (li8 r33.2.1 (li8 r33.2.2.1 (li8 r33.2.2.2.1 [.vec 64])))) i)) (some (true, fun _ => 0)))))) fun q34 => (cond q34.1 (Option.bind (Option.bind (aA ([.int .i64 u0, .int .i64 u1, .int .i64 u2, .int .i64 u3, .int .i64 u4, .int .i64 u5, .int .i64 u9, .int .i64 u10, .int .i64 u11] : LA_) 3) fun r35 => (cond (r35.1 != 2) (some (true, fun _ => 0)) (Option.bind (ao ([.int .i64 u0, .int .i64 u1, .int .i64 u2, .int .i64 u3, .int .i64 u4, .int .i64 u5, .int .i64 u6, .int .i64 u7, .int .i64 u8, .int .i64 u9, .int .i64 u10, .int .i64 u11] : LA_) 4 ([.int .i64 u0, .int .i64 u1, .int .i64 u2, .int .i64 u3, .int .i64 u4, .int .i64 u5, .int .i64 u9, .int .i64 u10, .int .i64 u11] : LA_) 3) fun r36 => (cond r36.2.2.2.2 (some (false, fun i => ac (li8 r36.1 (li8 r36.2.1 (li8 r36.2.2.1 (li8 r36.2.2.2.1 [.vec 72])))) i)) (some (true, fun _ => 0)))))) fun q37 => (cond q37.1 (Option.bind (Option.bind (aA ([.int .i64 u0, .int .i64 u1, .int .i64 u2, .int .i64 u6, .int .i64 u7, .int .i64 u8, .int .i64 u9, .int .i64 u10, .int .i64 u11] : LA_) 3) fun r38 => (cond (r38.1 != 2) (some (true, fun _ => 0)) (Option.bind (ao ([.int .i64 u0, .int .i64 u1, .int .i64 u2, .int .i64 u3, .int .i64 u4, .int .i64 u5, .int .i64 u6, .int .i64 u7, .int .i64 u8, .int .i64 u9, .int .i64 u10, .int .i64 u11] : LA_) 4 ([.int .i64 u0, .int .i64 u1, .int .i64 u2, .int .i64 u6, .int .i64 u7, .int .i64 u8, .int .i64 u9, .int .i64 u10, .int .i64 u11] : LA_) 3) fun r39 => (cond r39.2.2.2.2 (some (false, fun i => ac (li8 r39.1 (li8 r39.2.1 (li8 r39.2.2.1 (li8 r39.2.2.2.1 [.vec 80])))) i)) (some (true, fun _ => 0)))))) fun q40 => (cond q40.1 (Option.bind (Option.bind (aA ([.int .i64 u3, .int .i64 u4, .int .i64 u5, .int .i64 u6, .int .i64 u7, .int .i64 u8, .int .i64 u9, .int .i64 u10, .int .i64 u11] : LA_) 3) fun r41 => (cond (r41.1 != 2) (some (true, fun _ => 0)) (Option.bind (ao ([.int .i64 u0, .int .i64 u1, .int .i64 u2, .int .i64 u3, .int .i64 u4, .int .i64 u5, .int .i64 u6, .int .i64 u7, .int .i64 u8, .int .i64 u9, .int .i64 u10, .int .i64 u11] : LA_) 4 ([.int .i64 u3, .int .i64 u4, .int .i64 u5, .int .i64 u6, .int .i64 u7, .int .i64 u8, .int .i64 u9, .int .i64 u10, .int .i64 u11] : LA_) 3) fun r42 => (cond r42.2.2.2.2 (some (false, fun i => ac (li8 r42.1 (li8 r42.2.1 (li8 r42.2.2.1 (li8 r42.2.2.2.1 [.vec 88])))) i)) (some (true, fun _ => 0)))))) fun q43 => (cond q43.1 (Option.bind (Option.bind (aA ([.int .i64 u0, .int .i64 u1, .int .i64 u2, .int .i64 u3, .int .i64 u4, .int .i64 u5, .int .i64 u6, .int .i64 u7, .int .i64 u8, .int .i64 u9, .int .i64 u10, .int .i64 u11] : LA_) 4) fun r44 => (cond (r44.1 != 3) (some (true, fun _ => 0)) (Option.bind (ao ([.int .i64 u0, .int .i64 u1, .int .i64 u2, .int .i64 u3, .int .i64 u4, .int .i64 u5, .int .i64 u6, .int .i64 u7, .int .i64 u8, .int .i64 u9, .int .i64 u10, .int .i64 u11] : LA_) 4 ([.int .i64 u0, .int .i64 u1, .int .i64 u2, .int .i64 u3, .int .i64 u4, .int .i64 u5, .int .i64 u6, .int .i64 u7, .int .i64 u8, .int .i64 u9, .int .i64 u10, .int .i64 u11] : LA_) 4) fun r45 => (cond r45.2.2.2.2 (some (false, fun i => ac (li8 r45.1 (li8 r45.2.1 (li8 r45.2.2.1 (li8 r45.2.2.2.1 [.vec 98])))) i)) (some (true, fun _ => 0)))))) fun q46 => (cond q46.1 (some (0, 0, 0, 0, 0, 0, 0, 0, 0, 0, 0, 0, 0, 0, 0, 0, 0, 0, 0, 0, 0, 0, 0, 0, 0, 0, 0, 0, 0, 0, 0, 0, 2, ([] : LA_), 0)) (some (fE q46.2 (0, ([.int .i64 0, .int .i64 1, .int .i64 2, .int .i64 3] : LA_), 4))))) (some (fE q43.2 (0, ([.int .i64 1, .int .i64 2, .int .i64 3] : LA_), 3))))) (some (fE q40.2 (0, ([.int .i64 0, .int .i64 2, .int .i64 3] : LA_), 3))))) (some (fE q37.2 (0, ([.int .i64 0, .int .i64 1, .int .i64 3] : LA_), 3))))) (some (fE q34.2 (0, ([.int .i64 0, .int .i64 1, .int .i64 2] : LA_), 3))))) (some (fE q31.2 (0, ([.int .i64 2, .int .i64 3] : LA_), 2))))) (some (fE q28.2 (0, ([.int .i64 1, .int .i64 3] : LA_), 2))))) (some (fE q25.2 (0, ([.int .i64 1, .int .i64 2] : LA_), 2))))) (some (fE q22.2 (0, ([.int .i64 0, .int .i64 3] : LA_), 2))))) (some (fE q19.2 (0, ([.int .i64 0, .int .i64 2] : LA_), 2))))) (some (fE q16.2 (0, ([.int .i64 0, .int .i64 1] : LA_), 2))))) (some (fE q13.2 (0, ([.int .i64 3] : LA_), 1))))) (some (fE q10.2 (0, ([.int .i64 2] : LA_), 1))))) (some (fE q7.2 (0, ([.int .i64 1] : LA_), 1))))) (some (fE q4.2 (0, ([.int .i64 0] : LA_), 1)))))))
def sf : FD where
 X := rp
 k := 1
 pre := [(33000002, 1)]
 F := fun s => [0, nameAt s 0 [.c 0, .c 32]]
 M := .tup [.agg (rl (.int .u64) 32 [.vec 1]), .int .i64]
 B := [.vec 1 true]
 toL := fun x => [.I x.1, .I x.2.1, .I x.2.2.1, .I x.2.2.2.1, .I x.s4.1, .I x.s4.2.1, .I x.s4.2.2.1, .I x.s4.2.2.2.1, .I x.s8.1, .I x.s8.2.1, .I x.s8.2.2.1, .I x.s8.2.2.2.1, .I x.s8.s4.1, .I x.s8.s4.2.1, .I x.s8.s4.2.2.1, .I x.s8.s4.2.2.2.1, .I x.s16.1, .I x.s16.2.1, .I x.s16.2.2.1, .I x.s16.2.2.2.1, .I x.s16.s4.1, .I x.s16.s4.2.1, .I x.s16.s4.2.2.1, .I x.s16.s4.2.2.2.1, .I x.s16.s8.1, .I x.s16.s8.2.1, .I x.s16.s8.2.2.1, .I x.s16.s8.2.2.2.1, .I x.s16.s8.s4.1, .I x.s16.s8.s4.2.1, .I x.s16.s8.s4.2.2.1, .I x.s16.s8.s4.2.2.2.1, .I x.s16.s16.1, .C x.s16.s16.2.1, .N x.s16.s16.2.2]
 ofL := fun ls => match ls with
  | (.I x0 :: .I x1 :: .I x2 :: .I x3 :: .I x4 :: .I x5 :: .I x6 :: .I x7 :: .I x8 :: .I x9 :: .I x10 :: .I x11 :: .I x12 :: .I x13 :: .I x14 :: .I x15 :: .I x16 :: .I x17 :: .I x18 :: .I x19 :: .I x20 :: .I x21 :: .I x22 :: .I x23 :: .I x24 :: .I x25 :: .I x26 :: .I x27 :: .I x28 :: .I x29 :: .I x30 :: .I x31 :: .I x32 :: .C x33 :: .N x34 :: []) => some (x0, x1, x2, x3, x4, x5, x6, x7, x8, x9, x10, x11, x12, x13, x14, x15, x16, x17, x18, x19, x20, x21, x22, x23, x24, x25, x26, x27, x28, x29, x30, x31, x32, x33, x34)
  | _ => none
 au := fun ls x h => by
  split at h
  ·cases h; rfl
  ·cases h
theorem zn (u0 u1 u2 u3 u4 u5 u6 u7 u8 u9 u10 u11 : Int) (x : rp) (h : jM u0 u1 u2 u3 u4 u5 u6 u7 u8 u9 u10 u11 = some x) : bg U2 12 1 [.vec 0] [.vec [.int .i64 u0, .int .i64 u1, .int .i64 u2, .int .i64 u3, .int .i64 u4, .int .i64 u5, .int .i64 u6, .int .i64 u7, .int .i64 u8, .int .i64 u9, .int .i64 u10, .int .i64 u11] 4 3 false] sf x :=
 FD.Mt (il := fun _ => false) (ro := 2) (m := 32) (ch := qO) (fn := Try.f12) (c := bu Try.f12) (fuel := 600) aJ xj mixed bK sf Try.func12 (by kernel_rfl)
  (by kernel_rfl) (Eq.trans (by kernel_rfl) h)
abbrev AF := (I8 (I8 (I8 (I8 (Int × LA_ × Nat)))))
abbrev nC := Int × Int × Int × Int × Int × LA_ × Nat
def jg (cs0 : LA_) (n1 : Nat) : Option (AF) := match cs0, n1 with
 | [.int .i64 u0, .int .i64 u1, .int .i64 u2], 1 => jJ u0 u1 u2
 | [.int .i64 u0, .int .i64 u1, .int .i64 u2, .int .i64 u3, .int .i64 u4, .int .i64 u5], 2 => jK u0 u1 u2 u3 u4 u5
 | [.int .i64 u0, .int .i64 u1, .int .i64 u2, .int .i64 u3, .int .i64 u4, .int .i64 u5, .int .i64 u6, .int .i64 u7, .int .i64 u8], 3 => jL u0 u1 u2 u3 u4 u5 u6 u7 u8
 | [.int .i64 u0, .int .i64 u1, .int .i64 u2, .int .i64 u3, .int .i64 u4, .int .i64 u5, .int .i64 u6, .int .i64 u7, .int .i64 u8, .int .i64 u9, .int .i64 u10, .int .i64 u11], 4 => jM u0 u1 u2 u3 u4 u5 u6 u7 u8 u9 u10 u11
 | _, _ => none
def ei : FD := lh
theorem BE (cs0 : LA_) (n1 : Nat) (x : AF) (h : jg cs0 n1 = some x) : bg U2 12 1 [.vec 0] [.vec cs0 n1 3 false] ei x := by
 unfold jg at h
 split at h
 ·exact zj _ _ _ x h
 ·exact zk _ _ _ _ _ _ x h
 ·exact zm _ _ _ _ _ _ _ _ _ x h
 ·exact zn _ _ _ _ _ _ _ _ _ _ _ _ x h
 ·cases h
def dA (cs0 : LA_) (n1 : Nat) : Option (nC) := Option.bind (jg cs0 n1) fun (x0, x1, x2, x3, x4, x5, x6, x7, x8, x9, x10, x11, x12, x13, x14, x15, x16, x17, x18, x19, x20, x21, x22, x23, x24, x25, x26, x27, x28, x29, x30, x31, x32, x33, x34) => af (ok8 x0 x1 x2 x3 x4 x5 x6 x7 && ok8 x8 x9 x10 x11 x12 x13 x14 x15 && ok8 x16 x17 x18 x19 x20 x21 x22 x23 && ok8 x24 x25 x26 x27 x28 x29 x30 x31) (some ((num x0 x1 x2 x3 x4 x5 x6 x7), (num x8 x9 x10 x11 x12 x13 x14 x15), (num x16 x17 x18 x19 x20 x21 x22 x23), (num x24 x25 x26 x27 x28 x29 x30 x31), x32, x33, x34))
def nW : FD := ⟨nC, ei.k, ei.pre, ei.F, ei.M, ei.B, fun y => ei.toL (aY y.1 (aY y.2.1 (aY y.2.2.1 (aY y.2.2.2.1 (y.s4.1, y.s4.2.1, y.s4.2.2))))), fun _ => none, fun _ _ h => by cases h⟩
theorem Dy (cs0 : LA_) (n1 : Nat) {y : nC} (h : dA cs0 n1 = some y) : jg cs0 n1 = some (aY y.1 (aY y.2.1 (aY y.2.2.1 (aY y.2.2.2.1 (y.s4.1, y.s4.2.1, y.s4.2.2))))) := by
 unfold dA at h
 obtain ⟨⟨x0, x1, x2, x3, x4, x5, x6, x7, x8, x9, x10, x11, x12, x13, x14, x15, x16, x17, x18, x19, x20, x21, x22, x23, x24, x25, x26, x27, x28, x29, x30, x31, x32, x33, x34⟩, h1, h2⟩ := bE_ h
 obtain ⟨h3, h4⟩ := aH h2
 simp only [UC, and_assoc] at h3
 simp only [UB] at h4
 subst h4
 obtain ⟨o0, o1, o2, o3⟩ := h3
 have q0 := aQ o0
 have q1 := aQ o1
 have q2 := aQ o2
 have q3 := aQ o3
 rw [h1]
 simp only [aY, q0, q1, q2, q3]
theorem BF (cs0 : LA_) (n1 : Nat) (y : nC) (h : dA cs0 n1 = some y) : bg U2 12 1 [.vec 0] [.vec cs0 n1 3 false] nW y := BE cs0 n1 _ (Dy cs0 n1 h)
def lU : HK where
 call := fun args σ k => match args with
  | [x0] => cW σ 3 x0 fun cs0 n1 => Option.bind (dA cs0 n1) fun y => aC σ 1 (nW.val y) (nW.aN y) k
  | _ => none
 nat := fun args σ k => by
  repeat' split
  all_goals simp only [av, ai, UA, Uz, aC, Uy]
 pure := false
 pok := fun h => by cases h
theorem tD : aX U2 12 lU := by
 intro args σ r σ' h
 simp only [lU] at h
 split at h
 ·rename_i x0
  obtain ⟨cs0, n1, he0, hf0, h⟩ := bE h
  obtain ⟨y, hy, h⟩ := bE_ h
  exact lifted (xs := [x0]) (ls := [.vec cs0 n1 3 false]) (cargs := [.vec 0]) (bC.of ⟨⟨rfl, he0, hf0, by decide⟩, trivial⟩) rfl (BF cs0 n1 y hy) rfl rfl rfl rfl h
 ·cases h
theorem H9 : ∀ (r : List Pt) (i : Int) (o : List Int) (t : List Pt), (kI r i o t).1.length ≤ o.length + r.length
 | [], i, o, t => Nat.le_refl _
 | p :: r, i, o, t => by
  unfold kI
  cases dD t p with
  | true => have := H9 r (i + 1) (o ++ [i]) (t ++ [p]); simp only [cond_true, UQ, UW, List.length_nil] at *; omega
  | false => have := H9 r (i + 1) o t; simp only [cond_false, UW] at *; omega
theorem j0 {p : Pt} {r : List Pt} {i : Int} {o : List Int} {t : List Pt} : (kI (p :: r) i o t).1.length = o.length + (p :: r).length ↔ dD t p = true ∧ (kI r (i + 1) (o ++ [i]) (t ++ [p])).1.length = (o ++ [i]).length + r.length := by
 have h1 := H9 r (i + 1) o t
 conv => lhs; unfold kI
 cases dD t p with
 | true => simp only [cond_true, true_and, UQ, UW, List.length_nil]; omega
 | false => simp only [cond_false, UW, UE, false_and, iff_false]; omega
theorem KW {S : List Pt} (h1 : 1 ≤ S.length) (h4 : S.length ≤ 4) : (kJ S).length = S.length ↔ ind S := by
 have z : ∀ r i, (kI [] i r []).1 = r := fun _ _ => rfl
 have r0 : ∀ p, dD [] p = true := fun _ => rfl
 have r1 : ∀ a p, dD [a] p = true ↔ aB p a ≠ (0, 0, 0) := by
  intro a p
  simp only [dD, Bool.not_eq_true', decide_eq_false_iff_not, aB, ne_eq, UD]
  constructor
  ·intro h e; apply h; obtain ⟨a1, a2, a3⟩ := a; obtain ⟨p1, p2, p3⟩ := p; simp only [UD] at *; omega
  ·intro h e; apply h; subst e; omega
 have r2 : ∀ a b p, dD [a, b] p = true ↔ crs (aB b a) (aB p a) ≠ (0, 0, 0) := by intro a b p; simp [dD]
 have r3 : ∀ a b c p, dD [a, b, c] p = true ↔ c9 (aB b a) (aB c a) (aB p a) ≠ 0 := by intro a b c p; simp [dD]
 have e0 : ∀ {l : List Pt}, (kJ l).length = (kI l 0 [] []).1.length := fun {l} => rfl
 match S, h1, h4 with
 | [p], _, _ => exact ⟨fun _ => trivial, fun _ => rfl⟩
 | [p, q], _, _ =>
  have h := @j0 p [q] 0 [] []
  rw [List.length_nil, Nat.zero_add] at h
  rw [e0, h, j0]
  simp only [r0, true_and, List.nil_append, r1]
  exact ⟨fun h => h.1, fun h => ⟨h, rfl⟩⟩
 | [p, q, r], _, _ =>
  have h := @j0 p [q, r] 0 [] []
  rw [List.length_nil, Nat.zero_add] at h
  rw [e0, h, j0, j0]
  simp only [r0, true_and, List.nil_append, r1, List.cons_append, r2]
  exact ⟨fun h => h.2.1, fun h => ⟨C7 (l := [p, q, r]) h (t := [p, q]) (by simp) (by simp), h, rfl⟩⟩
 | [p, q, r, s], _, _ =>
  have h := @j0 p [q, r, s] 0 [] []
  rw [List.length_nil, Nat.zero_add] at h
  rw [e0, h, j0, j0, j0]
  simp only [r0, true_and, List.nil_append, r1, List.cons_append, r2, r3]
  exact ⟨fun h => h.2.2.1, fun h => ⟨C7 (l := [p, q, r, s]) h (t := [p, q]) (by simp) (by simp), C7 (l := [p, q, r, s]) h (t := [p, q, r]) (by simp) (by simp), h, rfl⟩⟩
 | _ :: _ :: _ :: _ :: _ :: _, _, h => simp at h
def Tm (l S : List Pt) (k : Nat) : Option RJ :=
 Option.bind (aA (pcs S) S.length) fun r => cond (r.1 != ((S.length : Nat) : Int) - 1) (some (true, fun _ => 0)) (Option.bind (ao (pcs l) l.length (pcs S) S.length) fun r3 => cond r3.2.2.2.2 (some (false, fun i => ac [.int .u64 (aa r3.1 0), .int .u64 (aa r3.1 1), .int .u64 (aa r3.1 2), .int .u64 (aa r3.1 3), .int .u64 (aa r3.1 4), .int .u64 (aa r3.1 5), .int .u64 (aa r3.1 6), .int .u64 (aa r3.1 7), .int .u64 (aa r3.2.1 0), .int .u64 (aa r3.2.1 1), .int .u64 (aa r3.2.1 2), .int .u64 (aa r3.2.1 3), .int .u64 (aa r3.2.1 4), .int .u64 (aa r3.2.1 5), .int .u64 (aa r3.2.1 6), .int .u64 (aa r3.2.1 7), .int .u64 (aa r3.2.2.1 0), .int .u64 (aa r3.2.2.1 1), .int .u64 (aa r3.2.2.1 2), .int .u64 (aa r3.2.2.1 3), .int .u64 (aa r3.2.2.1 4), .int .u64 (aa r3.2.2.1 5), .int .u64 (aa r3.2.2.1 6), .int .u64 (aa r3.2.2.1 7), .int .u64 (aa r3.2.2.2.1 0), .int .u64 (aa r3.2.2.2.1 1), .int .u64 (aa r3.2.2.2.1 2), .int .u64 (aa r3.2.2.2.1 3), .int .u64 (aa r3.2.2.2.1 4), .int .u64 (aa r3.2.2.2.1 5), .int .u64 (aa r3.2.2.2.1 6), .int .u64 (aa r3.2.2.2.1 7), .vec k] i)) (some (true, fun _ => 0)))
def TY (N : Pt) (D : Int) (k : Nat) : Nat → Int := fun i => ac [.int .u64 (aa N.1 0), .int .u64 (aa N.1 1), .int .u64 (aa N.1 2), .int .u64 (aa N.1 3), .int .u64 (aa N.1 4), .int .u64 (aa N.1 5), .int .u64 (aa N.1 6), .int .u64 (aa N.1 7), .int .u64 (aa N.2.1 0), .int .u64 (aa N.2.1 1), .int .u64 (aa N.2.1 2), .int .u64 (aa N.2.1 3), .int .u64 (aa N.2.1 4), .int .u64 (aa N.2.1 5), .int .u64 (aa N.2.1 6), .int .u64 (aa N.2.1 7), .int .u64 (aa N.2.2 0), .int .u64 (aa N.2.2 1), .int .u64 (aa N.2.2 2), .int .u64 (aa N.2.2 3), .int .u64 (aa N.2.2 4), .int .u64 (aa N.2.2 5), .int .u64 (aa N.2.2 6), .int .u64 (aa N.2.2 7), .int .u64 (aa D 0), .int .u64 (aa D 1), .int .u64 (aa D 2), .int .u64 (aa D 3), .int .u64 (aa D 4), .int .u64 (aa D 5), .int .u64 (aa D 6), .int .u64 (aa D 7), .vec k] i
theorem rnd {l S : List Pt} (k : Nat) (hok : bd l = true) (hl : l.length < 1000000000) (hS : bd S = true) (h1 : 1 ≤ S.length) (h4 : S.length ≤ 4) :
  ∃ b N D, Tm l S k = some (cond b (false, TY N D k) (true, fun _ => 0)) ∧ (b = true ↔ ind S ∧ GU l S) ∧ (b = true → Prim (bp S) (wts S).2 N D ∧ PtB 240 N ∧ sm 190 D) := by
 unfold Tm
 rw [CE (by omega), hS, cond_true, UG (show ¬ S.length > 256 by omega), cond_false, Uy]
 by_cases hi : ind S
 ·have e := (KW h1 h4).2 hi
  have : (((kJ S).length : Int) - 1 != ((S.length : Nat) : Int) - 1) = false := by rw [e]; simp
  simp only [this, cond_false]
  obtain ⟨b, N, D, q1, q2, q3⟩ := OE hok hl hS hi
  rw [q1, Uy]
  refine ⟨b, N, D, ?_, ⟨fun h => ⟨hi, q2.1 h⟩, fun h => q2.2 h.2⟩, q3⟩
  cases b <;> rfl
 ·have e : (kJ S).length ≠ S.length := fun h => hi ((KW h1 h4).1 h)
  have : (((kJ S).length : Int) - 1 != ((S.length : Nat) : Int) - 1) = true := by simp; omega
  simp only [this, cond_true]
  exact ⟨false, (0, 0, 0), 0, rfl, ⟨fun h => (by cases h), fun h => absurd h.1 hi⟩, fun h => (by cases h)⟩
def chs : Nat → List (List Nat)
 | 1 => [[0]]
 | 2 => [[0], [1], [0, 1]]
 | 3 => [[0], [1], [2], [0, 1], [0, 2], [1, 2], [0, 1, 2]]
 | 4 => [[0], [1], [2], [3], [0, 1], [0, 2], [0, 3], [1, 2], [1, 3], [2, 3], [0, 1, 2], [0, 1, 3], [0, 2, 3], [1, 2, 3], [0, 1, 2, 3]]
 | _ => []
def pick (l : List Pt) (ch : List Nat) : List Pt := ch.map (pat l)
def QW (N : Pt) (D : Int) (ch : List Nat) : (I8 (I8 (I8 (I8 (Int × LA_ × Nat))))) :=
 (aa N.1 0, aa N.1 1, aa N.1 2, aa N.1 3, aa N.1 4, aa N.1 5, aa N.1 6, aa N.1 7, aa N.2.1 0, aa N.2.1 1, aa N.2.1 2, aa N.2.1 3, aa N.2.1 4, aa N.2.1 5, aa N.2.1 6, aa N.2.1 7, aa N.2.2 0, aa N.2.2 1, aa N.2.2 2, aa N.2.2 3, aa N.2.2 4, aa N.2.2 5, aa N.2.2 6, aa N.2.2 7, aa D 0, aa D 1, aa D 2, aa D 3, aa D 4, aa D 5, aa D 6, aa D 7, 0, ics (ch.map fun i => ((i : Nat) : Int)), ch.length)
def bt (l : List Pt) (x : Option ((I8 (I8 (I8 (I8 (Int × LA_ × Nat))))))) : Prop :=
 ∃ ch ∈ chs l.length, ∃ N D, x = some (QW N D ch) ∧ ind (pick l ch) ∧ GU l (pick l ch) ∧ Prim (bp (pick l ch)) (wts (pick l ch)).2 N D ∧ PtB 240 N ∧ sm 190 D
theorem stJ {X : Type} {P : Option X → Prop} {e : Option RJ} {b : Bool} {d : Nat → Int} {A : Option X} {B : RJ → Option X} (h : e = some (cond b (false, d) (true, fun _ => 0))) (ht : b = true → P (B (false, d))) (hf : b = false → P A) : P (Option.bind e fun q => cond q.1 A (B q)) := by
 subst h
 cases b with
 | true => exact ht rfl
 | false => exact hf rfl
theorem stB {X Y : Type} {P : Option X → Prop} {e : Option Y} {v : Y} {f : Y → Option X} (h : e = some v) (k : P (f v)) : P (Option.bind e f) := by
 subst h; exact k
theorem C8 {l : List Pt} (hl : l ≠ []) (h : ∀ T ∈ oy l, T ≠ [] → ¬ (ind T ∧ GU l T)) : False := by
 obtain ⟨T, h1, h2, h3⟩ := LE hl
 refine h T (Fq h1) ?_ ⟨h2.1, h2.2, h3⟩
 rintro rfl
 exact h2.1
theorem Uk {p : Pt} (hok : bd [p] = true) : bt [p] (jJ p.1 p.2.1 p.2.2) := by
 have hk := hok
 simp only [aP] at hk
 obtain ⟨hp, _⟩ := hk
 have hl : ([p] : List Pt).length < 1000000000 := by simp
 have hR : aA (pcs [p]) 1 = some (((kJ [p]).length : Int) - 1, 0) := by
  have := CE hl
  rw [hok, cond_true] at this
  exact this
 unfold jJ
 refine stB (P := bt [p]) hR ?_
 show bt [p] (Option.bind _ _)
 obtain ⟨b0, N0, D0, e0, i0, o0⟩ := rnd (l := [p]) (S := [p]) 8 hok hl (by simp [aP, hp]; rfl) (by simp) (by simp)
 refine stJ (P := bt [p]) e0 (fun hb => ⟨[0], by simp [chs], N0, D0, rfl, (i0.1 hb).1, (i0.1 hb).2, o0 hb⟩) (fun hb0 => ?_)
 exfalso
 refine C8 (l := [p]) (by simp) fun T hT hne => ?_
 simp only [oy, List.map_cons, List.map_nil, List.cons_append, List.nil_append, List.append_nil, List.mem_cons, U1, List.not_mem_nil, or_false] at hT
 rcases hT with rfl | rfl
 ·exact absurd rfl hne
 ·exact (fun h => by have := i0.2 h; rw [hb0] at this; cases this)
theorem Ul {p q : Pt} (hok : bd [p, q] = true) : bt [p, q] (jK p.1 p.2.1 p.2.2 q.1 q.2.1 q.2.2) := by
 have hk := hok
 simp only [aP] at hk
 obtain ⟨hp, hq, _⟩ := hk
 have hl : ([p, q] : List Pt).length < 1000000000 := by simp
 have hR : aA (pcs [p, q]) 2 = some (((kJ [p, q]).length : Int) - 1, 0) := by
  have := CE hl
  rw [hok, cond_true] at this
  exact this
 unfold jK
 refine stB (P := bt [p, q]) hR ?_
 show bt [p, q] (Option.bind _ _)
 obtain ⟨b0, N0, D0, e0, i0, o0⟩ := rnd (l := [p, q]) (S := [p]) 8 hok hl (by simp [aP, hp]; rfl) (by simp) (by simp)
 refine stJ (P := bt [p, q]) e0 (fun hb => ⟨[0], by simp [chs], N0, D0, rfl, (i0.1 hb).1, (i0.1 hb).2, o0 hb⟩) (fun hb0 => ?_)
 obtain ⟨b1, N1, D1, e1, i1, o1⟩ := rnd (l := [p, q]) (S := [q]) 12 hok hl (by simp [aP, hq]; rfl) (by simp) (by simp)
 refine stJ (P := bt [p, q]) e1 (fun hb => ⟨[1], by simp [chs], N1, D1, rfl, (i1.1 hb).1, (i1.1 hb).2, o1 hb⟩) (fun hb1 => ?_)
 obtain ⟨b2, N2, D2, e2, i2, o2⟩ := rnd (l := [p, q]) (S := [p, q]) 18 hok hl (by simp [aP, hp, hq]; rfl) (by simp) (by simp)
 refine stJ (P := bt [p, q]) e2 (fun hb => ⟨[0, 1], by simp [chs], N2, D2, rfl, (i2.1 hb).1, (i2.1 hb).2, o2 hb⟩) (fun hb2 => ?_)
 exfalso
 refine C8 (l := [p, q]) (by simp) fun T hT hne => ?_
 simp only [oy, List.map_cons, List.map_nil, List.cons_append, List.nil_append, List.append_nil, List.mem_cons, U1, List.not_mem_nil, or_false] at hT
 rcases hT with rfl | rfl | rfl | rfl
 ·exact absurd rfl hne
 ·exact (fun h => by have := i1.2 h; rw [hb1] at this; cases this)
 ·exact (fun h => by have := i0.2 h; rw [hb0] at this; cases this)
 ·exact (fun h => by have := i2.2 h; rw [hb2] at this; cases this)
theorem Um {p q r : Pt} (hok : bd [p, q, r] = true) : bt [p, q, r] (jL p.1 p.2.1 p.2.2 q.1 q.2.1 q.2.2 r.1 r.2.1 r.2.2) := by
 have hk := hok
 simp only [aP] at hk
 obtain ⟨hp, hq, hr, _⟩ := hk
 have hl : ([p, q, r] : List Pt).length < 1000000000 := by simp
 have hR : aA (pcs [p, q, r]) 3 = some (((kJ [p, q, r]).length : Int) - 1, 0) := by
  have := CE hl
  rw [hok, cond_true] at this
  exact this
 unfold jL
 refine stB (P := bt [p, q, r]) hR ?_
 show bt [p, q, r] (Option.bind _ _)
 obtain ⟨b0, N0, D0, e0, i0, o0⟩ := rnd (l := [p, q, r]) (S := [p]) 8 hok hl (by simp [aP, hp]; rfl) (by simp) (by simp)
 refine stJ (P := bt [p, q, r]) e0 (fun hb => ⟨[0], by simp [chs], N0, D0, rfl, (i0.1 hb).1, (i0.1 hb).2, o0 hb⟩) (fun hb0 => ?_)
 obtain ⟨b1, N1, D1, e1, i1, o1⟩ := rnd (l := [p, q, r]) (S := [q]) 12 hok hl (by simp [aP, hq]; rfl) (by simp) (by simp)
 refine stJ (P := bt [p, q, r]) e1 (fun hb => ⟨[1], by simp [chs], N1, D1, rfl, (i1.1 hb).1, (i1.1 hb).2, o1 hb⟩) (fun hb1 => ?_)
 obtain ⟨b2, N2, D2, e2, i2, o2⟩ := rnd (l := [p, q, r]) (S := [r]) 16 hok hl (by simp [aP, hr]; rfl) (by simp) (by simp)
 refine stJ (P := bt [p, q, r]) e2 (fun hb => ⟨[2], by simp [chs], N2, D2, rfl, (i2.1 hb).1, (i2.1 hb).2, o2 hb⟩) (fun hb2 => ?_)
 obtain ⟨b3, N3, D3, e3, i3, o3⟩ := rnd (l := [p, q, r]) (S := [p, q]) 22 hok hl (by simp [aP, hp, hq]; rfl) (by simp) (by simp)
 refine stJ (P := bt [p, q, r]) e3 (fun hb => ⟨[0, 1], by simp [chs], N3, D3, rfl, (i3.1 hb).1, (i3.1 hb).2, o3 hb⟩) (fun hb3 => ?_)
 obtain ⟨b4, N4, D4, e4, i4, o4⟩ := rnd (l := [p, q, r]) (S := [p, r]) 28 hok hl (by simp [aP, hp, hr]; rfl) (by simp) (by simp)
 refine stJ (P := bt [p, q, r]) e4 (fun hb => ⟨[0, 2], by simp [chs], N4, D4, rfl, (i4.1 hb).1, (i4.1 hb).2, o4 hb⟩) (fun hb4 => ?_)
 obtain ⟨b5, N5, D5, e5, i5, o5⟩ := rnd (l := [p, q, r]) (S := [q, r]) 34 hok hl (by simp [aP, hq, hr]; rfl) (by simp) (by simp)
 refine stJ (P := bt [p, q, r]) e5 (fun hb => ⟨[1, 2], by simp [chs], N5, D5, rfl, (i5.1 hb).1, (i5.1 hb).2, o5 hb⟩) (fun hb5 => ?_)
 obtain ⟨b6, N6, D6, e6, i6, o6⟩ := rnd (l := [p, q, r]) (S := [p, q, r]) 42 hok hl (by simp [aP, hp, hq, hr]; rfl) (by simp) (by simp)
 refine stJ (P := bt [p, q, r]) e6 (fun hb => ⟨[0, 1, 2], by simp [chs], N6, D6, rfl, (i6.1 hb).1, (i6.1 hb).2, o6 hb⟩) (fun hb6 => ?_)
 exfalso
 refine C8 (l := [p, q, r]) (by simp) fun T hT hne => ?_
 simp only [oy, List.map_cons, List.map_nil, List.cons_append, List.nil_append, List.append_nil, List.mem_cons, U1, List.not_mem_nil, or_false] at hT
 rcases hT with rfl | rfl | rfl | rfl | rfl | rfl | rfl | rfl
 ·exact absurd rfl hne
 ·exact (fun h => by have := i2.2 h; rw [hb2] at this; cases this)
 ·exact (fun h => by have := i1.2 h; rw [hb1] at this; cases this)
 ·exact (fun h => by have := i5.2 h; rw [hb5] at this; cases this)
 ·exact (fun h => by have := i0.2 h; rw [hb0] at this; cases this)
 ·exact (fun h => by have := i4.2 h; rw [hb4] at this; cases this)
 ·exact (fun h => by have := i3.2 h; rw [hb3] at this; cases this)
 ·exact (fun h => by have := i6.2 h; rw [hb6] at this; cases this)
theorem Un {p q r s : Pt} (hok : bd [p, q, r, s] = true) : bt [p, q, r, s] (jM p.1 p.2.1 p.2.2 q.1 q.2.1 q.2.2 r.1 r.2.1 r.2.2 s.1 s.2.1 s.2.2) := by
 have hk := hok
 simp only [aP] at hk
 obtain ⟨hp, hq, hr, hs, _⟩ := hk
 have hl : ([p, q, r, s] : List Pt).length < 1000000000 := by simp
 have hR : aA (pcs [p, q, r, s]) 4 = some (((kJ [p, q, r, s]).length : Int) - 1, 0) := by
  have := CE hl
  rw [hok, cond_true] at this
  exact this
 unfold jM
 refine stB (P := bt [p, q, r, s]) hR ?_
 show bt [p, q, r, s] (Option.bind _ _)
 obtain ⟨b0, N0, D0, e0, i0, o0⟩ := rnd (l := [p, q, r, s]) (S := [p]) 8 hok hl (by simp [aP, hp]; rfl) (by simp) (by simp)
 refine stJ (P := bt [p, q, r, s]) e0 (fun hb => ⟨[0], by simp [chs], N0, D0, rfl, (i0.1 hb).1, (i0.1 hb).2, o0 hb⟩) (fun hb0 => ?_)
 obtain ⟨b1, N1, D1, e1, i1, o1⟩ := rnd (l := [p, q, r, s]) (S := [q]) 12 hok hl (by simp [aP, hq]; rfl) (by simp) (by simp)
 refine stJ (P := bt [p, q, r, s]) e1 (fun hb => ⟨[1], by simp [chs], N1, D1, rfl, (i1.1 hb).1, (i1.1 hb).2, o1 hb⟩) (fun hb1 => ?_)
 obtain ⟨b2, N2, D2, e2, i2, o2⟩ := rnd (l := [p, q, r, s]) (S := [r]) 16 hok hl (by simp [aP, hr]; rfl) (by simp) (by simp)
 refine stJ (P := bt [p, q, r, s]) e2 (fun hb => ⟨[2], by simp [chs], N2, D2, rfl, (i2.1 hb).1, (i2.1 hb).2, o2 hb⟩) (fun hb2 => ?_)
 obtain ⟨b3, N3, D3, e3, i3, o3⟩ := rnd (l := [p, q, r, s]) (S := [s]) 20 hok hl (by simp [aP, hs]; rfl) (by simp) (by simp)
 refine stJ (P := bt [p, q, r, s]) e3 (fun hb => ⟨[3], by simp [chs], N3, D3, rfl, (i3.1 hb).1, (i3.1 hb).2, o3 hb⟩) (fun hb3 => ?_)
 obtain ⟨b4, N4, D4, e4, i4, o4⟩ := rnd (l := [p, q, r, s]) (S := [p, q]) 26 hok hl (by simp [aP, hp, hq]; rfl) (by simp) (by simp)
 refine stJ (P := bt [p, q, r, s]) e4 (fun hb => ⟨[0, 1], by simp [chs], N4, D4, rfl, (i4.1 hb).1, (i4.1 hb).2, o4 hb⟩) (fun hb4 => ?_)
 obtain ⟨b5, N5, D5, e5, i5, o5⟩ := rnd (l := [p, q, r, s]) (S := [p, r]) 32 hok hl (by simp [aP, hp, hr]; rfl) (by simp) (by simp)
 refine stJ (P := bt [p, q, r, s]) e5 (fun hb => ⟨[0, 2], by simp [chs], N5, D5, rfl, (i5.1 hb).1, (i5.1 hb).2, o5 hb⟩) (fun hb5 => ?_)
 obtain ⟨b6, N6, D6, e6, i6, o6⟩ := rnd (l := [p, q, r, s]) (S := [p, s]) 38 hok hl (by simp [aP, hp, hs]; rfl) (by simp) (by simp)
 refine stJ (P := bt [p, q, r, s]) e6 (fun hb => ⟨[0, 3], by simp [chs], N6, D6, rfl, (i6.1 hb).1, (i6.1 hb).2, o6 hb⟩) (fun hb6 => ?_)
 obtain ⟨b7, N7, D7, e7, i7, o7⟩ := rnd (l := [p, q, r, s]) (S := [q, r]) 44 hok hl (by simp [aP, hq, hr]; rfl) (by simp) (by simp)
 refine stJ (P := bt [p, q, r, s]) e7 (fun hb => ⟨[1, 2], by simp [chs], N7, D7, rfl, (i7.1 hb).1, (i7.1 hb).2, o7 hb⟩) (fun hb7 => ?_)
 obtain ⟨b8, N8, D8, e8, i8, o8⟩ := rnd (l := [p, q, r, s]) (S := [q, s]) 50 hok hl (by simp [aP, hq, hs]; rfl) (by simp) (by simp)
 refine stJ (P := bt [p, q, r, s]) e8 (fun hb => ⟨[1, 3], by simp [chs], N8, D8, rfl, (i8.1 hb).1, (i8.1 hb).2, o8 hb⟩) (fun hb8 => ?_)
 obtain ⟨b9, N9, D9, e9, i9, o9⟩ := rnd (l := [p, q, r, s]) (S := [r, s]) 56 hok hl (by simp [aP, hr, hs]; rfl) (by simp) (by simp)
 refine stJ (P := bt [p, q, r, s]) e9 (fun hb => ⟨[2, 3], by simp [chs], N9, D9, rfl, (i9.1 hb).1, (i9.1 hb).2, o9 hb⟩) (fun hb9 => ?_)
 obtain ⟨b10, N10, D10, e10, i10, o10⟩ := rnd (l := [p, q, r, s]) (S := [p, q, r]) 64 hok hl (by simp [aP, hp, hq, hr]; rfl) (by simp) (by simp)
 refine stJ (P := bt [p, q, r, s]) e10 (fun hb => ⟨[0, 1, 2], by simp [chs], N10, D10, rfl, (i10.1 hb).1, (i10.1 hb).2, o10 hb⟩) (fun hb10 => ?_)
 obtain ⟨b11, N11, D11, e11, i11, o11⟩ := rnd (l := [p, q, r, s]) (S := [p, q, s]) 72 hok hl (by simp [aP, hp, hq, hs]; rfl) (by simp) (by simp)
 refine stJ (P := bt [p, q, r, s]) e11 (fun hb => ⟨[0, 1, 3], by simp [chs], N11, D11, rfl, (i11.1 hb).1, (i11.1 hb).2, o11 hb⟩) (fun hb11 => ?_)
 obtain ⟨b12, N12, D12, e12, i12, o12⟩ := rnd (l := [p, q, r, s]) (S := [p, r, s]) 80 hok hl (by simp [aP, hp, hr, hs]; rfl) (by simp) (by simp)
 refine stJ (P := bt [p, q, r, s]) e12 (fun hb => ⟨[0, 2, 3], by simp [chs], N12, D12, rfl, (i12.1 hb).1, (i12.1 hb).2, o12 hb⟩) (fun hb12 => ?_)
 obtain ⟨b13, N13, D13, e13, i13, o13⟩ := rnd (l := [p, q, r, s]) (S := [q, r, s]) 88 hok hl (by simp [aP, hq, hr, hs]; rfl) (by simp) (by simp)
 refine stJ (P := bt [p, q, r, s]) e13 (fun hb => ⟨[1, 2, 3], by simp [chs], N13, D13, rfl, (i13.1 hb).1, (i13.1 hb).2, o13 hb⟩) (fun hb13 => ?_)
 obtain ⟨b14, N14, D14, e14, i14, o14⟩ := rnd (l := [p, q, r, s]) (S := [p, q, r, s]) 98 hok hl (by simp [aP, hp, hq, hr, hs]; rfl) (by simp) (by simp)
 refine stJ (P := bt [p, q, r, s]) e14 (fun hb => ⟨[0, 1, 2, 3], by simp [chs], N14, D14, rfl, (i14.1 hb).1, (i14.1 hb).2, o14 hb⟩) (fun hb14 => ?_)
 exfalso
 refine C8 (l := [p, q, r, s]) (by simp) fun T hT hne => ?_
 simp only [oy, List.map_cons, List.map_nil, List.cons_append, List.nil_append, List.append_nil, List.mem_cons, U1, List.not_mem_nil, or_false] at hT
 rcases hT with rfl | rfl | rfl | rfl | rfl | rfl | rfl | rfl | rfl | rfl | rfl | rfl | rfl | rfl | rfl | rfl
 ·exact absurd rfl hne
 ·exact (fun h => by have := i3.2 h; rw [hb3] at this; cases this)
 ·exact (fun h => by have := i2.2 h; rw [hb2] at this; cases this)
 ·exact (fun h => by have := i9.2 h; rw [hb9] at this; cases this)
 ·exact (fun h => by have := i1.2 h; rw [hb1] at this; cases this)
 ·exact (fun h => by have := i8.2 h; rw [hb8] at this; cases this)
 ·exact (fun h => by have := i7.2 h; rw [hb7] at this; cases this)
 ·exact (fun h => by have := i13.2 h; rw [hb13] at this; cases this)
 ·exact (fun h => by have := i0.2 h; rw [hb0] at this; cases this)
 ·exact (fun h => by have := i6.2 h; rw [hb6] at this; cases this)
 ·exact (fun h => by have := i5.2 h; rw [hb5] at this; cases this)
 ·exact (fun h => by have := i12.2 h; rw [hb12] at this; cases this)
 ·exact (fun h => by have := i4.2 h; rw [hb4] at this; cases this)
 ·exact (fun h => by have := i11.2 h; rw [hb11] at this; cases this)
 ·exact (fun h => by have := i10.2 h; rw [hb10] at this; cases this)
 ·exact (fun h => by have := i14.2 h; rw [hb14] at this; cases this)
theorem OF {l : List Pt} (hok : bd l = true) (h1 : 1 ≤ l.length) (h4 : l.length ≤ 4) :
  ∃ ch ∈ chs l.length, ∃ N D, dA (pcs l) l.length = some (N.1, N.2.1, N.2.2, D, 0, ics (ch.map fun i => ((i : Nat) : Int)), ch.length) ∧ ind (pick l ch) ∧ GU l (pick l ch) ∧ Prim (bp (pick l ch)) (wts (pick l ch)).2 N D ∧ PtB 240 N ∧ sm 190 D := by
 have h : bt l (jg (pcs l) l.length) := by
  match l, h1, h4 with
  | [p], _, _ => exact Uk hok
  | [p, q], _, _ => exact Ul hok
  | [p, q, r], _, _ => exact Um hok
  | [p, q, r, s], _, _ => exact Un hok
  | _ :: _ :: _ :: _ :: _ :: _, _, h => simp at h
 obtain ⟨ch, hc, N, D, e, q1, q2, q3, hN, hD⟩ := h
 refine ⟨ch, hc, N, D, ?_, q1, q2, q3, hN, hD⟩
 unfold dA
 rw [e]
 simp only [QW, Uy, bA, UF, aw]
 rw [aI (bf hN.h.1 (by decide)), aI (bf hN.h.2.1 (by decide)), aI (bf hN.h.2.2 (by decide)), aI (bf hD (by decide))]
end Go.Ev
namespace Go.Ev
def comb : Nat → Nat → List (List Nat)
 | _, 0 => [[]]
 | 0, _ + 1 => []
 | n + 1, k + 1 => comb n (k + 1) ++ (comb n k).map fun l => l ++ [n]
def dh (l : List Nat) : Prop := l.Pairwise (· < ·)
theorem Fx : ∀ (n k : Nat) (l : List Nat), l.length = k → dh l → (∀ x ∈ l, x < n) → l ∈ comb n k
 | n, 0, l, hl, _, _ => by
  obtain rfl := List.length_eq_zero_iff.1 hl
  cases n <;> simp [comb]
 | 0, k + 1, l, hl, _, hb => by
  cases l with
  | nil => simp at hl
  | cons a l => exact absurd (hb a (by simp)) (by omega)
 | n + 1, k + 1, l, hl, hr, hb => by
  rcases List.eq_nil_or_concat l with rfl | ⟨l', x, rfl⟩
  ·simp at hl
  ·simp only [List.concat_eq_append] at *
   unfold dh at hr
   rw [List.pairwise_append] at hr
   obtain ⟨h1, _, h3⟩ := hr
   have hl' : l'.length = k := by simpa using hl
   have hx : ∀ y ∈ l', y < x := fun y hy => h3 y hy x (by simp)
   have hxn := hb x (by simp)
   simp only [comb, U1, List.mem_map]
   by_cases e : x = n
   ·subst e
    exact .inr ⟨l', Fx x k l' hl' h1 hx, rfl⟩
   ·refine .inl (Fx n (k + 1) (l' ++ [x]) (by simp [hl']) ?_ ?_)
    ·unfold dh
     rw [List.pairwise_append]
     exact ⟨h1, by simp, h3⟩
    ·intro y hy
     simp only [U1, List.mem_singleton] at hy
     rcases hy with hy | rfl
     ·have := hx y hy; omega
     ·omega
theorem Ay (n k : Nat) : (comb (n + 1) (k + 1)).length = (comb n (k + 1)).length + (comb n k).length := by simp [comb]
theorem T1 (n : Nat) : (comb n 0).length = 1 := by cases n <;> rfl
theorem Jy : ∀ n, ((comb n 1).length : Int) = n
 | 0 => rfl
 | n + 1 => by rw [Ay, T1]; have := Jy n; simp only [Nat.zero_add]; omega
theorem Jz : ∀ n : Nat, 2 * ((comb n 2).length : Int) = (n : Int) * (n - 1)
 | 0 => rfl
 | n + 1 => by
  rw [Ay]
  have h1 := Jy n
  have h2 := Jz n
  simp only [Int.natCast_add, Int.natCast_one] at *
  grind
theorem JA : ∀ n : Nat, 6 * ((comb n 3).length : Int) = (n : Int) * (n - 1) * (n - 2)
 | 0 => rfl
 | n + 1 => by
  rw [Ay]
  have h1 := Jz n
  have h2 := JA n
  simp only [Int.natCast_add, Int.natCast_one] at *
  grind
theorem Nc : ∀ n : Nat, 24 * ((comb n 4).length : Int) = (n : Int) * (n - 1) * (n - 2) * (n - 3)
 | 0 => rfl
 | n + 1 => by
  rw [Ay]
  have h1 := JA n
  have h2 := Nc n
  simp only [Int.natCast_add, Int.natCast_one] at *
  grind
def jr (n : Nat) : List (List Nat) := comb n 1 ++ comb n 2 ++ comb n 3 ++ comb n 4
theorem P5 {n : Nat} {l : List Nat} (h1 : 1 ≤ l.length) (h4 : l.length ≤ 4) (hr : dh l) (hb : ∀ x ∈ l, x < n) : l ∈ jr n := by
 unfold jr
 have h : ∀ k, l.length = k → l ∈ comb n k := fun k hk => Fx n k l hk hr hb
 simp only [U1]
 have : l.length = 1 ∨ l.length = 2 ∨ l.length = 3 ∨ l.length = 4 := by omega
 rcases this with e | e | e | e
 ·exact .inl (.inl (.inl (h 1 e)))
 ·exact .inl (.inl (.inr (h 2 e)))
 ·exact .inl (.inr (h 3 e))
 ·exact .inr (h 4 e)
theorem P6 (n : Nat) : 24 * ((jr n).length : Int) = 24 * n + 12 * (n * (n - 1)) + 4 * (n * (n - 1) * (n - 2)) + n * (n - 1) * (n - 2) * (n - 3) := by
 unfold jr
 simp only [UQ, Int.natCast_add]
 have := Jy n
 have := Jz n
 have := JA n
 have := Nc n
 grind
theorem Fs {α : Type} {p q : α → Bool} : ∀ {l : List α} {x : α}, (∀ y ∈ l, p y = true → q y = true) → x ∈ l → q x = true → p x = false → l.countP p < l.countP q
 | [], x, _, h, _, _ => by cases h
 | a :: l, x, hi, hx, hq, hp => by
  have mono : l.countP p ≤ l.countP q := List.countP_mono_left fun y hy => hi y (by simp [hy])
  rw [List.countP_cons, List.countP_cons]
  rcases List.mem_cons.1 hx with rfl | hx
  ·rw [hq, hp]; simp; omega
  ·have ih := Fs (fun y hy => hi y (by simp [hy])) hx hq hp
   cases ha : p a with
   | true => rw [hi a (by simp) ha]; simp; omega
   | false => simp; split <;> omega
def ins (k : Nat) : List Nat → List Nat
 | [] => [k]
 | a :: l => if k < a then k :: a :: l else a :: ins k l
theorem yM {k x : Nat} : ∀ {l : List Nat}, x ∈ ins k l ↔ x = k ∨ x ∈ l
 | [] => by simp [ins]
 | a :: l => by
  unfold ins
  split
  ·simp
  ·rw [List.mem_cons, yM, List.mem_cons]
   constructor
   ·rintro (h | h | h) <;> simp [h]
   ·rintro (h | h | h) <;> simp [h]
theorem C9 (k : Nat) : ∀ l : List Nat, (ins k l).length = l.length + 1
 | [] => rfl
 | a :: l => by unfold ins; split <;> simp [C9 k l]
theorem GV {k : Nat} : ∀ {l : List Nat}, dh l → k ∉ l → dh (ins k l)
 | [], _, _ => by simp [ins, dh]
 | a :: l, h, hk => by
  unfold dh at h
  rw [List.pairwise_cons] at h
  simp only [List.mem_cons, not_or] at hk
  unfold ins
  split
  ·rename_i hlt
   unfold dh
   rw [List.pairwise_cons, List.pairwise_cons]
   exact ⟨fun y hy => by
    rcases List.mem_cons.1 hy with rfl | hy
    ·exact hlt
    ·have := h.1 y hy; omega, h.1, h.2⟩
  ·rename_i hlt
   unfold dh
   rw [List.pairwise_cons]
   refine ⟨fun y hy => ?_, GV h.2 hk.2⟩
   rcases yM.1 hy with rfl | hy
   ·omega
   ·exact h.1 y hy
end Go.Ev
namespace Go.Ev
open Go.Proofs
def uf : CH := CH.none
theorem rt : aG U2 uf := CH.aF
def fu (cs0 : LA_) (n1 : Nat) : Option (LA_ × Nat) :=
 (af (!List.isEmpty cs0) (af (decide (2 * (0 + n1) * 8 ≤ 2 ^ 48)) (some (cs0, n1))))
def cM : FD where
 X := LA_ × Nat
 k := 1
 pre := [(2, 1)]
 F := fun s => [0, nameAt s 0 []]
 M := .vec 1
 B := [.vec 1 true]
 toL := fun x => [.C x.1, .N x.2]
 ofL := fun ls => match ls with
  | [.C x0, .N x1] => some (x0, x1)
  | _ => none
 au := fun ls x h => by
  split at h
  ·cases h; rfl
  ·cases h
theorem th (cs0 : LA_) (n1 : Nat) (x : LA_ × Nat) (h : fu cs0 n1 = some x) : bg U2 54 1 [.vec 0] [.vec cs0 n1 1 false] cM x :=
 FD.semA cM rt Try.func54 (fuel := 60) (by kernel_rfl) (by kernel_rfl)
  (by kernel_rfl) (Eq.trans (by kernel_rfl) h)
def iI : HK where
 call := fun args σ k => match args with
  | [x0] => cW σ 1 x0 fun cs0 n1 => Option.bind (fu cs0 n1) fun y => aC σ 1 (cM.val y) (cM.aN y) k
  | _ => none
 nat := fun args σ k => by
  repeat' split
  all_goals simp only [av, ai, UA, Uz, aC, Uy]
 pure := false
 pok := fun h => by cases h
theorem ug : aX U2 54 iI := by
 intro args σ r σ' h
 simp only [iI] at h
 split at h
 ·rename_i x0
  obtain ⟨cs0, n1, he0, hf0, h⟩ := bE h
  obtain ⟨y, hy, h⟩ := bE_ h
  exact lifted (xs := [x0]) (ls := [.vec cs0 n1 1 false]) (cargs := [.vec 0]) (bC.of ⟨⟨rfl, he0, hf0, by decide⟩, trivial⟩) rfl (th cs0 n1 y hy) rfl rfl rfl rfl h
 ·cases h
theorem H7 {ks : List TK} {cs : LA_} {n : Nat} (h : (aq ks cs 0 && Nat.beq (List.length cs) n) = true) (hn : ks.length = n) (hk : ks ≠ []) : cs = tt cs 0 ks 0 := by
 rw [UC] at h
 have hl := UR h.2
 rcases yC (o := 0) (j := 0) (ks := ks) h.1 with ⟨q1, q2⟩ | q
 ·rw [← q1, hn, ← hl]; simp
 ·exact absurd q hk
def KR {R : Type} (cs : LA_) (n : Nat) (σ : Mem) (k : fc → Mem → Option R) : Option R :=
 cond (Nat.beq n 1) (af (aq [.int .i64] cs 0 && Nat.beq (List.length cs) 1) (k (.ret (.vec σ.next)) (σ.push (.vec [.int .i64 (ac cs 0)] 1 1 true))))
  (cond (Nat.beq n 2) (af (aq [.int .i64, .int .i64] cs 0 && Nat.beq (List.length cs) 2) (k (.ret (.vec σ.next)) (σ.push (.vec [.int .i64 (ac cs 0), .int .i64 (ac cs 1)] 2 1 true))))
   (cond (Nat.beq n 3) (af (aq kK cs 0 && Nat.beq (List.length cs) 3) (k (.ret (.vec σ.next)) (σ.push (.vec [.int .i64 (ac cs 0), .int .i64 (ac cs 1), .int .i64 (ac cs 2)] 3 1 true)))) none))
def Hw : HK where
 call := fun args σ k => match args with
  | [x0] => cW σ 1 x0 fun cs n => KR cs n σ k
  | _ => none
 nat := fun args σ k => by
  split
  ·rw [av]
   congr 1
   funext cs n
   simp only [KR, bX, ai, Uy, Uz]
  ·rfl
 pure := false
 pok := fun h => by cases h
theorem Mr : aX U2 54 Hw := ug.cO fun args σ x h => by
 simp only [Hw] at h
 split at h
 ·rename_i x0
  obtain ⟨cs, n, h1, h2, h⟩ := bE h
  simp only [iI, cW, h1, h2, if_true]
  have go : ∀ (m : Nat) (l : LA_), n = m → cs = l → l.isEmpty = false → 2 * (0 + m) * 8 ≤ 2 ^ 48 → (some (fc.ret (.vec σ.next), σ.push (.vec l m 1 true)) : Option (fc × Mem)) = some x →
    (Option.bind (fu cs n) fun y => aC σ 1 (cM.val y) (cM.aN y) fun r σ' => some (r, σ')) = some x := by
   rintro m l rfl rfl he hm hx
   simp only [fu, he, Bool.not_false, aw, UH hm, Uy]
   rw [← hx]
   rfl
  unfold KR at h
  cases e1 : Nat.beq n 1 with
  | true =>
   rw [e1, cond_true] at h
   obtain ⟨h3, h⟩ := aH h
   exact go 1 _ (UR e1) (H7 h3 rfl (by simp)) rfl (by decide) h
  | false =>
   rw [e1, cond_false] at h
   cases e2 : Nat.beq n 2 with
   | true =>
    rw [e2, cond_true] at h
    obtain ⟨h3, h⟩ := aH h
    exact go 2 _ (UR e2) (H7 h3 rfl (by simp)) rfl (by decide) h
   | false =>
    rw [e2, cond_false] at h
    cases e3 : Nat.beq n 3 with
    | true =>
     rw [e3, cond_true] at h
     obtain ⟨h3, h⟩ := aH h
     exact go 3 _ (UR e3) (H7 h3 rfl (by simp)) rfl (by decide) h
    | false => rw [e3] at h; cases h
 ·cases h
end Go.Ev
namespace Go.Ev
def FD.NG (d : FD) (T : ar) (rs : List ResultVar) (ch : CH) (fuel : Nat) (gd nt : Nat) (rest : Code) (t3 t2 : Tmp) (o : an) (s : St) (w : Ow) : Option d.X :=
 match owB w with
 | true => match s.df with
  | [⟨g, cap, []⟩] => if g = gd then (match Jo o with
   | some r => bh T ch bD fuel rest (zX nt cap s.mem t3 t2 r) .nil fun o' s2 w' => match owB w' with
    | true => match o', s2.df with
     | .normal, [] => zY T rs [] .ret ⟨s.tm, [], s2.mem⟩ fun s3 => (mSt d.k (d.k + d.B.length) (d.F s3) [some d.M] (dV d.k d.B) [] s3).bind d.ofL
     | .ret, [] => zY T rs [] .ret ⟨s.tm, [], s2.mem⟩ fun s3 => (mSt d.k (d.k + d.B.length) (d.F s3) [some d.M] (dV d.k d.B) [] s3).bind d.ofL
     | _, _ => none
    | false => none
   | none => none) else none
  | [] => zY T rs d.pre o s fun s3 => (mSt d.k (d.k + d.B.length) (d.F s3) [some d.M] (dV d.k d.B) [] s3).bind d.ofL
  | _ => none
 | false => none
section
variable {P : Program} {T : ar} {ch : CH} {A : qh}
theorem FD.TS (hT : aZ P T) (hH : aG P ch) (hm : P.follows .mixedOrders = true) (hN : nN P) (d : FD) {g : FuncId} {fn : Func} {c : Code} {fuel : Nat} {cargs : LA_} {B0 : List (Nat × am)} {x : d.X}
  (hf : P.funcs[g]? = some fn) (hb : fn.body = some c) (hA : ∀ b ∈ bm c, ∀ la, A (dK b) = some la → cX P d.k la b)
  (hS : shP (d.k + d.B.length) [some d.M] (dV d.k d.B) = true)
  {gd : FuncId} {fd : Func} {id : Nat} {ops : Array Oper} {o0 o1 : Oper} {rest : Code} {t3 t2 : Tmp} (hk : wh P gd fd id ops o0 o1 rest t3 t2) (hl : bm rest = [])
  (hx : bh T ch A fuel c (bG fn.ntmps cargs ⟨d.k, B0⟩) .nil (d.NG T fn.results.toList ch fuel gd fd.ntmps rest t3 t2) = some x) :
  mZ P g ∧ cE P g cargs ⟨d.k, B0⟩ (.ret (d.val x)) ⟨d.k + (d.aN x).length, cS d.k (d.aN x)⟩ := by
 rw [jv] at hx
 obtain ⟨⟨o, s, w1⟩, k1, k2⟩ := bE_ hx
 obtain ⟨o2, s2, w2, j1, j2, j3⟩ := iN (k := d.k) hT hH hm fuel c _ _ _ _ hA k1
 simp only [UB, UD] at j1
 obtain ⟨rfl, rfl, rfl⟩ := j1
 simp only [FD.NG] at k2
 split at k2
 rotate_left
 ·cases k2
 rename_i how
 have hAW := j3 (eW how)
 split at k2
 rotate_left
 ·rename_i hdf
  obtain ⟨s4, q1, q2⟩ := lD k2
  have hfin : (o2 = .normal ∨ o2 = .ret) ∧ (cb d.pre s2).df = [] ∧ ∃ v, gk T (cb d.pre s2) fn.results.toList = some v ∧ s4 = ⟨[v], [], (cb d.pre s2).mem⟩ := by
   unfold zZ at q1
   cases o2 with
   | normal =>
    simp only at q1
    split at q1
    ·rename_i hd
     obtain ⟨v, hv, rfl⟩ := UM.1 q1
     exact ⟨.inl rfl, hd, v, hv, rfl⟩
    ·cases q1
   | ret =>
    simp only at q1
    split at q1
    ·rename_i hd
     obtain ⟨v, hv, rfl⟩ := UM.1 q1
     exact ⟨.inr rfl, hd, v, hv, rfl⟩
    ·cases q1
   | exit i => cases q1
   | goto i => cases q1
   | pan v => cases q1
  obtain ⟨ho, hdf2, v, hres, rfl⟩ := hfin
  refine d.fin ⟨fn, hf, hN g fn hf, by rw [hb]; rfl⟩ hS q2 ?_
  intro w0 ρ w hr hs
  have key : AWP P c (bG fn.ntmps cargs ⟨d.k, B0⟩) fun o1 s1 => o1 = o2 ∧ s1 = cb d.pre s2 := by
   refine dk.sG (s := bG fn.ntmps cargs ⟨d.k, B0⟩) (oM ?_)
   intro hn w0 ρ a w hr
   refine wp_mono (hAW hn w0 ρ a w hr) ?_
   rintro e' a' w' ⟨o3, s3, ⟨h1, h2⟩, hq⟩
   subst h1 h2
   obtain ⟨ρ', r1, r2, r3, r4, r5⟩ := hq
   refine ⟨_, _, ⟨?_, _, jV r4, rfl, rfl⟩, ⟨ρ', r1, r2, r3, r4, r5⟩⟩
   rintro v rfl
   rcases ho with h | h <;> cases h
  have := iz (R := fun v3 σ3 => v3 = v ∧ σ3 = (cb d.pre s2).mem) hT hf hb hk (key.mono fun o1 s1 hh => by
   obtain ⟨rfl, rfl⟩ := hh
   exact .inl ⟨hdf2, ho, v, hres, rfl, rfl⟩) w0 ρ w hr hs
  refine this.mono ?_
  rintro e w' ⟨v3, σ3, ρ', ⟨rfl, rfl⟩, k3, k4, k5⟩
  exact ⟨ρ', k3, k4, k5⟩
 ·cases k2
 rename_i g' cap hdf
 split at k2
 rotate_left
 ·cases k2
 rename_i hgd
 subst hgd
 split at k2
 rotate_left
 ·cases k2
 rename_i r hrec
 rw [jv] at k2
 obtain ⟨⟨o', s', w'⟩, k3, k4⟩ := bE_ k2
 obtain ⟨o3, s3, w3, j4, j5, j6⟩ := iN (k := (zX fd.ntmps cap s2.mem t3 t2 r).mem.next) hT hH hm fuel rest _ _ _ _ (fun b hb => by rw [hl] at hb; cases hb) k3
 simp only [UB, UD] at j4
 obtain ⟨rfl, rfl, rfl⟩ := j4
 simp only at k4
 split at k4
 rotate_left
 ·cases k4
 rename_i how3
 have hAR := j6 (eW how3)
 have hend : (o3 = .normal ∨ o3 = .ret) ∧ s3.df = [] ∧ ∃ v, gk T ⟨s2.tm, [], s3.mem⟩ fn.results.toList = some v ∧ (mSt d.k (d.k + d.B.length) (d.F ⟨[v], [], s3.mem⟩) [some d.M] (dV d.k d.B) [] ⟨[v], [], s3.mem⟩).bind d.ofL = some x := by
  split at k4
  ·rename_i hd
   obtain ⟨s4, q1, q2⟩ := lD k4
   simp only [zZ, cb] at q1
   obtain ⟨v, hv, rfl⟩ := UM.1 q1
   exact ⟨.inl rfl, hd, v, hv, q2⟩
  ·rename_i hd
   obtain ⟨s4, q1, q2⟩ := lD k4
   simp only [zZ, cb] at q1
   obtain ⟨v, hv, rfl⟩ := UM.1 q1
   exact ⟨.inr rfl, hd, v, hv, q2⟩
  ·cases k4
 obtain ⟨ho3, hd3, v, hres, q2⟩ := hend
 refine d.fin ⟨fn, hf, hN g fn hf, by rw [hb]; rfl⟩ hS q2 ?_
 intro w0 ρ w hr hs
 have key : AWP P c (bG fn.ntmps cargs ⟨d.k, B0⟩) fun o1 s1 => o1 = o2 ∧ s1 = s2 := dk.sG (s := bG fn.ntmps cargs ⟨d.k, B0⟩) hAW
 have := iz (R := fun v3 σ3 => v3 = v ∧ σ3 = s3.mem) hT hf hb hk (key.mono fun o1 s1 hh => by
  obtain ⟨rfl, rfl⟩ := hh
  refine .inr ⟨cap, r, hdf, ?_, (dk.sG hAR).mono fun o5 s5 h5 => ?_⟩
  ·cases o1 <;> simp only [Jo, UB, reduceCtorEq] at hrec
   ·exact .inl ⟨.inl rfl, hrec.symm⟩
   ·exact .inl ⟨.inr rfl, hrec.symm⟩
   ·exact .inr (by rw [hrec])
  ·obtain ⟨rfl, rfl⟩ := h5
   exact ⟨ho3, hd3, v, hres, rfl, rfl⟩) w0 ρ w hr hs
 refine this.mono ?_
 rintro e w' ⟨v3, σ3, ρ', ⟨rfl, rfl⟩, k3, k4, k5⟩
 exact ⟨ρ', k3, k4, k5⟩
end
end Go.Ev
namespace Go.Ev
open Go.Proofs
def Bl : CH := CH.none
theorem xK : aG U2 Bl := CH.aF
def fK (a0 : Int) : Option (Bool) :=
 (cond (a0 != a0) (some true) (some false))
def iP : FD where
 X := Bool
 k := 0
 pre := []
 F := fun s => []
 M := .bool
 B := []
 toL := fun x => [.B x]
 ofL := fun ls => match ls with
  | [.B x0] => some x0
  | _ => none
 au := fun ls x h => by
  split at h
  ·cases h; rfl
  ·cases h
theorem AN (a0 : Int) (x : Bool) (h : fK a0 = some x) : bg U2 103 0 [.int .i64 a0] [] iP x :=
 FD.semA iP xK Try.func103 (fuel := 60) (by kernel_rfl) (by kernel_rfl)
  (by kernel_rfl) (Eq.trans (by kernel_rfl) h)
def oU : HK where
 call := fun args σ k => match args with
  | [.int .i64 a0] => Option.bind (fK a0) fun y => aC σ 0 (iP.val y) (iP.aN y) k
  | _ => none
 nat := fun args σ k => by
  repeat' split
  all_goals simp only [av, ai, UA, Uz, aC, Uy]
 pure := true
 pok := fun _ args σ r σ' h => by
  split at h
  ·exact bq h (fun y => rfl) (fun y f => rfl)
  ·cases h
theorem Bm : aX U2 103 oU := by
 intro args σ r σ' h
 simp only [oU] at h
 split at h
 ·rename_i a0
  obtain ⟨y, hy, h⟩ := bE_ h
  exact lifted (xs := []) (ls := []) (cargs := [.int .i64 a0]) (bC.of trivial) rfl (AN a0 y hy) rfl rfl rfl rfl h
 ·cases h
def Dd : CH := (CH.add 103 oU CH.none)
theorem yR : aG U2 Dd := (CH.ak Bm CH.aF)
def aE (a0 a1 : Int) : Option (Bool) :=
 (Option.bind (fK a0) fun r1 => (cond r1 (Option.bind (fK a1) fun r2 => (cond r2 (cond (decide (a0 < a1)) (some true) (some false)) (some true))) (cond (decide (a0 < a1)) (some true) (some false))))
def jz : FD where
 X := Bool
 k := 0
 pre := []
 F := fun s => []
 M := .bool
 B := []
 toL := fun x => [.B x]
 ofL := fun ls => match ls with
  | [.B x0] => some x0
  | _ => none
 au := fun ls x h => by
  split at h
  ·cases h; rfl
  ·cases h
theorem Bn (a0 a1 : Int) (x : Bool) (h : aE a0 a1 = some x) : bg U2 94 0 [.int .i64 a0, .int .i64 a1] [] jz x :=
 FD.semA jz yR Try.func94 (fuel := 60) (by kernel_rfl) (by kernel_rfl)
  (by kernel_rfl) (Eq.trans (by kernel_rfl) h)
def qY : HK where
 call := fun args σ k => match args with
  | [.int .i64 a0, .int .i64 a1] => Option.bind (aE a0 a1) fun y => aC σ 0 (jz.val y) (jz.aN y) k
  | _ => none
 nat := fun args σ k => by
  repeat' split
  all_goals simp only [av, ai, UA, Uz, aC, Uy]
 pure := true
 pok := fun _ args σ r σ' h => by
  split at h
  ·exact bq h (fun y => rfl) (fun y f => rfl)
  ·cases h
theorem De : aX U2 94 qY := by
 intro args σ r σ' h
 simp only [qY] at h
 split at h
 ·rename_i a0 a1
  obtain ⟨y, hy, h⟩ := bE_ h
  exact lifted (xs := []) (ls := []) (cargs := [.int .i64 a0, .int .i64 a1]) (bC.of trivial) rfl (Bn a0 a1 y hy) rfl rfl rfl rfl h
 ·cases h
def IS : CH := CH.none
theorem Eo : aG U2 IS := CH.aF
def pd (a0 : Int) : Option (Int) :=
 (some (IntKind.wrap .i64 ((IntKind.wrap .i64 ((IntKind.wrap .i64 (a0 + (IntKind.wrap .i64 (Int.tdiv (IntKind.wrap .i64 (a0 * (IntKind.wrap .i64 (a0 - 1)))) 2)))) + (IntKind.wrap .i64 (Int.tdiv (IntKind.wrap .i64 ((IntKind.wrap .i64 (Int.tdiv (IntKind.wrap .i64 (a0 * (IntKind.wrap .i64 (a0 - 1)))) 2)) * (IntKind.wrap .i64 (a0 - 2)))) 3)))) + (IntKind.wrap .i64 (Int.tdiv (IntKind.wrap .i64 ((IntKind.wrap .i64 (Int.tdiv (IntKind.wrap .i64 ((IntKind.wrap .i64 (Int.tdiv (IntKind.wrap .i64 (a0 * (IntKind.wrap .i64 (a0 - 1)))) 2)) * (IntKind.wrap .i64 (a0 - 2)))) 3)) * (IntKind.wrap .i64 (a0 - 3)))) 4)))))
def ph : FD where
 X := Int
 k := 0
 pre := []
 F := fun s => []
 M := .int .i64
 B := []
 toL := fun x => [.I x]
 ofL := fun ls => match ls with
  | [.I x0] => some x0
  | _ => none
 au := fun ls x h => by
  split at h
  ·cases h; rfl
  ·cases h
theorem Ht (a0 x : Int) (h : pd a0 = some x) : bg U2 53 0 [.int .i64 a0] [] ph x :=
 FD.semA ph Eo Try.func53 (fuel := 60) (by kernel_rfl) (by kernel_rfl)
  (by kernel_rfl) (Eq.trans (by kernel_rfl) h)
def yZ : HK where
 call := fun args σ k => match args with
  | [.int .i64 a0] => Option.bind (pd a0) fun y => aC σ 0 (ph.val y) (ph.aN y) k
  | _ => none
 nat := fun args σ k => by
  repeat' split
  all_goals simp only [av, ai, UA, Uz, aC, Uy]
 pure := true
 pok := fun _ args σ r σ' h => by
  split at h
  ·exact bq h (fun y => rfl) (fun y f => rfl)
  ·cases h
theorem IT : aX U2 53 yZ := by
 intro args σ r σ' h
 simp only [yZ] at h
 split at h
 ·rename_i a0
  obtain ⟨y, hy, h⟩ := bE_ h
  exact lifted (xs := []) (ls := []) (cargs := [.int .i64 a0]) (bC.of trivial) rfl (Ht a0 y hy) rfl rfl rfl rfl h
 ·cases h
end Go.Ev
