import Derived.Test.YtbmjabafceihgaaKag
set_option linter.unusedVariables false
set_option linter.unusedSimpArgs false
set_option maxRecDepth 100000
noncomputable section
namespace Go.Ev
open Go.Proofs
def pP : CH := CH.none
theorem sw : aD U3 pP := CH.aB
def eX {R : Type} (cc : LA_ × Nat × LA_ × Nat) (v : Int) (kn : (Int) → Option R) (ke : ((Int) ⊕ (Unit)) → Option R) : Option R :=
 (cond (decide (v ≥ 0)) (af (decide (0 ≤ v) && decide (v < ((8 : Nat) : Int))) (af (aq [.int .u64] cc.1 (0 + (Int.toNat v * 1))) (af (decide (0 ≤ v) && decide (v < ((8 : Nat) : Int))) (af (aq [.int .u64] cc.2.2.1 (0 + (Int.toNat v * 1))) (cond ((ac cc.1 ((0 + (Int.toNat v * 1)) + 0)) != (ac cc.2.2.1 ((0 + (Int.toNat v * 1)) + 0))) (af (decide (0 ≤ v) && decide (v < ((8 : Nat) : Int))) (af (aq [.int .u64] cc.1 (0 + (Int.toNat v * 1))) (af (decide (0 ≤ v) && decide (v < ((8 : Nat) : Int))) (af (aq [.int .u64] cc.2.2.1 (0 + (Int.toNat v * 1))) (cond (decide ((ac cc.1 ((0 + (Int.toNat v * 1)) + 0)) < (ac cc.2.2.1 ((0 + (Int.toNat v * 1)) + 0)))) (ke (.inl (-1))) (ke (.inl 1))))))) (kn (IntKind.wrap .i64 (v - 1)))))))) (ke (.inr ())))
def ol (cc : LA_ × Nat × LA_ × Nat) (v : Int) : Option ((Int) ⊕ ((Int) ⊕ (Unit))) := eX cc v (fun v => some (Sum.inl v)) fun e => some (Sum.inr e)
def wz (cc : LA_ × Nat × LA_ × Nat) (v : Int) : Option ((Int) ⊕ (Unit)) := dF (ol cc) v
def BQ (cc : LA_ × Nat × LA_ × Nat) (v : Int) : List ah := [.I v, .C cc.1, .N cc.2.1, .C cc.2.2.1, .N cc.2.2.2]
def sx (ls : List ah) : Option ((LA_ × Nat × LA_ × Nat) × (Int)) := match ls with
 | [.I x0, .C x1, .N x2, .C x3, .N x4] => some ((x1, x2, x3, x4), x0)
 | _ => none
def sy (e : (Int) ⊕ (Unit)) : an := ((Sum.elim (fun e => .ret) (fun e => .exit 0)) e)
def sA (cc : LA_ × Nat × LA_ × Nat) (e : (Int) ⊕ (Unit)) : List ah := ((Sum.elim (fun e => [.I e]) (fun e => [])) e)
def ra (cc : LA_ × Nat × LA_ × Nat) (e : (Int) ⊕ (Unit)) : List ah := ((Sum.elim (fun e => []) (fun e => [])) e)
def lD (o : an) (ls : List ah) : Option (((Int) ⊕ (Unit)) × List ah) := match o with
 | .ret => (match ls with
  | [.I x0] => some ((.inl x0), [])
  | _ => none)
 | .exit 0 => (match ls with
  | [] => some ((.inr ()), [])
  | _ => none)
 | _ => none
theorem yi : ∀ o ls e cl cc, lD o ls = some (e, cl) → cl = ra cc e → ls = sA cc e ∧ sy e = o ∧ o ≠ .normal ∧ ∀ v, o = .pan v → sc 0 v = true := by
 intro o ls e cl cc h hc
 unfold lD at h
 split at h
 ·split at h
  ·cases h
   exact ⟨rfl, rfl, by simp, by intro v hv; cases hv <;> rfl⟩
  ·cases h
 ·split at h
  ·cases h
   exact ⟨rfl, rfl, by simp, by intro v hv; cases hv <;> rfl⟩
  ·cases h
 ·cases h
def DL (o : an) : ExS := match o with
 | .ret => ⟨0, (none :: none :: none :: none :: some (.int .i64) :: (rl none 19 [])), [], fun s => [], [], []⟩
 | .exit 0 => ⟨0, (rl none 24 []), [], fun s => [], [], []⟩
 | _ => ⟨0, [], [], fun _ => [], [], []⟩
theorem BR {R : Type} (cc : LA_ × Nat × LA_ × Nat) (v : Int) (kn : (Int) → Option R) (ke : ((Int) ⊕ (Unit)) → Option R) : eX cc v kn ke = (eX cc v (fun v => some (Sum.inl v)) fun e => some (Sum.inr e)).bind (Sum.elim kn ke) := by
 simp only [eX, bL, aj, UB, cb, bH, Uz, UA, U0, UZ]
def vu : LD where
 CC := LA_ × Nat × LA_ × Nat
 V := Int
 E := (Int) ⊕ (Unit)
 n := 0
 K := 2
 M := (none :: none :: some (.ptr 0 0) :: some (.ptr 1 0) :: none :: some (.int .i64) :: (rl none 18 []))
 B := [(0, .vec 8 true), (1, .vec 8 true)]
 D := []
 pre := []
 F := fun s => [nameAt s 2 [], nameAt s 3 []]
 toL := BQ
 ofL := sx
 ar := fun ls c v h => by
  unfold sx at h
  split at h
  ·cases h; rfl
  ·cases h
 cq := eX
 nat := BR
 sh := DL
 out := sy
 toE := sA
 fw := ra
 ofE := lD
 dj := yi
 post := fun cc e k => ((Sum.elim (fun e => k (.ret) (bf 0 (none :: none :: none :: none :: some (.int .i64 e) :: (rl none 19 [])) [] [])) (fun e => k (.exit 0) (bf 0 (rl none 24 []) [] []))) e)
 cj := fun cc e k => by rcases e with e | e <;> rfl
theorem BS : cN U3 0 vu.la (aI Try.f38 0) :=
 LD.ok (ch := pP) (A := bz) aH sw mixed (fuel := 60) ⟨by kernel_rfl, fun e => by (rcases e with e | e <;> kernel_rfl), fun cc v => by kernel_rfl, aG (l := []) (by kernel_rfl) trivial⟩
def gJ (a0 a1 a2 a3 a4 a5 a6 a7 a8 a9 a10 a11 a12 a13 a14 a15 : Int) : Option (Int) :=
 (Option.bind (wz ((bE a0 a1 a2 a3 a4 a5 a6 a7), 1, (bE a8 a9 a10 a11 a12 a13 a14 a15), 1) 7) (Sum.elim (fun e1 => (some e1)) (fun e1 => (some 0))))
def mr : FD where
 X := Int
 k := 0
 pre := []
 F := fun s => []
 M := .int .i64
 B := []
 toL := fun x => [.I x]
 ofL := fun ls => match ls with
  | [.I x0] => some x0
  | _ => none
 ar := fun ls x h => by
  split at h
  ·cases h; rfl
  ·cases h
theorem EW (a0 a1 a2 a3 a4 a5 a6 a7 a8 a9 a10 a11 a12 a13 a14 a15 x : Int) (h : gJ a0 a1 a2 a3 a4 a5 a6 a7 a8 a9 a10 a11 a12 a13 a14 a15 = some x) : ba U3 38 0 [.agg (bE a0 a1 a2 a3 a4 a5 a6 a7), .agg (bE a8 a9 a10 a11 a12 a13 a14 a15)] [] mr x :=
 FD.sem (ch := pP) (A := eo [(2, vu.la)]) (fn := Try.f38) (c := bn Try.f38) (fuel := 60) aH sw mixed bF mr Try.func38 (by kernel_rfl) (aG (l := [aI Try.f38 0]) (by kernel_rfl) ⟨bX (by kernel_rfl) BS, trivial⟩)
  (by kernel_rfl) (Eq.trans (by kernel_rfl) h)
def pQ : HK where
 call := fun args σ k => match args with
  | [.agg [.int .u64 a0, .int .u64 a1, .int .u64 a2, .int .u64 a3, .int .u64 a4, .int .u64 a5, .int .u64 a6, .int .u64 a7], .agg [.int .u64 a8, .int .u64 a9, .int .u64 a10, .int .u64 a11, .int .u64 a12, .int .u64 a13, .int .u64 a14, .int .u64 a15]] => Option.bind (gJ a0 a1 a2 a3 a4 a5 a6 a7 a8 a9 a10 a11 a12 a13 a14 a15) fun y => az σ 0 (mr.val y) (mr.aJ y) k
  | _ => none
 nat := fun args σ k => by
  repeat' split
  all_goals simp only [av, aj, UB, UA, az, Uz]
 pure := true
 pok := fun _ args σ r σ' h => by
  split at h
  ·exact bo h (fun y => rfl) (fun y f => rfl)
  ·cases h
theorem wA : aU U3 38 pQ := by
 intro args σ r σ' h
 simp only [pQ] at h
 split at h
 ·rename_i a0 a1 a2 a3 a4 a5 a6 a7 a8 a9 a10 a11 a12 a13 a14 a15
  obtain ⟨y, hy, h⟩ := bE_ h
  exact lifted (xs := []) (ls := []) (cargs := [.agg (bE a0 a1 a2 a3 a4 a5 a6 a7), .agg (bE a8 a9 a10 a11 a12 a13 a14 a15)]) (bA.of trivial) rfl (EW a0 a1 a2 a3 a4 a5 a6 a7 a8 a9 a10 a11 a12 a13 a14 a15 y hy) rfl rfl rfl rfl h
 ·cases h
def BZ : CH := CH.none
theorem yt : aD U3 BZ := CH.aB
def ak (a0 a1 a2 a3 a4 a5 a6 a7 : Int) : Option (Bool) :=
 (cond ((aA .u64 a7 63) == 1) (some true) (some false))
def iX : FD where
 X := Bool
 k := 0
 pre := []
 F := fun s => []
 M := .bool
 B := []
 toL := fun x => [.B x]
 ofL := fun ls => match ls with
  | [.B x0] => some x0
  | _ => none
 ar := fun ls x h => by
  split at h
  ·cases h; rfl
  ·cases h
theorem Bi (a0 a1 a2 a3 a4 a5 a6 a7 : Int) (x : Bool) (h : ak a0 a1 a2 a3 a4 a5 a6 a7 = some x) : ba U3 37 0 [.agg (v8 a0 a1 a2 a3 a4 a5 a6 a7 [])] [] iX x :=
 FD.semA iX yt Try.func37 (fuel := 60) (by kernel_rfl) (by kernel_rfl)
  (by kernel_rfl) (Eq.trans (by kernel_rfl) h)
def cL : HK where
 call := fun args σ k => match args with
  | [.agg [.int .u64 a0, .int .u64 a1, .int .u64 a2, .int .u64 a3, .int .u64 a4, .int .u64 a5, .int .u64 a6, .int .u64 a7]] => Option.bind (ak a0 a1 a2 a3 a4 a5 a6 a7) fun y => az σ 0 (iX.val y) (iX.aJ y) k
  | _ => none
 nat := fun args σ k => by
  repeat' split
  all_goals simp only [av, aj, UB, UA, az, Uz]
 pure := true
 pok := fun _ args σ r σ' h => by
  split at h
  ·exact bo h (fun y => rfl) (fun y f => rfl)
  ·cases h
theorem cR : aU U3 37 cL := by
 intro args σ r σ' h
 simp only [cL] at h
 split at h
 ·rename_i a0 a1 a2 a3 a4 a5 a6 a7
  obtain ⟨y, hy, h⟩ := bE_ h
  exact lifted (xs := []) (ls := []) (cargs := [.agg (v8 a0 a1 a2 a3 a4 a5 a6 a7 [])]) (bA.of trivial) rfl (Bi a0 a1 a2 a3 a4 a5 a6 a7 y hy) rfl rfl rfl rfl h
 ·cases h
def Jf : CH := (CH.add 38 pQ (CH.add 37 cL CH.none))
theorem EY : aD U3 Jf := (CH.ai wA (CH.ai cR CH.aB))
def pT (a0 a1 a2 a3 a4 a5 a6 a7 a8 a9 a10 a11 a12 a13 a14 a15 : Int) : Option (Int) :=
 (Option.bind (ak a0 a1 a2 a3 a4 a5 a6 a7) fun r1 => (cond r1 (Option.bind (ak a8 a9 a10 a11 a12 a13 a14 a15) fun r2 => (cond r2 (Option.bind (gJ a0 a1 a2 a3 a4 a5 a6 a7 a8 a9 a10 a11 a12 a13 a14 a15) fun r3 => (some r3)) (some (-1)))) (Option.bind (ak a8 a9 a10 a11 a12 a13 a14 a15) fun r4 => (cond r4 (some 1) (Option.bind (gJ a0 a1 a2 a3 a4 a5 a6 a7 a8 a9 a10 a11 a12 a13 a14 a15) fun r5 => (some r5))))))
def pU : FD where
 X := Int
 k := 0
 pre := []
 F := fun s => []
 M := .int .i64
 B := []
 toL := fun x => [.I x]
 ofL := fun ls => match ls with
  | [.I x0] => some x0
  | _ => none
 ar := fun ls x h => by
  split at h
  ·cases h; rfl
  ·cases h
theorem HO (a0 a1 a2 a3 a4 a5 a6 a7 a8 a9 a10 a11 a12 a13 a14 a15 x : Int) (h : pT a0 a1 a2 a3 a4 a5 a6 a7 a8 a9 a10 a11 a12 a13 a14 a15 = some x) : ba U3 21 0 [.agg (v8 a0 a1 a2 a3 a4 a5 a6 a7 []), .agg (v8 a8 a9 a10 a11 a12 a13 a14 a15 [])] [] pU x :=
 FD.semA pU EY Try.func21 (fuel := 60) (by kernel_rfl) (by kernel_rfl)
  (by kernel_rfl) (Eq.trans (by kernel_rfl) h)
def zG : HK where
 call := fun args σ k => match args with
  | [.agg [.int .u64 a0, .int .u64 a1, .int .u64 a2, .int .u64 a3, .int .u64 a4, .int .u64 a5, .int .u64 a6, .int .u64 a7], .agg [.int .u64 a8, .int .u64 a9, .int .u64 a10, .int .u64 a11, .int .u64 a12, .int .u64 a13, .int .u64 a14, .int .u64 a15]] => Option.bind (pT a0 a1 a2 a3 a4 a5 a6 a7 a8 a9 a10 a11 a12 a13 a14 a15) fun y => az σ 0 (pU.val y) (pU.aJ y) k
  | _ => none
 nat := fun args σ k => by
  repeat' split
  all_goals simp only [av, aj, UB, UA, az, Uz]
 pure := true
 pok := fun _ args σ r σ' h => by
  split at h
  ·exact bo h (fun y => rfl) (fun y f => rfl)
  ·cases h
theorem Jg : aU U3 21 zG := by
 intro args σ r σ' h
 simp only [zG] at h
 split at h
 ·rename_i a0 a1 a2 a3 a4 a5 a6 a7 a8 a9 a10 a11 a12 a13 a14 a15
  obtain ⟨y, hy, h⟩ := bE_ h
  exact lifted (xs := []) (ls := []) (cargs := [.agg (v8 a0 a1 a2 a3 a4 a5 a6 a7 []), .agg (v8 a8 a9 a10 a11 a12 a13 a14 a15 [])]) (bA.of trivial) rfl (HO a0 a1 a2 a3 a4 a5 a6 a7 a8 a9 a10 a11 a12 a13 a14 a15 y hy) rfl rfl rfl rfl h
 ·cases h
def HX : CH := (CH.add 37 cL CH.none)
theorem DW : aD U3 HX := (CH.ai cR CH.aB)
def ky (a0 a1 a2 a3 a4 a5 a6 a7 : Int) : Option (Int) :=
 (Option.bind (ak a0 a1 a2 a3 a4 a5 a6 a7) fun r1 => (cond r1 (some (-1)) (cond (a0 == 0 && (a1 == 0 && (a2 == 0 && (a3 == 0 && (a4 == 0 && (a5 == 0 && (a6 == 0 && (a7 == 0 && true)))))))) (some 0) (some 1))))
def nS : FD where
 X := Int
 k := 0
 pre := []
 F := fun s => []
 M := .int .i64
 B := []
 toL := fun x => [.I x]
 ofL := fun ls => match ls with
  | [.I x0] => some x0
  | _ => none
 ar := fun ls x h => by
  split at h
  ·cases h; rfl
  ·cases h
theorem Gg (a0 a1 a2 a3 a4 a5 a6 a7 x : Int) (h : ky a0 a1 a2 a3 a4 a5 a6 a7 = some x) : ba U3 28 0 [.agg (v8 a0 a1 a2 a3 a4 a5 a6 a7 [])] [] nS x :=
 FD.semA nS DW Try.func28 (fuel := 60) (by kernel_rfl) (by kernel_rfl)
  (by kernel_rfl) (Eq.trans (by kernel_rfl) h)
def rR : HK where
 call := fun args σ k => match args with
  | [.agg [.int .u64 a0, .int .u64 a1, .int .u64 a2, .int .u64 a3, .int .u64 a4, .int .u64 a5, .int .u64 a6, .int .u64 a7]] => Option.bind (ky a0 a1 a2 a3 a4 a5 a6 a7) fun y => az σ 0 (nS.val y) (nS.aJ y) k
  | _ => none
 nat := fun args σ k => by
  repeat' split
  all_goals simp only [av, aj, UB, UA, az, Uz]
 pure := true
 pok := fun _ args σ r σ' h => by
  split at h
  ·exact bo h (fun y => rfl) (fun y f => rfl)
  ·cases h
theorem yl : aU U3 28 rR := by
 intro args σ r σ' h
 simp only [rR] at h
 split at h
 ·rename_i a0 a1 a2 a3 a4 a5 a6 a7
  obtain ⟨y, hy, h⟩ := bE_ h
  exact lifted (xs := []) (ls := []) (cargs := [.agg (v8 a0 a1 a2 a3 a4 a5 a6 a7 [])]) (bA.of trivial) rfl (Gg a0 a1 a2 a3 a4 a5 a6 a7 y hy) rfl rfl rfl rfl h
 ·cases h
abbrev zO := Int × Int × Int × Int × Int × Int × Int × Int
def wD : CH := (CH.add 60 Gc CH.none)
def yw : CH := uO U3 iS [76, 87] 60 wD 2
theorem B8 : aD U3 wD := (CH.ai (Iw Try.func60 (by kernel_rfl) (by kernel_rfl) (by kernel_rfl) (by kernel_rfl)) CH.aB)
theorem DV : aD U3 yw := iq aH mixed bF B8 2
def dq (a0 a1 a2 a3 a4 a5 a6 a7 a8 a9 a10 a11 a12 a13 a14 a15 a16 : Int) : Option (zO) :=
 (Option.bind (gS a0 a8 a16) fun r1 => (Option.bind (gS a1 a9 r1.2) fun r2 => (Option.bind (gS a2 a10 r2.2) fun r3 => (Option.bind (gS a3 a11 r3.2) fun r4 => (Option.bind (gS a4 a12 r4.2) fun r5 => (Option.bind (gS a5 a13 r5.2) fun r6 => (Option.bind (gS a6 a14 r6.2) fun r7 => (Option.bind (gS a7 a15 r7.2) fun r8 => (some (r1.1, r2.1, r3.1, r4.1, r5.1, r6.1, r7.1, r8.1))))))))))
def nR : FD where
 X := zO
 k := 0
 pre := []
 F := fun s => []
 M := .agg (rl (.int .u64) 8 [])
 B := []
 toL := fun x => [.I x.1, .I x.2.1, .I x.2.2.1, .I x.2.2.2.1, .I x.s4.1, .I x.s4.2.1, .I x.s4.2.2.1, .I x.s4.2.2.2]
 ofL := fun ls => match ls with
  | [.I x0, .I x1, .I x2, .I x3, .I x4, .I x5, .I x6, .I x7] => some (x0, x1, x2, x3, x4, x5, x6, x7)
  | _ => none
 ar := fun ls x h => by
  split at h
  ·cases h; rfl
  ·cases h
theorem Gf (a0 a1 a2 a3 a4 a5 a6 a7 a8 a9 a10 a11 a12 a13 a14 a15 a16 : Int) (x : zO) (h : dq a0 a1 a2 a3 a4 a5 a6 a7 a8 a9 a10 a11 a12 a13 a14 a15 a16 = some x) : ba U3 49 0 [.agg (bE a0 a1 a2 a3 a4 a5 a6 a7), .agg (bE a8 a9 a10 a11 a12 a13 a14 a15), .int .u64 a16] [] nR x :=
 FD.sem (ch := yw) (A := bz) (fn := Try.f49) (c := bn Try.f49) (fuel := 60) aH DV mixed bF nR Try.func49 (by kernel_rfl) (aG (l := [aI Try.f49 0]) (by kernel_rfl) ⟨(dY (by kernel_rfl)), trivial⟩)
  (by kernel_rfl) (Eq.trans (by kernel_rfl) h)
def iL : HK where
 call := fun args σ k => match args with
  | [.agg [.int .u64 a0, .int .u64 a1, .int .u64 a2, .int .u64 a3, .int .u64 a4, .int .u64 a5, .int .u64 a6, .int .u64 a7], .agg [.int .u64 a8, .int .u64 a9, .int .u64 a10, .int .u64 a11, .int .u64 a12, .int .u64 a13, .int .u64 a14, .int .u64 a15], .int .u64 a16] => Option.bind (dq a0 a1 a2 a3 a4 a5 a6 a7 a8 a9 a10 a11 a12 a13 a14 a15 a16) fun y => az σ 0 (nR.val y) (nR.aJ y) k
  | _ => none
 nat := fun args σ k => by
  repeat' split
  all_goals simp only [av, aj, UB, UA, az, Uz]
 pure := true
 pok := fun _ args σ r σ' h => by
  split at h
  ·exact bo h (fun y => rfl) (fun y f => rfl)
  ·cases h
theorem jm : aU U3 49 iL := by
 intro args σ r σ' h
 simp only [iL] at h
 split at h
 ·rename_i a0 a1 a2 a3 a4 a5 a6 a7 a8 a9 a10 a11 a12 a13 a14 a15 a16
  obtain ⟨y, hy, h⟩ := bE_ h
  exact lifted (xs := []) (ls := []) (cargs := [.agg (bE a0 a1 a2 a3 a4 a5 a6 a7), .agg (bE a8 a9 a10 a11 a12 a13 a14 a15), .int .u64 a16]) (bA.of trivial) rfl (Gf a0 a1 a2 a3 a4 a5 a6 a7 a8 a9 a10 a11 a12 a13 a14 a15 a16 y hy) rfl rfl rfl rfl h
 ·cases h
abbrev BT := (I8 Bool)
def Jd : CH := (CH.add 49 iL (CH.add 37 cL CH.none))
theorem EX : aD U3 Jd := (CH.ai jm (CH.ai cR CH.aB))
def pR (a0 a1 a2 a3 a4 a5 a6 a7 a8 a9 a10 a11 a12 a13 a14 a15 : Int) : Option (BT) :=
 (Option.bind (dq a0 a1 a2 a3 a4 a5 a6 a7 a8 a9 a10 a11 a12 a13 a14 a15 0) fun r1 => (Option.bind (ak a0 a1 a2 a3 a4 a5 a6 a7) fun r2 => (cond r2 (Option.bind (ak a8 a9 a10 a11 a12 a13 a14 a15) fun r3 => (cond r3 (Option.bind (ak r1.1 r1.2.1 r1.2.2.1 r1.2.2.2.1 r1.2.2.2.2.1 r1.2.2.2.2.2.1 r1.2.2.2.2.2.2.1 r1.2.2.2.2.2.2.2) fun r4 => (cond r4 (Option.bind (ak a0 a1 a2 a3 a4 a5 a6 a7) fun r5 => (cond r5 (some (r1.1, r1.2.1, r1.2.2.1, r1.2.2.2.1, r1.2.2.2.2.1, r1.2.2.2.2.2.1, r1.2.2.2.2.2.2.1, r1.2.2.2.2.2.2.2, true)) (some (0, 0, 0, 0, 0, 0, 0, 0, false)))) (Option.bind (ak a0 a1 a2 a3 a4 a5 a6 a7) fun r6 => (cond r6 (some (0, 0, 0, 0, 0, 0, 0, 0, false)) (some (r1.1, r1.2.1, r1.2.2.1, r1.2.2.2.1, r1.2.2.2.2.1, r1.2.2.2.2.2.1, r1.2.2.2.2.2.2.1, r1.2.2.2.2.2.2.2, true)))))) (some (r1.1, r1.2.1, r1.2.2.1, r1.2.2.2.1, r1.2.2.2.2.1, r1.2.2.2.2.2.1, r1.2.2.2.2.2.2.1, r1.2.2.2.2.2.2.2, true)))) (Option.bind (ak a8 a9 a10 a11 a12 a13 a14 a15) fun r7 => (cond r7 (some (r1.1, r1.2.1, r1.2.2.1, r1.2.2.2.1, r1.2.2.2.2.1, r1.2.2.2.2.2.1, r1.2.2.2.2.2.2.1, r1.2.2.2.2.2.2.2, true)) (Option.bind (ak r1.1 r1.2.1 r1.2.2.1 r1.2.2.2.1 r1.2.2.2.2.1 r1.2.2.2.2.2.1 r1.2.2.2.2.2.2.1 r1.2.2.2.2.2.2.2) fun r8 => (cond r8 (Option.bind (ak a0 a1 a2 a3 a4 a5 a6 a7) fun r9 => (cond r9 (some (r1.1, r1.2.1, r1.2.2.1, r1.2.2.2.1, r1.2.2.2.2.1, r1.2.2.2.2.2.1, r1.2.2.2.2.2.2.1, r1.2.2.2.2.2.2.2, true)) (some (0, 0, 0, 0, 0, 0, 0, 0, false)))) (Option.bind (ak a0 a1 a2 a3 a4 a5 a6 a7) fun r10 => (cond r10 (some (0, 0, 0, 0, 0, 0, 0, 0, false)) (some (r1.1, r1.2.1, r1.2.2.1, r1.2.2.2.1, r1.2.2.2.2.1, r1.2.2.2.2.2.1, r1.2.2.2.2.2.2.1, r1.2.2.2.2.2.2.2, true)))))))))))
def pS : FD where
 X := BT
 k := 0
 pre := []
 F := fun s => []
 M := .tup [.agg (rl (.int .u64) 8 []), .bool]
 B := []
 toL := fun x => [.I x.1, .I x.2.1, .I x.2.2.1, .I x.2.2.2.1, .I x.s4.1, .I x.s4.2.1, .I x.s4.2.2.1, .I x.s4.2.2.2.1, .B x.s8]
 ofL := fun ls => match ls with
  | [.I x0, .I x1, .I x2, .I x3, .I x4, .I x5, .I x6, .I x7, .B x8] => some (x0, x1, x2, x3, x4, x5, x6, x7, x8)
  | _ => none
 ar := fun ls x h => by
  split at h
  ·cases h; rfl
  ·cases h
theorem HN (a0 a1 a2 a3 a4 a5 a6 a7 a8 a9 a10 a11 a12 a13 a14 a15 : Int) (x : BT) (h : pR a0 a1 a2 a3 a4 a5 a6 a7 a8 a9 a10 a11 a12 a13 a14 a15 = some x) : ba U3 36 0 [.agg (bE a0 a1 a2 a3 a4 a5 a6 a7), .agg (bE a8 a9 a10 a11 a12 a13 a14 a15)] [] pS x :=
 FD.semA pS EX Try.func36 (fuel := 60) (by kernel_rfl) (by kernel_rfl)
  (by kernel_rfl) (Eq.trans (by kernel_rfl) h)
def zF : HK where
 call := fun args σ k => match args with
  | [.agg [.int .u64 a0, .int .u64 a1, .int .u64 a2, .int .u64 a3, .int .u64 a4, .int .u64 a5, .int .u64 a6, .int .u64 a7], .agg [.int .u64 a8, .int .u64 a9, .int .u64 a10, .int .u64 a11, .int .u64 a12, .int .u64 a13, .int .u64 a14, .int .u64 a15]] => Option.bind (pR a0 a1 a2 a3 a4 a5 a6 a7 a8 a9 a10 a11 a12 a13 a14 a15) fun y => az σ 0 (pS.val y) (pS.aJ y) k
  | _ => none
 nat := fun args σ k => by
  repeat' split
  all_goals simp only [av, aj, UB, UA, az, Uz]
 pure := true
 pok := fun _ args σ r σ' h => by
  split at h
  ·exact bo h (fun y => rfl) (fun y f => rfl)
  ·cases h
theorem Je : aU U3 36 zF := by
 intro args σ r σ' h
 simp only [zF] at h
 split at h
 ·rename_i a0 a1 a2 a3 a4 a5 a6 a7 a8 a9 a10 a11 a12 a13 a14 a15
  obtain ⟨y, hy, h⟩ := bE_ h
  exact lifted (xs := []) (ls := []) (cargs := [.agg (bE a0 a1 a2 a3 a4 a5 a6 a7), .agg (bE a8 a9 a10 a11 a12 a13 a14 a15)]) (bA.of trivial) rfl (HN a0 a1 a2 a3 a4 a5 a6 a7 a8 a9 a10 a11 a12 a13 a14 a15 y hy) rfl rfl rfl rfl h
 ·cases h
abbrev B2 := Int × Int × Int × Int × Int × Int × Int × Int
def AG : CH := CH.none
theorem E9 : aD U3 AG := CH.aB
def gf (a0 a1 a2 a3 a4 a5 a6 a7 : Int) : Option (B2) :=
 (some ((xz .u64 18446744073709551615 a0), (xz .u64 18446744073709551615 a1), (xz .u64 18446744073709551615 a2), (xz .u64 18446744073709551615 a3), (xz .u64 18446744073709551615 a4), (xz .u64 18446744073709551615 a5), (xz .u64 18446744073709551615 a6), (xz .u64 18446744073709551615 a7)))
def p9 : FD where
 X := B2
 k := 0
 pre := []
 F := fun s => []
 M := .agg (rl (.int .u64) 8 [])
 B := []
 toL := fun x => [.I x.1, .I x.2.1, .I x.2.2.1, .I x.2.2.2.1, .I x.s4.1, .I x.s4.2.1, .I x.s4.2.2.1, .I x.s4.2.2.2]
 ofL := fun ls => match ls with
  | [.I x0, .I x1, .I x2, .I x3, .I x4, .I x5, .I x6, .I x7] => some (x0, x1, x2, x3, x4, x5, x6, x7)
  | _ => none
 ar := fun ls x h => by
  split at h
  ·cases h; rfl
  ·cases h
theorem HW (a0 a1 a2 a3 a4 a5 a6 a7 : Int) (x : B2) (h : gf a0 a1 a2 a3 a4 a5 a6 a7 = some x) : ba U3 50 0 [.agg (v8 a0 a1 a2 a3 a4 a5 a6 a7 [])] [] p9 x :=
 FD.sem (ch := AG) (A := bz) (fn := Try.f50) (c := bn Try.f50) (fuel := 60) aH E9 mixed bF p9 Try.func50 (by kernel_rfl) (aG (l := [aI Try.f50 0]) (by kernel_rfl) ⟨(dY (by kernel_rfl)), trivial⟩)
  (by kernel_rfl) (Eq.trans (by kernel_rfl) h)
def mt : HK where
 call := fun args σ k => match args with
  | [.agg [.int .u64 a0, .int .u64 a1, .int .u64 a2, .int .u64 a3, .int .u64 a4, .int .u64 a5, .int .u64 a6, .int .u64 a7]] => Option.bind (gf a0 a1 a2 a3 a4 a5 a6 a7) fun y => az σ 0 (p9.val y) (p9.aJ y) k
  | _ => none
 nat := fun args σ k => by
  repeat' split
  all_goals simp only [av, aj, UB, UA, az, Uz]
 pure := true
 pok := fun _ args σ r σ' h => by
  split at h
  ·exact bo h (fun y => rfl) (fun y f => rfl)
  ·cases h
theorem nN : aU U3 50 mt := by
 intro args σ r σ' h
 simp only [mt] at h
 split at h
 ·rename_i a0 a1 a2 a3 a4 a5 a6 a7
  obtain ⟨y, hy, h⟩ := bE_ h
  exact lifted (xs := []) (ls := []) (cargs := [.agg (v8 a0 a1 a2 a3 a4 a5 a6 a7 [])]) (bA.of trivial) rfl (HW a0 a1 a2 a3 a4 a5 a6 a7 y hy) rfl rfl rfl rfl h
 ·cases h
abbrev B9 := (I8 Bool)
def Jm : CH := (CH.add 50 mt (CH.add 49 iL (CH.add 37 cL CH.none)))
theorem Fd : aD U3 Jm := (CH.ai nN (CH.ai jm (CH.ai cR CH.aB)))
def mv (a0 a1 a2 a3 a4 a5 a6 a7 a8 a9 a10 a11 a12 a13 a14 a15 : Int) : Option (B9) :=
 (Option.bind (gf a8 a9 a10 a11 a12 a13 a14 a15) fun r1 => (Option.bind (dq a0 a1 a2 a3 a4 a5 a6 a7 r1.1 r1.2.1 r1.2.2.1 r1.2.2.2.1 r1.2.2.2.2.1 r1.2.2.2.2.2.1 r1.2.2.2.2.2.2.1 r1.2.2.2.2.2.2.2 1) fun r2 => (Option.bind (ak a0 a1 a2 a3 a4 a5 a6 a7) fun r3 => (cond r3 (Option.bind (ak a8 a9 a10 a11 a12 a13 a14 a15) fun r4 => (cond r4 (some (r2.1, r2.2.1, r2.2.2.1, r2.2.2.2.1, r2.2.2.2.2.1, r2.2.2.2.2.2.1, r2.2.2.2.2.2.2.1, r2.2.2.2.2.2.2.2, true)) (Option.bind (ak r2.1 r2.2.1 r2.2.2.1 r2.2.2.2.1 r2.2.2.2.2.1 r2.2.2.2.2.2.1 r2.2.2.2.2.2.2.1 r2.2.2.2.2.2.2.2) fun r5 => (cond r5 (Option.bind (ak a0 a1 a2 a3 a4 a5 a6 a7) fun r6 => (cond r6 (some (r2.1, r2.2.1, r2.2.2.1, r2.2.2.2.1, r2.2.2.2.2.1, r2.2.2.2.2.2.1, r2.2.2.2.2.2.2.1, r2.2.2.2.2.2.2.2, true)) (some (0, 0, 0, 0, 0, 0, 0, 0, false)))) (Option.bind (ak a0 a1 a2 a3 a4 a5 a6 a7) fun r7 => (cond r7 (some (0, 0, 0, 0, 0, 0, 0, 0, false)) (some (r2.1, r2.2.1, r2.2.2.1, r2.2.2.2.1, r2.2.2.2.2.1, r2.2.2.2.2.2.1, r2.2.2.2.2.2.2.1, r2.2.2.2.2.2.2.2, true)))))))) (Option.bind (ak a8 a9 a10 a11 a12 a13 a14 a15) fun r8 => (cond r8 (Option.bind (ak r2.1 r2.2.1 r2.2.2.1 r2.2.2.2.1 r2.2.2.2.2.1 r2.2.2.2.2.2.1 r2.2.2.2.2.2.2.1 r2.2.2.2.2.2.2.2) fun r9 => (cond r9 (Option.bind (ak a0 a1 a2 a3 a4 a5 a6 a7) fun r10 => (cond r10 (some (r2.1, r2.2.1, r2.2.2.1, r2.2.2.2.1, r2.2.2.2.2.1, r2.2.2.2.2.2.1, r2.2.2.2.2.2.2.1, r2.2.2.2.2.2.2.2, true)) (some (0, 0, 0, 0, 0, 0, 0, 0, false)))) (Option.bind (ak a0 a1 a2 a3 a4 a5 a6 a7) fun r11 => (cond r11 (some (0, 0, 0, 0, 0, 0, 0, 0, false)) (some (r2.1, r2.2.1, r2.2.2.1, r2.2.2.2.1, r2.2.2.2.2.1, r2.2.2.2.2.2.1, r2.2.2.2.2.2.2.1, r2.2.2.2.2.2.2.2, true)))))) (some (r2.1, r2.2.1, r2.2.2.1, r2.2.2.2.1, r2.2.2.2.2.1, r2.2.2.2.2.2.1, r2.2.2.2.2.2.2.1, r2.2.2.2.2.2.2.2, true))))))))
def qb : FD where
 X := B9
 k := 0
 pre := []
 F := fun s => []
 M := .tup [.agg (rl (.int .u64) 8 []), .bool]
 B := []
 toL := fun x => [.I x.1, .I x.2.1, .I x.2.2.1, .I x.2.2.2.1, .I x.s4.1, .I x.s4.2.1, .I x.s4.2.2.1, .I x.s4.2.2.2.1, .B x.s8]
 ofL := fun ls => match ls with
  | [.I x0, .I x1, .I x2, .I x3, .I x4, .I x5, .I x6, .I x7, .B x8] => some (x0, x1, x2, x3, x4, x5, x6, x7, x8)
  | _ => none
 ar := fun ls x h => by
  split at h
  ·cases h; rfl
  ·cases h
theorem HZ (a0 a1 a2 a3 a4 a5 a6 a7 a8 a9 a10 a11 a12 a13 a14 a15 : Int) (x : B9) (h : mv a0 a1 a2 a3 a4 a5 a6 a7 a8 a9 a10 a11 a12 a13 a14 a15 = some x) : ba U3 83 0 [.agg (bE a0 a1 a2 a3 a4 a5 a6 a7), .agg (bE a8 a9 a10 a11 a12 a13 a14 a15)] [] qb x :=
 FD.semA qb Fd Try.func83 (fuel := 60) (by kernel_rfl) (by kernel_rfl)
  (by kernel_rfl) (Eq.trans (by kernel_rfl) h)
def un : HK where
 call := fun args σ k => match args with
  | [.agg [.int .u64 a0, .int .u64 a1, .int .u64 a2, .int .u64 a3, .int .u64 a4, .int .u64 a5, .int .u64 a6, .int .u64 a7], .agg [.int .u64 a8, .int .u64 a9, .int .u64 a10, .int .u64 a11, .int .u64 a12, .int .u64 a13, .int .u64 a14, .int .u64 a15]] => Option.bind (mv a0 a1 a2 a3 a4 a5 a6 a7 a8 a9 a10 a11 a12 a13 a14 a15) fun y => az σ 0 (qb.val y) (qb.aJ y) k
  | _ => none
 nat := fun args σ k => by
  repeat' split
  all_goals simp only [av, aj, UB, UA, az, Uz]
 pure := true
 pok := fun _ args σ r σ' h => by
  split at h
  ·exact bo h (fun y => rfl) (fun y f => rfl)
  ·cases h
theorem AF : aU U3 83 un := by
 intro args σ r σ' h
 simp only [un] at h
 split at h
 ·rename_i a0 a1 a2 a3 a4 a5 a6 a7 a8 a9 a10 a11 a12 a13 a14 a15
  obtain ⟨y, hy, h⟩ := bE_ h
  exact lifted (xs := []) (ls := []) (cargs := [.agg (bE a0 a1 a2 a3 a4 a5 a6 a7), .agg (bE a8 a9 a10 a11 a12 a13 a14 a15)]) (bA.of trivial) rfl (HZ a0 a1 a2 a3 a4 a5 a6 a7 a8 a9 a10 a11 a12 a13 a14 a15 y hy) rfl rfl rfl rfl h
 ·cases h
abbrev BY := (I8 Bool)
def Jj : CH := (CH.add 83 un CH.none)
theorem E8 : aD U3 Jj := (CH.ai AF CH.aB)
def p7 (a0 a1 a2 a3 a4 a5 a6 a7 : Int) : Option (BY) :=
 (Option.bind (mv 0 0 0 0 0 0 0 0 a0 a1 a2 a3 a4 a5 a6 a7) fun r1 => (cond r1.2.2.2.2.2.2.2.2 (some (r1.1, r1.2.1, r1.2.2.1, r1.2.2.2.1, r1.2.2.2.2.1, r1.2.2.2.2.2.1, r1.2.2.2.2.2.2.1, r1.2.2.2.2.2.2.2.1, true)) (some (r1.1, r1.2.1, r1.2.2.1, r1.2.2.2.1, r1.2.2.2.2.1, r1.2.2.2.2.2.1, r1.2.2.2.2.2.2.1, r1.2.2.2.2.2.2.2.1, false))))
def p8 : FD where
 X := BY
 k := 0
 pre := []
 F := fun s => []
 M := .tup [.agg (rl (.int .u64) 8 []), .bool]
 B := []
 toL := fun x => [.I x.1, .I x.2.1, .I x.2.2.1, .I x.2.2.2.1, .I x.s4.1, .I x.s4.2.1, .I x.s4.2.2.1, .I x.s4.2.2.2.1, .B x.s8]
 ofL := fun ls => match ls with
  | [.I x0, .I x1, .I x2, .I x3, .I x4, .I x5, .I x6, .I x7, .B x8] => some (x0, x1, x2, x3, x4, x5, x6, x7, x8)
  | _ => none
 ar := fun ls x h => by
  split at h
  ·cases h; rfl
  ·cases h
theorem HV (a0 a1 a2 a3 a4 a5 a6 a7 : Int) (x : BY) (h : p7 a0 a1 a2 a3 a4 a5 a6 a7 = some x) : ba U3 67 0 [.agg (v8 a0 a1 a2 a3 a4 a5 a6 a7 [])] [] p8 x :=
 FD.semA p8 E8 Try.func67 (fuel := 60) (by kernel_rfl) (by kernel_rfl)
  (by kernel_rfl) (Eq.trans (by kernel_rfl) h)
def zN : HK where
 call := fun args σ k => match args with
  | [.agg [.int .u64 a0, .int .u64 a1, .int .u64 a2, .int .u64 a3, .int .u64 a4, .int .u64 a5, .int .u64 a6, .int .u64 a7]] => Option.bind (p7 a0 a1 a2 a3 a4 a5 a6 a7) fun y => az σ 0 (p8.val y) (p8.aJ y) k
  | _ => none
 nat := fun args σ k => by
  repeat' split
  all_goals simp only [av, aj, UB, UA, az, Uz]
 pure := true
 pok := fun _ args σ r σ' h => by
  split at h
  ·exact bo h (fun y => rfl) (fun y f => rfl)
  ·cases h
theorem Jk : aU U3 67 zN := by
 intro args σ r σ' h
 simp only [zN] at h
 split at h
 ·rename_i a0 a1 a2 a3 a4 a5 a6 a7
  obtain ⟨y, hy, h⟩ := bE_ h
  exact lifted (xs := []) (ls := []) (cargs := [.agg (v8 a0 a1 a2 a3 a4 a5 a6 a7 [])]) (bA.of trivial) rfl (HV a0 a1 a2 a3 a4 a5 a6 a7 y hy) rfl rfl rfl rfl h
 ·cases h
def zf : CH := CH.none
theorem vV : aD U3 zf := CH.aB
def fZ (a0 a1 : Int) : Option (Int × Int) :=
 (some ((IntKind.wrap .u64 ((IntKind.wrap .u64 ((IntKind.wrap .u64 ((aA .u64 a0 32) * (aA .u64 a1 32))) + (aA .u64 (IntKind.wrap .u64 ((IntKind.wrap .u64 ((aA .u64 a0 32) * (ve .u64 a1 4294967295))) + (aA .u64 (IntKind.wrap .u64 ((ve .u64 a0 4294967295) * (ve .u64 a1 4294967295))) 32))) 32))) + (aA .u64 (IntKind.wrap .u64 ((ve .u64 (IntKind.wrap .u64 ((IntKind.wrap .u64 ((aA .u64 a0 32) * (ve .u64 a1 4294967295))) + (aA .u64 (IntKind.wrap .u64 ((ve .u64 a0 4294967295) * (ve .u64 a1 4294967295))) 32))) 4294967295) + (IntKind.wrap .u64 ((ve .u64 a0 4294967295) * (aA .u64 a1 32))))) 32))), (IntKind.wrap .u64 (a0 * a1))))
def gM : FD where
 X := Int × Int
 k := 0
 pre := []
 F := fun s => []
 M := .tup [.int .u64, .int .u64]
 B := []
 toL := fun x => [.I x.1, .I x.2]
 ofL := fun ls => match ls with
  | [.I x0, .I x1] => some (x0, x1)
  | _ => none
 ar := fun ls x h => by
  split at h
  ·cases h; rfl
  ·cases h
theorem xU (a0 a1 : Int) (x : Int × Int) (h : fZ a0 a1 = some x) : ba U3 59 0 [.int .u64 a0, .int .u64 a1] [] gM x :=
 FD.semA gM vV Try.func59 (fuel := 60) (by kernel_rfl) (by kernel_rfl)
  (by kernel_rfl) (Eq.trans (by kernel_rfl) h)
def mW : HK where
 call := fun args σ k => match args with
  | [.int .u64 a0, .int .u64 a1] => Option.bind (fZ a0 a1) fun y => az σ 0 (gM.val y) (gM.aJ y) k
  | _ => none
 nat := fun args σ k => by
  repeat' split
  all_goals simp only [av, aj, UB, UA, az, Uz]
 pure := true
 pok := fun _ args σ r σ' h => by
  split at h
  ·exact bo h (fun y => rfl) (fun y f => rfl)
  ·cases h
theorem zg : aU U3 59 mW := by
 intro args σ r σ' h
 simp only [mW] at h
 split at h
 ·rename_i a0 a1
  obtain ⟨y, hy, h⟩ := bE_ h
  exact lifted (xs := []) (ls := []) (cargs := [.int .u64 a0, .int .u64 a1]) (bA.of trivial) rfl (xU a0 a1 y hy) rfl rfl rfl rfl h
 ·cases h
abbrev xy := Int × Int × Int × Int × Int × Int × Int × Int
def Gb : CH := (CH.add 50 mt (CH.add 49 iL CH.none))
theorem BW : aD U3 Gb := (CH.ai nN (CH.ai jm CH.aB))
def eA (a0 a1 a2 a3 a4 a5 a6 a7 : Int) : Option (xy) :=
 (Option.bind (gf a0 a1 a2 a3 a4 a5 a6 a7) fun r1 => (Option.bind (dq r1.1 r1.2.1 r1.2.2.1 r1.2.2.2.1 r1.2.2.2.2.1 r1.2.2.2.2.2.1 r1.2.2.2.2.2.2.1 r1.2.2.2.2.2.2.2 0 0 0 0 0 0 0 0 1) fun r2 => (some (r2.1, r2.2.1, r2.2.2.1, r2.2.2.2.1, r2.2.2.2.2.1, r2.2.2.2.2.2.1, r2.2.2.2.2.2.2.1, r2.2.2.2.2.2.2.2))))
def mu : FD where
 X := xy
 k := 0
 pre := []
 F := fun s => []
 M := .agg (rl (.int .u64) 8 [])
 B := []
 toL := fun x => [.I x.1, .I x.2.1, .I x.2.2.1, .I x.2.2.2.1, .I x.s4.1, .I x.s4.2.1, .I x.s4.2.2.1, .I x.s4.2.2.2]
 ofL := fun ls => match ls with
  | [.I x0, .I x1, .I x2, .I x3, .I x4, .I x5, .I x6, .I x7] => some (x0, x1, x2, x3, x4, x5, x6, x7)
  | _ => none
 ar := fun ls x h => by
  split at h
  ·cases h; rfl
  ·cases h
theorem E3 (a0 a1 a2 a3 a4 a5 a6 a7 : Int) (x : xy) (h : eA a0 a1 a2 a3 a4 a5 a6 a7 = some x) : ba U3 75 0 [.agg (v8 a0 a1 a2 a3 a4 a5 a6 a7 [])] [] mu x :=
 FD.semA mu BW Try.func75 (fuel := 60) (by kernel_rfl) (by kernel_rfl)
  (by kernel_rfl) (Eq.trans (by kernel_rfl) h)
def lG : HK where
 call := fun args σ k => match args with
  | [.agg [.int .u64 a0, .int .u64 a1, .int .u64 a2, .int .u64 a3, .int .u64 a4, .int .u64 a5, .int .u64 a6, .int .u64 a7]] => Option.bind (eA a0 a1 a2 a3 a4 a5 a6 a7) fun y => az σ 0 (mu.val y) (mu.aJ y) k
  | _ => none
 nat := fun args σ k => by
  repeat' split
  all_goals simp only [av, aj, UB, UA, az, Uz]
 pure := true
 pok := fun _ args σ r σ' h => by
  split at h
  ·exact bo h (fun y => rfl) (fun y f => rfl)
  ·cases h
theorem pY : aU U3 75 lG := by
 intro args σ r σ' h
 simp only [lG] at h
 split at h
 ·rename_i a0 a1 a2 a3 a4 a5 a6 a7
  obtain ⟨y, hy, h⟩ := bE_ h
  exact lifted (xs := []) (ls := []) (cargs := [.agg (v8 a0 a1 a2 a3 a4 a5 a6 a7 [])]) (bA.of trivial) rfl (E3 a0 a1 a2 a3 a4 a5 a6 a7 y hy) rfl rfl rfl rfl h
 ·cases h
abbrev zP := Int × Int × Int × Int × Int × Int × Int × Int
def HY : CH := (CH.add 75 lG (CH.add 37 cL CH.none))
theorem DY : aD U3 HY := (CH.ai pY (CH.ai cR CH.aB))
def dr (a0 a1 a2 a3 a4 a5 a6 a7 : Int) : Option (zP) :=
 (Option.bind (ak a0 a1 a2 a3 a4 a5 a6 a7) fun r1 => (cond r1 (Option.bind (eA a0 a1 a2 a3 a4 a5 a6 a7) fun r2 => (some (r2.1, r2.2.1, r2.2.2.1, r2.2.2.2.1, r2.2.2.2.2.1, r2.2.2.2.2.2.1, r2.2.2.2.2.2.2.1, r2.2.2.2.2.2.2.2))) (some (a0, a1, a2, a3, a4, a5, a6, a7))))
def nT : FD where
 X := zP
 k := 0
 pre := []
 F := fun s => []
 M := .agg (rl (.int .u64) 8 [])
 B := []
 toL := fun x => [.I x.1, .I x.2.1, .I x.2.2.1, .I x.2.2.2.1, .I x.s4.1, .I x.s4.2.1, .I x.s4.2.2.1, .I x.s4.2.2.2]
 ofL := fun ls => match ls with
  | [.I x0, .I x1, .I x2, .I x3, .I x4, .I x5, .I x6, .I x7] => some (x0, x1, x2, x3, x4, x5, x6, x7)
  | _ => none
 ar := fun ls x h => by
  split at h
  ·cases h; rfl
  ·cases h
theorem Gh (a0 a1 a2 a3 a4 a5 a6 a7 : Int) (x : zP) (h : dr a0 a1 a2 a3 a4 a5 a6 a7 = some x) : ba U3 48 0 [.agg (v8 a0 a1 a2 a3 a4 a5 a6 a7 [])] [] nT x :=
 FD.semA nT DY Try.func48 (fuel := 60) (by kernel_rfl) (by kernel_rfl)
  (by kernel_rfl) (Eq.trans (by kernel_rfl) h)
def rQ : HK where
 call := fun args σ k => match args with
  | [.agg [.int .u64 a0, .int .u64 a1, .int .u64 a2, .int .u64 a3, .int .u64 a4, .int .u64 a5, .int .u64 a6, .int .u64 a7]] => Option.bind (dr a0 a1 a2 a3 a4 a5 a6 a7) fun y => az σ 0 (nT.val y) (nT.aJ y) k
  | _ => none
 nat := fun args σ k => by
  repeat' split
  all_goals simp only [av, aj, UB, UA, az, Uz]
 pure := true
 pok := fun _ args σ r σ' h => by
  split at h
  ·exact bo h (fun y => rfl) (fun y f => rfl)
  ·cases h
theorem yj : aU U3 48 rQ := by
 intro args σ r σ' h
 simp only [rQ] at h
 split at h
 ·rename_i a0 a1 a2 a3 a4 a5 a6 a7
  obtain ⟨y, hy, h⟩ := bE_ h
  exact lifted (xs := []) (ls := []) (cargs := [.agg (v8 a0 a1 a2 a3 a4 a5 a6 a7 [])]) (bA.of trivial) rfl (Gh a0 a1 a2 a3 a4 a5 a6 a7 y hy) rfl rfl rfl rfl h
 ·cases h
abbrev iv := LA_ × Nat × LA_ × Nat × LA_ × Nat × LA_ × Nat × LA_ × Nat × Nat × Int × Int
abbrev iw := LA_ × Nat × LA_ × Nat × LA_ × Nat × LA_ × Nat × LA_ × Nat × Nat
abbrev BX := (I8 Bool)
def yp : CH := (CH.add 75 lG (CH.add 59 mW (CH.add 48 rQ (CH.add 37 cL (CH.add 60 Gc CH.none)))))
def nQ : CH := uO U3 iS [51] 60 yp 2
theorem DR : aD U3 yp := (CH.ai pY (CH.ai zg (CH.ai yj (CH.ai cR (CH.ai (Iw Try.func60 (by kernel_rfl) (by kernel_rfl) (by kernel_rfl) (by kernel_rfl)) CH.aB)))))
theorem ot : aD U3 nQ := iq aH mixed bF DR 2
def fN {R : Type} (cc : iv) (v : LA_ × Int × Int) (kn : (LA_ × Int × Int) → Option R) (ke : ((Unit) ⊕ (LA_ × Int)) → Option R) : Option R :=
 (cond (decide (v.2.2 < 8)) (af (decide (0 ≤ cc.2.2.2.2.2.2.2.2.2.2.2.1) && decide (cc.2.2.2.2.2.2.2.2.2.2.2.1 < ((8 : Nat) : Int))) (af (aq [.int .u64] cc.2.2.2.2.2.2.1 (0 + (Int.toNat cc.2.2.2.2.2.2.2.2.2.2.2.1 * 1))) (af (decide (0 ≤ v.2.2) && decide (v.2.2 < ((8 : Nat) : Int))) (af (aq [.int .u64] cc.2.2.2.2.2.2.2.2.1 (0 + (Int.toNat v.2.2 * 1))) (Option.bind (fZ (ac cc.2.2.2.2.2.2.1 ((0 + (Int.toNat cc.2.2.2.2.2.2.2.2.2.2.2.1 * 1)) + 0)) (ac cc.2.2.2.2.2.2.2.2.1 ((0 + (Int.toNat v.2.2 * 1)) + 0))) fun r3 => (Option.bind (gS r3.2 v.2.1 0) fun r4 => (cond (decide ((IntKind.wrap .i64 (cc.2.2.2.2.2.2.2.2.2.2.2.1 + v.2.2)) ≥ 8)) (cond (r4.1 != 0) (ke (.inl ())) (cond ((IntKind.wrap .u64 (r3.1 + r4.2)) != 0) (ke (.inl ())) (kn (v.1, 0, (IntKind.wrap .i64 (v.2.2 + 1)))))) (af (decide (0 ≤ (IntKind.wrap .i64 (cc.2.2.2.2.2.2.2.2.2.2.2.1 + v.2.2))) && decide ((IntKind.wrap .i64 (cc.2.2.2.2.2.2.2.2.2.2.2.1 + v.2.2)) < ((8 : Nat) : Int))) (af (aq [.int .u64] v.1 (0 + (Int.toNat (IntKind.wrap .i64 (cc.2.2.2.2.2.2.2.2.2.2.2.1 + v.2.2)) * 1))) (Option.bind (gS (ac v.1 ((0 + (Int.toNat (IntKind.wrap .i64 (cc.2.2.2.2.2.2.2.2.2.2.2.1 + v.2.2)) * 1)) + 0)) r4.1 0) fun r5 => (af (decide (0 ≤ (IntKind.wrap .i64 (cc.2.2.2.2.2.2.2.2.2.2.2.1 + v.2.2))) && decide ((IntKind.wrap .i64 (cc.2.2.2.2.2.2.2.2.2.2.2.1 + v.2.2)) < ((8 : Nat) : Int))) (af (decide ((0 + (Int.toNat (IntKind.wrap .i64 (cc.2.2.2.2.2.2.2.2.2.2.2.1 + v.2.2)) * 1)) + 1 ≤ List.length v.1)) (kn ((spliced v.1 (0 + (Int.toNat (IntKind.wrap .i64 (cc.2.2.2.2.2.2.2.2.2.2.2.1 + v.2.2)) * 1)) [.int .u64 r5.1]), (IntKind.wrap .u64 ((IntKind.wrap .u64 (r3.1 + r4.2)) + r5.2)), (IntKind.wrap .i64 (v.2.2 + 1)))))))))))))))) (ke (.inr (v.1, v.2.1))))
def pZ (cc : iv) (v : LA_ × Int × Int) : Option ((LA_ × Int × Int) ⊕ ((Unit) ⊕ (LA_ × Int))) := fN cc v (fun v => some (Sum.inl v)) fun e => some (Sum.inr e)
def yq (cc : iv) (v : LA_ × Int × Int) : Option ((Unit) ⊕ (LA_ × Int)) := dF (pZ cc) v
def DS (cc : iv) (v : LA_ × Int × Int) : List ah := [.I cc.s8.2.2.2.1, .I v.2.1, .I cc.s8.s4, .I v.2.2, .C cc.1, .N cc.2.1, .C cc.2.2.1, .N cc.2.2.2.1, .C cc.s4.1, .N cc.s4.2.1, .C cc.s4.2.2.1, .N cc.s4.2.2.2.1, .C cc.s8.1, .N cc.s8.2.1, .C v.1, .N cc.s8.2.2.1]
def tZ (ls : List ah) : Option ((iv) × (LA_ × Int × Int)) := match ls with
 | [.I x0, .I x1, .I x2, .I x3, .C x4, .N x5, .C x6, .N x7, .C x8, .N x9, .C x10, .N x11, .C x12, .N x13, .C x14, .N x15] => some ((x4, x5, x6, x7, x8, x9, x10, x11, x12, x13, x15, x0, x2), (x14, x1, x3))
 | _ => none
def t6 (e : (Unit) ⊕ (LA_ × Int)) : an := ((Sum.elim (fun e => .pan (.iface 110 (.agg []))) (fun e => .exit 2)) e)
def t7 (cc : iv) (e : (Unit) ⊕ (LA_ × Int)) : List ah := ((Sum.elim (fun e => [.C cc.s4.1, .N cc.s4.2.1]) (fun e => [.I e.2, .I cc.s8.s4, .C cc.1, .N cc.2.1, .C cc.2.2.1, .N cc.2.2.2.1, .C cc.s4.1, .N cc.s4.2.1, .C cc.s4.2.2.1, .N cc.s4.2.2.2.1, .C cc.s8.1, .N cc.s8.2.1, .C e.1, .N cc.s8.2.2.1])) e)
def ix (cc : iv) (e : (Unit) ⊕ (LA_ × Int)) : List ah := ((Sum.elim (fun e => [.C cc.s4.1, .N cc.s4.2.1]) (fun e => [.I cc.s8.s4, .C cc.1, .N cc.2.1, .C cc.2.2.1, .N cc.2.2.2.1, .C cc.s4.1, .N cc.s4.2.1, .C cc.s4.2.2.1, .N cc.s4.2.2.2.1, .C cc.s8.1, .N cc.s8.2.1, .N cc.s8.2.2.1])) e)
def nj (o : an) (ls : List ah) : Option (((Unit) ⊕ (LA_ × Int)) × List ah) := match o with
 | .pan (.iface 110 (.agg [])) => (match ls with
  | [.C x0, .N x1] => some ((.inl ()), [.C x0, .N x1])
  | _ => none)
 | .exit 2 => (match ls with
  | [.I x0, .I x1, .C x2, .N x3, .C x4, .N x5, .C x6, .N x7, .C x8, .N x9, .C x10, .N x11, .C x12, .N x13] => some ((.inr (x12, x0)), [.I x1, .C x2, .N x3, .C x4, .N x5, .C x6, .N x7, .C x8, .N x9, .C x10, .N x11, .N x13])
  | _ => none)
 | _ => none
theorem zL : ∀ o ls e cl cc, nj o ls = some (e, cl) → cl = ix cc e → ls = t7 cc e ∧ t6 e = o ∧ o ≠ .normal ∧ ∀ v, o = .pan v → sc 0 v = true := by
 intro o ls e cl cc h hc
 unfold nj at h
 split at h
 ·split at h
  ·cases h
   simp only [ix, U0, UZ, List.cons.injEq, ah.I.injEq, ah.N.injEq, ah.C.injEq, and_true] at hc
   obtain ⟨rfl, rfl⟩ := hc
   exact ⟨rfl, rfl, by simp, by intro v hv; cases hv <;> rfl⟩
  ·cases h
 ·split at h
  ·cases h
   simp only [ix, U0, UZ, List.cons.injEq, ah.I.injEq, ah.N.injEq, ah.C.injEq, and_true] at hc
   obtain ⟨rfl, rfl, rfl, rfl, rfl, rfl, rfl, rfl, rfl, rfl, rfl, rfl⟩ := hc
   exact ⟨rfl, rfl, by simp, by intro v hv; cases hv <;> rfl⟩
  ·cases h
 ·cases h
def E4 (o : an) : ExS := match o with
 | .pan (.iface 110 (.agg [])) => ⟨2, (none :: none :: none :: none :: some (.ptr 0 0) :: some (.ptr 1 0) :: (rl none 89 [])), [(0, .vec 8 true), (1, .cells [.td false] true none)], fun s => [nameAt s 4 [], nameAt s 5 []], [], [(58, [4, 5])]⟩
 | .exit 2 => ⟨7, (none :: none :: some (.ptr 0 0) :: some (.ptr 1 0) :: some (.ptr 2 0) :: some (.ptr 3 0) :: some (.ptr 4 0) :: some (.ptr 5 0) :: some (.ptr 6 0) :: none :: some (.int .u64) :: (rl none 11 (some (.int .i64) :: (rl none 72 [])))), [(0, .vec 8 true), (1, .vec 8 true), (2, .vec 8 true), (3, .cells [.td false] true none), (4, .vec 8 true), (5, .vec 8 true), (6, .vec 8 true)], fun s => [nameAt s 2 [], nameAt s 3 [], nameAt s 4 [], nameAt s 5 [], nameAt s 6 [], nameAt s 7 [], nameAt s 8 []], [], [(58, [4, 5])]⟩
 | _ => ⟨0, [], [], fun _ => [], [], []⟩
theorem DT {R : Type} (cc : iv) (v : LA_ × Int × Int) (kn : (LA_ × Int × Int) → Option R) (ke : ((Unit) ⊕ (LA_ × Int)) → Option R) : fN cc v kn ke = (fN cc v (fun v => some (Sum.inl v)) fun e => some (Sum.inr e)).bind (Sum.elim kn ke) := by
 simp only [fN, bL, aj, UB, cb, bH, Uz, UA, U0, UZ]
def p4 : LD where
 CC := iv
 V := LA_ × Int × Int
 E := (Unit) ⊕ (LA_ × Int)
 n := 0
 K := 7
 M := (none :: none :: some (.ptr 0 0) :: some (.ptr 1 0) :: some (.ptr 2 0) :: some (.ptr 3 0) :: some (.ptr 4 0) :: some (.ptr 5 0) :: some (.ptr 6 0) :: some (.int .i64) :: some (.int .u64) :: (rl none 11 (some (.int .i64) :: (rl none 6 (some (.int .i64) :: (rl none 65 []))))))
 B := [(0, .vec 8 true), (1, .vec 8 true), (2, .vec 8 true), (3, .cells [.td false] true none), (4, .vec 8 true), (5, .vec 8 true), (6, .vec 8 true)]
 D := [(58, [4, 5])]
 pre := []
 F := fun s => [nameAt s 2 [], nameAt s 3 [], nameAt s 4 [], nameAt s 5 [], nameAt s 6 [], nameAt s 7 [], nameAt s 8 []]
 toL := DS
 ofL := tZ
 ar := fun ls c v h => by
  unfold tZ at h
  split at h
  ·cases h; rfl
  ·cases h
 cq := fN
 nat := DT
 sh := E4
 out := t6
 toE := t7
 fw := ix
 ofE := nj
 dj := zL
 post := fun cc e k => ((Sum.elim (fun e => k (.pan (.iface 110 (.agg []))) (bf 2 (none :: none :: none :: none :: some (.ptr 0 0) :: some (.ptr 1 0) :: (rl none 89 [])) [(0, .vec cc.s4.1 cc.s4.2.1 8 true), (1, .cells [.bool false] true none)] [(58, [4, 5])])) (fun e => k (.exit 2) (bf 7 (none :: none :: some (.ptr 0 0) :: some (.ptr 1 0) :: some (.ptr 2 0) :: some (.ptr 3 0) :: some (.ptr 4 0) :: some (.ptr 5 0) :: some (.ptr 6 0) :: none :: some (.int .u64 e.2) :: (rl none 11 (some (.int .i64 cc.s8.s4) :: (rl none 72 [])))) [(0, .vec cc.1 cc.2.1 8 true), (1, .vec cc.2.2.1 cc.2.2.2.1 8 true), (2, .vec cc.s4.1 cc.s4.2.1 8 true), (3, .cells [.bool false] true none), (4, .vec cc.s4.2.2.1 cc.s4.2.2.2.1 8 true), (5, .vec cc.s8.1 cc.s8.2.1 8 true), (6, .vec e.1 cc.s8.2.2.1 8 true)] [(58, [4, 5])]))) e)
 cj := fun cc e k => by rcases e with e | e <;> rfl
theorem ua : cN U3 0 p4.la (aI Try.f35 1) :=
 LD.ok (ch := nQ) (A := bz) aH ot mixed (fuel := 60) ⟨by kernel_rfl, fun e => by (rcases e with e | e <;> kernel_rfl), fun cc v => by kernel_rfl, aG (l := []) (by kernel_rfl) trivial⟩
def gy {R : Type} (cc : iw) (v : LA_ × Int) (kn : (LA_ × Int) → Option R) (ke : ((Unit) ⊕ (LA_)) → Option R) : Option R :=
 (cond (decide (v.2 < 8)) (af (decide (0 ≤ v.2) && decide (v.2 < ((8 : Nat) : Int))) (af (aq [.int .u64] cc.2.2.2.2.2.2.1 (0 + (Int.toNat v.2 * 1))) (cond ((ac cc.2.2.2.2.2.2.1 ((0 + (Int.toNat v.2 * 1)) + 0)) == 0) (kn (v.1, (IntKind.wrap .i64 (v.2 + 1)))) (Option.bind (yq (cc.1, cc.2.1, cc.2.2.1, cc.2.2.2.1, cc.2.2.2.2.1, cc.2.2.2.2.2.1, cc.2.2.2.2.2.2.1, cc.2.2.2.2.2.2.2.1, cc.2.2.2.2.2.2.2.2.1, cc.2.2.2.2.2.2.2.2.2.1, cc.2.2.2.2.2.2.2.2.2.2, v.2, v.2) (v.1, 0, 0)) (Sum.elim (fun e6 => (ke (.inl ()))) (fun e6 => (cond (e6.2 != 0) (ke (.inl ())) (kn (e6.1, (IntKind.wrap .i64 (v.2 + 1))))))))))) (ke (.inr v.1)))
def rA (cc : iw) (v : LA_ × Int) : Option ((LA_ × Int) ⊕ ((Unit) ⊕ (LA_))) := gy cc v (fun v => some (Sum.inl v)) fun e => some (Sum.inr e)
def tu (cc : iw) (v : LA_ × Int) : Option ((Unit) ⊕ (LA_)) := dF (rA cc) v
def E5 (cc : iw) (v : LA_ × Int) : List ah := [.I v.2, .C cc.1, .N cc.2.1, .C cc.2.2.1, .N cc.2.2.2.1, .C cc.s4.1, .N cc.s4.2.1, .C cc.s4.2.2.1, .N cc.s4.2.2.2.1, .C cc.s8.1, .N cc.s8.2.1, .C v.1, .N cc.s8.2.2]
def vx (ls : List ah) : Option ((iw) × (LA_ × Int)) := match ls with
 | [.I x0, .C x1, .N x2, .C x3, .N x4, .C x5, .N x6, .C x7, .N x8, .C x9, .N x10, .C x11, .N x12] => some ((x1, x2, x3, x4, x5, x6, x7, x8, x9, x10, x12), (x11, x0))
 | _ => none
def vy (e : (Unit) ⊕ (LA_)) : an := ((Sum.elim (fun e => .pan (.iface 110 (.agg []))) (fun e => .exit 0)) e)
def vz (cc : iw) (e : (Unit) ⊕ (LA_)) : List ah := ((Sum.elim (fun e => [.C cc.s4.1, .N cc.s4.2.1]) (fun e => [.C cc.1, .N cc.2.1, .C cc.2.2.1, .N cc.2.2.2.1, .C cc.s4.1, .N cc.s4.2.1, .C e, .N cc.s8.2.2])) e)
def iW (cc : iw) (e : (Unit) ⊕ (LA_)) : List ah := ((Sum.elim (fun e => [.C cc.s4.1, .N cc.s4.2.1]) (fun e => [.C cc.1, .N cc.2.1, .C cc.2.2.1, .N cc.2.2.2.1, .C cc.s4.1, .N cc.s4.2.1, .N cc.s8.2.2])) e)
def ov (o : an) (ls : List ah) : Option (((Unit) ⊕ (LA_)) × List ah) := match o with
 | .pan (.iface 110 (.agg [])) => (match ls with
  | [.C x0, .N x1] => some ((.inl ()), [.C x0, .N x1])
  | _ => none)
 | .exit 0 => (match ls with
  | [.C x0, .N x1, .C x2, .N x3, .C x4, .N x5, .C x6, .N x7] => some ((.inr x6), [.C x0, .N x1, .C x2, .N x3, .C x4, .N x5, .N x7])
  | _ => none)
 | _ => none
theorem Bh : ∀ o ls e cl cc, ov o ls = some (e, cl) → cl = iW cc e → ls = vz cc e ∧ vy e = o ∧ o ≠ .normal ∧ ∀ v, o = .pan v → sc 0 v = true := by
 intro o ls e cl cc h hc
 unfold ov at h
 split at h
 ·split at h
  ·cases h
   simp only [iW, U0, UZ, List.cons.injEq, ah.N.injEq, ah.C.injEq, and_true] at hc
   obtain ⟨rfl, rfl⟩ := hc
   exact ⟨rfl, rfl, by simp, by intro v hv; cases hv <;> rfl⟩
  ·cases h
 ·split at h
  ·cases h
   simp only [iW, U0, UZ, List.cons.injEq, ah.N.injEq, ah.C.injEq, and_true] at hc
   obtain ⟨rfl, rfl, rfl, rfl, rfl, rfl, rfl⟩ := hc
   exact ⟨rfl, rfl, by simp, by intro v hv; cases hv <;> rfl⟩
  ·cases h
 ·cases h
def Gd (o : an) : ExS := match o with
 | .pan (.iface 110 (.agg [])) => ⟨2, (none :: none :: none :: none :: some (.ptr 0 0) :: some (.ptr 1 0) :: (rl none 89 [])), [(0, .vec 8 true), (1, .cells [.td false] true none)], fun s => [nameAt s 4 [], nameAt s 5 []], [], [(58, [4, 5])]⟩
 | .exit 0 => ⟨5, (none :: none :: some (.ptr 0 0) :: some (.ptr 1 0) :: some (.ptr 2 0) :: some (.ptr 3 0) :: none :: none :: some (.ptr 4 0) :: (rl none 86 [])), [(0, .vec 8 true), (1, .vec 8 true), (2, .vec 8 true), (3, .cells [.td false] true none), (4, .vec 8 true)], fun s => [nameAt s 2 [], nameAt s 3 [], nameAt s 4 [], nameAt s 5 [], nameAt s 8 []], [], [(58, [4, 5])]⟩
 | _ => ⟨0, [], [], fun _ => [], [], []⟩
theorem E6 {R : Type} (cc : iw) (v : LA_ × Int) (kn : (LA_ × Int) → Option R) (ke : ((Unit) ⊕ (LA_)) → Option R) : gy cc v kn ke = (gy cc v (fun v => some (Sum.inl v)) fun e => some (Sum.inr e)).bind (Sum.elim kn ke) := by
 simp only [gy, bL, aj, UB, cb, bH, Uz, UA, U0, UZ]
def yr : LD where
 CC := iw
 V := LA_ × Int
 E := (Unit) ⊕ (LA_)
 n := 0
 K := 7
 M := (none :: none :: some (.ptr 0 0) :: some (.ptr 1 0) :: some (.ptr 2 0) :: some (.ptr 3 0) :: some (.ptr 4 0) :: some (.ptr 5 0) :: some (.ptr 6 0) :: (rl none 13 (some (.int .i64) :: (rl none 72 []))))
 B := [(0, .vec 8 true), (1, .vec 8 true), (2, .vec 8 true), (3, .cells [.td false] true none), (4, .vec 8 true), (5, .vec 8 true), (6, .vec 8 true)]
 D := [(58, [4, 5])]
 pre := []
 F := fun s => [nameAt s 2 [], nameAt s 3 [], nameAt s 4 [], nameAt s 5 [], nameAt s 6 [], nameAt s 7 [], nameAt s 8 []]
 toL := E5
 ofL := vx
 ar := fun ls c v h => by
  unfold vx at h
  split at h
  ·cases h; rfl
  ·cases h
 cq := gy
 nat := E6
 sh := Gd
 out := vy
 toE := vz
 fw := iW
 ofE := ov
 dj := Bh
 post := fun cc e k => ((Sum.elim (fun e => k (.pan (.iface 110 (.agg []))) (bf 2 (none :: none :: none :: none :: some (.ptr 0 0) :: some (.ptr 1 0) :: (rl none 89 [])) [(0, .vec cc.s4.1 cc.s4.2.1 8 true), (1, .cells [.bool false] true none)] [(58, [4, 5])])) (fun e => k (.exit 0) (bf 5 (none :: none :: some (.ptr 0 0) :: some (.ptr 1 0) :: some (.ptr 2 0) :: some (.ptr 3 0) :: none :: none :: some (.ptr 4 0) :: (rl none 86 [])) [(0, .vec cc.1 cc.2.1 8 true), (1, .vec cc.2.2.1 cc.2.2.2.1 8 true), (2, .vec cc.s4.1 cc.s4.2.1 8 true), (3, .cells [.bool false] true none), (4, .vec e cc.s8.2.2 8 true)] [(58, [4, 5])]))) e)
 cj := fun cc e k => by rcases e with e | e <;> rfl
theorem E7 : cN U3 0 yr.la (aI Try.f35 0) :=
 LD.ok (ch := nQ) (A := eo [(10, p4.la)]) aH ot mixed (fuel := 60) ⟨by kernel_rfl, fun e => by (rcases e with e | e <;> kernel_rfl), fun cc v => by kernel_rfl, aG (l := [aI Try.f35 1]) (by kernel_rfl) ⟨bX (by kernel_rfl) ua, trivial⟩⟩
def p5 (a0 a1 a2 a3 a4 a5 a6 a7 a8 a9 a10 a11 a12 a13 a14 a15 : Int) : Option (BX) :=
 (Option.bind (dr a0 a1 a2 a3 a4 a5 a6 a7) fun r1 => (Option.bind (dr a8 a9 a10 a11 a12 a13 a14 a15) fun r2 => (Option.bind (tu ((bE a0 a1 a2 a3 a4 a5 a6 a7), 1, (bE a8 a9 a10 a11 a12 a13 a14 a15), 1, (bE 0 0 0 0 0 0 0 0), 1, (bE r1.1 r1.2.1 r1.2.2.1 r1.2.2.2.1 r1.2.2.2.2.1 r1.2.2.2.2.2.1 r1.2.2.2.2.2.2.1 r1.2.2.2.2.2.2.2), 1, (bE r2.1 r2.2.1 r2.2.2.1 r2.2.2.2.1 r2.2.2.2.2.1 r2.2.2.2.2.2.1 r2.2.2.2.2.2.2.1 r2.2.2.2.2.2.2.2), 1, 1) ((bE 0 0 0 0 0 0 0 0), 0)) (Sum.elim (fun e3 => (some (0, 0, 0, 0, 0, 0, 0, 0, false))) (fun e3 => (af (aq el e3 0) (Option.bind (ak a0 a1 a2 a3 a4 a5 a6 a7) fun r4 => (cond r4 (Option.bind (ak a8 a9 a10 a11 a12 a13 a14 a15) fun r5 => (cond r5 (cond (!((ac e3 0) == 0 && ((ac e3 1) == 0 && ((ac e3 2) == 0 && ((ac e3 3) == 0 && ((ac e3 4) == 0 && ((ac e3 5) == 0 && ((ac e3 6) == 0 && ((ac e3 7) == 0 && true))))))))) (Option.bind (ak (ac e3 0) (ac e3 1) (ac e3 2) (ac e3 3) (ac e3 4) (ac e3 5) (ac e3 6) (ac e3 7)) fun r6 => (cond r6 (some (0, 0, 0, 0, 0, 0, 0, 0, false)) (some ((ac e3 0), (ac e3 1), (ac e3 2), (ac e3 3), (ac e3 4), (ac e3 5), (ac e3 6), (ac e3 7), true)))) (some ((ac e3 0), (ac e3 1), (ac e3 2), (ac e3 3), (ac e3 4), (ac e3 5), (ac e3 6), (ac e3 7), true))) (Option.bind (eA (ac e3 0) (ac e3 1) (ac e3 2) (ac e3 3) (ac e3 4) (ac e3 5) (ac e3 6) (ac e3 7)) fun r7 => (cond (!(r7.1 == 0 && (r7.2.1 == 0 && (r7.2.2.1 == 0 && (r7.2.2.2.1 == 0 && (r7.2.2.2.2.1 == 0 && (r7.2.2.2.2.2.1 == 0 && (r7.2.2.2.2.2.2.1 == 0 && (r7.2.2.2.2.2.2.2 == 0 && true))))))))) (Option.bind (ak r7.1 r7.2.1 r7.2.2.1 r7.2.2.2.1 r7.2.2.2.2.1 r7.2.2.2.2.2.1 r7.2.2.2.2.2.2.1 r7.2.2.2.2.2.2.2) fun r8 => (cond r8 (some (r7.1, r7.2.1, r7.2.2.1, r7.2.2.2.1, r7.2.2.2.2.1, r7.2.2.2.2.2.1, r7.2.2.2.2.2.2.1, r7.2.2.2.2.2.2.2, true)) (some (0, 0, 0, 0, 0, 0, 0, 0, false)))) (some (r7.1, r7.2.1, r7.2.2.1, r7.2.2.2.1, r7.2.2.2.2.1, r7.2.2.2.2.2.1, r7.2.2.2.2.2.2.1, r7.2.2.2.2.2.2.2, true)))))) (Option.bind (ak a8 a9 a10 a11 a12 a13 a14 a15) fun r9 => (cond r9 (Option.bind (eA (ac e3 0) (ac e3 1) (ac e3 2) (ac e3 3) (ac e3 4) (ac e3 5) (ac e3 6) (ac e3 7)) fun r10 => (cond (!(r10.1 == 0 && (r10.2.1 == 0 && (r10.2.2.1 == 0 && (r10.2.2.2.1 == 0 && (r10.2.2.2.2.1 == 0 && (r10.2.2.2.2.2.1 == 0 && (r10.2.2.2.2.2.2.1 == 0 && (r10.2.2.2.2.2.2.2 == 0 && true))))))))) (Option.bind (ak r10.1 r10.2.1 r10.2.2.1 r10.2.2.2.1 r10.2.2.2.2.1 r10.2.2.2.2.2.1 r10.2.2.2.2.2.2.1 r10.2.2.2.2.2.2.2) fun r11 => (cond r11 (some (r10.1, r10.2.1, r10.2.2.1, r10.2.2.2.1, r10.2.2.2.2.1, r10.2.2.2.2.2.1, r10.2.2.2.2.2.2.1, r10.2.2.2.2.2.2.2, true)) (some (0, 0, 0, 0, 0, 0, 0, 0, false)))) (some (r10.1, r10.2.1, r10.2.2.1, r10.2.2.2.1, r10.2.2.2.2.1, r10.2.2.2.2.2.1, r10.2.2.2.2.2.2.1, r10.2.2.2.2.2.2.2, true)))) (cond (!((ac e3 0) == 0 && ((ac e3 1) == 0 && ((ac e3 2) == 0 && ((ac e3 3) == 0 && ((ac e3 4) == 0 && ((ac e3 5) == 0 && ((ac e3 6) == 0 && ((ac e3 7) == 0 && true))))))))) (Option.bind (ak (ac e3 0) (ac e3 1) (ac e3 2) (ac e3 3) (ac e3 4) (ac e3 5) (ac e3 6) (ac e3 7)) fun r12 => (cond r12 (some (0, 0, 0, 0, 0, 0, 0, 0, false)) (some ((ac e3 0), (ac e3 1), (ac e3 2), (ac e3 3), (ac e3 4), (ac e3 5), (ac e3 6), (ac e3 7), true)))) (some ((ac e3 0), (ac e3 1), (ac e3 2), (ac e3 3), (ac e3 4), (ac e3 5), (ac e3 6), (ac e3 7), true)))))))))))))
def p6 : FD where
 X := BX
 k := 0
 pre := []
 F := fun s => []
 M := .tup [.agg (rl (.int .u64) 8 []), .bool]
 B := []
 toL := fun x => [.I x.1, .I x.2.1, .I x.2.2.1, .I x.2.2.2.1, .I x.s4.1, .I x.s4.2.1, .I x.s4.2.2.1, .I x.s4.2.2.2.1, .B x.s8]
 ofL := fun ls => match ls with
  | [.I x0, .I x1, .I x2, .I x3, .I x4, .I x5, .I x6, .I x7, .B x8] => some (x0, x1, x2, x3, x4, x5, x6, x7, x8)
  | _ => none
 ar := fun ls x h => by
  split at h
  ·cases h; rfl
  ·cases h
theorem HT : wk U3 58 Try.f58 0 (Mr (Ms (bn Try.f58))) (Hr (bn Try.f58) 0) (Hr (bn Try.f58) 1) (O6 (bn Try.f58)) 3 2 :=
 ⟨Try.func58, ⟨_, Try.func58, bF 58 _ Try.func58, by kernel_rfl⟩, by kernel_rfl, by kernel_rfl, by kernel_rfl, by kernel_rfl, by kernel_rfl, by kernel_rfl, by kernel_rfl, by kernel_rfl, by kernel_rfl, (by decide)⟩
theorem HU (a0 a1 a2 a3 a4 a5 a6 a7 a8 a9 a10 a11 a12 a13 a14 a15 : Int) (x : BX) (h : p5 a0 a1 a2 a3 a4 a5 a6 a7 a8 a9 a10 a11 a12 a13 a14 a15 = some x) : ba U3 35 0 [.agg (bE a0 a1 a2 a3 a4 a5 a6 a7), .agg (bE a8 a9 a10 a11 a12 a13 a14 a15)] [] p6 x :=
 FD.Ss (ch := nQ) (A := eo [(10, p4.la), (5, yr.la)]) (fn := Try.f35) (c := bn Try.f35) (fuel := 60) aH ot mixed bF p6 Try.func35 (by kernel_rfl) (aG (l := [aI Try.f35 0, aI Try.f35 1]) (by kernel_rfl) ⟨bX (by kernel_rfl) E7, bX (by kernel_rfl) ua, trivial⟩)
  (by kernel_rfl) HT (by kernel_rfl) (Eq.trans (by kernel_rfl) h)
def zM : HK where
 call := fun args σ k => match args with
  | [.agg [.int .u64 a0, .int .u64 a1, .int .u64 a2, .int .u64 a3, .int .u64 a4, .int .u64 a5, .int .u64 a6, .int .u64 a7], .agg [.int .u64 a8, .int .u64 a9, .int .u64 a10, .int .u64 a11, .int .u64 a12, .int .u64 a13, .int .u64 a14, .int .u64 a15]] => Option.bind (p5 a0 a1 a2 a3 a4 a5 a6 a7 a8 a9 a10 a11 a12 a13 a14 a15) fun y => az σ 0 (p6.val y) (p6.aJ y) k
  | _ => none
 nat := fun args σ k => by
  repeat' split
  all_goals simp only [av, aj, UB, UA, az, Uz]
 pure := true
 pok := fun _ args σ r σ' h => by
  split at h
  ·exact bo h (fun y => rfl) (fun y f => rfl)
  ·cases h
theorem Ji : aU U3 35 zM := by
 intro args σ r σ' h
 simp only [zM] at h
 split at h
 ·rename_i a0 a1 a2 a3 a4 a5 a6 a7 a8 a9 a10 a11 a12 a13 a14 a15
  obtain ⟨y, hy, h⟩ := bE_ h
  exact lifted (xs := []) (ls := []) (cargs := [.agg (bE a0 a1 a2 a3 a4 a5 a6 a7), .agg (bE a8 a9 a10 a11 a12 a13 a14 a15)]) (bA.of trivial) rfl (HU a0 a1 a2 a3 a4 a5 a6 a7 a8 a9 a10 a11 a12 a13 a14 a15 y hy) rfl rfl rfl rfl h
 ·cases h
abbrev zI := Int × Int × Int × Int × Int × Int × Int × Int
def ym : CH := CH.none
theorem DM : aD U3 ym := CH.aB
def kz (a0 a1 a2 a3 a4 a5 a6 a7 : Int) : Option (zI) :=
 (some ((ior .u64 (aA .u64 a0 1) (gX .u64 a1 63)), (ior .u64 (aA .u64 a1 1) (gX .u64 a2 63)), (ior .u64 (aA .u64 a2 1) (gX .u64 a3 63)), (ior .u64 (aA .u64 a3 1) (gX .u64 a4 63)), (ior .u64 (aA .u64 a4 1) (gX .u64 a5 63)), (ior .u64 (aA .u64 a5 1) (gX .u64 a6 63)), (ior .u64 (aA .u64 a6 1) (gX .u64 a7 63)), (aA .u64 a7 1)))
def nO : FD where
 X := zI
 k := 0
 pre := []
 F := fun s => []
 M := .agg (rl (.int .u64) 8 [])
 B := []
 toL := fun x => [.I x.1, .I x.2.1, .I x.2.2.1, .I x.2.2.2.1, .I x.s4.1, .I x.s4.2.1, .I x.s4.2.2.1, .I x.s4.2.2.2]
 ofL := fun ls => match ls with
  | [.I x0, .I x1, .I x2, .I x3, .I x4, .I x5, .I x6, .I x7] => some (x0, x1, x2, x3, x4, x5, x6, x7)
  | _ => none
 ar := fun ls x h => by
  split at h
  ·cases h; rfl
  ·cases h
theorem F9 (a0 a1 a2 a3 a4 a5 a6 a7 : Int) (x : zI) (h : kz a0 a1 a2 a3 a4 a5 a6 a7 = some x) : ba U3 74 0 [.agg (v8 a0 a1 a2 a3 a4 a5 a6 a7 [])] [] nO x :=
 FD.sem (ch := ym) (A := bz) (fn := Try.f74) (c := bn Try.f74) (fuel := 60) aH DM mixed bF nO Try.func74 (by kernel_rfl) (aG (l := [aI Try.f74 0]) (by kernel_rfl) ⟨(dY (by kernel_rfl)), trivial⟩)
  (by kernel_rfl) (Eq.trans (by kernel_rfl) h)
def xv : HK where
 call := fun args σ k => match args with
  | [.agg [.int .u64 a0, .int .u64 a1, .int .u64 a2, .int .u64 a3, .int .u64 a4, .int .u64 a5, .int .u64 a6, .int .u64 a7]] => Option.bind (kz a0 a1 a2 a3 a4 a5 a6 a7) fun y => az σ 0 (nO.val y) (nO.aJ y) k
  | _ => none
 nat := fun args σ k => by
  repeat' split
  all_goals simp only [av, aj, UB, UA, az, Uz]
 pure := true
 pok := fun _ args σ r σ' h => by
  split at h
  ·exact bo h (fun y => rfl) (fun y f => rfl)
  ·cases h
theorem HR : aU U3 74 xv := by
 intro args σ r σ' h
 simp only [xv] at h
 split at h
 ·rename_i a0 a1 a2 a3 a4 a5 a6 a7
  obtain ⟨y, hy, h⟩ := bE_ h
  exact lifted (xs := []) (ls := []) (cargs := [.agg (v8 a0 a1 a2 a3 a4 a5 a6 a7 [])]) (bA.of trivial) rfl (F9 a0 a1 a2 a3 a4 a5 a6 a7 y hy) rfl rfl rfl rfl h
 ·cases h
abbrev gi := Int × LA_ × Nat × LA_ × Nat × Nat
abbrev zJ := Int × Int × Int × Int × Int × Int × Int × Int
def rz : CH := CH.none
theorem tU : aD U3 rz := CH.aB
def fM {R : Type} (cc : gi) (v : LA_ × Int) (kn : (LA_ × Int) → Option R) (ke : ((LA_)) → Option R) : Option R :=
 (cond (decide (v.2 < 8)) (af (decide (0 ≤ (IntKind.wrap .i64 (v.2 - (IntKind.wrap .i64 (Int.tdiv cc.1 64))))) && decide ((IntKind.wrap .i64 (v.2 - (IntKind.wrap .i64 (Int.tdiv cc.1 64)))) < ((8 : Nat) : Int))) (af (aq [.int .u64] cc.2.1 (0 + (Int.toNat (IntKind.wrap .i64 (v.2 - (IntKind.wrap .i64 (Int.tdiv cc.1 64)))) * 1))) (af (!decide ((Int.tmod cc.1 64) < 0)) (af (decide (0 ≤ v.2) && decide (v.2 < ((8 : Nat) : Int))) (af (decide ((0 + (Int.toNat v.2 * 1)) + 1 ≤ List.length v.1)) (cond (decide ((Int.tmod cc.1 64) > 0)) (cond (decide (v.2 > (IntKind.wrap .i64 (Int.tdiv cc.1 64)))) (af (decide (0 ≤ v.2) && decide (v.2 < ((8 : Nat) : Int))) (af (aq [.int .u64] (spliced v.1 (0 + (Int.toNat v.2 * 1)) [.int .u64 (gX .u64 (ac cc.2.1 ((0 + (Int.toNat (IntKind.wrap .i64 (v.2 - (IntKind.wrap .i64 (Int.tdiv cc.1 64)))) * 1)) + 0)) (Int.tmod cc.1 64))]) (0 + (Int.toNat v.2 * 1))) (af (decide (0 ≤ (IntKind.wrap .i64 ((IntKind.wrap .i64 (v.2 - (IntKind.wrap .i64 (Int.tdiv cc.1 64)))) - 1))) && decide ((IntKind.wrap .i64 ((IntKind.wrap .i64 (v.2 - (IntKind.wrap .i64 (Int.tdiv cc.1 64)))) - 1)) < ((8 : Nat) : Int))) (af (aq [.int .u64] cc.2.1 (0 + (Int.toNat (IntKind.wrap .i64 ((IntKind.wrap .i64 (v.2 - (IntKind.wrap .i64 (Int.tdiv cc.1 64)))) - 1)) * 1))) (af (!decide ((IntKind.wrap .i64 (64 - (Int.tmod cc.1 64))) < 0)) (af (decide (0 ≤ v.2) && decide (v.2 < ((8 : Nat) : Int))) (af (decide ((0 + (Int.toNat v.2 * 1)) + 1 ≤ List.length (spliced v.1 (0 + (Int.toNat v.2 * 1)) [.int .u64 (gX .u64 (ac cc.2.1 ((0 + (Int.toNat (IntKind.wrap .i64 (v.2 - (IntKind.wrap .i64 (Int.tdiv cc.1 64)))) * 1)) + 0)) (Int.tmod cc.1 64))]))) (kn ((spliced (spliced v.1 (0 + (Int.toNat v.2 * 1)) [.int .u64 (gX .u64 (ac cc.2.1 ((0 + (Int.toNat (IntKind.wrap .i64 (v.2 - (IntKind.wrap .i64 (Int.tdiv cc.1 64)))) * 1)) + 0)) (Int.tmod cc.1 64))]) (0 + (Int.toNat v.2 * 1)) [.int .u64 (ior .u64 (ac (spliced v.1 (0 + (Int.toNat v.2 * 1)) [.int .u64 (gX .u64 (ac cc.2.1 ((0 + (Int.toNat (IntKind.wrap .i64 (v.2 - (IntKind.wrap .i64 (Int.tdiv cc.1 64)))) * 1)) + 0)) (Int.tmod cc.1 64))]) ((0 + (Int.toNat v.2 * 1)) + 0)) (aA .u64 (ac cc.2.1 ((0 + (Int.toNat (IntKind.wrap .i64 ((IntKind.wrap .i64 (v.2 - (IntKind.wrap .i64 (Int.tdiv cc.1 64)))) - 1)) * 1)) + 0)) (IntKind.wrap .i64 (64 - (Int.tmod cc.1 64)))))]), (IntKind.wrap .i64 (v.2 + 1))))))))))) (kn ((spliced v.1 (0 + (Int.toNat v.2 * 1)) [.int .u64 (gX .u64 (ac cc.2.1 ((0 + (Int.toNat (IntKind.wrap .i64 (v.2 - (IntKind.wrap .i64 (Int.tdiv cc.1 64)))) * 1)) + 0)) (Int.tmod cc.1 64))]), (IntKind.wrap .i64 (v.2 + 1))))) (kn ((spliced v.1 (0 + (Int.toNat v.2 * 1)) [.int .u64 (gX .u64 (ac cc.2.1 ((0 + (Int.toNat (IntKind.wrap .i64 (v.2 - (IntKind.wrap .i64 (Int.tdiv cc.1 64)))) * 1)) + 0)) (Int.tmod cc.1 64))]), (IntKind.wrap .i64 (v.2 + 1)))))))))) (ke v.1))
def pW (cc : gi) (v : LA_ × Int) : Option ((LA_ × Int) ⊕ ((LA_))) := fM cc v (fun v => some (Sum.inl v)) fun e => some (Sum.inr e)
def yn (cc : gi) (v : LA_ × Int) : Option ((LA_)) := dF (pW cc) v
def DN (cc : gi) (v : LA_ × Int) : List ah := [.I cc.1, .I v.2, .C cc.2.1, .N cc.2.2.1, .C cc.2.2.2.1, .N cc.s4.1, .C v.1, .N cc.s4.2]
def tV (ls : List ah) : Option ((gi) × (LA_ × Int)) := match ls with
 | [.I x0, .I x1, .C x2, .N x3, .C x4, .N x5, .C x6, .N x7] => some ((x0, x2, x3, x4, x5, x7), (x6, x1))
 | _ => none
def tW (e : (LA_)) : an := ((fun e => .exit 0) e)
def tX (cc : gi) (e : (LA_)) : List ah := ((fun e => [.C cc.2.2.2.1, .N cc.s4.1, .C e, .N cc.s4.2]) e)
def lF (cc : gi) (e : (LA_)) : List ah := ((fun e => [.C cc.2.2.2.1, .N cc.s4.1, .N cc.s4.2]) e)
def nh (o : an) (ls : List ah) : Option (((LA_)) × List ah) := match o with
 | .exit 0 => (match ls with
  | [.C x0, .N x1, .C x2, .N x3] => some (x2, [.C x0, .N x1, .N x3])
  | _ => none)
 | _ => none
theorem zK : ∀ o ls e cl cc, nh o ls = some (e, cl) → cl = lF cc e → ls = tX cc e ∧ tW e = o ∧ o ≠ .normal ∧ ∀ v, o = .pan v → sc 0 v = true := by
 intro o ls e cl cc h hc
 unfold nh at h
 split at h
 ·split at h
  ·cases h
   simp only [lF, List.cons.injEq, ah.N.injEq, ah.C.injEq, and_true] at hc
   obtain ⟨rfl, rfl, rfl⟩ := hc
   exact ⟨rfl, rfl, by simp, by intro v hv; cases hv <;> rfl⟩
  ·cases h
 ·cases h
def E1 (o : an) : ExS := match o with
 | .exit 0 => ⟨2, (none :: none :: none :: none :: some (.ptr 0 0) :: some (.ptr 1 0) :: (rl none 44 [])), [(0, .vec 8 true), (1, .vec 8 true)], fun s => [nameAt s 4 [], nameAt s 5 []], [], []⟩
 | _ => ⟨0, [], [], fun _ => [], [], []⟩
theorem DO {R : Type} (cc : gi) (v : LA_ × Int) (kn : (LA_ × Int) → Option R) (ke : ((LA_)) → Option R) : fM cc v kn ke = (fM cc v (fun v => some (Sum.inl v)) fun e => some (Sum.inr e)).bind (Sum.elim kn ke) := by
 simp only [fM, bL, aj, UB, cb, bH, Uz, UA, U0, UZ]
def wB : LD where
 CC := gi
 V := LA_ × Int
 E := (LA_)
 n := 0
 K := 3
 M := (none :: some (.int .i64) :: some (.ptr 0 0) :: none :: some (.ptr 1 0) :: some (.ptr 2 0) :: some (.int .i64) :: (rl none 43 []))
 B := [(0, .vec 8 true), (1, .vec 8 true), (2, .vec 8 true)]
 D := []
 pre := []
 F := fun s => [nameAt s 2 [], nameAt s 4 [], nameAt s 5 []]
 toL := DN
 ofL := tV
 ar := fun ls c v h => by
  unfold tV at h
  split at h
  ·cases h; rfl
  ·cases h
 cq := fM
 nat := DO
 sh := E1
 out := tW
 toE := tX
 fw := lF
 ofE := nh
 dj := zK
 post := fun cc e k => ((fun e => k (.exit 0) (bf 2 (none :: none :: none :: none :: some (.ptr 0 0) :: some (.ptr 1 0) :: (rl none 44 [])) [(0, .vec cc.2.2.2.1 cc.s4.1 8 true), (1, .vec e cc.s4.2 8 true)] [])) e)
 cj := fun cc e k => by rfl
theorem DP : cN U3 0 wB.la (aI Try.f73 0) :=
 LD.ok (ch := rz) (A := bz) aH tU mixed (fuel := 60) ⟨by kernel_rfl, fun e => by kernel_rfl, fun cc v => by kernel_rfl, aG (l := []) (by kernel_rfl) trivial⟩
def nD (a0 a1 a2 a3 a4 a5 a6 a7 a8 : Int) : Option (zJ) :=
 (Option.bind (yn (a8, (bE a0 a1 a2 a3 a4 a5 a6 a7), 1, (bE 0 0 0 0 0 0 0 0), 1, 1) ((bE 0 0 0 0 0 0 0 0), (IntKind.wrap .i64 (Int.tdiv a8 64)))) fun e1 => (af (aq el e1 0) (some ((ac e1 0), (ac e1 1), (ac e1 2), (ac e1 3), (ac e1 4), (ac e1 5), (ac e1 6), (ac e1 7)))))
def nP : FD where
 X := zJ
 k := 0
 pre := []
 F := fun s => []
 M := .agg (rl (.int .u64) 8 [])
 B := []
 toL := fun x => [.I x.1, .I x.2.1, .I x.2.2.1, .I x.2.2.2.1, .I x.s4.1, .I x.s4.2.1, .I x.s4.2.2.1, .I x.s4.2.2.2]
 ofL := fun ls => match ls with
  | [.I x0, .I x1, .I x2, .I x3, .I x4, .I x5, .I x6, .I x7] => some (x0, x1, x2, x3, x4, x5, x6, x7)
  | _ => none
 ar := fun ls x h => by
  split at h
  ·cases h; rfl
  ·cases h
theorem Ga (a0 a1 a2 a3 a4 a5 a6 a7 a8 : Int) (x : zJ) (h : nD a0 a1 a2 a3 a4 a5 a6 a7 a8 = some x) : ba U3 73 0 [.agg (bE a0 a1 a2 a3 a4 a5 a6 a7), .int .i64 a8] [] nP x :=
 FD.sem (ch := rz) (A := eo [(3, wB.la)]) (fn := Try.f73) (c := bn Try.f73) (fuel := 60) aH tU mixed bF nP Try.func73 (by kernel_rfl) (aG (l := [aI Try.f73 0]) (by kernel_rfl) ⟨bX (by kernel_rfl) DP, trivial⟩)
  (by kernel_rfl) (Eq.trans (by kernel_rfl) h)
def xw : HK where
 call := fun args σ k => match args with
  | [.agg [.int .u64 a0, .int .u64 a1, .int .u64 a2, .int .u64 a3, .int .u64 a4, .int .u64 a5, .int .u64 a6, .int .u64 a7], .int .i64 a8] => Option.bind (nD a0 a1 a2 a3 a4 a5 a6 a7 a8) fun y => az σ 0 (nP.val y) (nP.aJ y) k
  | _ => none
 nat := fun args σ k => by
  repeat' split
  all_goals simp only [av, aj, UB, UA, az, Uz]
 pure := true
 pok := fun _ args σ r σ' h => by
  split at h
  ·exact bo h (fun y => rfl) (fun y f => rfl)
  ·cases h
theorem HS : aU U3 73 xw := by
 intro args σ r σ' h
 simp only [xw] at h
 split at h
 ·rename_i a0 a1 a2 a3 a4 a5 a6 a7 a8
  obtain ⟨y, hy, h⟩ := bE_ h
  exact lifted (xs := []) (ls := []) (cargs := [.agg (bE a0 a1 a2 a3 a4 a5 a6 a7), .int .i64 a8]) (bA.of trivial) rfl (Ga a0 a1 a2 a3 a4 a5 a6 a7 a8 y hy) rfl rfl rfl rfl h
 ·cases h
abbrev bt : ByteArray := ⟨#[0, 1, 2, 2, 3, 3, 3, 3, 4, 4, 4, 4, 4, 4, 4, 4, 5, 5, 5, 5, 5, 5, 5, 5, 5, 5, 5, 5, 5, 5, 5, 5, 6, 6, 6, 6, 6, 6, 6, 6, 6, 6, 6, 6, 6, 6, 6, 6, 6, 6, 6, 6, 6, 6, 6, 6, 6, 6, 6, 6, 6, 6, 6, 6, 7, 7, 7, 7, 7, 7, 7, 7, 7, 7, 7, 7, 7, 7, 7, 7, 7, 7, 7, 7, 7, 7, 7, 7, 7, 7, 7, 7, 7, 7, 7, 7, 7, 7, 7, 7, 7, 7, 7, 7, 7, 7, 7, 7, 7, 7, 7, 7, 7, 7, 7, 7, 7, 7, 7, 7, 7, 7, 7, 7, 7, 7, 7, 7, 8, 8, 8, 8, 8, 8, 8, 8, 8, 8, 8, 8, 8, 8, 8, 8, 8, 8, 8, 8, 8, 8, 8, 8, 8, 8, 8, 8, 8, 8, 8, 8, 8, 8, 8, 8, 8, 8, 8, 8, 8, 8, 8, 8, 8, 8, 8, 8, 8, 8, 8, 8, 8, 8, 8, 8, 8, 8, 8, 8, 8, 8, 8, 8, 8, 8, 8, 8, 8, 8, 8, 8, 8, 8, 8, 8, 8, 8, 8, 8, 8, 8, 8, 8, 8, 8, 8, 8, 8, 8, 8, 8, 8, 8, 8, 8, 8, 8, 8, 8, 8, 8, 8, 8, 8, 8, 8, 8, 8, 8, 8, 8, 8, 8, 8, 8, 8, 8, 8, 8, 8, 8, 8, 8, 8, 8, 8, 8]⟩
def zd : CH := CH.none
theorem vU : aD U3 zd := CH.aB
def fY (a0 : Int) : Option (Int) :=
 (cond (decide (a0 ≥ 4294967296)) (cond (decide ((aA .u64 a0 32) ≥ 65536)) (cond (decide ((aA .u64 (aA .u64 a0 32) 16) ≥ 256)) (af (decide (0 ≤ (IntKind.wrap .u8 (aA .u64 (aA .u64 (aA .u64 a0 32) 16) 8))) && decide ((IntKind.wrap .u8 (aA .u64 (aA .u64 (aA .u64 a0 32) 16) 8)) < ((ByteArray.size bt : Nat) : Int))) (some (IntKind.wrap .i64 (56 + (IntKind.wrap .i64 (dK bt (Int.toNat (IntKind.wrap .u8 (aA .u64 (aA .u64 (aA .u64 a0 32) 16) 8))))))))) (af (decide (0 ≤ (IntKind.wrap .u8 (aA .u64 (aA .u64 a0 32) 16))) && decide ((IntKind.wrap .u8 (aA .u64 (aA .u64 a0 32) 16)) < ((ByteArray.size bt : Nat) : Int))) (some (IntKind.wrap .i64 (48 + (IntKind.wrap .i64 (dK bt (Int.toNat (IntKind.wrap .u8 (aA .u64 (aA .u64 a0 32) 16)))))))))) (cond (decide ((aA .u64 a0 32) ≥ 256)) (af (decide (0 ≤ (IntKind.wrap .u8 (aA .u64 (aA .u64 a0 32) 8))) && decide ((IntKind.wrap .u8 (aA .u64 (aA .u64 a0 32) 8)) < ((ByteArray.size bt : Nat) : Int))) (some (IntKind.wrap .i64 (40 + (IntKind.wrap .i64 (dK bt (Int.toNat (IntKind.wrap .u8 (aA .u64 (aA .u64 a0 32) 8))))))))) (af (decide (0 ≤ (IntKind.wrap .u8 (aA .u64 a0 32))) && decide ((IntKind.wrap .u8 (aA .u64 a0 32)) < ((ByteArray.size bt : Nat) : Int))) (some (IntKind.wrap .i64 (32 + (IntKind.wrap .i64 (dK bt (Int.toNat (IntKind.wrap .u8 (aA .u64 a0 32))))))))))) (cond (decide (a0 ≥ 65536)) (cond (decide ((aA .u64 a0 16) ≥ 256)) (af (decide (0 ≤ (IntKind.wrap .u8 (aA .u64 (aA .u64 a0 16) 8))) && decide ((IntKind.wrap .u8 (aA .u64 (aA .u64 a0 16) 8)) < ((ByteArray.size bt : Nat) : Int))) (some (IntKind.wrap .i64 (24 + (IntKind.wrap .i64 (dK bt (Int.toNat (IntKind.wrap .u8 (aA .u64 (aA .u64 a0 16) 8))))))))) (af (decide (0 ≤ (IntKind.wrap .u8 (aA .u64 a0 16))) && decide ((IntKind.wrap .u8 (aA .u64 a0 16)) < ((ByteArray.size bt : Nat) : Int))) (some (IntKind.wrap .i64 (16 + (IntKind.wrap .i64 (dK bt (Int.toNat (IntKind.wrap .u8 (aA .u64 a0 16)))))))))) (cond (decide (a0 ≥ 256)) (af (decide (0 ≤ (IntKind.wrap .u8 (aA .u64 a0 8))) && decide ((IntKind.wrap .u8 (aA .u64 a0 8)) < ((ByteArray.size bt : Nat) : Int))) (some (IntKind.wrap .i64 (8 + (IntKind.wrap .i64 (dK bt (Int.toNat (IntKind.wrap .u8 (aA .u64 a0 8))))))))) (af (decide (0 ≤ (IntKind.wrap .u8 a0)) && decide ((IntKind.wrap .u8 a0) < ((ByteArray.size bt : Nat) : Int))) (some (IntKind.wrap .i64 (0 + (IntKind.wrap .i64 (dK bt (Int.toNat (IntKind.wrap .u8 a0)))))))))))
def gL : FD where
 X := Int
 k := 0
 pre := []
 F := fun s => []
 M := .int .i64
 B := []
 toL := fun x => [.I x]
 ofL := fun ls => match ls with
  | [.I x0] => some x0
  | _ => none
 ar := fun ls x h => by
  split at h
  ·cases h; rfl
  ·cases h
theorem xT (a0 x : Int) (h : fY a0 = some x) : ba U3 86 0 [.int .u64 a0] [] gL x :=
 FD.semA gL vU Try.func86 (fuel := 60) (by kernel_rfl) (by kernel_rfl)
  (by kernel_rfl) (Eq.trans (by kernel_rfl) h)
def mV : HK where
 call := fun args σ k => match args with
  | [.int .u64 a0] => Option.bind (fY a0) fun y => az σ 0 (gL.val y) (gL.aJ y) k
  | _ => none
 nat := fun args σ k => by
  repeat' split
  all_goals simp only [av, aj, UB, UA, az, Uz]
 pure := true
 pok := fun _ args σ r σ' h => by
  split at h
  ·exact bo h (fun y => rfl) (fun y f => rfl)
  ·cases h
theorem ze : aU U3 86 mV := by
 intro args σ r σ' h
 simp only [mV] at h
 split at h
 ·rename_i a0
  obtain ⟨y, hy, h⟩ := bE_ h
  exact lifted (xs := []) (ls := []) (cargs := [.int .u64 a0]) (bA.of trivial) rfl (xT a0 y hy) rfl rfl rfl rfl h
 ·cases h
def om : CH := (CH.add 86 mV CH.none)
theorem rb : aD U3 om := (CH.ai ze CH.aB)
def eK {R : Type} (cc : LA_ × Nat) (v : Int) (kn : (Int) → Option R) (ke : ((Int) ⊕ (Unit)) → Option R) : Option R :=
 (cond (decide (v ≥ 0)) (af (decide (0 ≤ v) && decide (v < ((8 : Nat) : Int))) (af (aq [.int .u64] cc.1 (0 + (Int.toNat v * 1))) (cond ((ac cc.1 ((0 + (Int.toNat v * 1)) + 0)) != 0) (af (decide (0 ≤ v) && decide (v < ((8 : Nat) : Int))) (af (aq [.int .u64] cc.1 (0 + (Int.toNat v * 1))) (Option.bind (fY (ac cc.1 ((0 + (Int.toNat v * 1)) + 0))) fun r1 => (ke (.inl (IntKind.wrap .i64 ((IntKind.wrap .i64 (64 * v)) + r1))))))) (kn (IntKind.wrap .i64 (v - 1)))))) (ke (.inr ())))
def ni (cc : LA_ × Nat) (v : Int) : Option ((Int) ⊕ ((Int) ⊕ (Unit))) := eK cc v (fun v => some (Sum.inl v)) fun e => some (Sum.inr e)
def vw (cc : LA_ × Nat) (v : Int) : Option ((Int) ⊕ (Unit)) := dF (ni cc) v
def Be (cc : LA_ × Nat) (v : Int) : List ah := [.I v, .C cc.1, .N cc.2]
def re (ls : List ah) : Option ((LA_ × Nat) × (Int)) := match ls with
 | [.I x0, .C x1, .N x2] => some ((x1, x2), x0)
 | _ => none
def rf (e : (Int) ⊕ (Unit)) : an := ((Sum.elim (fun e => .ret) (fun e => .exit 0)) e)
def rh (cc : LA_ × Nat) (e : (Int) ⊕ (Unit)) : List ah := ((Sum.elim (fun e => [.I e]) (fun e => [])) e)
def pX (cc : LA_ × Nat) (e : (Int) ⊕ (Unit)) : List ah := ((Sum.elim (fun e => []) (fun e => [])) e)
def kN (o : an) (ls : List ah) : Option (((Int) ⊕ (Unit)) × List ah) := match o with
 | .ret => (match ls with
  | [.I x0] => some ((.inl x0), [])
  | _ => none)
 | .exit 0 => (match ls with
  | [] => some ((.inr ()), [])
  | _ => none)
 | _ => none
theorem xx : ∀ o ls e cl cc, kN o ls = some (e, cl) → cl = pX cc e → ls = rh cc e ∧ rf e = o ∧ o ≠ .normal ∧ ∀ v, o = .pan v → sc 0 v = true := by
 intro o ls e cl cc h hc
 unfold kN at h
 split at h
 ·split at h
  ·cases h
   exact ⟨rfl, rfl, by simp, by intro v hv; cases hv <;> rfl⟩
  ·cases h
 ·split at h
  ·cases h
   exact ⟨rfl, rfl, by simp, by intro v hv; cases hv <;> rfl⟩
  ·cases h
 ·cases h
def BV (o : an) : ExS := match o with
 | .ret => ⟨0, (none :: none :: some (.int .i64) :: (rl none 16 [])), [], fun s => [], [], []⟩
 | .exit 0 => ⟨0, (rl none 19 []), [], fun s => [], [], []⟩
 | _ => ⟨0, [], [], fun _ => [], [], []⟩
theorem Bf {R : Type} (cc : LA_ × Nat) (v : Int) (kn : (Int) → Option R) (ke : ((Int) ⊕ (Unit)) → Option R) : eK cc v kn ke = (eK cc v (fun v => some (Sum.inl v)) fun e => some (Sum.inr e)).bind (Sum.elim kn ke) := by
 simp only [eK, bL, aj, UB, cb, bH, Uz, UA, U0, UZ]
def tY : LD where
 CC := LA_ × Nat
 V := Int
 E := (Int) ⊕ (Unit)
 n := 0
 K := 1
 M := (none :: some (.ptr 0 0) :: none :: some (.int .i64) :: (rl none 15 []))
 B := [(0, .vec 8 true)]
 D := []
 pre := []
 F := fun s => [nameAt s 1 []]
 toL := Be
 ofL := re
 ar := fun ls c v h => by
  unfold re at h
  split at h
  ·cases h; rfl
  ·cases h
 cq := eK
 nat := Bf
 sh := BV
 out := rf
 toE := rh
 fw := pX
 ofE := kN
 dj := xx
 post := fun cc e k => ((Sum.elim (fun e => k (.ret) (bf 0 (none :: none :: some (.int .i64 e) :: (rl none 16 [])) [] [])) (fun e => k (.exit 0) (bf 0 (rl none 19 []) [] []))) e)
 cj := fun cc e k => by rcases e with e | e <;> rfl
theorem Bg : cN U3 0 tY.la (aI Try.f72 0) :=
 LD.ok (ch := om) (A := bz) aH rb mixed (fuel := 60) ⟨by kernel_rfl, fun e => by (rcases e with e | e <;> kernel_rfl), fun cc v => by kernel_rfl, aG (l := []) (by kernel_rfl) trivial⟩
def gZ (a0 a1 a2 a3 a4 a5 a6 a7 : Int) : Option (Int) :=
 (Option.bind (vw (([.int .u64 a0, .int .u64 a1, .int .u64 a2, .int .u64 a3, .int .u64 a4, .int .u64 a5, .int .u64 a6, .int .u64 a7] : LA_), 1) 7) (Sum.elim (fun e1 => (some e1)) (fun e1 => (some 0))))
def kZ : FD where
 X := Int
 k := 0
 pre := []
 F := fun s => []
 M := .int .i64
 B := []
 toL := fun x => [.I x]
 ofL := fun ls => match ls with
  | [.I x0] => some x0
  | _ => none
 ar := fun ls x h => by
  split at h
  ·cases h; rfl
  ·cases h
theorem DQ (a0 a1 a2 a3 a4 a5 a6 a7 x : Int) (h : gZ a0 a1 a2 a3 a4 a5 a6 a7 = some x) : ba U3 72 0 [.agg (v8 a0 a1 a2 a3 a4 a5 a6 a7 [])] [] kZ x :=
 FD.sem (ch := om) (A := eo [(2, tY.la)]) (fn := Try.f72) (c := bn Try.f72) (fuel := 60) aH rb mixed bF kZ Try.func72 (by kernel_rfl) (aG (l := [aI Try.f72 0]) (by kernel_rfl) ⟨bX (by kernel_rfl) Bg, trivial⟩)
  (by kernel_rfl) (Eq.trans (by kernel_rfl) h)
def tt : HK where
 call := fun args σ k => match args with
  | [.agg [.int .u64 a0, .int .u64 a1, .int .u64 a2, .int .u64 a3, .int .u64 a4, .int .u64 a5, .int .u64 a6, .int .u64 a7]] => Option.bind (gZ a0 a1 a2 a3 a4 a5 a6 a7) fun y => az σ 0 (kZ.val y) (kZ.aJ y) k
  | _ => none
 nat := fun args σ k => by
  repeat' split
  all_goals simp only [av, aj, UB, UA, az, Uz]
 pure := true
 pok := fun _ args σ r σ' h => by
  split at h
  ·exact bo h (fun y => rfl) (fun y f => rfl)
  ·cases h
theorem E2 : aU U3 72 tt := by
 intro args σ r σ' h
 simp only [tt] at h
 split at h
 ·rename_i a0 a1 a2 a3 a4 a5 a6 a7
  obtain ⟨y, hy, h⟩ := bE_ h
  exact lifted (xs := []) (ls := []) (cargs := [.agg (v8 a0 a1 a2 a3 a4 a5 a6 a7 [])]) (bA.of trivial) rfl (DQ a0 a1 a2 a3 a4 a5 a6 a7 y hy) rfl rfl rfl rfl h
 ·cases h
abbrev xA := (I8 (Int × Int × Int × Int × Int × Int × Int × Int))
abbrev en := LA_ × LA_ × Int × LA_ × Nat
def qa : CH := (CH.add 74 xv (CH.add 73 xw (CH.add 72 tt (CH.add 50 mt (CH.add 49 iL (CH.add 38 pQ CH.none))))))
theorem sC : aD U3 qa := (CH.ai HR (CH.ai HS (CH.ai E2 (CH.ai nN (CH.ai jm (CH.ai wA CH.aB))))))
def eY {R : Type} (cc : Nat × Nat) (v : en) (kn : (en) → Option R) (ke : ((LA_ × LA_)) → Option R) : Option R :=
 (cond (decide (v.2.2.1 ≥ 0)) (af (aq el v.2.1 0) (af (aq el v.2.2.2.1 0) (Option.bind (gJ (ac v.2.1 0) (ac v.2.1 1) (ac v.2.1 2) (ac v.2.1 3) (ac v.2.1 4) (ac v.2.1 5) (ac v.2.1 6) (ac v.2.1 7) (ac v.2.2.2.1 0) (ac v.2.2.2.1 1) (ac v.2.2.2.1 2) (ac v.2.2.2.1 3) (ac v.2.2.2.1 4) (ac v.2.2.2.1 5) (ac v.2.2.2.1 6) (ac v.2.2.2.1 7)) fun r4 => (cond (decide (r4 ≥ 0)) (af (aq el v.2.1 0) (af (aq el v.2.2.2.1 0) (Option.bind (gf (ac v.2.2.2.1 0) (ac v.2.2.2.1 1) (ac v.2.2.2.1 2) (ac v.2.2.2.1 3) (ac v.2.2.2.1 4) (ac v.2.2.2.1 5) (ac v.2.2.2.1 6) (ac v.2.2.2.1 7)) fun r5 => (Option.bind (dq (ac v.2.1 0) (ac v.2.1 1) (ac v.2.1 2) (ac v.2.1 3) (ac v.2.1 4) (ac v.2.1 5) (ac v.2.1 6) (ac v.2.1 7) r5.1 r5.2.1 r5.2.2.1 r5.2.2.2.1 r5.2.2.2.2.1 r5.2.2.2.2.2.1 r5.2.2.2.2.2.2.1 r5.2.2.2.2.2.2.2 1) fun r6 => (af (decide (0 + 8 ≤ List.length v.2.1)) (af (decide (0 ≤ (IntKind.wrap .i64 (Int.tdiv v.2.2.1 64))) && decide ((IntKind.wrap .i64 (Int.tdiv v.2.2.1 64)) < ((8 : Nat) : Int))) (af (aq [.int .u64] v.1 (0 + (Int.toNat (IntKind.wrap .i64 (Int.tdiv v.2.2.1 64)) * 1))) (af (!decide ((Int.tmod v.2.2.1 64) < 0)) (af (decide (0 ≤ (IntKind.wrap .i64 (Int.tdiv v.2.2.1 64))) && decide ((IntKind.wrap .i64 (Int.tdiv v.2.2.1 64)) < ((8 : Nat) : Int))) (af (decide ((0 + (Int.toNat (IntKind.wrap .i64 (Int.tdiv v.2.2.1 64)) * 1)) + 1 ≤ List.length v.1)) (af (aq el v.2.2.2.1 0) (Option.bind (kz (ac v.2.2.2.1 0) (ac v.2.2.2.1 1) (ac v.2.2.2.1 2) (ac v.2.2.2.1 3) (ac v.2.2.2.1 4) (ac v.2.2.2.1 5) (ac v.2.2.2.1 6) (ac v.2.2.2.1 7)) fun r7 => (af (decide (0 + 8 ≤ List.length v.2.2.2.1)) (af (aq el (spliced v.2.2.2.1 0 (bE r7.1 r7.2.1 r7.2.2.1 r7.2.2.2.1 r7.2.2.2.2.1 r7.2.2.2.2.2.1 r7.2.2.2.2.2.2.1 r7.2.2.2.2.2.2.2)) 0) (kn ((spliced v.1 (0 + (Int.toNat (IntKind.wrap .i64 (Int.tdiv v.2.2.1 64)) * 1)) [.int .u64 (ior .u64 (ac v.1 ((0 + (Int.toNat (IntKind.wrap .i64 (Int.tdiv v.2.2.1 64)) * 1)) + 0)) (gX .u64 1 (Int.tmod v.2.2.1 64)))]), (spliced v.2.1 0 (bE r6.1 r6.2.1 r6.2.2.1 r6.2.2.2.1 r6.2.2.2.2.1 r6.2.2.2.2.2.1 r6.2.2.2.2.2.2.1 r6.2.2.2.2.2.2.2)), (IntKind.wrap .i64 (v.2.2.1 - 1)), ([.int .u64 (ac (spliced v.2.2.2.1 0 (bE r7.1 r7.2.1 r7.2.2.1 r7.2.2.2.1 r7.2.2.2.2.1 r7.2.2.2.2.2.1 r7.2.2.2.2.2.2.1 r7.2.2.2.2.2.2.2)) 0), .int .u64 (ac (spliced v.2.2.2.1 0 (bE r7.1 r7.2.1 r7.2.2.1 r7.2.2.2.1 r7.2.2.2.2.1 r7.2.2.2.2.2.1 r7.2.2.2.2.2.2.1 r7.2.2.2.2.2.2.2)) 1), .int .u64 (ac (spliced v.2.2.2.1 0 (bE r7.1 r7.2.1 r7.2.2.1 r7.2.2.2.1 r7.2.2.2.2.1 r7.2.2.2.2.2.1 r7.2.2.2.2.2.2.1 r7.2.2.2.2.2.2.2)) 2), .int .u64 (ac (spliced v.2.2.2.1 0 (bE r7.1 r7.2.1 r7.2.2.1 r7.2.2.2.1 r7.2.2.2.2.1 r7.2.2.2.2.2.1 r7.2.2.2.2.2.2.1 r7.2.2.2.2.2.2.2)) 3), .int .u64 (ac (spliced v.2.2.2.1 0 (bE r7.1 r7.2.1 r7.2.2.1 r7.2.2.2.1 r7.2.2.2.2.1 r7.2.2.2.2.2.1 r7.2.2.2.2.2.2.1 r7.2.2.2.2.2.2.2)) 4), .int .u64 (ac (spliced v.2.2.2.1 0 (bE r7.1 r7.2.1 r7.2.2.1 r7.2.2.2.1 r7.2.2.2.2.1 r7.2.2.2.2.2.1 r7.2.2.2.2.2.2.1 r7.2.2.2.2.2.2.2)) 5), .int .u64 (ac (spliced v.2.2.2.1 0 (bE r7.1 r7.2.1 r7.2.2.1 r7.2.2.2.1 r7.2.2.2.2.1 r7.2.2.2.2.2.1 r7.2.2.2.2.2.2.1 r7.2.2.2.2.2.2.2)) 6), .int .u64 (ac (spliced v.2.2.2.1 0 (bE r7.1 r7.2.1 r7.2.2.1 r7.2.2.2.1 r7.2.2.2.2.1 r7.2.2.2.2.2.1 r7.2.2.2.2.2.2.1 r7.2.2.2.2.2.2.2)) 7)] : LA_), 1)))))))))))))))) (af (aq el v.2.2.2.1 0) (Option.bind (kz (ac v.2.2.2.1 0) (ac v.2.2.2.1 1) (ac v.2.2.2.1 2) (ac v.2.2.2.1 3) (ac v.2.2.2.1 4) (ac v.2.2.2.1 5) (ac v.2.2.2.1 6) (ac v.2.2.2.1 7)) fun r8 => (af (decide (0 + 8 ≤ List.length v.2.2.2.1)) (af (aq el (spliced v.2.2.2.1 0 (bE r8.1 r8.2.1 r8.2.2.1 r8.2.2.2.1 r8.2.2.2.2.1 r8.2.2.2.2.2.1 r8.2.2.2.2.2.2.1 r8.2.2.2.2.2.2.2)) 0) (kn (v.1, v.2.1, (IntKind.wrap .i64 (v.2.2.1 - 1)), ([.int .u64 (ac (spliced v.2.2.2.1 0 (bE r8.1 r8.2.1 r8.2.2.1 r8.2.2.2.1 r8.2.2.2.2.1 r8.2.2.2.2.2.1 r8.2.2.2.2.2.2.1 r8.2.2.2.2.2.2.2)) 0), .int .u64 (ac (spliced v.2.2.2.1 0 (bE r8.1 r8.2.1 r8.2.2.1 r8.2.2.2.1 r8.2.2.2.2.1 r8.2.2.2.2.2.1 r8.2.2.2.2.2.2.1 r8.2.2.2.2.2.2.2)) 1), .int .u64 (ac (spliced v.2.2.2.1 0 (bE r8.1 r8.2.1 r8.2.2.1 r8.2.2.2.1 r8.2.2.2.2.1 r8.2.2.2.2.2.1 r8.2.2.2.2.2.2.1 r8.2.2.2.2.2.2.2)) 2), .int .u64 (ac (spliced v.2.2.2.1 0 (bE r8.1 r8.2.1 r8.2.2.1 r8.2.2.2.1 r8.2.2.2.2.1 r8.2.2.2.2.2.1 r8.2.2.2.2.2.2.1 r8.2.2.2.2.2.2.2)) 3), .int .u64 (ac (spliced v.2.2.2.1 0 (bE r8.1 r8.2.1 r8.2.2.1 r8.2.2.2.1 r8.2.2.2.2.1 r8.2.2.2.2.2.1 r8.2.2.2.2.2.2.1 r8.2.2.2.2.2.2.2)) 4), .int .u64 (ac (spliced v.2.2.2.1 0 (bE r8.1 r8.2.1 r8.2.2.1 r8.2.2.2.1 r8.2.2.2.2.1 r8.2.2.2.2.2.1 r8.2.2.2.2.2.2.1 r8.2.2.2.2.2.2.2)) 5), .int .u64 (ac (spliced v.2.2.2.1 0 (bE r8.1 r8.2.1 r8.2.2.1 r8.2.2.2.1 r8.2.2.2.2.1 r8.2.2.2.2.2.1 r8.2.2.2.2.2.2.1 r8.2.2.2.2.2.2.2)) 6), .int .u64 (ac (spliced v.2.2.2.1 0 (bE r8.1 r8.2.1 r8.2.2.1 r8.2.2.2.1 r8.2.2.2.2.1 r8.2.2.2.2.2.1 r8.2.2.2.2.2.2.1 r8.2.2.2.2.2.2.2)) 7)] : LA_), 1)))))))))) (ke (v.1, v.2.1)))
def ox (cc : Nat × Nat) (v : en) : Option ((en) ⊕ ((LA_ × LA_))) := eY cc v (fun v => some (Sum.inl v)) fun e => some (Sum.inr e)
def wC (cc : Nat × Nat) (v : en) : Option ((LA_ × LA_)) := dF (ox cc) v
def B5 (cc : Nat × Nat) (v : en) : List ah := [.I v.2.2.1, .C v.1, .N cc.1, .C v.2.1, .N cc.2, .C v.2.2.2.1, .N v.s4]
def sE (ls : List ah) : Option ((Nat × Nat) × (en)) := match ls with
 | [.I x0, .C x1, .N x2, .C x3, .N x4, .C x5, .N x6] => some ((x2, x4), (x1, x3, x0, x5, x6))
 | _ => none
def sF (e : (LA_ × LA_)) : an := ((fun e => .exit 0) e)
def sG (cc : Nat × Nat) (e : (LA_ × LA_)) : List ah := ((fun e => [.C e.1, .N cc.1, .C e.2, .N cc.2]) e)
def kO (cc : Nat × Nat) (e : (LA_ × LA_)) : List ah := ((fun e => [.N cc.1, .N cc.2]) e)
def lH (o : an) (ls : List ah) : Option (((LA_ × LA_)) × List ah) := match o with
 | .exit 0 => (match ls with
  | [.C x0, .N x1, .C x2, .N x3] => some ((x0, x2), [.N x1, .N x3])
  | _ => none)
 | _ => none
theorem yu : ∀ o ls e cl cc, lH o ls = some (e, cl) → cl = kO cc e → ls = sG cc e ∧ sF e = o ∧ o ≠ .normal ∧ ∀ v, o = .pan v → sc 0 v = true := by
 intro o ls e cl cc h hc
 unfold lH at h
 split at h
 ·split at h
  ·cases h
   simp only [kO, List.cons.injEq, ah.N.injEq, and_true] at hc
   obtain ⟨rfl, rfl⟩ := hc
   exact ⟨rfl, rfl, by simp, by intro v hv; cases hv <;> rfl⟩
  ·cases h
 ·cases h
def DU (o : an) : ExS := match o with
 | .exit 0 => ⟨2, (none :: none :: none :: none :: some (.ptr 0 0) :: some (.ptr 1 0) :: (rl none 41 [])), [(0, .vec 8 true), (1, .vec 8 true)], fun s => [nameAt s 4 [], nameAt s 5 []], [], []⟩
 | _ => ⟨0, [], [], fun _ => [], [], []⟩
theorem B6 {R : Type} (cc : Nat × Nat) (v : en) (kn : (en) → Option R) (ke : ((LA_ × LA_)) → Option R) : eY cc v kn ke = (eY cc v (fun v => some (Sum.inl v)) fun e => some (Sum.inr e)).bind (Sum.elim kn ke) := by
 simp only [eY, bL, aj, UB, cb, bH, Uz, UA, U0, UZ]
def vA : LD where
 CC := Nat × Nat
 V := en
 E := (LA_ × LA_)
 n := 0
 K := 3
 M := (none :: none :: none :: none :: some (.ptr 0 0) :: some (.ptr 1 0) :: some (.int .i64) :: some (.ptr 2 0) :: (rl none 39 []))
 B := [(0, .vec 8 true), (1, .vec 8 true), (2, .vec 8 true)]
 D := []
 pre := []
 F := fun s => [nameAt s 4 [], nameAt s 5 [], nameAt s 7 []]
 toL := B5
 ofL := sE
 ar := fun ls c v h => by
  unfold sE at h
  split at h
  ·cases h; rfl
  ·cases h
 cq := eY
 nat := B6
 sh := DU
 out := sF
 toE := sG
 fw := kO
 ofE := lH
 dj := yu
 post := fun cc e k => ((fun e => k (.exit 0) (bf 2 (none :: none :: none :: none :: some (.ptr 0 0) :: some (.ptr 1 0) :: (rl none 41 [])) [(0, .vec e.1 cc.1 8 true), (1, .vec e.2 cc.2 8 true)] [])) e)
 cj := fun cc e k => by rfl
theorem B7 : cN U3 0 vA.la (aI Try.f47 0) :=
 LD.ok (ch := qa) (A := bz) aH sC mixed (fuel := 60) ⟨by kernel_rfl, fun e => by kernel_rfl, fun cc v => by kernel_rfl, aG (l := []) (by kernel_rfl) trivial⟩
def lE (a0 a1 a2 a3 a4 a5 a6 a7 a8 a9 a10 a11 a12 a13 a14 a15 : Int) : Option (xA) :=
 (Option.bind (gZ a0 a1 a2 a3 a4 a5 a6 a7) fun r1 => (Option.bind (gZ a8 a9 a10 a11 a12 a13 a14 a15) fun r2 => (cond (decide ((IntKind.wrap .i64 (r1 - r2)) < 0)) (some (0, 0, 0, 0, 0, 0, 0, 0, a0, a1, a2, a3, a4, a5, a6, a7)) (Option.bind (nD a8 a9 a10 a11 a12 a13 a14 a15 (IntKind.wrap .i64 (r1 - r2))) fun r3 => (Option.bind (wC (1, 1) ((bE 0 0 0 0 0 0 0 0), (bE a0 a1 a2 a3 a4 a5 a6 a7), (IntKind.wrap .i64 (r1 - r2)), (bE r3.1 r3.2.1 r3.2.2.1 r3.2.2.2.1 r3.2.2.2.2.1 r3.2.2.2.2.2.1 r3.2.2.2.2.2.2.1 r3.2.2.2.2.2.2.2), 1)) fun e4 => (af (aq el e4.1 0) (af (aq el e4.2 0) (af (decide (0 + 8 ≤ List.length e4.1)) (af (decide (0 + 8 ≤ List.length e4.2)) (af (aq el (spliced e4.1 0 (bE (ac e4.1 0) (ac e4.1 1) (ac e4.1 2) (ac e4.1 3) (ac e4.1 4) (ac e4.1 5) (ac e4.1 6) (ac e4.1 7))) 0) (af (aq el (spliced e4.2 0 (bE (ac e4.2 0) (ac e4.2 1) (ac e4.2 2) (ac e4.2 3) (ac e4.2 4) (ac e4.2 5) (ac e4.2 6) (ac e4.2 7))) 0) (some ((ac (spliced e4.1 0 (bE (ac e4.1 0) (ac e4.1 1) (ac e4.1 2) (ac e4.1 3) (ac e4.1 4) (ac e4.1 5) (ac e4.1 6) (ac e4.1 7))) 0), (ac (spliced e4.1 0 (bE (ac e4.1 0) (ac e4.1 1) (ac e4.1 2) (ac e4.1 3) (ac e4.1 4) (ac e4.1 5) (ac e4.1 6) (ac e4.1 7))) 1), (ac (spliced e4.1 0 (bE (ac e4.1 0) (ac e4.1 1) (ac e4.1 2) (ac e4.1 3) (ac e4.1 4) (ac e4.1 5) (ac e4.1 6) (ac e4.1 7))) 2), (ac (spliced e4.1 0 (bE (ac e4.1 0) (ac e4.1 1) (ac e4.1 2) (ac e4.1 3) (ac e4.1 4) (ac e4.1 5) (ac e4.1 6) (ac e4.1 7))) 3), (ac (spliced e4.1 0 (bE (ac e4.1 0) (ac e4.1 1) (ac e4.1 2) (ac e4.1 3) (ac e4.1 4) (ac e4.1 5) (ac e4.1 6) (ac e4.1 7))) 4), (ac (spliced e4.1 0 (bE (ac e4.1 0) (ac e4.1 1) (ac e4.1 2) (ac e4.1 3) (ac e4.1 4) (ac e4.1 5) (ac e4.1 6) (ac e4.1 7))) 5), (ac (spliced e4.1 0 (bE (ac e4.1 0) (ac e4.1 1) (ac e4.1 2) (ac e4.1 3) (ac e4.1 4) (ac e4.1 5) (ac e4.1 6) (ac e4.1 7))) 6), (ac (spliced e4.1 0 (bE (ac e4.1 0) (ac e4.1 1) (ac e4.1 2) (ac e4.1 3) (ac e4.1 4) (ac e4.1 5) (ac e4.1 6) (ac e4.1 7))) 7), (ac (spliced e4.2 0 (bE (ac e4.2 0) (ac e4.2 1) (ac e4.2 2) (ac e4.2 3) (ac e4.2 4) (ac e4.2 5) (ac e4.2 6) (ac e4.2 7))) 0), (ac (spliced e4.2 0 (bE (ac e4.2 0) (ac e4.2 1) (ac e4.2 2) (ac e4.2 3) (ac e4.2 4) (ac e4.2 5) (ac e4.2 6) (ac e4.2 7))) 1), (ac (spliced e4.2 0 (bE (ac e4.2 0) (ac e4.2 1) (ac e4.2 2) (ac e4.2 3) (ac e4.2 4) (ac e4.2 5) (ac e4.2 6) (ac e4.2 7))) 2), (ac (spliced e4.2 0 (bE (ac e4.2 0) (ac e4.2 1) (ac e4.2 2) (ac e4.2 3) (ac e4.2 4) (ac e4.2 5) (ac e4.2 6) (ac e4.2 7))) 3), (ac (spliced e4.2 0 (bE (ac e4.2 0) (ac e4.2 1) (ac e4.2 2) (ac e4.2 3) (ac e4.2 4) (ac e4.2 5) (ac e4.2 6) (ac e4.2 7))) 4), (ac (spliced e4.2 0 (bE (ac e4.2 0) (ac e4.2 1) (ac e4.2 2) (ac e4.2 3) (ac e4.2 4) (ac e4.2 5) (ac e4.2 6) (ac e4.2 7))) 5), (ac (spliced e4.2 0 (bE (ac e4.2 0) (ac e4.2 1) (ac e4.2 2) (ac e4.2 3) (ac e4.2 4) (ac e4.2 5) (ac e4.2 6) (ac e4.2 7))) 6), (ac (spliced e4.2 0 (bE (ac e4.2 0) (ac e4.2 1) (ac e4.2 2) (ac e4.2 3) (ac e4.2 4) (ac e4.2 5) (ac e4.2 6) (ac e4.2 7))) 7))))))))))))))
def mw : FD where
 X := xA
 k := 0
 pre := []
 F := fun s => []
 M := .tup [.agg (rl (.int .u64) 8 []), .agg (rl (.int .u64) 8 [])]
 B := []
 toL := fun x => [.I x.1, .I x.2.1, .I x.2.2.1, .I x.2.2.2.1, .I x.s4.1, .I x.s4.2.1, .I x.s4.2.2.1, .I x.s4.2.2.2.1, .I x.s8.1, .I x.s8.2.1, .I x.s8.2.2.1, .I x.s8.2.2.2.1, .I x.s8.s4.1, .I x.s8.s4.2.1, .I x.s8.s4.2.2.1, .I x.s8.s4.2.2.2]
 ofL := fun ls => match ls with
  | [.I x0, .I x1, .I x2, .I x3, .I x4, .I x5, .I x6, .I x7, .I x8, .I x9, .I x10, .I x11, .I x12, .I x13, .I x14, .I x15] => some (x0, x1, x2, x3, x4, x5, x6, x7, x8, x9, x10, x11, x12, x13, x14, x15)
  | _ => none
 ar := fun ls x h => by
  split at h
  ·cases h; rfl
  ·cases h
theorem Fb (a0 a1 a2 a3 a4 a5 a6 a7 a8 a9 a10 a11 a12 a13 a14 a15 : Int) (x : xA) (h : lE a0 a1 a2 a3 a4 a5 a6 a7 a8 a9 a10 a11 a12 a13 a14 a15 = some x) : ba U3 47 0 [.agg (bE a0 a1 a2 a3 a4 a5 a6 a7), .agg (bE a8 a9 a10 a11 a12 a13 a14 a15)] [] mw x :=
 FD.sem (ch := qa) (A := eo [(6, vA.la)]) (fn := Try.f47) (c := bn Try.f47) (fuel := 60) aH sC mixed bF mw Try.func47 (by kernel_rfl) (aG (l := [aI Try.f47 0]) (by kernel_rfl) ⟨bX (by kernel_rfl) B7, trivial⟩)
  (by kernel_rfl) (Eq.trans (by kernel_rfl) h)
def vv : HK where
 call := fun args σ k => match args with
  | [.agg [.int .u64 a0, .int .u64 a1, .int .u64 a2, .int .u64 a3, .int .u64 a4, .int .u64 a5, .int .u64 a6, .int .u64 a7], .agg [.int .u64 a8, .int .u64 a9, .int .u64 a10, .int .u64 a11, .int .u64 a12, .int .u64 a13, .int .u64 a14, .int .u64 a15]] => Option.bind (lE a0 a1 a2 a3 a4 a5 a6 a7 a8 a9 a10 a11 a12 a13 a14 a15) fun y => az σ 0 (mw.val y) (mw.aJ y) k
  | _ => none
 nat := fun args σ k => by
  repeat' split
  all_goals simp only [av, aj, UB, UA, az, Uz]
 pure := true
 pok := fun _ args σ r σ' h => by
  split at h
  ·exact bo h (fun y => rfl) (fun y f => rfl)
  ·cases h
theorem F8 : aU U3 47 vv := by
 intro args σ r σ' h
 simp only [vv] at h
 split at h
 ·rename_i a0 a1 a2 a3 a4 a5 a6 a7 a8 a9 a10 a11 a12 a13 a14 a15
  obtain ⟨y, hy, h⟩ := bE_ h
  exact lifted (xs := []) (ls := []) (cargs := [.agg (bE a0 a1 a2 a3 a4 a5 a6 a7), .agg (bE a8 a9 a10 a11 a12 a13 a14 a15)]) (bA.of trivial) rfl (Fb a0 a1 a2 a3 a4 a5 a6 a7 a8 a9 a10 a11 a12 a13 a14 a15 y hy) rfl rfl rfl rfl h
 ·cases h
def Fc : CH := (CH.add 75 lG (CH.add 37 cL CH.none))
theorem Bj : aD U3 Fc := (CH.ai pY (CH.ai cR CH.aB))
def bh (a0 a1 a2 a3 a4 a5 a6 a7 : Int) (q8 : Bool) : Option (Int × Int × Int × Int × Int × Int × Int × Int) :=
 (cond q8 (Option.bind (eA a0 a1 a2 a3 a4 a5 a6 a7) fun r1 => (cond (!(r1.1 == 0 && (r1.2.1 == 0 && (r1.2.2.1 == 0 && (r1.2.2.2.1 == 0 && (r1.2.2.2.2.1 == 0 && (r1.2.2.2.2.2.1 == 0 && (r1.2.2.2.2.2.2.1 == 0 && (r1.2.2.2.2.2.2.2 == 0 && true))))))))) (Option.bind (ak r1.1 r1.2.1 r1.2.2.1 r1.2.2.2.1 r1.2.2.2.2.1 r1.2.2.2.2.2.1 r1.2.2.2.2.2.2.1 r1.2.2.2.2.2.2.2) fun r2 => (cond r2 (cond q8 (some (r1.1, r1.2.1, r1.2.2.1, r1.2.2.2.1, r1.2.2.2.2.1, r1.2.2.2.2.2.1, r1.2.2.2.2.2.2.1, r1.2.2.2.2.2.2.2)) none) (cond q8 none (some (r1.1, r1.2.1, r1.2.2.1, r1.2.2.2.1, r1.2.2.2.2.1, r1.2.2.2.2.2.1, r1.2.2.2.2.2.2.1, r1.2.2.2.2.2.2.2))))) (some (r1.1, r1.2.1, r1.2.2.1, r1.2.2.2.1, r1.2.2.2.2.1, r1.2.2.2.2.2.1, r1.2.2.2.2.2.2.1, r1.2.2.2.2.2.2.2)))) (cond (!(a0 == 0 && (a1 == 0 && (a2 == 0 && (a3 == 0 && (a4 == 0 && (a5 == 0 && (a6 == 0 && (a7 == 0 && true))))))))) (Option.bind (ak a0 a1 a2 a3 a4 a5 a6 a7) fun r3 => (cond r3 (cond q8 (some (a0, a1, a2, a3, a4, a5, a6, a7)) none) (cond q8 none (some (a0, a1, a2, a3, a4, a5, a6, a7))))) (some (a0, a1, a2, a3, a4, a5, a6, a7))))
def k9 : FD where
 X := Int × Int × Int × Int × Int × Int × Int × Int
 k := 0
 pre := []
 F := fun s => []
 M := .agg (rl (.int .u64) 8 [])
 B := []
 toL := fun x => [.I x.1, .I x.2.1, .I x.2.2.1, .I x.2.2.2.1, .I x.s4.1, .I x.s4.2.1, .I x.s4.2.2.1, .I x.s4.2.2.2]
 ofL := fun ls => match ls with
  | [.I x0, .I x1, .I x2, .I x3, .I x4, .I x5, .I x6, .I x7] => some (x0, x1, x2, x3, x4, x5, x6, x7)
  | _ => none
 ar := fun ls x h => by
  split at h
  ·cases h; rfl
  ·cases h
theorem DX (a0 a1 a2 a3 a4 a5 a6 a7 : Int) (q8 : Bool) (x : Int × Int × Int × Int × Int × Int × Int × Int) (h : bh a0 a1 a2 a3 a4 a5 a6 a7 q8 = some x) : ba U3 51 0 [.agg (bE a0 a1 a2 a3 a4 a5 a6 a7), .bool q8] [] k9 x :=
 FD.semA k9 Bj Try.func51 (fuel := 60) (by kernel_rfl) (by kernel_rfl)
  (by kernel_rfl) (Eq.trans (by kernel_rfl) h)
def tq : HK where
 call := fun args σ k => match args with
  | [.agg [.int .u64 a0, .int .u64 a1, .int .u64 a2, .int .u64 a3, .int .u64 a4, .int .u64 a5, .int .u64 a6, .int .u64 a7], .bool q8] => Option.bind (bh a0 a1 a2 a3 a4 a5 a6 a7 q8) fun y => az σ 0 (k9.val y) (k9.aJ y) k
  | _ => none
 nat := fun args σ k => by
  repeat' split
  all_goals simp only [av, aj, UB, UA, az, Uz]
 pure := true
 pok := fun _ args σ r σ' h => by
  split at h
  ·exact bo h (fun y => rfl) (fun y f => rfl)
  ·cases h
theorem E0 : aU U3 51 tq := by
 intro args σ r σ' h
 simp only [tq] at h
 split at h
 ·rename_i a0 a1 a2 a3 a4 a5 a6 a7 q8
  obtain ⟨y, hy, h⟩ := bE_ h
  exact lifted (xs := []) (ls := []) (cargs := [.agg (bE a0 a1 a2 a3 a4 a5 a6 a7), .bool q8]) (bA.of trivial) rfl (DX a0 a1 a2 a3 a4 a5 a6 a7 q8 y hy) rfl rfl rfl rfl h
 ·cases h
abbrev BU := (I8 (I8 Bool))
def AE : CH := (CH.add 51 tq (CH.add 50 mt (CH.add 49 iL (CH.add 48 rQ (CH.add 47 vv (CH.add 37 cL (CH.add 28 rR CH.none)))))))
theorem EZ : aD U3 AE := (CH.ai E0 (CH.ai nN (CH.ai jm (CH.ai yj (CH.ai F8 (CH.ai cR (CH.ai yl CH.aB)))))))
def jV (a0 a1 a2 a3 a4 a5 a6 a7 a8 a9 a10 a11 a12 a13 a14 a15 : Int) : Option (BU) :=
 (Option.bind (ky a8 a9 a10 a11 a12 a13 a14 a15) fun r1 => (cond (r1 == 0) (some (0, 0, 0, 0, 0, 0, 0, 0, 0, 0, 0, 0, 0, 0, 0, 0, false)) (Option.bind (dr a0 a1 a2 a3 a4 a5 a6 a7) fun r2 => (Option.bind (dr a8 a9 a10 a11 a12 a13 a14 a15) fun r3 => (Option.bind (lE r2.1 r2.2.1 r2.2.2.1 r2.2.2.2.1 r2.2.2.2.2.1 r2.2.2.2.2.2.1 r2.2.2.2.2.2.2.1 r2.2.2.2.2.2.2.2 r3.1 r3.2.1 r3.2.2.1 r3.2.2.2.1 r3.2.2.2.2.1 r3.2.2.2.2.2.1 r3.2.2.2.2.2.2.1 r3.2.2.2.2.2.2.2) fun r4 => (Option.bind (ak a0 a1 a2 a3 a4 a5 a6 a7) fun r5 => (cond r5 (Option.bind (ak a8 a9 a10 a11 a12 a13 a14 a15) fun r6 => (cond r6 (Option.bind (bh r4.1 r4.2.1 r4.2.2.1 r4.2.2.2.1 r4.2.2.2.2.1 r4.2.2.2.2.2.1 r4.2.2.2.2.2.2.1 r4.2.2.2.2.2.2.2.1 false) fun r7 => (Option.bind (ak a8 a9 a10 a11 a12 a13 a14 a15) fun r8 => (cond r8 (Option.bind (bh r4.2.2.2.2.2.2.2.2.1 r4.2.2.2.2.2.2.2.2.2.1 r4.2.2.2.2.2.2.2.2.2.2.1 r4.2.2.2.2.2.2.2.2.2.2.2.1 r4.2.2.2.2.2.2.2.2.2.2.2.2.1 r4.2.2.2.2.2.2.2.2.2.2.2.2.2.1 r4.2.2.2.2.2.2.2.2.2.2.2.2.2.2.1 r4.2.2.2.2.2.2.2.2.2.2.2.2.2.2.2 true) fun r9 => (some (r7.1, r7.2.1, r7.2.2.1, r7.2.2.2.1, r7.2.2.2.2.1, r7.2.2.2.2.2.1, r7.2.2.2.2.2.2.1, r7.2.2.2.2.2.2.2, r9.1, r9.2.1, r9.2.2.1, r9.2.2.2.1, r9.2.2.2.2.1, r9.2.2.2.2.2.1, r9.2.2.2.2.2.2.1, r9.2.2.2.2.2.2.2, true))) (Option.bind (bh r4.2.2.2.2.2.2.2.2.1 r4.2.2.2.2.2.2.2.2.2.1 r4.2.2.2.2.2.2.2.2.2.2.1 r4.2.2.2.2.2.2.2.2.2.2.2.1 r4.2.2.2.2.2.2.2.2.2.2.2.2.1 r4.2.2.2.2.2.2.2.2.2.2.2.2.2.1 r4.2.2.2.2.2.2.2.2.2.2.2.2.2.2.1 r4.2.2.2.2.2.2.2.2.2.2.2.2.2.2.2 false) fun r10 => (some (r7.1, r7.2.1, r7.2.2.1, r7.2.2.2.1, r7.2.2.2.2.1, r7.2.2.2.2.2.1, r7.2.2.2.2.2.2.1, r7.2.2.2.2.2.2.2, r10.1, r10.2.1, r10.2.2.1, r10.2.2.2.1, r10.2.2.2.2.1, r10.2.2.2.2.2.1, r10.2.2.2.2.2.2.1, r10.2.2.2.2.2.2.2, true)))))) (cond (!(r4.2.2.2.2.2.2.2.2.1 == 0 && (r4.2.2.2.2.2.2.2.2.2.1 == 0 && (r4.2.2.2.2.2.2.2.2.2.2.1 == 0 && (r4.2.2.2.2.2.2.2.2.2.2.2.1 == 0 && (r4.2.2.2.2.2.2.2.2.2.2.2.2.1 == 0 && (r4.2.2.2.2.2.2.2.2.2.2.2.2.2.1 == 0 && (r4.2.2.2.2.2.2.2.2.2.2.2.2.2.2.1 == 0 && (r4.2.2.2.2.2.2.2.2.2.2.2.2.2.2.2 == 0 && true))))))))) (Option.bind (dq r4.1 r4.2.1 r4.2.2.1 r4.2.2.2.1 r4.2.2.2.2.1 r4.2.2.2.2.2.1 r4.2.2.2.2.2.2.1 r4.2.2.2.2.2.2.2.1 0 0 0 0 0 0 0 0 1) fun r11 => (Option.bind (dr a8 a9 a10 a11 a12 a13 a14 a15) fun r12 => (Option.bind (gf r4.2.2.2.2.2.2.2.2.1 r4.2.2.2.2.2.2.2.2.2.1 r4.2.2.2.2.2.2.2.2.2.2.1 r4.2.2.2.2.2.2.2.2.2.2.2.1 r4.2.2.2.2.2.2.2.2.2.2.2.2.1 r4.2.2.2.2.2.2.2.2.2.2.2.2.2.1 r4.2.2.2.2.2.2.2.2.2.2.2.2.2.2.1 r4.2.2.2.2.2.2.2.2.2.2.2.2.2.2.2) fun r13 => (Option.bind (dq r12.1 r12.2.1 r12.2.2.1 r12.2.2.2.1 r12.2.2.2.2.1 r12.2.2.2.2.2.1 r12.2.2.2.2.2.2.1 r12.2.2.2.2.2.2.2 r13.1 r13.2.1 r13.2.2.1 r13.2.2.2.1 r13.2.2.2.2.1 r13.2.2.2.2.2.1 r13.2.2.2.2.2.2.1 r13.2.2.2.2.2.2.2 1) fun r14 => (Option.bind (bh r11.1 r11.2.1 r11.2.2.1 r11.2.2.2.1 r11.2.2.2.2.1 r11.2.2.2.2.2.1 r11.2.2.2.2.2.2.1 r11.2.2.2.2.2.2.2 true) fun r15 => (Option.bind (ak a8 a9 a10 a11 a12 a13 a14 a15) fun r16 => (cond r16 (Option.bind (bh r14.1 r14.2.1 r14.2.2.1 r14.2.2.2.1 r14.2.2.2.2.1 r14.2.2.2.2.2.1 r14.2.2.2.2.2.2.1 r14.2.2.2.2.2.2.2 true) fun r17 => (some (r15.1, r15.2.1, r15.2.2.1, r15.2.2.2.1, r15.2.2.2.2.1, r15.2.2.2.2.2.1, r15.2.2.2.2.2.2.1, r15.2.2.2.2.2.2.2, r17.1, r17.2.1, r17.2.2.1, r17.2.2.2.1, r17.2.2.2.2.1, r17.2.2.2.2.2.1, r17.2.2.2.2.2.2.1, r17.2.2.2.2.2.2.2, true))) (Option.bind (bh r14.1 r14.2.1 r14.2.2.1 r14.2.2.2.1 r14.2.2.2.2.1 r14.2.2.2.2.2.1 r14.2.2.2.2.2.2.1 r14.2.2.2.2.2.2.2 false) fun r18 => (some (r15.1, r15.2.1, r15.2.2.1, r15.2.2.2.1, r15.2.2.2.2.1, r15.2.2.2.2.2.1, r15.2.2.2.2.2.2.1, r15.2.2.2.2.2.2.2, r18.1, r18.2.1, r18.2.2.1, r18.2.2.2.1, r18.2.2.2.2.1, r18.2.2.2.2.2.1, r18.2.2.2.2.2.2.1, r18.2.2.2.2.2.2.2, true)))))))))) (Option.bind (bh r4.1 r4.2.1 r4.2.2.1 r4.2.2.2.1 r4.2.2.2.2.1 r4.2.2.2.2.2.1 r4.2.2.2.2.2.2.1 r4.2.2.2.2.2.2.2.1 true) fun r19 => (Option.bind (ak a8 a9 a10 a11 a12 a13 a14 a15) fun r20 => (cond r20 (Option.bind (bh r4.2.2.2.2.2.2.2.2.1 r4.2.2.2.2.2.2.2.2.2.1 r4.2.2.2.2.2.2.2.2.2.2.1 r4.2.2.2.2.2.2.2.2.2.2.2.1 r4.2.2.2.2.2.2.2.2.2.2.2.2.1 r4.2.2.2.2.2.2.2.2.2.2.2.2.2.1 r4.2.2.2.2.2.2.2.2.2.2.2.2.2.2.1 r4.2.2.2.2.2.2.2.2.2.2.2.2.2.2.2 true) fun r21 => (some (r19.1, r19.2.1, r19.2.2.1, r19.2.2.2.1, r19.2.2.2.2.1, r19.2.2.2.2.2.1, r19.2.2.2.2.2.2.1, r19.2.2.2.2.2.2.2, r21.1, r21.2.1, r21.2.2.1, r21.2.2.2.1, r21.2.2.2.2.1, r21.2.2.2.2.2.1, r21.2.2.2.2.2.2.1, r21.2.2.2.2.2.2.2, true))) (Option.bind (bh r4.2.2.2.2.2.2.2.2.1 r4.2.2.2.2.2.2.2.2.2.1 r4.2.2.2.2.2.2.2.2.2.2.1 r4.2.2.2.2.2.2.2.2.2.2.2.1 r4.2.2.2.2.2.2.2.2.2.2.2.2.1 r4.2.2.2.2.2.2.2.2.2.2.2.2.2.1 r4.2.2.2.2.2.2.2.2.2.2.2.2.2.2.1 r4.2.2.2.2.2.2.2.2.2.2.2.2.2.2.2 false) fun r22 => (some (r19.1, r19.2.1, r19.2.2.1, r19.2.2.2.1, r19.2.2.2.2.1, r19.2.2.2.2.2.1, r19.2.2.2.2.2.2.1, r19.2.2.2.2.2.2.2, r22.1, r22.2.1, r22.2.2.1, r22.2.2.2.1, r22.2.2.2.2.1, r22.2.2.2.2.2.1, r22.2.2.2.2.2.2.1, r22.2.2.2.2.2.2.2, true))))))))) (Option.bind (ak a8 a9 a10 a11 a12 a13 a14 a15) fun r23 => (cond r23 (cond (!(r4.2.2.2.2.2.2.2.2.1 == 0 && (r4.2.2.2.2.2.2.2.2.2.1 == 0 && (r4.2.2.2.2.2.2.2.2.2.2.1 == 0 && (r4.2.2.2.2.2.2.2.2.2.2.2.1 == 0 && (r4.2.2.2.2.2.2.2.2.2.2.2.2.1 == 0 && (r4.2.2.2.2.2.2.2.2.2.2.2.2.2.1 == 0 && (r4.2.2.2.2.2.2.2.2.2.2.2.2.2.2.1 == 0 && (r4.2.2.2.2.2.2.2.2.2.2.2.2.2.2.2 == 0 && true))))))))) (Option.bind (dq r4.1 r4.2.1 r4.2.2.1 r4.2.2.2.1 r4.2.2.2.2.1 r4.2.2.2.2.2.1 r4.2.2.2.2.2.2.1 r4.2.2.2.2.2.2.2.1 0 0 0 0 0 0 0 0 1) fun r24 => (Option.bind (dr a8 a9 a10 a11 a12 a13 a14 a15) fun r25 => (Option.bind (gf r4.2.2.2.2.2.2.2.2.1 r4.2.2.2.2.2.2.2.2.2.1 r4.2.2.2.2.2.2.2.2.2.2.1 r4.2.2.2.2.2.2.2.2.2.2.2.1 r4.2.2.2.2.2.2.2.2.2.2.2.2.1 r4.2.2.2.2.2.2.2.2.2.2.2.2.2.1 r4.2.2.2.2.2.2.2.2.2.2.2.2.2.2.1 r4.2.2.2.2.2.2.2.2.2.2.2.2.2.2.2) fun r26 => (Option.bind (dq r25.1 r25.2.1 r25.2.2.1 r25.2.2.2.1 r25.2.2.2.2.1 r25.2.2.2.2.2.1 r25.2.2.2.2.2.2.1 r25.2.2.2.2.2.2.2 r26.1 r26.2.1 r26.2.2.1 r26.2.2.2.1 r26.2.2.2.2.1 r26.2.2.2.2.2.1 r26.2.2.2.2.2.2.1 r26.2.2.2.2.2.2.2 1) fun r27 => (Option.bind (bh r24.1 r24.2.1 r24.2.2.1 r24.2.2.2.1 r24.2.2.2.2.1 r24.2.2.2.2.2.1 r24.2.2.2.2.2.2.1 r24.2.2.2.2.2.2.2 true) fun r28 => (Option.bind (ak a8 a9 a10 a11 a12 a13 a14 a15) fun r29 => (cond r29 (Option.bind (bh r27.1 r27.2.1 r27.2.2.1 r27.2.2.2.1 r27.2.2.2.2.1 r27.2.2.2.2.2.1 r27.2.2.2.2.2.2.1 r27.2.2.2.2.2.2.2 true) fun r30 => (some (r28.1, r28.2.1, r28.2.2.1, r28.2.2.2.1, r28.2.2.2.2.1, r28.2.2.2.2.2.1, r28.2.2.2.2.2.2.1, r28.2.2.2.2.2.2.2, r30.1, r30.2.1, r30.2.2.1, r30.2.2.2.1, r30.2.2.2.2.1, r30.2.2.2.2.2.1, r30.2.2.2.2.2.2.1, r30.2.2.2.2.2.2.2, true))) (Option.bind (bh r27.1 r27.2.1 r27.2.2.1 r27.2.2.2.1 r27.2.2.2.2.1 r27.2.2.2.2.2.1 r27.2.2.2.2.2.2.1 r27.2.2.2.2.2.2.2 false) fun r31 => (some (r28.1, r28.2.1, r28.2.2.1, r28.2.2.2.1, r28.2.2.2.2.1, r28.2.2.2.2.2.1, r28.2.2.2.2.2.2.1, r28.2.2.2.2.2.2.2, r31.1, r31.2.1, r31.2.2.1, r31.2.2.2.1, r31.2.2.2.2.1, r31.2.2.2.2.2.1, r31.2.2.2.2.2.2.1, r31.2.2.2.2.2.2.2, true)))))))))) (Option.bind (bh r4.1 r4.2.1 r4.2.2.1 r4.2.2.2.1 r4.2.2.2.2.1 r4.2.2.2.2.2.1 r4.2.2.2.2.2.2.1 r4.2.2.2.2.2.2.2.1 true) fun r32 => (Option.bind (ak a8 a9 a10 a11 a12 a13 a14 a15) fun r33 => (cond r33 (Option.bind (bh r4.2.2.2.2.2.2.2.2.1 r4.2.2.2.2.2.2.2.2.2.1 r4.2.2.2.2.2.2.2.2.2.2.1 r4.2.2.2.2.2.2.2.2.2.2.2.1 r4.2.2.2.2.2.2.2.2.2.2.2.2.1 r4.2.2.2.2.2.2.2.2.2.2.2.2.2.1 r4.2.2.2.2.2.2.2.2.2.2.2.2.2.2.1 r4.2.2.2.2.2.2.2.2.2.2.2.2.2.2.2 true) fun r34 => (some (r32.1, r32.2.1, r32.2.2.1, r32.2.2.2.1, r32.2.2.2.2.1, r32.2.2.2.2.2.1, r32.2.2.2.2.2.2.1, r32.2.2.2.2.2.2.2, r34.1, r34.2.1, r34.2.2.1, r34.2.2.2.1, r34.2.2.2.2.1, r34.2.2.2.2.2.1, r34.2.2.2.2.2.2.1, r34.2.2.2.2.2.2.2, true))) (Option.bind (bh r4.2.2.2.2.2.2.2.2.1 r4.2.2.2.2.2.2.2.2.2.1 r4.2.2.2.2.2.2.2.2.2.2.1 r4.2.2.2.2.2.2.2.2.2.2.2.1 r4.2.2.2.2.2.2.2.2.2.2.2.2.1 r4.2.2.2.2.2.2.2.2.2.2.2.2.2.1 r4.2.2.2.2.2.2.2.2.2.2.2.2.2.2.1 r4.2.2.2.2.2.2.2.2.2.2.2.2.2.2.2 false) fun r35 => (some (r32.1, r32.2.1, r32.2.2.1, r32.2.2.2.1, r32.2.2.2.2.1, r32.2.2.2.2.2.1, r32.2.2.2.2.2.2.1, r32.2.2.2.2.2.2.2, r35.1, r35.2.1, r35.2.2.1, r35.2.2.2.1, r35.2.2.2.2.1, r35.2.2.2.2.2.1, r35.2.2.2.2.2.2.1, r35.2.2.2.2.2.2.2, true))))))) (Option.bind (bh r4.1 r4.2.1 r4.2.2.1 r4.2.2.2.1 r4.2.2.2.2.1 r4.2.2.2.2.2.1 r4.2.2.2.2.2.2.1 r4.2.2.2.2.2.2.2.1 false) fun r36 => (Option.bind (ak a8 a9 a10 a11 a12 a13 a14 a15) fun r37 => (cond r37 (Option.bind (bh r4.2.2.2.2.2.2.2.2.1 r4.2.2.2.2.2.2.2.2.2.1 r4.2.2.2.2.2.2.2.2.2.2.1 r4.2.2.2.2.2.2.2.2.2.2.2.1 r4.2.2.2.2.2.2.2.2.2.2.2.2.1 r4.2.2.2.2.2.2.2.2.2.2.2.2.2.1 r4.2.2.2.2.2.2.2.2.2.2.2.2.2.2.1 r4.2.2.2.2.2.2.2.2.2.2.2.2.2.2.2 true) fun r38 => (some (r36.1, r36.2.1, r36.2.2.1, r36.2.2.2.1, r36.2.2.2.2.1, r36.2.2.2.2.2.1, r36.2.2.2.2.2.2.1, r36.2.2.2.2.2.2.2, r38.1, r38.2.1, r38.2.2.1, r38.2.2.2.1, r38.2.2.2.2.1, r38.2.2.2.2.2.1, r38.2.2.2.2.2.2.1, r38.2.2.2.2.2.2.2, true))) (Option.bind (bh r4.2.2.2.2.2.2.2.2.1 r4.2.2.2.2.2.2.2.2.2.1 r4.2.2.2.2.2.2.2.2.2.2.1 r4.2.2.2.2.2.2.2.2.2.2.2.1 r4.2.2.2.2.2.2.2.2.2.2.2.2.1 r4.2.2.2.2.2.2.2.2.2.2.2.2.2.1 r4.2.2.2.2.2.2.2.2.2.2.2.2.2.2.1 r4.2.2.2.2.2.2.2.2.2.2.2.2.2.2.2 false) fun r39 => (some (r36.1, r36.2.1, r36.2.2.1, r36.2.2.2.1, r36.2.2.2.2.1, r36.2.2.2.2.2.1, r36.2.2.2.2.2.2.1, r36.2.2.2.2.2.2.2, r39.1, r39.2.1, r39.2.2.1, r39.2.2.2.1, r39.2.2.2.2.1, r39.2.2.2.2.2.1, r39.2.2.2.2.2.2.1, r39.2.2.2.2.2.2.2, true)))))))))))))))
def pV : FD where
 X := BU
 k := 0
 pre := []
 F := fun s => []
 M := .tup [.agg (rl (.int .u64) 8 []), .agg (rl (.int .u64) 8 []), .bool]
 B := []
 toL := fun x => [.I x.1, .I x.2.1, .I x.2.2.1, .I x.2.2.2.1, .I x.s4.1, .I x.s4.2.1, .I x.s4.2.2.1, .I x.s4.2.2.2.1, .I x.s8.1, .I x.s8.2.1, .I x.s8.2.2.1, .I x.s8.2.2.2.1, .I x.s8.s4.1, .I x.s8.s4.2.1, .I x.s8.s4.2.2.1, .I x.s8.s4.2.2.2.1, .B x.s16]
 ofL := fun ls => match ls with
  | [.I x0, .I x1, .I x2, .I x3, .I x4, .I x5, .I x6, .I x7, .I x8, .I x9, .I x10, .I x11, .I x12, .I x13, .I x14, .I x15, .B x16] => some (x0, x1, x2, x3, x4, x5, x6, x7, x8, x9, x10, x11, x12, x13, x14, x15, x16)
  | _ => none
 ar := fun ls x h => by
  split at h
  ·cases h; rfl
  ·cases h
theorem HP : wk U3 46 Try.f46 0 (Mr (Ms (bn Try.f46))) (Hr (bn Try.f46) 0) (Hr (bn Try.f46) 1) (O6 (bn Try.f46)) 4 3 :=
 ⟨Try.func46, ⟨_, Try.func46, bF 46 _ Try.func46, by kernel_rfl⟩, by kernel_rfl, by kernel_rfl, by kernel_rfl, by kernel_rfl, by kernel_rfl, by kernel_rfl, by kernel_rfl, by kernel_rfl, by kernel_rfl, (by decide)⟩
theorem HQ (a0 a1 a2 a3 a4 a5 a6 a7 a8 a9 a10 a11 a12 a13 a14 a15 : Int) (x : BU) (h : jV a0 a1 a2 a3 a4 a5 a6 a7 a8 a9 a10 a11 a12 a13 a14 a15 = some x) : ba U3 27 0 [.agg (bE a0 a1 a2 a3 a4 a5 a6 a7), .agg (bE a8 a9 a10 a11 a12 a13 a14 a15)] [] pV x :=
 FD.Ss (ch := AE) (A := bz) (fn := Try.f27) (c := bn Try.f27) (fuel := 60) aH EZ mixed bF pV Try.func27 (by kernel_rfl) (aG (l := []) (by kernel_rfl) trivial)
  (by kernel_rfl) HP (by kernel_rfl) (Eq.trans (by kernel_rfl) h)
def zH : HK where
 call := fun args σ k => match args with
  | [.agg [.int .u64 a0, .int .u64 a1, .int .u64 a2, .int .u64 a3, .int .u64 a4, .int .u64 a5, .int .u64 a6, .int .u64 a7], .agg [.int .u64 a8, .int .u64 a9, .int .u64 a10, .int .u64 a11, .int .u64 a12, .int .u64 a13, .int .u64 a14, .int .u64 a15]] => Option.bind (jV a0 a1 a2 a3 a4 a5 a6 a7 a8 a9 a10 a11 a12 a13 a14 a15) fun y => az σ 0 (pV.val y) (pV.aJ y) k
  | _ => none
 nat := fun args σ k => by
  repeat' split
  all_goals simp only [av, aj, UB, UA, az, Uz]
 pure := true
 pok := fun _ args σ r σ' h => by
  split at h
  ·exact bo h (fun y => rfl) (fun y f => rfl)
  ·cases h
theorem Jh : aU U3 27 zH := by
 intro args σ r σ' h
 simp only [zH] at h
 split at h
 ·rename_i a0 a1 a2 a3 a4 a5 a6 a7 a8 a9 a10 a11 a12 a13 a14 a15
  obtain ⟨y, hy, h⟩ := bE_ h
  exact lifted (xs := []) (ls := []) (cargs := [.agg (bE a0 a1 a2 a3 a4 a5 a6 a7), .agg (bE a8 a9 a10 a11 a12 a13 a14 a15)]) (bA.of trivial) rfl (HQ a0 a1 a2 a3 a4 a5 a6 a7 a8 a9 a10 a11 a12 a13 a14 a15 y hy) rfl rfl rfl rfl h
 ·cases h
end Go.Ev
