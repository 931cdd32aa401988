import Derived.Test.YtbmjabafceihgaaGreatKag
set_option linter.unusedVariables false
set_option linter.unusedSimpArgs false
set_option maxRecDepth 100000
noncomputable section
namespace Go.Ev
open Go.Proofs
def rY : CH := CH.none
theorem uO : aB YI rY := CH.ay
def fY {R : Type} (cc : LA_ × Nat × LA_ × Nat) (v : Int) (kn : (Int) → Option R) (ke : ((Int) ⊕ (Unit)) → Option R) : Option R :=
 (cond (decide (v ≥ 0)) (ah (decide (0 ≤ v) && decide (v < ((8 : Nat) : Int))) (ah (aw [.int .u64] cc.1 (0 + (Int.toNat v * 1))) (ah (decide (0 ≤ v) && decide (v < ((8 : Nat) : Int))) (ah (aw [.int .u64] cc.2.2.1 (0 + (Int.toNat v * 1))) (cond ((ac cc.1 ((0 + (Int.toNat v * 1)) + 0)) != (ac cc.2.2.1 ((0 + (Int.toNat v * 1)) + 0))) (ah (decide (0 ≤ v) && decide (v < ((8 : Nat) : Int))) (ah (aw [.int .u64] cc.1 (0 + (Int.toNat v * 1))) (ah (decide (0 ≤ v) && decide (v < ((8 : Nat) : Int))) (ah (aw [.int .u64] cc.2.2.1 (0 + (Int.toNat v * 1))) (cond (decide ((ac cc.1 ((0 + (Int.toNat v * 1)) + 0)) < (ac cc.2.2.1 ((0 + (Int.toNat v * 1)) + 0)))) (ke (.inl (-1))) (ke (.inl 1))))))) (kn (IntKind.wrap .i64 (v - 1)))))))) (ke (.inr ())))
def qp (cc : LA_ × Nat × LA_ × Nat) (v : Int) : Option ((Int) ⊕ ((Int) ⊕ (Unit))) := fY cc v (fun v => some (Sum.inl v)) fun e => some (Sum.inr e)
def zs (cc : LA_ × Nat × LA_ × Nat) (v : Int) : Option ((Int) ⊕ (Unit)) := dz (qp cc) v
def E5 (cc : LA_ × Nat × LA_ × Nat) (v : Int) : List af := [.I v, .C cc.1, .N cc.2.1, .C cc.2.2.1, .N cc.2.2.2]
def uP (ls : List af) : Option ((LA_ × Nat × LA_ × Nat) × (Int)) := match ls with
 | [.I x0, .C x1, .N x2, .C x3, .N x4] => some ((x1, x2, x3, x4), x0)
 | _ => none
def uQ (e : (Int) ⊕ (Unit)) : an := ((Sum.elim (fun e => .ret) (fun e => .exit 0)) e)
def uR (cc : LA_ × Nat × LA_ × Nat) (e : (Int) ⊕ (Unit)) : List af := ((Sum.elim (fun e => [.I e]) (fun e => [])) e)
def tD (cc : LA_ × Nat × LA_ × Nat) (e : (Int) ⊕ (Unit)) : List af := ((Sum.elim (fun e => []) (fun e => [])) e)
def nu (o : an) (ls : List af) : Option (((Int) ⊕ (Unit)) × List af) := match o with
 | .ret => (match ls with
  | [.I x0] => some ((.inl x0), [])
  | _ => none)
 | .exit 0 => (match ls with
  | [] => some ((.inr ()), [])
  | _ => none)
 | _ => none
theorem A5 : ∀ o ls e cl cc, nu o ls = some (e, cl) → cl = tD cc e → ls = uR cc e ∧ uQ e = o ∧ o ≠ .normal ∧ ∀ v, o = .pan v → sc 0 v = true := by
 intro o ls e cl cc h hc
 unfold nu at h
 split at h
 ·split at h
  ·cases h
   exact ⟨rfl, rfl, by simp, by intro v hv; cases hv <;> rfl⟩
  ·cases h
 ·split at h
  ·cases h
   exact ⟨rfl, rfl, by simp, by intro v hv; cases hv <;> rfl⟩
  ·cases h
 ·cases h
def Hf (o : an) : ExS := match o with
 | .ret => ⟨0, (none :: none :: none :: none :: some (.int .i64) :: (rl none 19 [])), [], fun s => [], [], []⟩
 | .exit 0 => ⟨0, (rl none 24 []), [], fun s => [], [], []⟩
 | _ => ⟨0, [], [], fun _ => [], [], []⟩
theorem E6 {R : Type} (cc : LA_ × Nat × LA_ × Nat) (v : Int) (kn : (Int) → Option R) (ke : ((Int) ⊕ (Unit)) → Option R) : fY cc v kn ke = (fY cc v (fun v => some (Sum.inl v)) fun e => some (Sum.inr e)).bind (Sum.elim kn ke) := by
 simp only [fY, bH, ai, Yg, bZ, bB, Ye, Yf, YF, YE]
def ym : LD where
 CC := LA_ × Nat × LA_ × Nat
 V := Int
 E := (Int) ⊕ (Unit)
 n := 0
 K := 2
 M := (none :: none :: some (.ptr 0 0) :: some (.ptr 1 0) :: none :: some (.int .i64) :: (rl none 18 []))
 B := [(0, .vec 8 true), (1, .vec 8 true)]
 D := []
 pre := []
 F := fun s => [ak s 2 [], ak s 3 []]
 toL := E5
 ofL := uP
 ar := fun ls c v h => by
  unfold uP at h
  split at h
  ·cases h; rfl
  ·cases h
 ct := fY
 nat := E6
 sh := Hf
 out := uQ
 toE := uR
 eY := tD
 ofE := nu
 cQ := A5
 post := fun cc e k => ((Sum.elim (fun e => k (.ret) (bc 0 (none :: none :: none :: none :: some (.int .i64 e) :: (rl none 19 [])) [] [])) (fun e => k (.exit 0) (bc 0 (rl none 24 []) [] []))) e)
 cd := fun cc e k => by rcases e with e | e <;> rfl
theorem E7 : cJ YI 0 ym.la (aJ Tryz.f65 0) :=
 LD.ok (ch := rY) (A := bw) aK uO mixed (fuel := 60) ⟨by kernel_rfl, fun e => by (rcases e with e | e <;> kernel_rfl), fun cc v => by kernel_rfl, aH (l := []) (by kernel_rfl) trivial⟩
def iJ (a0 a1 a2 a3 a4 a5 a6 a7 a8 a9 a10 a11 a12 a13 a14 a15 : Int) : Option (Int) :=
 (Option.bind (zs ((bN a0 a1 a2 a3 a4 a5 a6 a7), 1, (bN a8 a9 a10 a11 a12 a13 a14 a15), 1) 7) (Sum.elim (fun e1 => (some e1)) (fun e1 => (some 0))))
def ot : FD where
 X := Int
 k := 0
 pre := []
 F := fun s => []
 M := .int .i64
 B := []
 toL := fun x => [.I x]
 ofL := fun ls => match ls with
  | [.I x0] => some x0
  | _ => none
 ar := fun ls x h => by
  split at h
  ·cases h; rfl
  ·cases h
theorem Iq (a0 a1 a2 a3 a4 a5 a6 a7 a8 a9 a10 a11 a12 a13 a14 a15 x : Int) (h : iJ a0 a1 a2 a3 a4 a5 a6 a7 a8 a9 a10 a11 a12 a13 a14 a15 = some x) : aP YI 65 0 [.agg (bN a0 a1 a2 a3 a4 a5 a6 a7), .agg (bN a8 a9 a10 a11 a12 a13 a14 a15)] [] ot x :=
 FD.sem (ch := rY) (A := dL [(2, ym.la)]) (fn := Tryz.f65) (c := br Tryz.f65) (fuel := 60) aK uO mixed bI ot Tryz.func65 (by kernel_rfl) (aH (l := [aJ Tryz.f65 0]) (by kernel_rfl) ⟨bT (by kernel_rfl) E7, trivial⟩)
  (by kernel_rfl) (Eq.trans (by kernel_rfl) h)
def rZ : HK where
 call := fun args σ k => match args with
  | [.agg [.int .u64 a0, .int .u64 a1, .int .u64 a2, .int .u64 a3, .int .u64 a4, .int .u64 a5, .int .u64 a6, .int .u64 a7], .agg [.int .u64 a8, .int .u64 a9, .int .u64 a10, .int .u64 a11, .int .u64 a12, .int .u64 a13, .int .u64 a14, .int .u64 a15]] => Option.bind (iJ a0 a1 a2 a3 a4 a5 a6 a7 a8 a9 a10 a11 a12 a13 a14 a15) fun y => au σ 0 (ot.val y) (ot.aI y) k
  | _ => none
 nat := fun args σ k => by
  repeat' split
  all_goals simp only [ao, ai, Yg, Yf, au, Ye]
 pure := true
 pok := fun _ args σ r σ' h => by
  split at h
  ·exact aZ h (fun y => rfl) (fun y f => rfl)
  ·cases h
theorem zt : aN YI 65 rZ := by
 intro args σ r σ' h
 simp only [rZ] at h
 split at h
 ·rename_i a0 a1 a2 a3 a4 a5 a6 a7 a8 a9 a10 a11 a12 a13 a14 a15
  obtain ⟨y, hy, h⟩ := bE_ h
  exact aG (xs := []) (ls := []) (cargs := [.agg (bN a0 a1 a2 a3 a4 a5 a6 a7), .agg (bN a8 a9 a10 a11 a12 a13 a14 a15)]) (bg.of trivial) rfl (Iq a0 a1 a2 a3 a4 a5 a6 a7 a8 a9 a10 a11 a12 a13 a14 a15 y hy) rfl rfl rfl rfl h
 ·cases h
def Fe : CH := CH.none
theorem Bd : aB YI Fe := CH.ay
def am (a0 a1 a2 a3 a4 a5 a6 a7 : Int) : Option (Bool) :=
 (cond ((aE .u64 a7 63) == 1) (some true) (some false))
def kl : FD where
 X := Bool
 k := 0
 pre := []
 F := fun s => []
 M := .bool
 B := []
 toL := fun x => [.B x]
 ofL := fun ls => match ls with
  | [.B x0] => some x0
  | _ => none
 ar := fun ls x h => by
  split at h
  ·cases h; rfl
  ·cases h
theorem Ei (a0 a1 a2 a3 a4 a5 a6 a7 : Int) (x : Bool) (h : am a0 a1 a2 a3 a4 a5 a6 a7 = some x) : aP YI 60 0 [.agg (v8 a0 a1 a2 a3 a4 a5 a6 a7 [])] [] kl x :=
 FD.semA kl Bd Tryz.func60 (fuel := 60) (by kernel_rfl) (by kernel_rfl)
  (by kernel_rfl) (Eq.trans (by kernel_rfl) h)
def dc : HK where
 call := fun args σ k => match args with
  | [.agg [.int .u64 a0, .int .u64 a1, .int .u64 a2, .int .u64 a3, .int .u64 a4, .int .u64 a5, .int .u64 a6, .int .u64 a7]] => Option.bind (am a0 a1 a2 a3 a4 a5 a6 a7) fun y => au σ 0 (kl.val y) (kl.aI y) k
  | _ => none
 nat := fun args σ k => by
  repeat' split
  all_goals simp only [ao, ai, Yg, Yf, au, Ye]
 pure := true
 pok := fun _ args σ r σ' h => by
  split at h
  ·exact aZ h (fun y => rfl) (fun y f => rfl)
  ·cases h
theorem dl : aN YI 60 dc := by
 intro args σ r σ' h
 simp only [dc] at h
 split at h
 ·rename_i a0 a1 a2 a3 a4 a5 a6 a7
  obtain ⟨y, hy, h⟩ := bE_ h
  exact aG (xs := []) (ls := []) (cargs := [.agg (v8 a0 a1 a2 a3 a4 a5 a6 a7 [])]) (bg.of trivial) rfl (Ei a0 a1 a2 a3 a4 a5 a6 a7 y hy) rfl rfl rfl rfl h
 ·cases h
def MC : CH := (CH.add 65 rZ (CH.add 60 dc CH.none))
theorem Is : aB YI MC := (CH.aj zt (CH.aj dl CH.ay))
def sf (a0 a1 a2 a3 a4 a5 a6 a7 a8 a9 a10 a11 a12 a13 a14 a15 : Int) : Option (Int) :=
 (Option.bind (am a0 a1 a2 a3 a4 a5 a6 a7) fun r1 => (cond r1 (Option.bind (am a8 a9 a10 a11 a12 a13 a14 a15) fun r2 => (cond r2 (Option.bind (iJ a0 a1 a2 a3 a4 a5 a6 a7 a8 a9 a10 a11 a12 a13 a14 a15) fun r3 => (some r3)) (some (-1)))) (Option.bind (am a8 a9 a10 a11 a12 a13 a14 a15) fun r4 => (cond r4 (some 1) (Option.bind (iJ a0 a1 a2 a3 a4 a5 a6 a7 a8 a9 a10 a11 a12 a13 a14 a15) fun r5 => (some r5))))))
def sg : FD where
 X := Int
 k := 0
 pre := []
 F := fun s => []
 M := .int .i64
 B := []
 toL := fun x => [.I x]
 ofL := fun ls => match ls with
  | [.I x0] => some x0
  | _ => none
 ar := fun ls x h => by
  split at h
  ·cases h; rfl
  ·cases h
theorem K6 (a0 a1 a2 a3 a4 a5 a6 a7 a8 a9 a10 a11 a12 a13 a14 a15 x : Int) (h : sf a0 a1 a2 a3 a4 a5 a6 a7 a8 a9 a10 a11 a12 a13 a14 a15 = some x) : aP YI 47 0 [.agg (v8 a0 a1 a2 a3 a4 a5 a6 a7 []), .agg (v8 a8 a9 a10 a11 a12 a13 a14 a15 [])] [] sg x :=
 FD.semA sg Is Tryz.func47 (fuel := 60) (by kernel_rfl) (by kernel_rfl)
  (by kernel_rfl) (Eq.trans (by kernel_rfl) h)
def Cl : HK where
 call := fun args σ k => match args with
  | [.agg [.int .u64 a0, .int .u64 a1, .int .u64 a2, .int .u64 a3, .int .u64 a4, .int .u64 a5, .int .u64 a6, .int .u64 a7], .agg [.int .u64 a8, .int .u64 a9, .int .u64 a10, .int .u64 a11, .int .u64 a12, .int .u64 a13, .int .u64 a14, .int .u64 a15]] => Option.bind (sf a0 a1 a2 a3 a4 a5 a6 a7 a8 a9 a10 a11 a12 a13 a14 a15) fun y => au σ 0 (sg.val y) (sg.aI y) k
  | _ => none
 nat := fun args σ k => by
  repeat' split
  all_goals simp only [ao, ai, Yg, Yf, au, Ye]
 pure := true
 pok := fun _ args σ r σ' h => by
  split at h
  ·exact aZ h (fun y => rfl) (fun y f => rfl)
  ·cases h
theorem MD : aN YI 47 Cl := by
 intro args σ r σ' h
 simp only [Cl] at h
 split at h
 ·rename_i a0 a1 a2 a3 a4 a5 a6 a7 a8 a9 a10 a11 a12 a13 a14 a15
  obtain ⟨y, hy, h⟩ := bE_ h
  exact aG (xs := []) (ls := []) (cargs := [.agg (v8 a0 a1 a2 a3 a4 a5 a6 a7 []), .agg (v8 a8 a9 a10 a11 a12 a13 a14 a15 [])]) (bg.of trivial) rfl (K6 a0 a1 a2 a3 a4 a5 a6 a7 a8 a9 a10 a11 a12 a13 a14 a15 y hy) rfl rfl rfl rfl h
 ·cases h
def Lf : CH := (CH.add 60 dc CH.none)
theorem Hq : aB YI Lf := (CH.aj dl CH.ay)
def mc (a0 a1 a2 a3 a4 a5 a6 a7 : Int) : Option (Int) :=
 (Option.bind (am a0 a1 a2 a3 a4 a5 a6 a7) fun r1 => (cond r1 (some (-1)) (cond (a0 == 0 && (a1 == 0 && (a2 == 0 && (a3 == 0 && (a4 == 0 && (a5 == 0 && (a6 == 0 && (a7 == 0 && true)))))))) (some 0) (some 1))))
def pT : FD where
 X := Int
 k := 0
 pre := []
 F := fun s => []
 M := .int .i64
 B := []
 toL := fun x => [.I x]
 ofL := fun ls => match ls with
  | [.I x0] => some x0
  | _ => none
 ar := fun ls x h => by
  split at h
  ·cases h; rfl
  ·cases h
theorem JR (a0 a1 a2 a3 a4 a5 a6 a7 x : Int) (h : mc a0 a1 a2 a3 a4 a5 a6 a7 = some x) : aP YI 56 0 [.agg (v8 a0 a1 a2 a3 a4 a5 a6 a7 [])] [] pT x :=
 FD.semA pT Hq Tryz.func56 (fuel := 60) (by kernel_rfl) (by kernel_rfl)
  (by kernel_rfl) (Eq.trans (by kernel_rfl) h)
def un : HK where
 call := fun args σ k => match args with
  | [.agg [.int .u64 a0, .int .u64 a1, .int .u64 a2, .int .u64 a3, .int .u64 a4, .int .u64 a5, .int .u64 a6, .int .u64 a7]] => Option.bind (mc a0 a1 a2 a3 a4 a5 a6 a7) fun y => au σ 0 (pT.val y) (pT.aI y) k
  | _ => none
 nat := fun args σ k => by
  repeat' split
  all_goals simp only [ao, ai, Yg, Yf, au, Ye]
 pure := true
 pok := fun _ args σ r σ' h => by
  split at h
  ·exact aZ h (fun y => rfl) (fun y f => rfl)
  ·cases h
theorem A7 : aN YI 56 un := by
 intro args σ r σ' h
 simp only [un] at h
 split at h
 ·rename_i a0 a1 a2 a3 a4 a5 a6 a7
  obtain ⟨y, hy, h⟩ := bE_ h
  exact aG (xs := []) (ls := []) (cargs := [.agg (v8 a0 a1 a2 a3 a4 a5 a6 a7 [])]) (bg.of trivial) rfl (JR a0 a1 a2 a3 a4 a5 a6 a7 y hy) rfl rfl rfl rfl h
 ·cases h
abbrev Ct := Int × Int × Int × Int × Int × Int × Int × Int
def zw : CH := (CH.add 86 JN CH.none)
def Bf : CH := xG YI kc [81, 108] 60 zw 2
theorem Fl : aB YI zw := (CH.aj (LQ Tryz.func86 (by kernel_rfl) (by kernel_rfl) (by kernel_rfl) (by kernel_rfl)) CH.ay)
theorem Hp : aB YI Bf := ju aK mixed bI Fl 2
def dS (a0 a1 a2 a3 a4 a5 a6 a7 a8 a9 a10 a11 a12 a13 a14 a15 a16 : Int) : Option (Ct) :=
 (Option.bind (iS a0 a8 a16) fun r1 => (Option.bind (iS a1 a9 r1.2) fun r2 => (Option.bind (iS a2 a10 r2.2) fun r3 => (Option.bind (iS a3 a11 r3.2) fun r4 => (Option.bind (iS a4 a12 r4.2) fun r5 => (Option.bind (iS a5 a13 r5.2) fun r6 => (Option.bind (iS a6 a14 r6.2) fun r7 => (Option.bind (iS a7 a15 r7.2) fun r8 => (some (r1.1, r2.1, r3.1, r4.1, r5.1, r6.1, r7.1, r8.1))))))))))
def pS : FD where
 X := Ct
 k := 0
 pre := []
 F := fun s => []
 M := .agg (rl (.int .u64) 8 [])
 B := []
 toL := fun x => [.I x.1, .I x.2.1, .I x.2.2.1, .I x.2.2.2.1, .I x.s4.1, .I x.s4.2.1, .I x.s4.2.2.1, .I x.s4.2.2.2]
 ofL := fun ls => match ls with
  | [.I x0, .I x1, .I x2, .I x3, .I x4, .I x5, .I x6, .I x7] => some (x0, x1, x2, x3, x4, x5, x6, x7)
  | _ => none
 ar := fun ls x h => by
  split at h
  ·cases h; rfl
  ·cases h
theorem JQ (a0 a1 a2 a3 a4 a5 a6 a7 a8 a9 a10 a11 a12 a13 a14 a15 a16 : Int) (x : Ct) (h : dS a0 a1 a2 a3 a4 a5 a6 a7 a8 a9 a10 a11 a12 a13 a14 a15 a16 = some x) : aP YI 58 0 [.agg (bN a0 a1 a2 a3 a4 a5 a6 a7), .agg (bN a8 a9 a10 a11 a12 a13 a14 a15), .int .u64 a16] [] pS x :=
 FD.sem (ch := Bf) (A := bw) (fn := Tryz.f58) (c := br Tryz.f58) (fuel := 60) aK Hp mixed bI pS Tryz.func58 (by kernel_rfl) (aH (l := [aJ Tryz.f58 0]) (by kernel_rfl) ⟨(eL (by kernel_rfl)), trivial⟩)
  (by kernel_rfl) (Eq.trans (by kernel_rfl) h)
def jL : HK where
 call := fun args σ k => match args with
  | [.agg [.int .u64 a0, .int .u64 a1, .int .u64 a2, .int .u64 a3, .int .u64 a4, .int .u64 a5, .int .u64 a6, .int .u64 a7], .agg [.int .u64 a8, .int .u64 a9, .int .u64 a10, .int .u64 a11, .int .u64 a12, .int .u64 a13, .int .u64 a14, .int .u64 a15], .int .u64 a16] => Option.bind (dS a0 a1 a2 a3 a4 a5 a6 a7 a8 a9 a10 a11 a12 a13 a14 a15 a16) fun y => au σ 0 (pS.val y) (pS.aI y) k
  | _ => none
 nat := fun args σ k => by
  repeat' split
  all_goals simp only [ao, ai, Yg, Yf, au, Ye]
 pure := true
 pok := fun _ args σ r σ' h => by
  split at h
  ·exact aZ h (fun y => rfl) (fun y f => rfl)
  ·cases h
theorem kH : aN YI 58 jL := by
 intro args σ r σ' h
 simp only [jL] at h
 split at h
 ·rename_i a0 a1 a2 a3 a4 a5 a6 a7 a8 a9 a10 a11 a12 a13 a14 a15 a16
  obtain ⟨y, hy, h⟩ := bE_ h
  exact aG (xs := []) (ls := []) (cargs := [.agg (bN a0 a1 a2 a3 a4 a5 a6 a7), .agg (bN a8 a9 a10 a11 a12 a13 a14 a15), .int .u64 a16]) (bg.of trivial) rfl (JQ a0 a1 a2 a3 a4 a5 a6 a7 a8 a9 a10 a11 a12 a13 a14 a15 a16 y hy) rfl rfl rfl rfl h
 ·cases h
abbrev E8 := (I8 Bool)
def MA : CH := (CH.add 60 dc (CH.add 58 jL CH.none))
theorem Ir : aB YI MA := (CH.aj dl (CH.aj kH CH.ay))
def sd (a0 a1 a2 a3 a4 a5 a6 a7 a8 a9 a10 a11 a12 a13 a14 a15 : Int) : Option (E8) :=
 (Option.bind (dS a0 a1 a2 a3 a4 a5 a6 a7 a8 a9 a10 a11 a12 a13 a14 a15 0) fun r1 => (Option.bind (am a0 a1 a2 a3 a4 a5 a6 a7) fun r2 => (cond r2 (Option.bind (am a8 a9 a10 a11 a12 a13 a14 a15) fun r3 => (cond r3 (Option.bind (am r1.1 r1.2.1 r1.2.2.1 r1.2.2.2.1 r1.2.2.2.2.1 r1.2.2.2.2.2.1 r1.2.2.2.2.2.2.1 r1.2.2.2.2.2.2.2) fun r4 => (cond r4 (Option.bind (am a0 a1 a2 a3 a4 a5 a6 a7) fun r5 => (cond r5 (some (r1.1, r1.2.1, r1.2.2.1, r1.2.2.2.1, r1.2.2.2.2.1, r1.2.2.2.2.2.1, r1.2.2.2.2.2.2.1, r1.2.2.2.2.2.2.2, true)) (some (0, 0, 0, 0, 0, 0, 0, 0, false)))) (Option.bind (am a0 a1 a2 a3 a4 a5 a6 a7) fun r6 => (cond r6 (some (0, 0, 0, 0, 0, 0, 0, 0, false)) (some (r1.1, r1.2.1, r1.2.2.1, r1.2.2.2.1, r1.2.2.2.2.1, r1.2.2.2.2.2.1, r1.2.2.2.2.2.2.1, r1.2.2.2.2.2.2.2, true)))))) (some (r1.1, r1.2.1, r1.2.2.1, r1.2.2.2.1, r1.2.2.2.2.1, r1.2.2.2.2.2.1, r1.2.2.2.2.2.2.1, r1.2.2.2.2.2.2.2, true)))) (Option.bind (am a8 a9 a10 a11 a12 a13 a14 a15) fun r7 => (cond r7 (some (r1.1, r1.2.1, r1.2.2.1, r1.2.2.2.1, r1.2.2.2.2.1, r1.2.2.2.2.2.1, r1.2.2.2.2.2.2.1, r1.2.2.2.2.2.2.2, true)) (Option.bind (am r1.1 r1.2.1 r1.2.2.1 r1.2.2.2.1 r1.2.2.2.2.1 r1.2.2.2.2.2.1 r1.2.2.2.2.2.2.1 r1.2.2.2.2.2.2.2) fun r8 => (cond r8 (Option.bind (am a0 a1 a2 a3 a4 a5 a6 a7) fun r9 => (cond r9 (some (r1.1, r1.2.1, r1.2.2.1, r1.2.2.2.1, r1.2.2.2.2.1, r1.2.2.2.2.2.1, r1.2.2.2.2.2.2.1, r1.2.2.2.2.2.2.2, true)) (some (0, 0, 0, 0, 0, 0, 0, 0, false)))) (Option.bind (am a0 a1 a2 a3 a4 a5 a6 a7) fun r10 => (cond r10 (some (0, 0, 0, 0, 0, 0, 0, 0, false)) (some (r1.1, r1.2.1, r1.2.2.1, r1.2.2.2.1, r1.2.2.2.2.1, r1.2.2.2.2.2.1, r1.2.2.2.2.2.2.1, r1.2.2.2.2.2.2.2, true)))))))))))
def se : FD where
 X := E8
 k := 0
 pre := []
 F := fun s => []
 M := .tup [.agg (rl (.int .u64) 8 []), .bool]
 B := []
 toL := fun x => [.I x.1, .I x.2.1, .I x.2.2.1, .I x.2.2.2.1, .I x.s4.1, .I x.s4.2.1, .I x.s4.2.2.1, .I x.s4.2.2.2.1, .B x.s8]
 ofL := fun ls => match ls with
  | [.I x0, .I x1, .I x2, .I x3, .I x4, .I x5, .I x6, .I x7, .B x8] => some (x0, x1, x2, x3, x4, x5, x6, x7, x8)
  | _ => none
 ar := fun ls x h => by
  split at h
  ·cases h; rfl
  ·cases h
theorem K5 (a0 a1 a2 a3 a4 a5 a6 a7 a8 a9 a10 a11 a12 a13 a14 a15 : Int) (x : E8) (h : sd a0 a1 a2 a3 a4 a5 a6 a7 a8 a9 a10 a11 a12 a13 a14 a15 = some x) : aP YI 64 0 [.agg (bN a0 a1 a2 a3 a4 a5 a6 a7), .agg (bN a8 a9 a10 a11 a12 a13 a14 a15)] [] se x :=
 FD.semA se Ir Tryz.func64 (fuel := 60) (by kernel_rfl) (by kernel_rfl)
  (by kernel_rfl) (Eq.trans (by kernel_rfl) h)
def Ck : HK where
 call := fun args σ k => match args with
  | [.agg [.int .u64 a0, .int .u64 a1, .int .u64 a2, .int .u64 a3, .int .u64 a4, .int .u64 a5, .int .u64 a6, .int .u64 a7], .agg [.int .u64 a8, .int .u64 a9, .int .u64 a10, .int .u64 a11, .int .u64 a12, .int .u64 a13, .int .u64 a14, .int .u64 a15]] => Option.bind (sd a0 a1 a2 a3 a4 a5 a6 a7 a8 a9 a10 a11 a12 a13 a14 a15) fun y => au σ 0 (se.val y) (se.aI y) k
  | _ => none
 nat := fun args σ k => by
  repeat' split
  all_goals simp only [ao, ai, Yg, Yf, au, Ye]
 pure := true
 pok := fun _ args σ r σ' h => by
  split at h
  ·exact aZ h (fun y => rfl) (fun y f => rfl)
  ·cases h
theorem MB : aN YI 64 Ck := by
 intro args σ r σ' h
 simp only [Ck] at h
 split at h
 ·rename_i a0 a1 a2 a3 a4 a5 a6 a7 a8 a9 a10 a11 a12 a13 a14 a15
  obtain ⟨y, hy, h⟩ := bE_ h
  exact aG (xs := []) (ls := []) (cargs := [.agg (bN a0 a1 a2 a3 a4 a5 a6 a7), .agg (bN a8 a9 a10 a11 a12 a13 a14 a15)]) (bg.of trivial) rfl (K5 a0 a1 a2 a3 a4 a5 a6 a7 a8 a9 a10 a11 a12 a13 a14 a15 y hy) rfl rfl rfl rfl h
 ·cases h
abbrev Ff := Int × Int × Int × Int × Int × Int × Int × Int
def Do : CH := CH.none
theorem ID : aB YI Do := CH.ay
def ij (a0 a1 a2 a3 a4 a5 a6 a7 : Int) : Option (Ff) :=
 (some ((Ak .u64 18446744073709551615 a0), (Ak .u64 18446744073709551615 a1), (Ak .u64 18446744073709551615 a2), (Ak .u64 18446744073709551615 a3), (Ak .u64 18446744073709551615 a4), (Ak .u64 18446744073709551615 a5), (Ak .u64 18446744073709551615 a6), (Ak .u64 18446744073709551615 a7)))
def sA : FD where
 X := Ff
 k := 0
 pre := []
 F := fun s => []
 M := .agg (rl (.int .u64) 8 [])
 B := []
 toL := fun x => [.I x.1, .I x.2.1, .I x.2.2.1, .I x.2.2.2.1, .I x.s4.1, .I x.s4.2.1, .I x.s4.2.2.1, .I x.s4.2.2.2]
 ofL := fun ls => match ls with
  | [.I x0, .I x1, .I x2, .I x3, .I x4, .I x5, .I x6, .I x7] => some (x0, x1, x2, x3, x4, x5, x6, x7)
  | _ => none
 ar := fun ls x h => by
  split at h
  ·cases h; rfl
  ·cases h
theorem Le (a0 a1 a2 a3 a4 a5 a6 a7 : Int) (x : Ff) (h : ij a0 a1 a2 a3 a4 a5 a6 a7 = some x) : aP YI 59 0 [.agg (v8 a0 a1 a2 a3 a4 a5 a6 a7 [])] [] sA x :=
 FD.sem (ch := Do) (A := bw) (fn := Tryz.f59) (c := br Tryz.f59) (fuel := 60) aK ID mixed bI sA Tryz.func59 (by kernel_rfl) (aH (l := [aJ Tryz.f59 0]) (by kernel_rfl) ⟨(eL (by kernel_rfl)), trivial⟩)
  (by kernel_rfl) (Eq.trans (by kernel_rfl) h)
def ov : HK where
 call := fun args σ k => match args with
  | [.agg [.int .u64 a0, .int .u64 a1, .int .u64 a2, .int .u64 a3, .int .u64 a4, .int .u64 a5, .int .u64 a6, .int .u64 a7]] => Option.bind (ij a0 a1 a2 a3 a4 a5 a6 a7) fun y => au σ 0 (sA.val y) (sA.aI y) k
  | _ => none
 nat := fun args σ k => by
  repeat' split
  all_goals simp only [ao, ai, Yg, Yf, au, Ye]
 pure := true
 pok := fun _ args σ r σ' h => by
  split at h
  ·exact aZ h (fun y => rfl) (fun y f => rfl)
  ·cases h
theorem pO : aN YI 59 ov := by
 intro args σ r σ' h
 simp only [ov] at h
 split at h
 ·rename_i a0 a1 a2 a3 a4 a5 a6 a7
  obtain ⟨y, hy, h⟩ := bE_ h
  exact aG (xs := []) (ls := []) (cargs := [.agg (v8 a0 a1 a2 a3 a4 a5 a6 a7 [])]) (bg.of trivial) rfl (Le a0 a1 a2 a3 a4 a5 a6 a7 y hy) rfl rfl rfl rfl h
 ·cases h
abbrev Fm := (I8 Bool)
def MK : CH := (CH.add 60 dc (CH.add 59 ov (CH.add 58 jL CH.none)))
theorem II : aB YI MK := (CH.aj dl (CH.aj pO (CH.aj kH CH.ay)))
def oy (a0 a1 a2 a3 a4 a5 a6 a7 a8 a9 a10 a11 a12 a13 a14 a15 : Int) : Option (Fm) :=
 (Option.bind (ij a8 a9 a10 a11 a12 a13 a14 a15) fun r1 => (Option.bind (dS a0 a1 a2 a3 a4 a5 a6 a7 r1.1 r1.2.1 r1.2.2.1 r1.2.2.2.1 r1.2.2.2.2.1 r1.2.2.2.2.2.1 r1.2.2.2.2.2.2.1 r1.2.2.2.2.2.2.2 1) fun r2 => (Option.bind (am a0 a1 a2 a3 a4 a5 a6 a7) fun r3 => (cond r3 (Option.bind (am a8 a9 a10 a11 a12 a13 a14 a15) fun r4 => (cond r4 (some (r2.1, r2.2.1, r2.2.2.1, r2.2.2.2.1, r2.2.2.2.2.1, r2.2.2.2.2.2.1, r2.2.2.2.2.2.2.1, r2.2.2.2.2.2.2.2, true)) (Option.bind (am r2.1 r2.2.1 r2.2.2.1 r2.2.2.2.1 r2.2.2.2.2.1 r2.2.2.2.2.2.1 r2.2.2.2.2.2.2.1 r2.2.2.2.2.2.2.2) fun r5 => (cond r5 (Option.bind (am a0 a1 a2 a3 a4 a5 a6 a7) fun r6 => (cond r6 (some (r2.1, r2.2.1, r2.2.2.1, r2.2.2.2.1, r2.2.2.2.2.1, r2.2.2.2.2.2.1, r2.2.2.2.2.2.2.1, r2.2.2.2.2.2.2.2, true)) (some (0, 0, 0, 0, 0, 0, 0, 0, false)))) (Option.bind (am a0 a1 a2 a3 a4 a5 a6 a7) fun r7 => (cond r7 (some (0, 0, 0, 0, 0, 0, 0, 0, false)) (some (r2.1, r2.2.1, r2.2.2.1, r2.2.2.2.1, r2.2.2.2.2.1, r2.2.2.2.2.2.1, r2.2.2.2.2.2.2.1, r2.2.2.2.2.2.2.2, true)))))))) (Option.bind (am a8 a9 a10 a11 a12 a13 a14 a15) fun r8 => (cond r8 (Option.bind (am r2.1 r2.2.1 r2.2.2.1 r2.2.2.2.1 r2.2.2.2.2.1 r2.2.2.2.2.2.1 r2.2.2.2.2.2.2.1 r2.2.2.2.2.2.2.2) fun r9 => (cond r9 (Option.bind (am a0 a1 a2 a3 a4 a5 a6 a7) fun r10 => (cond r10 (some (r2.1, r2.2.1, r2.2.2.1, r2.2.2.2.1, r2.2.2.2.2.1, r2.2.2.2.2.2.1, r2.2.2.2.2.2.2.1, r2.2.2.2.2.2.2.2, true)) (some (0, 0, 0, 0, 0, 0, 0, 0, false)))) (Option.bind (am a0 a1 a2 a3 a4 a5 a6 a7) fun r11 => (cond r11 (some (0, 0, 0, 0, 0, 0, 0, 0, false)) (some (r2.1, r2.2.1, r2.2.2.1, r2.2.2.2.1, r2.2.2.2.2.1, r2.2.2.2.2.2.1, r2.2.2.2.2.2.2.1, r2.2.2.2.2.2.2.2, true)))))) (some (r2.1, r2.2.1, r2.2.2.1, r2.2.2.2.1, r2.2.2.2.2.1, r2.2.2.2.2.2.1, r2.2.2.2.2.2.2.1, r2.2.2.2.2.2.2.2, true))))))))
def sC : FD where
 X := Fm
 k := 0
 pre := []
 F := fun s => []
 M := .tup [.agg (rl (.int .u64) 8 []), .bool]
 B := []
 toL := fun x => [.I x.1, .I x.2.1, .I x.2.2.1, .I x.2.2.2.1, .I x.s4.1, .I x.s4.2.1, .I x.s4.2.2.1, .I x.s4.2.2.2.1, .B x.s8]
 ofL := fun ls => match ls with
  | [.I x0, .I x1, .I x2, .I x3, .I x4, .I x5, .I x6, .I x7, .B x8] => some (x0, x1, x2, x3, x4, x5, x6, x7, x8)
  | _ => none
 ar := fun ls x h => by
  split at h
  ·cases h; rfl
  ·cases h
theorem Lh (a0 a1 a2 a3 a4 a5 a6 a7 a8 a9 a10 a11 a12 a13 a14 a15 : Int) (x : Fm) (h : oy a0 a1 a2 a3 a4 a5 a6 a7 a8 a9 a10 a11 a12 a13 a14 a15 = some x) : aP YI 38 0 [.agg (bN a0 a1 a2 a3 a4 a5 a6 a7), .agg (bN a8 a9 a10 a11 a12 a13 a14 a15)] [] sC x :=
 FD.semA sC II Tryz.func38 (fuel := 60) (by kernel_rfl) (by kernel_rfl)
  (by kernel_rfl) (Eq.trans (by kernel_rfl) h)
def wV : HK where
 call := fun args σ k => match args with
  | [.agg [.int .u64 a0, .int .u64 a1, .int .u64 a2, .int .u64 a3, .int .u64 a4, .int .u64 a5, .int .u64 a6, .int .u64 a7], .agg [.int .u64 a8, .int .u64 a9, .int .u64 a10, .int .u64 a11, .int .u64 a12, .int .u64 a13, .int .u64 a14, .int .u64 a15]] => Option.bind (oy a0 a1 a2 a3 a4 a5 a6 a7 a8 a9 a10 a11 a12 a13 a14 a15) fun y => au σ 0 (sC.val y) (sC.aI y) k
  | _ => none
 nat := fun args σ k => by
  repeat' split
  all_goals simp only [ao, ai, Yg, Yf, au, Ye]
 pure := true
 pok := fun _ args σ r σ' h => by
  split at h
  ·exact aZ h (fun y => rfl) (fun y f => rfl)
  ·cases h
theorem Dn : aN YI 38 wV := by
 intro args σ r σ' h
 simp only [wV] at h
 split at h
 ·rename_i a0 a1 a2 a3 a4 a5 a6 a7 a8 a9 a10 a11 a12 a13 a14 a15
  obtain ⟨y, hy, h⟩ := bE_ h
  exact aG (xs := []) (ls := []) (cargs := [.agg (bN a0 a1 a2 a3 a4 a5 a6 a7), .agg (bN a8 a9 a10 a11 a12 a13 a14 a15)]) (bg.of trivial) rfl (Lh a0 a1 a2 a3 a4 a5 a6 a7 a8 a9 a10 a11 a12 a13 a14 a15 y hy) rfl rfl rfl rfl h
 ·cases h
abbrev Fd := (I8 Bool)
def MH : CH := (CH.add 38 wV CH.none)
theorem IC : aB YI MH := (CH.aj Dn CH.ay)
def sx (a0 a1 a2 a3 a4 a5 a6 a7 : Int) : Option (Fd) :=
 (Option.bind (oy 0 0 0 0 0 0 0 0 a0 a1 a2 a3 a4 a5 a6 a7) fun r1 => (cond r1.2.2.2.2.2.2.2.2 (some (r1.1, r1.2.1, r1.2.2.1, r1.2.2.2.1, r1.2.2.2.2.1, r1.2.2.2.2.2.1, r1.2.2.2.2.2.2.1, r1.2.2.2.2.2.2.2.1, true)) (some (r1.1, r1.2.1, r1.2.2.1, r1.2.2.2.1, r1.2.2.2.2.1, r1.2.2.2.2.2.1, r1.2.2.2.2.2.2.1, r1.2.2.2.2.2.2.2.1, false))))
def sy : FD where
 X := Fd
 k := 0
 pre := []
 F := fun s => []
 M := .tup [.agg (rl (.int .u64) 8 []), .bool]
 B := []
 toL := fun x => [.I x.1, .I x.2.1, .I x.2.2.1, .I x.2.2.2.1, .I x.s4.1, .I x.s4.2.1, .I x.s4.2.2.1, .I x.s4.2.2.2.1, .B x.s8]
 ofL := fun ls => match ls with
  | [.I x0, .I x1, .I x2, .I x3, .I x4, .I x5, .I x6, .I x7, .B x8] => some (x0, x1, x2, x3, x4, x5, x6, x7, x8)
  | _ => none
 ar := fun ls x h => by
  split at h
  ·cases h; rfl
  ·cases h
theorem Ld (a0 a1 a2 a3 a4 a5 a6 a7 : Int) (x : Fd) (h : sx a0 a1 a2 a3 a4 a5 a6 a7 = some x) : aP YI 26 0 [.agg (v8 a0 a1 a2 a3 a4 a5 a6 a7 [])] [] sy x :=
 FD.semA sy IC Tryz.func26 (fuel := 60) (by kernel_rfl) (by kernel_rfl)
  (by kernel_rfl) (Eq.trans (by kernel_rfl) h)
def Cs : HK where
 call := fun args σ k => match args with
  | [.agg [.int .u64 a0, .int .u64 a1, .int .u64 a2, .int .u64 a3, .int .u64 a4, .int .u64 a5, .int .u64 a6, .int .u64 a7]] => Option.bind (sx a0 a1 a2 a3 a4 a5 a6 a7) fun y => au σ 0 (sy.val y) (sy.aI y) k
  | _ => none
 nat := fun args σ k => by
  repeat' split
  all_goals simp only [ao, ai, Yg, Yf, au, Ye]
 pure := true
 pok := fun _ args σ r σ' h => by
  split at h
  ·exact aZ h (fun y => rfl) (fun y f => rfl)
  ·cases h
theorem MI : aN YI 26 Cs := by
 intro args σ r σ' h
 simp only [Cs] at h
 split at h
 ·rename_i a0 a1 a2 a3 a4 a5 a6 a7
  obtain ⟨y, hy, h⟩ := bE_ h
  exact aG (xs := []) (ls := []) (cargs := [.agg (v8 a0 a1 a2 a3 a4 a5 a6 a7 [])]) (bg.of trivial) rfl (Ld a0 a1 a2 a3 a4 a5 a6 a7 y hy) rfl rfl rfl rfl h
 ·cases h
def BU : CH := CH.none
theorem yQ : aB YI BU := CH.ay
def gY (a0 a1 : Int) : Option (Int × Int) :=
 (some ((IntKind.wrap .u64 ((IntKind.wrap .u64 ((IntKind.wrap .u64 ((aE .u64 a0 32) * (aE .u64 a1 32))) + (aE .u64 (IntKind.wrap .u64 ((IntKind.wrap .u64 ((aE .u64 a0 32) * (xV .u64 a1 4294967295))) + (aE .u64 (IntKind.wrap .u64 ((xV .u64 a0 4294967295) * (xV .u64 a1 4294967295))) 32))) 32))) + (aE .u64 (IntKind.wrap .u64 ((xV .u64 (IntKind.wrap .u64 ((IntKind.wrap .u64 ((aE .u64 a0 32) * (xV .u64 a1 4294967295))) + (aE .u64 (IntKind.wrap .u64 ((xV .u64 a0 4294967295) * (xV .u64 a1 4294967295))) 32))) 4294967295) + (IntKind.wrap .u64 ((xV .u64 a0 4294967295) * (aE .u64 a1 32))))) 32))), (IntKind.wrap .u64 (a0 * a1))))
def iN : FD where
 X := Int × Int
 k := 0
 pre := []
 F := fun s => []
 M := .tup [.int .u64, .int .u64]
 B := []
 toL := fun x => [.I x.1, .I x.2]
 ofL := fun ls => match ls with
  | [.I x0, .I x1] => some (x0, x1)
  | _ => none
 ar := fun ls x h => by
  split at h
  ·cases h; rfl
  ·cases h
theorem AR (a0 a1 : Int) (x : Int × Int) (h : gY a0 a1 = some x) : aP YI 85 0 [.int .u64 a0, .int .u64 a1] [] iN x :=
 FD.semA iN yQ Tryz.func85 (fuel := 60) (by kernel_rfl) (by kernel_rfl)
  (by kernel_rfl) (Eq.trans (by kernel_rfl) h)
def oY : HK where
 call := fun args σ k => match args with
  | [.int .u64 a0, .int .u64 a1] => Option.bind (gY a0 a1) fun y => au σ 0 (iN.val y) (iN.aI y) k
  | _ => none
 nat := fun args σ k => by
  repeat' split
  all_goals simp only [ao, ai, Yg, Yf, au, Ye]
 pure := true
 pok := fun _ args σ r σ' h => by
  split at h
  ·exact aZ h (fun y => rfl) (fun y f => rfl)
  ·cases h
theorem BV : aN YI 85 oY := by
 intro args σ r σ' h
 simp only [oY] at h
 split at h
 ·rename_i a0 a1
  obtain ⟨y, hy, h⟩ := bE_ h
  exact aG (xs := []) (ls := []) (cargs := [.int .u64 a0, .int .u64 a1]) (bg.of trivial) rfl (AR a0 a1 y hy) rfl rfl rfl rfl h
 ·cases h
abbrev Aj := Int × Int × Int × Int × Int × Int × Int × Int
def JM : CH := (CH.add 59 ov (CH.add 58 jL CH.none))
theorem Fb : aB YI JM := (CH.aj pO (CH.aj kH CH.ay))
def fx (a0 a1 a2 a3 a4 a5 a6 a7 : Int) : Option (Aj) :=
 (Option.bind (ij a0 a1 a2 a3 a4 a5 a6 a7) fun r1 => (Option.bind (dS r1.1 r1.2.1 r1.2.2.1 r1.2.2.2.1 r1.2.2.2.2.1 r1.2.2.2.2.2.1 r1.2.2.2.2.2.2.1 r1.2.2.2.2.2.2.2 0 0 0 0 0 0 0 0 1) fun r2 => (some (r2.1, r2.2.1, r2.2.2.1, r2.2.2.2.1, r2.2.2.2.2.1, r2.2.2.2.2.2.1, r2.2.2.2.2.2.2.1, r2.2.2.2.2.2.2.2))))
def ox : FD where
 X := Aj
 k := 0
 pre := []
 F := fun s => []
 M := .agg (rl (.int .u64) 8 [])
 B := []
 toL := fun x => [.I x.1, .I x.2.1, .I x.2.2.1, .I x.2.2.2.1, .I x.s4.1, .I x.s4.2.1, .I x.s4.2.2.1, .I x.s4.2.2.2]
 ofL := fun ls => match ls with
  | [.I x0, .I x1, .I x2, .I x3, .I x4, .I x5, .I x6, .I x7] => some (x0, x1, x2, x3, x4, x5, x6, x7)
  | _ => none
 ar := fun ls x h => by
  split at h
  ·cases h; rfl
  ·cases h
theorem Ix (a0 a1 a2 a3 a4 a5 a6 a7 : Int) (x : Aj) (h : fx a0 a1 a2 a3 a4 a5 a6 a7 = some x) : aP YI 109 0 [.agg (v8 a0 a1 a2 a3 a4 a5 a6 a7 [])] [] ox x :=
 FD.semA ox Fb Tryz.func109 (fuel := 60) (by kernel_rfl) (by kernel_rfl)
  (by kernel_rfl) (Eq.trans (by kernel_rfl) h)
def ny : HK where
 call := fun args σ k => match args with
  | [.agg [.int .u64 a0, .int .u64 a1, .int .u64 a2, .int .u64 a3, .int .u64 a4, .int .u64 a5, .int .u64 a6, .int .u64 a7]] => Option.bind (fx a0 a1 a2 a3 a4 a5 a6 a7) fun y => au σ 0 (ox.val y) (ox.aI y) k
  | _ => none
 nat := fun args σ k => by
  repeat' split
  all_goals simp only [ao, ai, Yg, Yf, au, Ye]
 pure := true
 pok := fun _ args σ r σ' h => by
  split at h
  ·exact aZ h (fun y => rfl) (fun y f => rfl)
  ·cases h
theorem sr : aN YI 109 ny := by
 intro args σ r σ' h
 simp only [ny] at h
 split at h
 ·rename_i a0 a1 a2 a3 a4 a5 a6 a7
  obtain ⟨y, hy, h⟩ := bE_ h
  exact aG (xs := []) (ls := []) (cargs := [.agg (v8 a0 a1 a2 a3 a4 a5 a6 a7 [])]) (bg.of trivial) rfl (Ix a0 a1 a2 a3 a4 a5 a6 a7 y hy) rfl rfl rfl rfl h
 ·cases h
abbrev Cu := Int × Int × Int × Int × Int × Int × Int × Int
def Lg : CH := (CH.add 109 ny (CH.add 60 dc CH.none))
theorem Hs : aB YI Lg := (CH.aj sr (CH.aj dl CH.ay))
def dT (a0 a1 a2 a3 a4 a5 a6 a7 : Int) : Option (Cu) :=
 (Option.bind (am a0 a1 a2 a3 a4 a5 a6 a7) fun r1 => (cond r1 (Option.bind (fx a0 a1 a2 a3 a4 a5 a6 a7) fun r2 => (some (r2.1, r2.2.1, r2.2.2.1, r2.2.2.2.1, r2.2.2.2.2.1, r2.2.2.2.2.2.1, r2.2.2.2.2.2.2.1, r2.2.2.2.2.2.2.2))) (some (a0, a1, a2, a3, a4, a5, a6, a7))))
def pU : FD where
 X := Cu
 k := 0
 pre := []
 F := fun s => []
 M := .agg (rl (.int .u64) 8 [])
 B := []
 toL := fun x => [.I x.1, .I x.2.1, .I x.2.2.1, .I x.2.2.2.1, .I x.s4.1, .I x.s4.2.1, .I x.s4.2.2.1, .I x.s4.2.2.2]
 ofL := fun ls => match ls with
  | [.I x0, .I x1, .I x2, .I x3, .I x4, .I x5, .I x6, .I x7] => some (x0, x1, x2, x3, x4, x5, x6, x7)
  | _ => none
 ar := fun ls x h => by
  split at h
  ·cases h; rfl
  ·cases h
theorem JS (a0 a1 a2 a3 a4 a5 a6 a7 : Int) (x : Cu) (h : dT a0 a1 a2 a3 a4 a5 a6 a7 = some x) : aP YI 84 0 [.agg (v8 a0 a1 a2 a3 a4 a5 a6 a7 [])] [] pU x :=
 FD.semA pU Hs Tryz.func84 (fuel := 60) (by kernel_rfl) (by kernel_rfl)
  (by kernel_rfl) (Eq.trans (by kernel_rfl) h)
def um : HK where
 call := fun args σ k => match args with
  | [.agg [.int .u64 a0, .int .u64 a1, .int .u64 a2, .int .u64 a3, .int .u64 a4, .int .u64 a5, .int .u64 a6, .int .u64 a7]] => Option.bind (dT a0 a1 a2 a3 a4 a5 a6 a7) fun y => au σ 0 (pU.val y) (pU.aI y) k
  | _ => none
 nat := fun args σ k => by
  repeat' split
  all_goals simp only [ao, ai, Yg, Yf, au, Ye]
 pure := true
 pok := fun _ args σ r σ' h => by
  split at h
  ·exact aZ h (fun y => rfl) (fun y f => rfl)
  ·cases h
theorem A6 : aN YI 84 um := by
 intro args σ r σ' h
 simp only [um] at h
 split at h
 ·rename_i a0 a1 a2 a3 a4 a5 a6 a7
  obtain ⟨y, hy, h⟩ := bE_ h
  exact aG (xs := []) (ls := []) (cargs := [.agg (v8 a0 a1 a2 a3 a4 a5 a6 a7 [])]) (bg.of trivial) rfl (JS a0 a1 a2 a3 a4 a5 a6 a7 y hy) rfl rfl rfl rfl h
 ·cases h
abbrev jx := LA_ × Nat × LA_ × Nat × LA_ × Nat × LA_ × Nat × LA_ × Nat × Nat × Int × Int
abbrev jy := LA_ × Nat × LA_ × Nat × LA_ × Nat × LA_ × Nat × LA_ × Nat × Nat
abbrev Fc := (I8 Bool)
def Ba : CH := (CH.add 109 ny (CH.add 85 oY (CH.add 84 um (CH.add 60 dc (CH.add 86 JN CH.none)))))
def pR : CH := xG YI kc [87] 60 Ba 2
theorem Hl : aB YI Ba := (CH.aj sr (CH.aj BV (CH.aj A6 (CH.aj dl (CH.aj (LQ Tryz.func86 (by kernel_rfl) (by kernel_rfl) (by kernel_rfl) (by kernel_rfl)) CH.ay)))))
theorem qt : aB YI pR := ju aK mixed bI Hl 2
def gM {R : Type} (cc : jx) (v : LA_ × Int × Int) (kn : (LA_ × Int × Int) → Option R) (ke : ((Unit) ⊕ (LA_ × Int)) → Option R) : Option R :=
 (cond (decide (v.2.2 < 8)) (ah (decide (0 ≤ cc.2.2.2.2.2.2.2.2.2.2.2.1) && decide (cc.2.2.2.2.2.2.2.2.2.2.2.1 < ((8 : Nat) : Int))) (ah (aw [.int .u64] cc.2.2.2.2.2.2.1 (0 + (Int.toNat cc.2.2.2.2.2.2.2.2.2.2.2.1 * 1))) (ah (decide (0 ≤ v.2.2) && decide (v.2.2 < ((8 : Nat) : Int))) (ah (aw [.int .u64] cc.2.2.2.2.2.2.2.2.1 (0 + (Int.toNat v.2.2 * 1))) (Option.bind (gY (ac cc.2.2.2.2.2.2.1 ((0 + (Int.toNat cc.2.2.2.2.2.2.2.2.2.2.2.1 * 1)) + 0)) (ac cc.2.2.2.2.2.2.2.2.1 ((0 + (Int.toNat v.2.2 * 1)) + 0))) fun r3 => (Option.bind (iS r3.2 v.2.1 0) fun r4 => (cond (decide ((IntKind.wrap .i64 (cc.2.2.2.2.2.2.2.2.2.2.2.1 + v.2.2)) ≥ 8)) (cond (r4.1 != 0) (ke (.inl ())) (cond ((IntKind.wrap .u64 (r3.1 + r4.2)) != 0) (ke (.inl ())) (kn (v.1, 0, (IntKind.wrap .i64 (v.2.2 + 1)))))) (ah (decide (0 ≤ (IntKind.wrap .i64 (cc.2.2.2.2.2.2.2.2.2.2.2.1 + v.2.2))) && decide ((IntKind.wrap .i64 (cc.2.2.2.2.2.2.2.2.2.2.2.1 + v.2.2)) < ((8 : Nat) : Int))) (ah (aw [.int .u64] v.1 (0 + (Int.toNat (IntKind.wrap .i64 (cc.2.2.2.2.2.2.2.2.2.2.2.1 + v.2.2)) * 1))) (Option.bind (iS (ac v.1 ((0 + (Int.toNat (IntKind.wrap .i64 (cc.2.2.2.2.2.2.2.2.2.2.2.1 + v.2.2)) * 1)) + 0)) r4.1 0) fun r5 => (ah (decide (0 ≤ (IntKind.wrap .i64 (cc.2.2.2.2.2.2.2.2.2.2.2.1 + v.2.2))) && decide ((IntKind.wrap .i64 (cc.2.2.2.2.2.2.2.2.2.2.2.1 + v.2.2)) < ((8 : Nat) : Int))) (ah (decide ((0 + (Int.toNat (IntKind.wrap .i64 (cc.2.2.2.2.2.2.2.2.2.2.2.1 + v.2.2)) * 1)) + 1 ≤ List.length v.1)) (kn ((spliced v.1 (0 + (Int.toNat (IntKind.wrap .i64 (cc.2.2.2.2.2.2.2.2.2.2.2.1 + v.2.2)) * 1)) [.int .u64 r5.1]), (IntKind.wrap .u64 ((IntKind.wrap .u64 (r3.1 + r4.2)) + r5.2)), (IntKind.wrap .i64 (v.2.2 + 1)))))))))))))))) (ke (.inr (v.1, v.2.1))))
def ss (cc : jx) (v : LA_ × Int × Int) : Option ((LA_ × Int × Int) ⊕ ((Unit) ⊕ (LA_ × Int))) := gM cc v (fun v => some (Sum.inl v)) fun e => some (Sum.inr e)
def Bb (cc : jx) (v : LA_ × Int × Int) : Option ((Unit) ⊕ (LA_ × Int)) := dz (ss cc) v
def Hm (cc : jx) (v : LA_ × Int × Int) : List af := [.I cc.s8.2.2.2.1, .I v.2.1, .I cc.s8.s4, .I v.2.2, .C cc.1, .N cc.2.1, .C cc.2.2.1, .N cc.2.2.2.1, .C cc.s4.1, .N cc.s4.2.1, .C cc.s4.2.2.1, .N cc.s4.2.2.2.1, .C cc.s8.1, .N cc.s8.2.1, .C v.1, .N cc.s8.2.2.1]
def wD (ls : List af) : Option ((jx) × (LA_ × Int × Int)) := match ls with
 | [.I x0, .I x1, .I x2, .I x3, .C x4, .N x5, .C x6, .N x7, .C x8, .N x9, .C x10, .N x11, .C x12, .N x13, .C x14, .N x15] => some ((x4, x5, x6, x7, x8, x9, x10, x11, x12, x13, x15, x0, x2), (x14, x1, x3))
 | _ => none
def wE (e : (Unit) ⊕ (LA_ × Int)) : an := ((Sum.elim (fun e => .pan (.iface 133 (.agg []))) (fun e => .exit 2)) e)
def wF (cc : jx) (e : (Unit) ⊕ (LA_ × Int)) : List af := ((Sum.elim (fun e => [.C cc.s4.1, .N cc.s4.2.1]) (fun e => [.I e.2, .I cc.s8.s4, .C cc.1, .N cc.2.1, .C cc.2.2.1, .N cc.2.2.2.1, .C cc.s4.1, .N cc.s4.2.1, .C cc.s4.2.2.1, .N cc.s4.2.2.2.1, .C cc.s8.1, .N cc.s8.2.1, .C e.1, .N cc.s8.2.2.1])) e)
def jz (cc : jx) (e : (Unit) ⊕ (LA_ × Int)) : List af := ((Sum.elim (fun e => [.C cc.s4.1, .N cc.s4.2.1]) (fun e => [.I cc.s8.s4, .C cc.1, .N cc.2.1, .C cc.2.2.1, .N cc.2.2.2.1, .C cc.s4.1, .N cc.s4.2.1, .C cc.s4.2.2.1, .N cc.s4.2.2.2.1, .C cc.s8.1, .N cc.s8.2.1, .N cc.s8.2.2.1])) e)
def pn (o : an) (ls : List af) : Option (((Unit) ⊕ (LA_ × Int)) × List af) := match o with
 | .pan (.iface 133 (.agg [])) => (match ls with
  | [.C x0, .N x1] => some ((.inl ()), [.C x0, .N x1])
  | _ => none)
 | .exit 2 => (match ls with
  | [.I x0, .I x1, .C x2, .N x3, .C x4, .N x5, .C x6, .N x7, .C x8, .N x9, .C x10, .N x11, .C x12, .N x13] => some ((.inr (x12, x0)), [.I x1, .C x2, .N x3, .C x4, .N x5, .C x6, .N x7, .C x8, .N x9, .C x10, .N x11, .N x13])
  | _ => none)
 | _ => none
theorem Cq : ∀ o ls e cl cc, pn o ls = some (e, cl) → cl = jz cc e → ls = wF cc e ∧ wE e = o ∧ o ≠ .normal ∧ ∀ v, o = .pan v → sc 0 v = true := by
 intro o ls e cl cc h hc
 unfold pn at h
 split at h
 ·split at h
  ·cases h
   simp only [jz, YF, YE, List.cons.injEq, af.I.injEq, af.N.injEq, af.C.injEq, and_true] at hc
   obtain ⟨rfl, rfl⟩ := hc
   exact ⟨rfl, rfl, by simp, by intro v hv; cases hv <;> rfl⟩
  ·cases h
 ·split at h
  ·cases h
   simp only [jz, YF, YE, List.cons.injEq, af.I.injEq, af.N.injEq, af.C.injEq, and_true] at hc
   obtain ⟨rfl, rfl, rfl, rfl, rfl, rfl, rfl, rfl, rfl, rfl, rfl, rfl⟩ := hc
   exact ⟨rfl, rfl, by simp, by intro v hv; cases hv <;> rfl⟩
  ·cases h
 ·cases h
def Iy (o : an) : ExS := match o with
 | .pan (.iface 133 (.agg [])) => ⟨2, (none :: none :: none :: none :: some (.ptr 0 0) :: some (.ptr 1 0) :: (rl none 89 [])), [(0, .vec 8 true), (1, .cells [.ri false] true none)], fun s => [ak s 4 [], ak s 5 []], [], [(83, [4, 5])]⟩
 | .exit 2 => ⟨7, (none :: none :: some (.ptr 0 0) :: some (.ptr 1 0) :: some (.ptr 2 0) :: some (.ptr 3 0) :: some (.ptr 4 0) :: some (.ptr 5 0) :: some (.ptr 6 0) :: none :: some (.int .u64) :: (rl none 11 (some (.int .i64) :: (rl none 72 [])))), [(0, .vec 8 true), (1, .vec 8 true), (2, .vec 8 true), (3, .cells [.ri false] true none), (4, .vec 8 true), (5, .vec 8 true), (6, .vec 8 true)], fun s => [ak s 2 [], ak s 3 [], ak s 4 [], ak s 5 [], ak s 6 [], ak s 7 [], ak s 8 []], [], [(83, [4, 5])]⟩
 | _ => ⟨0, [], [], fun _ => [], [], []⟩
theorem Hn {R : Type} (cc : jx) (v : LA_ × Int × Int) (kn : (LA_ × Int × Int) → Option R) (ke : ((Unit) ⊕ (LA_ × Int)) → Option R) : gM cc v kn ke = (gM cc v (fun v => some (Sum.inl v)) fun e => some (Sum.inr e)).bind (Sum.elim kn ke) := by
 simp only [gM, bH, ai, Yg, bZ, bB, Ye, Yf, YF, YE]
def su : LD where
 CC := jx
 V := LA_ × Int × Int
 E := (Unit) ⊕ (LA_ × Int)
 n := 0
 K := 7
 M := (none :: none :: some (.ptr 0 0) :: some (.ptr 1 0) :: some (.ptr 2 0) :: some (.ptr 3 0) :: some (.ptr 4 0) :: some (.ptr 5 0) :: some (.ptr 6 0) :: some (.int .i64) :: some (.int .u64) :: (rl none 11 (some (.int .i64) :: (rl none 6 (some (.int .i64) :: (rl none 65 []))))))
 B := [(0, .vec 8 true), (1, .vec 8 true), (2, .vec 8 true), (3, .cells [.ri false] true none), (4, .vec 8 true), (5, .vec 8 true), (6, .vec 8 true)]
 D := [(83, [4, 5])]
 pre := []
 F := fun s => [ak s 2 [], ak s 3 [], ak s 4 [], ak s 5 [], ak s 6 [], ak s 7 [], ak s 8 []]
 toL := Hm
 ofL := wD
 ar := fun ls c v h => by
  unfold wD at h
  split at h
  ·cases h; rfl
  ·cases h
 ct := gM
 nat := Hn
 sh := Iy
 out := wE
 toE := wF
 eY := jz
 ofE := pn
 cQ := Cq
 post := fun cc e k => ((Sum.elim (fun e => k (.pan (.iface 133 (.agg []))) (bc 2 (none :: none :: none :: none :: some (.ptr 0 0) :: some (.ptr 1 0) :: (rl none 89 [])) [(0, .vec cc.s4.1 cc.s4.2.1 8 true), (1, .cells [.bool false] true none)] [(83, [4, 5])])) (fun e => k (.exit 2) (bc 7 (none :: none :: some (.ptr 0 0) :: some (.ptr 1 0) :: some (.ptr 2 0) :: some (.ptr 3 0) :: some (.ptr 4 0) :: some (.ptr 5 0) :: some (.ptr 6 0) :: none :: some (.int .u64 e.2) :: (rl none 11 (some (.int .i64 cc.s8.s4) :: (rl none 72 [])))) [(0, .vec cc.1 cc.2.1 8 true), (1, .vec cc.2.2.1 cc.2.2.2.1 8 true), (2, .vec cc.s4.1 cc.s4.2.1 8 true), (3, .cells [.bool false] true none), (4, .vec cc.s4.2.2.1 cc.s4.2.2.2.1 8 true), (5, .vec cc.s8.1 cc.s8.2.1 8 true), (6, .vec e.1 cc.s8.2.2.1 8 true)] [(83, [4, 5])]))) e)
 cd := fun cc e k => by rcases e with e | e <;> rfl
theorem wG : cJ YI 0 su.la (aJ Tryz.f63 1) :=
 LD.ok (ch := pR) (A := bw) aK qt mixed (fuel := 60) ⟨by kernel_rfl, fun e => by (rcases e with e | e <;> kernel_rfl), fun cc v => by kernel_rfl, aH (l := []) (by kernel_rfl) trivial⟩
def ix {R : Type} (cc : jy) (v : LA_ × Int) (kn : (LA_ × Int) → Option R) (ke : ((Unit) ⊕ (LA_)) → Option R) : Option R :=
 (cond (decide (v.2 < 8)) (ah (decide (0 ≤ v.2) && decide (v.2 < ((8 : Nat) : Int))) (ah (aw [.int .u64] cc.2.2.2.2.2.2.1 (0 + (Int.toNat v.2 * 1))) (cond ((ac cc.2.2.2.2.2.2.1 ((0 + (Int.toNat v.2 * 1)) + 0)) == 0) (kn (v.1, (IntKind.wrap .i64 (v.2 + 1)))) (Option.bind (Bb (cc.1, cc.2.1, cc.2.2.1, cc.2.2.2.1, cc.2.2.2.2.1, cc.2.2.2.2.2.1, cc.2.2.2.2.2.2.1, cc.2.2.2.2.2.2.2.1, cc.2.2.2.2.2.2.2.2.1, cc.2.2.2.2.2.2.2.2.2.1, cc.2.2.2.2.2.2.2.2.2.2, v.2, v.2) (v.1, 0, 0)) (Sum.elim (fun e6 => (ke (.inl ()))) (fun e6 => (cond (e6.2 != 0) (ke (.inl ())) (kn (e6.1, (IntKind.wrap .i64 (v.2 + 1))))))))))) (ke (.inr v.1)))
def tY (cc : jy) (v : LA_ × Int) : Option ((LA_ × Int) ⊕ ((Unit) ⊕ (LA_))) := ix cc v (fun v => some (Sum.inl v)) fun e => some (Sum.inr e)
def vQ (cc : jy) (v : LA_ × Int) : Option ((Unit) ⊕ (LA_)) := dz (tY cc) v
def Iz (cc : jy) (v : LA_ × Int) : List af := [.I v.2, .C cc.1, .N cc.2.1, .C cc.2.2.1, .N cc.2.2.2.1, .C cc.s4.1, .N cc.s4.2.1, .C cc.s4.2.2.1, .N cc.s4.2.2.2.1, .C cc.s8.1, .N cc.s8.2.1, .C v.1, .N cc.s8.2.2]
def yq (ls : List af) : Option ((jy) × (LA_ × Int)) := match ls with
 | [.I x0, .C x1, .N x2, .C x3, .N x4, .C x5, .N x6, .C x7, .N x8, .C x9, .N x10, .C x11, .N x12] => some ((x1, x2, x3, x4, x5, x6, x7, x8, x9, x10, x12), (x11, x0))
 | _ => none
def yr (e : (Unit) ⊕ (LA_)) : an := ((Sum.elim (fun e => .pan (.iface 133 (.agg []))) (fun e => .exit 0)) e)
def yt (cc : jy) (e : (Unit) ⊕ (LA_)) : List af := ((Sum.elim (fun e => [.C cc.s4.1, .N cc.s4.2.1]) (fun e => [.C cc.1, .N cc.2.1, .C cc.2.2.1, .N cc.2.2.2.1, .C cc.s4.1, .N cc.s4.2.1, .C e, .N cc.s8.2.2])) e)
def kj (cc : jy) (e : (Unit) ⊕ (LA_)) : List af := ((Sum.elim (fun e => [.C cc.s4.1, .N cc.s4.2.1]) (fun e => [.C cc.1, .N cc.2.1, .C cc.2.2.1, .N cc.2.2.2.1, .C cc.s4.1, .N cc.s4.2.1, .N cc.s8.2.2])) e)
def qu (o : an) (ls : List af) : Option (((Unit) ⊕ (LA_)) × List af) := match o with
 | .pan (.iface 133 (.agg [])) => (match ls with
  | [.C x0, .N x1] => some ((.inl ()), [.C x0, .N x1])
  | _ => none)
 | .exit 0 => (match ls with
  | [.C x0, .N x1, .C x2, .N x3, .C x4, .N x5, .C x6, .N x7] => some ((.inr x6), [.C x0, .N x1, .C x2, .N x3, .C x4, .N x5, .N x7])
  | _ => none)
 | _ => none
theorem Eh : ∀ o ls e cl cc, qu o ls = some (e, cl) → cl = kj cc e → ls = yt cc e ∧ yr e = o ∧ o ≠ .normal ∧ ∀ v, o = .pan v → sc 0 v = true := by
 intro o ls e cl cc h hc
 unfold qu at h
 split at h
 ·split at h
  ·cases h
   simp only [kj, YF, YE, List.cons.injEq, af.N.injEq, af.C.injEq, and_true] at hc
   obtain ⟨rfl, rfl⟩ := hc
   exact ⟨rfl, rfl, by simp, by intro v hv; cases hv <;> rfl⟩
  ·cases h
 ·split at h
  ·cases h
   simp only [kj, YF, YE, List.cons.injEq, af.N.injEq, af.C.injEq, and_true] at hc
   obtain ⟨rfl, rfl, rfl, rfl, rfl, rfl, rfl⟩ := hc
   exact ⟨rfl, rfl, by simp, by intro v hv; cases hv <;> rfl⟩
  ·cases h
 ·cases h
def JO (o : an) : ExS := match o with
 | .pan (.iface 133 (.agg [])) => ⟨2, (none :: none :: none :: none :: some (.ptr 0 0) :: some (.ptr 1 0) :: (rl none 89 [])), [(0, .vec 8 true), (1, .cells [.ri false] true none)], fun s => [ak s 4 [], ak s 5 []], [], [(83, [4, 5])]⟩
 | .exit 0 => ⟨5, (none :: none :: some (.ptr 0 0) :: some (.ptr 1 0) :: some (.ptr 2 0) :: some (.ptr 3 0) :: none :: none :: some (.ptr 4 0) :: (rl none 86 [])), [(0, .vec 8 true), (1, .vec 8 true), (2, .vec 8 true), (3, .cells [.ri false] true none), (4, .vec 8 true)], fun s => [ak s 2 [], ak s 3 [], ak s 4 [], ak s 5 [], ak s 8 []], [], [(83, [4, 5])]⟩
 | _ => ⟨0, [], [], fun _ => [], [], []⟩
theorem IA {R : Type} (cc : jy) (v : LA_ × Int) (kn : (LA_ × Int) → Option R) (ke : ((Unit) ⊕ (LA_)) → Option R) : ix cc v kn ke = (ix cc v (fun v => some (Sum.inl v)) fun e => some (Sum.inr e)).bind (Sum.elim kn ke) := by
 simp only [ix, bH, ai, Yg, bZ, bB, Ye, Yf, YF, YE]
def Bc : LD where
 CC := jy
 V := LA_ × Int
 E := (Unit) ⊕ (LA_)
 n := 0
 K := 7
 M := (none :: none :: some (.ptr 0 0) :: some (.ptr 1 0) :: some (.ptr 2 0) :: some (.ptr 3 0) :: some (.ptr 4 0) :: some (.ptr 5 0) :: some (.ptr 6 0) :: (rl none 13 (some (.int .i64) :: (rl none 72 []))))
 B := [(0, .vec 8 true), (1, .vec 8 true), (2, .vec 8 true), (3, .cells [.ri false] true none), (4, .vec 8 true), (5, .vec 8 true), (6, .vec 8 true)]
 D := [(83, [4, 5])]
 pre := []
 F := fun s => [ak s 2 [], ak s 3 [], ak s 4 [], ak s 5 [], ak s 6 [], ak s 7 [], ak s 8 []]
 toL := Iz
 ofL := yq
 ar := fun ls c v h => by
  unfold yq at h
  split at h
  ·cases h; rfl
  ·cases h
 ct := ix
 nat := IA
 sh := JO
 out := yr
 toE := yt
 eY := kj
 ofE := qu
 cQ := Eh
 post := fun cc e k => ((Sum.elim (fun e => k (.pan (.iface 133 (.agg []))) (bc 2 (none :: none :: none :: none :: some (.ptr 0 0) :: some (.ptr 1 0) :: (rl none 89 [])) [(0, .vec cc.s4.1 cc.s4.2.1 8 true), (1, .cells [.bool false] true none)] [(83, [4, 5])])) (fun e => k (.exit 0) (bc 5 (none :: none :: some (.ptr 0 0) :: some (.ptr 1 0) :: some (.ptr 2 0) :: some (.ptr 3 0) :: none :: none :: some (.ptr 4 0) :: (rl none 86 [])) [(0, .vec cc.1 cc.2.1 8 true), (1, .vec cc.2.2.1 cc.2.2.2.1 8 true), (2, .vec cc.s4.1 cc.s4.2.1 8 true), (3, .cells [.bool false] true none), (4, .vec e cc.s8.2.2 8 true)] [(83, [4, 5])]))) e)
 cd := fun cc e k => by rcases e with e | e <;> rfl
theorem IB : cJ YI 0 Bc.la (aJ Tryz.f63 0) :=
 LD.ok (ch := pR) (A := dL [(10, su.la)]) aK qt mixed (fuel := 60) ⟨by kernel_rfl, fun e => by (rcases e with e | e <;> kernel_rfl), fun cc v => by kernel_rfl, aH (l := [aJ Tryz.f63 1]) (by kernel_rfl) ⟨bT (by kernel_rfl) wG, trivial⟩⟩
def sv (a0 a1 a2 a3 a4 a5 a6 a7 a8 a9 a10 a11 a12 a13 a14 a15 : Int) : Option (Fc) :=
 (Option.bind (dT a0 a1 a2 a3 a4 a5 a6 a7) fun r1 => (Option.bind (dT a8 a9 a10 a11 a12 a13 a14 a15) fun r2 => (Option.bind (vQ ((bN a0 a1 a2 a3 a4 a5 a6 a7), 1, (bN a8 a9 a10 a11 a12 a13 a14 a15), 1, (bN 0 0 0 0 0 0 0 0), 1, (bN r1.1 r1.2.1 r1.2.2.1 r1.2.2.2.1 r1.2.2.2.2.1 r1.2.2.2.2.2.1 r1.2.2.2.2.2.2.1 r1.2.2.2.2.2.2.2), 1, (bN r2.1 r2.2.1 r2.2.2.1 r2.2.2.2.1 r2.2.2.2.2.1 r2.2.2.2.2.2.1 r2.2.2.2.2.2.2.1 r2.2.2.2.2.2.2.2), 1, 1) ((bN 0 0 0 0 0 0 0 0), 0)) (Sum.elim (fun e3 => (some (0, 0, 0, 0, 0, 0, 0, 0, false))) (fun e3 => (ah (aw gK e3 0) (Option.bind (am a0 a1 a2 a3 a4 a5 a6 a7) fun r4 => (cond r4 (Option.bind (am a8 a9 a10 a11 a12 a13 a14 a15) fun r5 => (cond r5 (cond (!((ac e3 0) == 0 && ((ac e3 1) == 0 && ((ac e3 2) == 0 && ((ac e3 3) == 0 && ((ac e3 4) == 0 && ((ac e3 5) == 0 && ((ac e3 6) == 0 && ((ac e3 7) == 0 && true))))))))) (Option.bind (am (ac e3 0) (ac e3 1) (ac e3 2) (ac e3 3) (ac e3 4) (ac e3 5) (ac e3 6) (ac e3 7)) fun r6 => (cond r6 (some (0, 0, 0, 0, 0, 0, 0, 0, false)) (some ((ac e3 0), (ac e3 1), (ac e3 2), (ac e3 3), (ac e3 4), (ac e3 5), (ac e3 6), (ac e3 7), true)))) (some ((ac e3 0), (ac e3 1), (ac e3 2), (ac e3 3), (ac e3 4), (ac e3 5), (ac e3 6), (ac e3 7), true))) (Option.bind (fx (ac e3 0) (ac e3 1) (ac e3 2) (ac e3 3) (ac e3 4) (ac e3 5) (ac e3 6) (ac e3 7)) fun r7 => (cond (!(r7.1 == 0 && (r7.2.1 == 0 && (r7.2.2.1 == 0 && (r7.2.2.2.1 == 0 && (r7.2.2.2.2.1 == 0 && (r7.2.2.2.2.2.1 == 0 && (r7.2.2.2.2.2.2.1 == 0 && (r7.2.2.2.2.2.2.2 == 0 && true))))))))) (Option.bind (am r7.1 r7.2.1 r7.2.2.1 r7.2.2.2.1 r7.2.2.2.2.1 r7.2.2.2.2.2.1 r7.2.2.2.2.2.2.1 r7.2.2.2.2.2.2.2) fun r8 => (cond r8 (some (r7.1, r7.2.1, r7.2.2.1, r7.2.2.2.1, r7.2.2.2.2.1, r7.2.2.2.2.2.1, r7.2.2.2.2.2.2.1, r7.2.2.2.2.2.2.2, true)) (some (0, 0, 0, 0, 0, 0, 0, 0, false)))) (some (r7.1, r7.2.1, r7.2.2.1, r7.2.2.2.1, r7.2.2.2.2.1, r7.2.2.2.2.2.1, r7.2.2.2.2.2.2.1, r7.2.2.2.2.2.2.2, true)))))) (Option.bind (am a8 a9 a10 a11 a12 a13 a14 a15) fun r9 => (cond r9 (Option.bind (fx (ac e3 0) (ac e3 1) (ac e3 2) (ac e3 3) (ac e3 4) (ac e3 5) (ac e3 6) (ac e3 7)) fun r10 => (cond (!(r10.1 == 0 && (r10.2.1 == 0 && (r10.2.2.1 == 0 && (r10.2.2.2.1 == 0 && (r10.2.2.2.2.1 == 0 && (r10.2.2.2.2.2.1 == 0 && (r10.2.2.2.2.2.2.1 == 0 && (r10.2.2.2.2.2.2.2 == 0 && true))))))))) (Option.bind (am r10.1 r10.2.1 r10.2.2.1 r10.2.2.2.1 r10.2.2.2.2.1 r10.2.2.2.2.2.1 r10.2.2.2.2.2.2.1 r10.2.2.2.2.2.2.2) fun r11 => (cond r11 (some (r10.1, r10.2.1, r10.2.2.1, r10.2.2.2.1, r10.2.2.2.2.1, r10.2.2.2.2.2.1, r10.2.2.2.2.2.2.1, r10.2.2.2.2.2.2.2, true)) (some (0, 0, 0, 0, 0, 0, 0, 0, false)))) (some (r10.1, r10.2.1, r10.2.2.1, r10.2.2.2.1, r10.2.2.2.2.1, r10.2.2.2.2.2.1, r10.2.2.2.2.2.2.1, r10.2.2.2.2.2.2.2, true)))) (cond (!((ac e3 0) == 0 && ((ac e3 1) == 0 && ((ac e3 2) == 0 && ((ac e3 3) == 0 && ((ac e3 4) == 0 && ((ac e3 5) == 0 && ((ac e3 6) == 0 && ((ac e3 7) == 0 && true))))))))) (Option.bind (am (ac e3 0) (ac e3 1) (ac e3 2) (ac e3 3) (ac e3 4) (ac e3 5) (ac e3 6) (ac e3 7)) fun r12 => (cond r12 (some (0, 0, 0, 0, 0, 0, 0, 0, false)) (some ((ac e3 0), (ac e3 1), (ac e3 2), (ac e3 3), (ac e3 4), (ac e3 5), (ac e3 6), (ac e3 7), true)))) (some ((ac e3 0), (ac e3 1), (ac e3 2), (ac e3 3), (ac e3 4), (ac e3 5), (ac e3 6), (ac e3 7), true)))))))))))))
def sw : FD where
 X := Fc
 k := 0
 pre := []
 F := fun s => []
 M := .tup [.agg (rl (.int .u64) 8 []), .bool]
 B := []
 toL := fun x => [.I x.1, .I x.2.1, .I x.2.2.1, .I x.2.2.2.1, .I x.s4.1, .I x.s4.2.1, .I x.s4.2.2.1, .I x.s4.2.2.2.1, .B x.s8]
 ofL := fun ls => match ls with
  | [.I x0, .I x1, .I x2, .I x3, .I x4, .I x5, .I x6, .I x7, .B x8] => some (x0, x1, x2, x3, x4, x5, x6, x7, x8)
  | _ => none
 ar := fun ls x h => by
  split at h
  ·cases h; rfl
  ·cases h
theorem Lb : zi YI 83 Tryz.f83 0 (Qe (Qf (br Tryz.f83))) (KN (br Tryz.f83) 0) (KN (br Tryz.f83) 1) (SM (br Tryz.f83)) 3 2 :=
 ⟨Tryz.func83, ⟨_, Tryz.func83, bI 83 _ Tryz.func83, by kernel_rfl⟩, by kernel_rfl, by kernel_rfl, by kernel_rfl, by kernel_rfl, by kernel_rfl, by kernel_rfl, by kernel_rfl, by kernel_rfl, by kernel_rfl, (by decide)⟩
theorem Lc (a0 a1 a2 a3 a4 a5 a6 a7 a8 a9 a10 a11 a12 a13 a14 a15 : Int) (x : Fc) (h : sv a0 a1 a2 a3 a4 a5 a6 a7 a8 a9 a10 a11 a12 a13 a14 a15 = some x) : aP YI 63 0 [.agg (bN a0 a1 a2 a3 a4 a5 a6 a7), .agg (bN a8 a9 a10 a11 a12 a13 a14 a15)] [] sw x :=
 FD.V5 (ch := pR) (A := dL [(10, su.la), (5, Bc.la)]) (fn := Tryz.f63) (c := br Tryz.f63) (fuel := 60) aK qt mixed bI sw Tryz.func63 (by kernel_rfl) (aH (l := [aJ Tryz.f63 0, aJ Tryz.f63 1]) (by kernel_rfl) ⟨bT (by kernel_rfl) IB, bT (by kernel_rfl) wG, trivial⟩)
  (by kernel_rfl) Lb (by kernel_rfl) (Eq.trans (by kernel_rfl) h)
def Cr : HK where
 call := fun args σ k => match args with
  | [.agg [.int .u64 a0, .int .u64 a1, .int .u64 a2, .int .u64 a3, .int .u64 a4, .int .u64 a5, .int .u64 a6, .int .u64 a7], .agg [.int .u64 a8, .int .u64 a9, .int .u64 a10, .int .u64 a11, .int .u64 a12, .int .u64 a13, .int .u64 a14, .int .u64 a15]] => Option.bind (sv a0 a1 a2 a3 a4 a5 a6 a7 a8 a9 a10 a11 a12 a13 a14 a15) fun y => au σ 0 (sw.val y) (sw.aI y) k
  | _ => none
 nat := fun args σ k => by
  repeat' split
  all_goals simp only [ao, ai, Yg, Yf, au, Ye]
 pure := true
 pok := fun _ args σ r σ' h => by
  split at h
  ·exact aZ h (fun y => rfl) (fun y f => rfl)
  ·cases h
theorem MG : aN YI 63 Cr := by
 intro args σ r σ' h
 simp only [Cr] at h
 split at h
 ·rename_i a0 a1 a2 a3 a4 a5 a6 a7 a8 a9 a10 a11 a12 a13 a14 a15
  obtain ⟨y, hy, h⟩ := bE_ h
  exact aG (xs := []) (ls := []) (cargs := [.agg (bN a0 a1 a2 a3 a4 a5 a6 a7), .agg (bN a8 a9 a10 a11 a12 a13 a14 a15)]) (bg.of trivial) rfl (Lc a0 a1 a2 a3 a4 a5 a6 a7 a8 a9 a10 a11 a12 a13 a14 a15 y hy) rfl rfl rfl rfl h
 ·cases h
abbrev Cn := Int × Int × Int × Int × Int × Int × Int × Int
def A8 : CH := CH.none
theorem Hg : aB YI A8 := CH.ay
def me (a0 a1 a2 a3 a4 a5 a6 a7 : Int) : Option (Cn) :=
 (some ((ior .u64 (aE .u64 a0 1) (iY .u64 a1 63)), (ior .u64 (aE .u64 a1 1) (iY .u64 a2 63)), (ior .u64 (aE .u64 a2 1) (iY .u64 a3 63)), (ior .u64 (aE .u64 a3 1) (iY .u64 a4 63)), (ior .u64 (aE .u64 a4 1) (iY .u64 a5 63)), (ior .u64 (aE .u64 a5 1) (iY .u64 a6 63)), (ior .u64 (aE .u64 a6 1) (iY .u64 a7 63)), (aE .u64 a7 1)))
def pP : FD where
 X := Cn
 k := 0
 pre := []
 F := fun s => []
 M := .agg (rl (.int .u64) 8 [])
 B := []
 toL := fun x => [.I x.1, .I x.2.1, .I x.2.2.1, .I x.2.2.2.1, .I x.s4.1, .I x.s4.2.1, .I x.s4.2.2.1, .I x.s4.2.2.2]
 ofL := fun ls => match ls with
  | [.I x0, .I x1, .I x2, .I x3, .I x4, .I x5, .I x6, .I x7] => some (x0, x1, x2, x3, x4, x5, x6, x7)
  | _ => none
 ar := fun ls x h => by
  split at h
  ·cases h; rfl
  ·cases h
theorem JK (a0 a1 a2 a3 a4 a5 a6 a7 : Int) (x : Cn) (h : me a0 a1 a2 a3 a4 a5 a6 a7 = some x) : aP YI 120 0 [.agg (v8 a0 a1 a2 a3 a4 a5 a6 a7 [])] [] pP x :=
 FD.sem (ch := A8) (A := bw) (fn := Tryz.f120) (c := br Tryz.f120) (fuel := 60) aK Hg mixed bI pP Tryz.func120 (by kernel_rfl) (aH (l := [aJ Tryz.f120 0]) (by kernel_rfl) ⟨(eL (by kernel_rfl)), trivial⟩)
  (by kernel_rfl) (Eq.trans (by kernel_rfl) h)
def Ag : HK where
 call := fun args σ k => match args with
  | [.agg [.int .u64 a0, .int .u64 a1, .int .u64 a2, .int .u64 a3, .int .u64 a4, .int .u64 a5, .int .u64 a6, .int .u64 a7]] => Option.bind (me a0 a1 a2 a3 a4 a5 a6 a7) fun y => au σ 0 (pP.val y) (pP.aI y) k
  | _ => none
 nat := fun args σ k => by
  repeat' split
  all_goals simp only [ao, ai, Yg, Yf, au, Ye]
 pure := true
 pok := fun _ args σ r σ' h => by
  split at h
  ·exact aZ h (fun y => rfl) (fun y f => rfl)
  ·cases h
theorem K9 : aN YI 120 Ag := by
 intro args σ r σ' h
 simp only [Ag] at h
 split at h
 ·rename_i a0 a1 a2 a3 a4 a5 a6 a7
  obtain ⟨y, hy, h⟩ := bE_ h
  exact aG (xs := []) (ls := []) (cargs := [.agg (v8 a0 a1 a2 a3 a4 a5 a6 a7 [])]) (bg.of trivial) rfl (JK a0 a1 a2 a3 a4 a5 a6 a7 y hy) rfl rfl rfl rfl h
 ·cases h
abbrev ik := Int × LA_ × Nat × LA_ × Nat × Nat
abbrev Co := Int × Int × Int × Int × Int × Int × Int × Int
def tX : CH := CH.none
theorem wy : aB YI tX := CH.ay
def gL {R : Type} (cc : ik) (v : LA_ × Int) (kn : (LA_ × Int) → Option R) (ke : ((LA_)) → Option R) : Option R :=
 (cond (decide (v.2 < 8)) (ah (decide (0 ≤ (IntKind.wrap .i64 (v.2 - (IntKind.wrap .i64 (Int.tdiv cc.1 64))))) && decide ((IntKind.wrap .i64 (v.2 - (IntKind.wrap .i64 (Int.tdiv cc.1 64)))) < ((8 : Nat) : Int))) (ah (aw [.int .u64] cc.2.1 (0 + (Int.toNat (IntKind.wrap .i64 (v.2 - (IntKind.wrap .i64 (Int.tdiv cc.1 64)))) * 1))) (ah (!decide ((Int.tmod cc.1 64) < 0)) (ah (decide (0 ≤ v.2) && decide (v.2 < ((8 : Nat) : Int))) (ah (decide ((0 + (Int.toNat v.2 * 1)) + 1 ≤ List.length v.1)) (cond (decide ((Int.tmod cc.1 64) > 0)) (cond (decide (v.2 > (IntKind.wrap .i64 (Int.tdiv cc.1 64)))) (ah (decide (0 ≤ v.2) && decide (v.2 < ((8 : Nat) : Int))) (ah (aw [.int .u64] (spliced v.1 (0 + (Int.toNat v.2 * 1)) [.int .u64 (iY .u64 (ac cc.2.1 ((0 + (Int.toNat (IntKind.wrap .i64 (v.2 - (IntKind.wrap .i64 (Int.tdiv cc.1 64)))) * 1)) + 0)) (Int.tmod cc.1 64))]) (0 + (Int.toNat v.2 * 1))) (ah (decide (0 ≤ (IntKind.wrap .i64 ((IntKind.wrap .i64 (v.2 - (IntKind.wrap .i64 (Int.tdiv cc.1 64)))) - 1))) && decide ((IntKind.wrap .i64 ((IntKind.wrap .i64 (v.2 - (IntKind.wrap .i64 (Int.tdiv cc.1 64)))) - 1)) < ((8 : Nat) : Int))) (ah (aw [.int .u64] cc.2.1 (0 + (Int.toNat (IntKind.wrap .i64 ((IntKind.wrap .i64 (v.2 - (IntKind.wrap .i64 (Int.tdiv cc.1 64)))) - 1)) * 1))) (ah (!decide ((IntKind.wrap .i64 (64 - (Int.tmod cc.1 64))) < 0)) (ah (decide (0 ≤ v.2) && decide (v.2 < ((8 : Nat) : Int))) (ah (decide ((0 + (Int.toNat v.2 * 1)) + 1 ≤ List.length (spliced v.1 (0 + (Int.toNat v.2 * 1)) [.int .u64 (iY .u64 (ac cc.2.1 ((0 + (Int.toNat (IntKind.wrap .i64 (v.2 - (IntKind.wrap .i64 (Int.tdiv cc.1 64)))) * 1)) + 0)) (Int.tmod cc.1 64))]))) (kn ((spliced (spliced v.1 (0 + (Int.toNat v.2 * 1)) [.int .u64 (iY .u64 (ac cc.2.1 ((0 + (Int.toNat (IntKind.wrap .i64 (v.2 - (IntKind.wrap .i64 (Int.tdiv cc.1 64)))) * 1)) + 0)) (Int.tmod cc.1 64))]) (0 + (Int.toNat v.2 * 1)) [.int .u64 (ior .u64 (ac (spliced v.1 (0 + (Int.toNat v.2 * 1)) [.int .u64 (iY .u64 (ac cc.2.1 ((0 + (Int.toNat (IntKind.wrap .i64 (v.2 - (IntKind.wrap .i64 (Int.tdiv cc.1 64)))) * 1)) + 0)) (Int.tmod cc.1 64))]) ((0 + (Int.toNat v.2 * 1)) + 0)) (aE .u64 (ac cc.2.1 ((0 + (Int.toNat (IntKind.wrap .i64 ((IntKind.wrap .i64 (v.2 - (IntKind.wrap .i64 (Int.tdiv cc.1 64)))) - 1)) * 1)) + 0)) (IntKind.wrap .i64 (64 - (Int.tmod cc.1 64)))))]), (IntKind.wrap .i64 (v.2 + 1))))))))))) (kn ((spliced v.1 (0 + (Int.toNat v.2 * 1)) [.int .u64 (iY .u64 (ac cc.2.1 ((0 + (Int.toNat (IntKind.wrap .i64 (v.2 - (IntKind.wrap .i64 (Int.tdiv cc.1 64)))) * 1)) + 0)) (Int.tmod cc.1 64))]), (IntKind.wrap .i64 (v.2 + 1))))) (kn ((spliced v.1 (0 + (Int.toNat v.2 * 1)) [.int .u64 (iY .u64 (ac cc.2.1 ((0 + (Int.toNat (IntKind.wrap .i64 (v.2 - (IntKind.wrap .i64 (Int.tdiv cc.1 64)))) * 1)) + 0)) (Int.tmod cc.1 64))]), (IntKind.wrap .i64 (v.2 + 1)))))))))) (ke v.1))
def sn (cc : ik) (v : LA_ × Int) : Option ((LA_ × Int) ⊕ ((LA_))) := gL cc v (fun v => some (Sum.inl v)) fun e => some (Sum.inr e)
def A9 (cc : ik) (v : LA_ × Int) : Option ((LA_)) := dz (sn cc) v
def Hh (cc : ik) (v : LA_ × Int) : List af := [.I cc.1, .I v.2, .C cc.2.1, .N cc.2.2.1, .C cc.2.2.2.1, .N cc.s4.1, .C v.1, .N cc.s4.2]
def wz (ls : List af) : Option ((ik) × (LA_ × Int)) := match ls with
 | [.I x0, .I x1, .C x2, .N x3, .C x4, .N x5, .C x6, .N x7] => some ((x0, x2, x3, x4, x5, x7), (x6, x1))
 | _ => none
def wA (e : (LA_)) : an := ((fun e => .exit 0) e)
def wB (cc : ik) (e : (LA_)) : List af := ((fun e => [.C cc.2.2.2.1, .N cc.s4.1, .C e, .N cc.s4.2]) e)
def nw (cc : ik) (e : (LA_)) : List af := ((fun e => [.C cc.2.2.2.1, .N cc.s4.1, .N cc.s4.2]) e)
def pk (o : an) (ls : List af) : Option (((LA_)) × List af) := match o with
 | .exit 0 => (match ls with
  | [.C x0, .N x1, .C x2, .N x3] => some (x2, [.C x0, .N x1, .N x3])
  | _ => none)
 | _ => none
theorem Cp : ∀ o ls e cl cc, pk o ls = some (e, cl) → cl = nw cc e → ls = wB cc e ∧ wA e = o ∧ o ≠ .normal ∧ ∀ v, o = .pan v → sc 0 v = true := by
 intro o ls e cl cc h hc
 unfold pk at h
 split at h
 ·split at h
  ·cases h
   simp only [nw, List.cons.injEq, af.N.injEq, af.C.injEq, and_true] at hc
   obtain ⟨rfl, rfl, rfl⟩ := hc
   exact ⟨rfl, rfl, by simp, by intro v hv; cases hv <;> rfl⟩
  ·cases h
 ·cases h
def Iv (o : an) : ExS := match o with
 | .exit 0 => ⟨2, (none :: none :: none :: none :: some (.ptr 0 0) :: some (.ptr 1 0) :: (rl none 44 [])), [(0, .vec 8 true), (1, .vec 8 true)], fun s => [ak s 4 [], ak s 5 []], [], []⟩
 | _ => ⟨0, [], [], fun _ => [], [], []⟩
theorem Hi {R : Type} (cc : ik) (v : LA_ × Int) (kn : (LA_ × Int) → Option R) (ke : ((LA_)) → Option R) : gL cc v kn ke = (gL cc v (fun v => some (Sum.inl v)) fun e => some (Sum.inr e)).bind (Sum.elim kn ke) := by
 simp only [gL, bH, ai, Yg, bZ, bB, Ye, Yf, YF, YE]
def zu : LD where
 CC := ik
 V := LA_ × Int
 E := (LA_)
 n := 0
 K := 3
 M := (none :: some (.int .i64) :: some (.ptr 0 0) :: none :: some (.ptr 1 0) :: some (.ptr 2 0) :: some (.int .i64) :: (rl none 43 []))
 B := [(0, .vec 8 true), (1, .vec 8 true), (2, .vec 8 true)]
 D := []
 pre := []
 F := fun s => [ak s 2 [], ak s 4 [], ak s 5 []]
 toL := Hh
 ofL := wz
 ar := fun ls c v h => by
  unfold wz at h
  split at h
  ·cases h; rfl
  ·cases h
 ct := gL
 nat := Hi
 sh := Iv
 out := wA
 toE := wB
 eY := nw
 ofE := pk
 cQ := Cp
 post := fun cc e k => ((fun e => k (.exit 0) (bc 2 (none :: none :: none :: none :: some (.ptr 0 0) :: some (.ptr 1 0) :: (rl none 44 [])) [(0, .vec cc.2.2.2.1 cc.s4.1 8 true), (1, .vec e cc.s4.2 8 true)] [])) e)
 cd := fun cc e k => by rfl
theorem Hj : cJ YI 0 zu.la (aJ Tryz.f119 0) :=
 LD.ok (ch := tX) (A := bw) aK wy mixed (fuel := 60) ⟨by kernel_rfl, fun e => by kernel_rfl, fun cc v => by kernel_rfl, aH (l := []) (by kernel_rfl) trivial⟩
def pD (a0 a1 a2 a3 a4 a5 a6 a7 a8 : Int) : Option (Co) :=
 (Option.bind (A9 (a8, (bN a0 a1 a2 a3 a4 a5 a6 a7), 1, (bN 0 0 0 0 0 0 0 0), 1, 1) ((bN 0 0 0 0 0 0 0 0), (IntKind.wrap .i64 (Int.tdiv a8 64)))) fun e1 => (ah (aw gK e1 0) (some ((ac e1 0), (ac e1 1), (ac e1 2), (ac e1 3), (ac e1 4), (ac e1 5), (ac e1 6), (ac e1 7)))))
def pQ : FD where
 X := Co
 k := 0
 pre := []
 F := fun s => []
 M := .agg (rl (.int .u64) 8 [])
 B := []
 toL := fun x => [.I x.1, .I x.2.1, .I x.2.2.1, .I x.2.2.2.1, .I x.s4.1, .I x.s4.2.1, .I x.s4.2.2.1, .I x.s4.2.2.2]
 ofL := fun ls => match ls with
  | [.I x0, .I x1, .I x2, .I x3, .I x4, .I x5, .I x6, .I x7] => some (x0, x1, x2, x3, x4, x5, x6, x7)
  | _ => none
 ar := fun ls x h => by
  split at h
  ·cases h; rfl
  ·cases h
theorem JL (a0 a1 a2 a3 a4 a5 a6 a7 a8 : Int) (x : Co) (h : pD a0 a1 a2 a3 a4 a5 a6 a7 a8 = some x) : aP YI 119 0 [.agg (bN a0 a1 a2 a3 a4 a5 a6 a7), .int .i64 a8] [] pQ x :=
 FD.sem (ch := tX) (A := dL [(3, zu.la)]) (fn := Tryz.f119) (c := br Tryz.f119) (fuel := 60) aK wy mixed bI pQ Tryz.func119 (by kernel_rfl) (aH (l := [aJ Tryz.f119 0]) (by kernel_rfl) ⟨bT (by kernel_rfl) Hj, trivial⟩)
  (by kernel_rfl) (Eq.trans (by kernel_rfl) h)
def Ah : HK where
 call := fun args σ k => match args with
  | [.agg [.int .u64 a0, .int .u64 a1, .int .u64 a2, .int .u64 a3, .int .u64 a4, .int .u64 a5, .int .u64 a6, .int .u64 a7], .int .i64 a8] => Option.bind (pD a0 a1 a2 a3 a4 a5 a6 a7 a8) fun y => au σ 0 (pQ.val y) (pQ.aI y) k
  | _ => none
 nat := fun args σ k => by
  repeat' split
  all_goals simp only [ao, ai, Yg, Yf, au, Ye]
 pure := true
 pok := fun _ args σ r σ' h => by
  split at h
  ·exact aZ h (fun y => rfl) (fun y f => rfl)
  ·cases h
theorem La : aN YI 119 Ah := by
 intro args σ r σ' h
 simp only [Ah] at h
 split at h
 ·rename_i a0 a1 a2 a3 a4 a5 a6 a7 a8
  obtain ⟨y, hy, h⟩ := bE_ h
  exact aG (xs := []) (ls := []) (cargs := [.agg (bN a0 a1 a2 a3 a4 a5 a6 a7), .int .i64 a8]) (bg.of trivial) rfl (JL a0 a1 a2 a3 a4 a5 a6 a7 a8 y hy) rfl rfl rfl rfl h
 ·cases h
abbrev bE : ByteArray := ⟨#[0, 1, 2, 2, 3, 3, 3, 3, 4, 4, 4, 4, 4, 4, 4, 4, 5, 5, 5, 5, 5, 5, 5, 5, 5, 5, 5, 5, 5, 5, 5, 5, 6, 6, 6, 6, 6, 6, 6, 6, 6, 6, 6, 6, 6, 6, 6, 6, 6, 6, 6, 6, 6, 6, 6, 6, 6, 6, 6, 6, 6, 6, 6, 6, 7, 7, 7, 7, 7, 7, 7, 7, 7, 7, 7, 7, 7, 7, 7, 7, 7, 7, 7, 7, 7, 7, 7, 7, 7, 7, 7, 7, 7, 7, 7, 7, 7, 7, 7, 7, 7, 7, 7, 7, 7, 7, 7, 7, 7, 7, 7, 7, 7, 7, 7, 7, 7, 7, 7, 7, 7, 7, 7, 7, 7, 7, 7, 7, 8, 8, 8, 8, 8, 8, 8, 8, 8, 8, 8, 8, 8, 8, 8, 8, 8, 8, 8, 8, 8, 8, 8, 8, 8, 8, 8, 8, 8, 8, 8, 8, 8, 8, 8, 8, 8, 8, 8, 8, 8, 8, 8, 8, 8, 8, 8, 8, 8, 8, 8, 8, 8, 8, 8, 8, 8, 8, 8, 8, 8, 8, 8, 8, 8, 8, 8, 8, 8, 8, 8, 8, 8, 8, 8, 8, 8, 8, 8, 8, 8, 8, 8, 8, 8, 8, 8, 8, 8, 8, 8, 8, 8, 8, 8, 8, 8, 8, 8, 8, 8, 8, 8, 8, 8, 8, 8, 8, 8, 8, 8, 8, 8, 8, 8, 8, 8, 8, 8, 8, 8, 8, 8, 8, 8, 8, 8, 8]⟩
def BS : CH := CH.none
theorem yP : aB YI BS := CH.ay
def gX (a0 : Int) : Option (Int) :=
 (cond (decide (a0 ≥ 4294967296)) (cond (decide ((aE .u64 a0 32) ≥ 65536)) (cond (decide ((aE .u64 (aE .u64 a0 32) 16) ≥ 256)) (ah (decide (0 ≤ (IntKind.wrap .u8 (aE .u64 (aE .u64 (aE .u64 a0 32) 16) 8))) && decide ((IntKind.wrap .u8 (aE .u64 (aE .u64 (aE .u64 a0 32) 16) 8)) < ((ByteArray.size bE : Nat) : Int))) (some (IntKind.wrap .i64 (56 + (IntKind.wrap .i64 (ew bE (Int.toNat (IntKind.wrap .u8 (aE .u64 (aE .u64 (aE .u64 a0 32) 16) 8))))))))) (ah (decide (0 ≤ (IntKind.wrap .u8 (aE .u64 (aE .u64 a0 32) 16))) && decide ((IntKind.wrap .u8 (aE .u64 (aE .u64 a0 32) 16)) < ((ByteArray.size bE : Nat) : Int))) (some (IntKind.wrap .i64 (48 + (IntKind.wrap .i64 (ew bE (Int.toNat (IntKind.wrap .u8 (aE .u64 (aE .u64 a0 32) 16)))))))))) (cond (decide ((aE .u64 a0 32) ≥ 256)) (ah (decide (0 ≤ (IntKind.wrap .u8 (aE .u64 (aE .u64 a0 32) 8))) && decide ((IntKind.wrap .u8 (aE .u64 (aE .u64 a0 32) 8)) < ((ByteArray.size bE : Nat) : Int))) (some (IntKind.wrap .i64 (40 + (IntKind.wrap .i64 (ew bE (Int.toNat (IntKind.wrap .u8 (aE .u64 (aE .u64 a0 32) 8))))))))) (ah (decide (0 ≤ (IntKind.wrap .u8 (aE .u64 a0 32))) && decide ((IntKind.wrap .u8 (aE .u64 a0 32)) < ((ByteArray.size bE : Nat) : Int))) (some (IntKind.wrap .i64 (32 + (IntKind.wrap .i64 (ew bE (Int.toNat (IntKind.wrap .u8 (aE .u64 a0 32))))))))))) (cond (decide (a0 ≥ 65536)) (cond (decide ((aE .u64 a0 16) ≥ 256)) (ah (decide (0 ≤ (IntKind.wrap .u8 (aE .u64 (aE .u64 a0 16) 8))) && decide ((IntKind.wrap .u8 (aE .u64 (aE .u64 a0 16) 8)) < ((ByteArray.size bE : Nat) : Int))) (some (IntKind.wrap .i64 (24 + (IntKind.wrap .i64 (ew bE (Int.toNat (IntKind.wrap .u8 (aE .u64 (aE .u64 a0 16) 8))))))))) (ah (decide (0 ≤ (IntKind.wrap .u8 (aE .u64 a0 16))) && decide ((IntKind.wrap .u8 (aE .u64 a0 16)) < ((ByteArray.size bE : Nat) : Int))) (some (IntKind.wrap .i64 (16 + (IntKind.wrap .i64 (ew bE (Int.toNat (IntKind.wrap .u8 (aE .u64 a0 16)))))))))) (cond (decide (a0 ≥ 256)) (ah (decide (0 ≤ (IntKind.wrap .u8 (aE .u64 a0 8))) && decide ((IntKind.wrap .u8 (aE .u64 a0 8)) < ((ByteArray.size bE : Nat) : Int))) (some (IntKind.wrap .i64 (8 + (IntKind.wrap .i64 (ew bE (Int.toNat (IntKind.wrap .u8 (aE .u64 a0 8))))))))) (ah (decide (0 ≤ (IntKind.wrap .u8 a0)) && decide ((IntKind.wrap .u8 a0) < ((ByteArray.size bE : Nat) : Int))) (some (IntKind.wrap .i64 (0 + (IntKind.wrap .i64 (ew bE (Int.toNat (IntKind.wrap .u8 a0)))))))))))
def iL : FD where
 X := Int
 k := 0
 pre := []
 F := fun s => []
 M := .int .i64
 B := []
 toL := fun x => [.I x]
 ofL := fun ls => match ls with
  | [.I x0] => some x0
  | _ => none
 ar := fun ls x h => by
  split at h
  ·cases h; rfl
  ·cases h
theorem AQ (a0 x : Int) (h : gX a0 = some x) : aP YI 98 0 [.int .u64 a0] [] iL x :=
 FD.semA iL yP Tryz.func98 (fuel := 60) (by kernel_rfl) (by kernel_rfl)
  (by kernel_rfl) (Eq.trans (by kernel_rfl) h)
def oX : HK where
 call := fun args σ k => match args with
  | [.int .u64 a0] => Option.bind (gX a0) fun y => au σ 0 (iL.val y) (iL.aI y) k
  | _ => none
 nat := fun args σ k => by
  repeat' split
  all_goals simp only [ao, ai, Yg, Yf, au, Ye]
 pure := true
 pok := fun _ args σ r σ' h => by
  split at h
  ·exact aZ h (fun y => rfl) (fun y f => rfl)
  ·cases h
theorem BT : aN YI 98 oX := by
 intro args σ r σ' h
 simp only [oX] at h
 split at h
 ·rename_i a0
  obtain ⟨y, hy, h⟩ := bE_ h
  exact aG (xs := []) (ls := []) (cargs := [.int .u64 a0]) (bg.of trivial) rfl (AQ a0 y hy) rfl rfl rfl rfl h
 ·cases h
def qr : CH := (CH.add 98 oX CH.none)
theorem tE : aB YI qr := (CH.aj BT CH.ay)
def fF {R : Type} (cc : LA_ × Nat) (v : Int) (kn : (Int) → Option R) (ke : ((Int) ⊕ (Unit)) → Option R) : Option R :=
 (cond (decide (v ≥ 0)) (ah (decide (0 ≤ v) && decide (v < ((8 : Nat) : Int))) (ah (aw [.int .u64] cc.1 (0 + (Int.toNat v * 1))) (cond ((ac cc.1 ((0 + (Int.toNat v * 1)) + 0)) != 0) (ah (decide (0 ≤ v) && decide (v < ((8 : Nat) : Int))) (ah (aw [.int .u64] cc.1 (0 + (Int.toNat v * 1))) (Option.bind (gX (ac cc.1 ((0 + (Int.toNat v * 1)) + 0))) fun r1 => (ke (.inl (IntKind.wrap .i64 ((IntKind.wrap .i64 (64 * v)) + r1))))))) (kn (IntKind.wrap .i64 (v - 1)))))) (ke (.inr ())))
def pm (cc : LA_ × Nat) (v : Int) : Option ((Int) ⊕ ((Int) ⊕ (Unit))) := fF cc v (fun v => some (Sum.inl v)) fun e => some (Sum.inr e)
def yp (cc : LA_ × Nat) (v : Int) : Option ((Int) ⊕ (Unit)) := dz (pm cc) v
def Ee (cc : LA_ × Nat) (v : Int) : List af := [.I v, .C cc.1, .N cc.2]
def tF (ls : List af) : Option ((LA_ × Nat) × (Int)) := match ls with
 | [.I x0, .C x1, .N x2] => some ((x1, x2), x0)
 | _ => none
def tG (e : (Int) ⊕ (Unit)) : an := ((Sum.elim (fun e => .ret) (fun e => .exit 0)) e)
def tH (cc : LA_ × Nat) (e : (Int) ⊕ (Unit)) : List af := ((Sum.elim (fun e => [.I e]) (fun e => [])) e)
def so (cc : LA_ × Nat) (e : (Int) ⊕ (Unit)) : List af := ((Sum.elim (fun e => []) (fun e => [])) e)
def mw (o : an) (ls : List af) : Option (((Int) ⊕ (Unit)) × List af) := match o with
 | .ret => (match ls with
  | [.I x0] => some ((.inl x0), [])
  | _ => none)
 | .exit 0 => (match ls with
  | [] => some ((.inr ()), [])
  | _ => none)
 | _ => none
theorem Ai : ∀ o ls e cl cc, mw o ls = some (e, cl) → cl = so cc e → ls = tH cc e ∧ tG e = o ∧ o ≠ .normal ∧ ∀ v, o = .pan v → sc 0 v = true := by
 intro o ls e cl cc h hc
 unfold mw at h
 split at h
 ·split at h
  ·cases h
   exact ⟨rfl, rfl, by simp, by intro v hv; cases hv <;> rfl⟩
  ·cases h
 ·split at h
  ·cases h
   exact ⟨rfl, rfl, by simp, by intro v hv; cases hv <;> rfl⟩
  ·cases h
 ·cases h
def Fa (o : an) : ExS := match o with
 | .ret => ⟨0, (none :: none :: some (.int .i64) :: (rl none 16 [])), [], fun s => [], [], []⟩
 | .exit 0 => ⟨0, (rl none 19 []), [], fun s => [], [], []⟩
 | _ => ⟨0, [], [], fun _ => [], [], []⟩
theorem Ef {R : Type} (cc : LA_ × Nat) (v : Int) (kn : (Int) → Option R) (ke : ((Int) ⊕ (Unit)) → Option R) : fF cc v kn ke = (fF cc v (fun v => some (Sum.inl v)) fun e => some (Sum.inr e)).bind (Sum.elim kn ke) := by
 simp only [fF, bH, ai, Yg, bZ, bB, Ye, Yf, YF, YE]
def wC : LD where
 CC := LA_ × Nat
 V := Int
 E := (Int) ⊕ (Unit)
 n := 0
 K := 1
 M := (none :: some (.ptr 0 0) :: none :: some (.int .i64) :: (rl none 15 []))
 B := [(0, .vec 8 true)]
 D := []
 pre := []
 F := fun s => [ak s 1 []]
 toL := Ee
 ofL := tF
 ar := fun ls c v h => by
  unfold tF at h
  split at h
  ·cases h; rfl
  ·cases h
 ct := fF
 nat := Ef
 sh := Fa
 out := tG
 toE := tH
 eY := so
 ofE := mw
 cQ := Ai
 post := fun cc e k => ((Sum.elim (fun e => k (.ret) (bc 0 (none :: none :: some (.int .i64 e) :: (rl none 16 [])) [] [])) (fun e => k (.exit 0) (bc 0 (rl none 19 []) [] []))) e)
 cd := fun cc e k => by rcases e with e | e <;> rfl
theorem Eg : cJ YI 0 wC.la (aJ Tryz.f118 0) :=
 LD.ok (ch := qr) (A := bw) aK tE mixed (fuel := 60) ⟨by kernel_rfl, fun e => by (rcases e with e | e <;> kernel_rfl), fun cc v => by kernel_rfl, aH (l := []) (by kernel_rfl) trivial⟩
def jc (a0 a1 a2 a3 a4 a5 a6 a7 : Int) : Option (Int) :=
 (Option.bind (yp (([.int .u64 a0, .int .u64 a1, .int .u64 a2, .int .u64 a3, .int .u64 a4, .int .u64 a5, .int .u64 a6, .int .u64 a7] : LA_), 1) 7) (Sum.elim (fun e1 => (some e1)) (fun e1 => (some 0))))
def mO : FD where
 X := Int
 k := 0
 pre := []
 F := fun s => []
 M := .int .i64
 B := []
 toL := fun x => [.I x]
 ofL := fun ls => match ls with
  | [.I x0] => some x0
  | _ => none
 ar := fun ls x h => by
  split at h
  ·cases h; rfl
  ·cases h
theorem Hk (a0 a1 a2 a3 a4 a5 a6 a7 x : Int) (h : jc a0 a1 a2 a3 a4 a5 a6 a7 = some x) : aP YI 118 0 [.agg (v8 a0 a1 a2 a3 a4 a5 a6 a7 [])] [] mO x :=
 FD.sem (ch := qr) (A := dL [(2, wC.la)]) (fn := Tryz.f118) (c := br Tryz.f118) (fuel := 60) aK tE mixed bI mO Tryz.func118 (by kernel_rfl) (aH (l := [aJ Tryz.f118 0]) (by kernel_rfl) ⟨bT (by kernel_rfl) Eg, trivial⟩)
  (by kernel_rfl) (Eq.trans (by kernel_rfl) h)
def vP : HK where
 call := fun args σ k => match args with
  | [.agg [.int .u64 a0, .int .u64 a1, .int .u64 a2, .int .u64 a3, .int .u64 a4, .int .u64 a5, .int .u64 a6, .int .u64 a7]] => Option.bind (jc a0 a1 a2 a3 a4 a5 a6 a7) fun y => au σ 0 (mO.val y) (mO.aI y) k
  | _ => none
 nat := fun args σ k => by
  repeat' split
  all_goals simp only [ao, ai, Yg, Yf, au, Ye]
 pure := true
 pok := fun _ args σ r σ' h => by
  split at h
  ·exact aZ h (fun y => rfl) (fun y f => rfl)
  ·cases h
theorem Iw : aN YI 118 vP := by
 intro args σ r σ' h
 simp only [vP] at h
 split at h
 ·rename_i a0 a1 a2 a3 a4 a5 a6 a7
  obtain ⟨y, hy, h⟩ := bE_ h
  exact aG (xs := []) (ls := []) (cargs := [.agg (v8 a0 a1 a2 a3 a4 a5 a6 a7 [])]) (bg.of trivial) rfl (Hk a0 a1 a2 a3 a4 a5 a6 a7 y hy) rfl rfl rfl rfl h
 ·cases h
abbrev Al := (I8 (Int × Int × Int × Int × Int × Int × Int × Int))
abbrev fa := LA_ × LA_ × Int × LA_ × Nat
def sB : CH := (CH.add 120 Ag (CH.add 119 Ah (CH.add 118 vP (CH.add 65 rZ (CH.add 59 ov (CH.add 58 jL CH.none))))))
theorem uT : aB YI sB := (CH.aj K9 (CH.aj La (CH.aj Iw (CH.aj zt (CH.aj pO (CH.aj kH CH.ay))))))
def fZ {R : Type} (cc : Nat × Nat) (v : fa) (kn : (fa) → Option R) (ke : ((LA_ × LA_)) → Option R) : Option R :=
 (cond (decide (v.2.2.1 ≥ 0)) (ah (aw gK v.2.1 0) (ah (aw gK v.2.2.2.1 0) (Option.bind (iJ (ac v.2.1 0) (ac v.2.1 1) (ac v.2.1 2) (ac v.2.1 3) (ac v.2.1 4) (ac v.2.1 5) (ac v.2.1 6) (ac v.2.1 7) (ac v.2.2.2.1 0) (ac v.2.2.2.1 1) (ac v.2.2.2.1 2) (ac v.2.2.2.1 3) (ac v.2.2.2.1 4) (ac v.2.2.2.1 5) (ac v.2.2.2.1 6) (ac v.2.2.2.1 7)) fun r4 => (cond (decide (r4 ≥ 0)) (ah (aw gK v.2.1 0) (ah (aw gK v.2.2.2.1 0) (Option.bind (ij (ac v.2.2.2.1 0) (ac v.2.2.2.1 1) (ac v.2.2.2.1 2) (ac v.2.2.2.1 3) (ac v.2.2.2.1 4) (ac v.2.2.2.1 5) (ac v.2.2.2.1 6) (ac v.2.2.2.1 7)) fun r5 => (Option.bind (dS (ac v.2.1 0) (ac v.2.1 1) (ac v.2.1 2) (ac v.2.1 3) (ac v.2.1 4) (ac v.2.1 5) (ac v.2.1 6) (ac v.2.1 7) r5.1 r5.2.1 r5.2.2.1 r5.2.2.2.1 r5.2.2.2.2.1 r5.2.2.2.2.2.1 r5.2.2.2.2.2.2.1 r5.2.2.2.2.2.2.2 1) fun r6 => (ah (decide (0 + 8 ≤ List.length v.2.1)) (ah (decide (0 ≤ (IntKind.wrap .i64 (Int.tdiv v.2.2.1 64))) && decide ((IntKind.wrap .i64 (Int.tdiv v.2.2.1 64)) < ((8 : Nat) : Int))) (ah (aw [.int .u64] v.1 (0 + (Int.toNat (IntKind.wrap .i64 (Int.tdiv v.2.2.1 64)) * 1))) (ah (!decide ((Int.tmod v.2.2.1 64) < 0)) (ah (decide (0 ≤ (IntKind.wrap .i64 (Int.tdiv v.2.2.1 64))) && decide ((IntKind.wrap .i64 (Int.tdiv v.2.2.1 64)) < ((8 : Nat) : Int))) (ah (decide ((0 + (Int.toNat (IntKind.wrap .i64 (Int.tdiv v.2.2.1 64)) * 1)) + 1 ≤ List.length v.1)) (ah (aw gK v.2.2.2.1 0) (Option.bind (me (ac v.2.2.2.1 0) (ac v.2.2.2.1 1) (ac v.2.2.2.1 2) (ac v.2.2.2.1 3) (ac v.2.2.2.1 4) (ac v.2.2.2.1 5) (ac v.2.2.2.1 6) (ac v.2.2.2.1 7)) fun r7 => (ah (decide (0 + 8 ≤ List.length v.2.2.2.1)) (ah (aw gK (spliced v.2.2.2.1 0 (bN r7.1 r7.2.1 r7.2.2.1 r7.2.2.2.1 r7.2.2.2.2.1 r7.2.2.2.2.2.1 r7.2.2.2.2.2.2.1 r7.2.2.2.2.2.2.2)) 0) (kn ((spliced v.1 (0 + (Int.toNat (IntKind.wrap .i64 (Int.tdiv v.2.2.1 64)) * 1)) [.int .u64 (ior .u64 (ac v.1 ((0 + (Int.toNat (IntKind.wrap .i64 (Int.tdiv v.2.2.1 64)) * 1)) + 0)) (iY .u64 1 (Int.tmod v.2.2.1 64)))]), (spliced v.2.1 0 (bN r6.1 r6.2.1 r6.2.2.1 r6.2.2.2.1 r6.2.2.2.2.1 r6.2.2.2.2.2.1 r6.2.2.2.2.2.2.1 r6.2.2.2.2.2.2.2)), (IntKind.wrap .i64 (v.2.2.1 - 1)), ([.int .u64 (ac (spliced v.2.2.2.1 0 (bN r7.1 r7.2.1 r7.2.2.1 r7.2.2.2.1 r7.2.2.2.2.1 r7.2.2.2.2.2.1 r7.2.2.2.2.2.2.1 r7.2.2.2.2.2.2.2)) 0), .int .u64 (ac (spliced v.2.2.2.1 0 (bN r7.1 r7.2.1 r7.2.2.1 r7.2.2.2.1 r7.2.2.2.2.1 r7.2.2.2.2.2.1 r7.2.2.2.2.2.2.1 r7.2.2.2.2.2.2.2)) 1), .int .u64 (ac (spliced v.2.2.2.1 0 (bN r7.1 r7.2.1 r7.2.2.1 r7.2.2.2.1 r7.2.2.2.2.1 r7.2.2.2.2.2.1 r7.2.2.2.2.2.2.1 r7.2.2.2.2.2.2.2)) 2), .int .u64 (ac (spliced v.2.2.2.1 0 (bN r7.1 r7.2.1 r7.2.2.1 r7.2.2.2.1 r7.2.2.2.2.1 r7.2.2.2.2.2.1 r7.2.2.2.2.2.2.1 r7.2.2.2.2.2.2.2)) 3), .int .u64 (ac (spliced v.2.2.2.1 0 (bN r7.1 r7.2.1 r7.2.2.1 r7.2.2.2.1 r7.2.2.2.2.1 r7.2.2.2.2.2.1 r7.2.2.2.2.2.2.1 r7.2.2.2.2.2.2.2)) 4), .int .u64 (ac (spliced v.2.2.2.1 0 (bN r7.1 r7.2.1 r7.2.2.1 r7.2.2.2.1 r7.2.2.2.2.1 r7.2.2.2.2.2.1 r7.2.2.2.2.2.2.1 r7.2.2.2.2.2.2.2)) 5), .int .u64 (ac (spliced v.2.2.2.1 0 (bN r7.1 r7.2.1 r7.2.2.1 r7.2.2.2.1 r7.2.2.2.2.1 r7.2.2.2.2.2.1 r7.2.2.2.2.2.2.1 r7.2.2.2.2.2.2.2)) 6), .int .u64 (ac (spliced v.2.2.2.1 0 (bN r7.1 r7.2.1 r7.2.2.1 r7.2.2.2.1 r7.2.2.2.2.1 r7.2.2.2.2.2.1 r7.2.2.2.2.2.2.1 r7.2.2.2.2.2.2.2)) 7)] : LA_), 1)))))))))))))))) (ah (aw gK v.2.2.2.1 0) (Option.bind (me (ac v.2.2.2.1 0) (ac v.2.2.2.1 1) (ac v.2.2.2.1 2) (ac v.2.2.2.1 3) (ac v.2.2.2.1 4) (ac v.2.2.2.1 5) (ac v.2.2.2.1 6) (ac v.2.2.2.1 7)) fun r8 => (ah (decide (0 + 8 ≤ List.length v.2.2.2.1)) (ah (aw gK (spliced v.2.2.2.1 0 (bN r8.1 r8.2.1 r8.2.2.1 r8.2.2.2.1 r8.2.2.2.2.1 r8.2.2.2.2.2.1 r8.2.2.2.2.2.2.1 r8.2.2.2.2.2.2.2)) 0) (kn (v.1, v.2.1, (IntKind.wrap .i64 (v.2.2.1 - 1)), ([.int .u64 (ac (spliced v.2.2.2.1 0 (bN r8.1 r8.2.1 r8.2.2.1 r8.2.2.2.1 r8.2.2.2.2.1 r8.2.2.2.2.2.1 r8.2.2.2.2.2.2.1 r8.2.2.2.2.2.2.2)) 0), .int .u64 (ac (spliced v.2.2.2.1 0 (bN r8.1 r8.2.1 r8.2.2.1 r8.2.2.2.1 r8.2.2.2.2.1 r8.2.2.2.2.2.1 r8.2.2.2.2.2.2.1 r8.2.2.2.2.2.2.2)) 1), .int .u64 (ac (spliced v.2.2.2.1 0 (bN r8.1 r8.2.1 r8.2.2.1 r8.2.2.2.1 r8.2.2.2.2.1 r8.2.2.2.2.2.1 r8.2.2.2.2.2.2.1 r8.2.2.2.2.2.2.2)) 2), .int .u64 (ac (spliced v.2.2.2.1 0 (bN r8.1 r8.2.1 r8.2.2.1 r8.2.2.2.1 r8.2.2.2.2.1 r8.2.2.2.2.2.1 r8.2.2.2.2.2.2.1 r8.2.2.2.2.2.2.2)) 3), .int .u64 (ac (spliced v.2.2.2.1 0 (bN r8.1 r8.2.1 r8.2.2.1 r8.2.2.2.1 r8.2.2.2.2.1 r8.2.2.2.2.2.1 r8.2.2.2.2.2.2.1 r8.2.2.2.2.2.2.2)) 4), .int .u64 (ac (spliced v.2.2.2.1 0 (bN r8.1 r8.2.1 r8.2.2.1 r8.2.2.2.1 r8.2.2.2.2.1 r8.2.2.2.2.2.1 r8.2.2.2.2.2.2.1 r8.2.2.2.2.2.2.2)) 5), .int .u64 (ac (spliced v.2.2.2.1 0 (bN r8.1 r8.2.1 r8.2.2.1 r8.2.2.2.1 r8.2.2.2.2.1 r8.2.2.2.2.2.1 r8.2.2.2.2.2.2.1 r8.2.2.2.2.2.2.2)) 6), .int .u64 (ac (spliced v.2.2.2.1 0 (bN r8.1 r8.2.1 r8.2.2.1 r8.2.2.2.1 r8.2.2.2.2.1 r8.2.2.2.2.2.1 r8.2.2.2.2.2.2.1 r8.2.2.2.2.2.2.2)) 7)] : LA_), 1)))))))))) (ke (v.1, v.2.1)))
def qw (cc : Nat × Nat) (v : fa) : Option ((fa) ⊕ ((LA_ × LA_))) := fZ cc v (fun v => some (Sum.inl v)) fun e => some (Sum.inr e)
def zv (cc : Nat × Nat) (v : fa) : Option ((LA_ × LA_)) := dz (qw cc) v
def Fi (cc : Nat × Nat) (v : fa) : List af := [.I v.2.2.1, .C v.1, .N cc.1, .C v.2.1, .N cc.2, .C v.2.2.2.1, .N v.s4]
def uU (ls : List af) : Option ((Nat × Nat) × (fa)) := match ls with
 | [.I x0, .C x1, .N x2, .C x3, .N x4, .C x5, .N x6] => some ((x2, x4), (x1, x3, x0, x5, x6))
 | _ => none
def uV (e : (LA_ × LA_)) : an := ((fun e => .exit 0) e)
def uW (cc : Nat × Nat) (e : (LA_ × LA_)) : List af := ((fun e => [.C e.1, .N cc.1, .C e.2, .N cc.2]) e)
def my (cc : Nat × Nat) (e : (LA_ × LA_)) : List af := ((fun e => [.N cc.1, .N cc.2]) e)
def nA (o : an) (ls : List af) : Option (((LA_ × LA_)) × List af) := match o with
 | .exit 0 => (match ls with
  | [.C x0, .N x1, .C x2, .N x3] => some ((x0, x2), [.N x1, .N x3])
  | _ => none)
 | _ => none
theorem Be : ∀ o ls e cl cc, nA o ls = some (e, cl) → cl = my cc e → ls = uW cc e ∧ uV e = o ∧ o ≠ .normal ∧ ∀ v, o = .pan v → sc 0 v = true := by
 intro o ls e cl cc h hc
 unfold nA at h
 split at h
 ·split at h
  ·cases h
   simp only [my, List.cons.injEq, af.N.injEq, and_true] at hc
   obtain ⟨rfl, rfl⟩ := hc
   exact ⟨rfl, rfl, by simp, by intro v hv; cases hv <;> rfl⟩
  ·cases h
 ·cases h
def Ho (o : an) : ExS := match o with
 | .exit 0 => ⟨2, (none :: none :: none :: none :: some (.ptr 0 0) :: some (.ptr 1 0) :: (rl none 41 [])), [(0, .vec 8 true), (1, .vec 8 true)], fun s => [ak s 4 [], ak s 5 []], [], []⟩
 | _ => ⟨0, [], [], fun _ => [], [], []⟩
theorem Fj {R : Type} (cc : Nat × Nat) (v : fa) (kn : (fa) → Option R) (ke : ((LA_ × LA_)) → Option R) : fZ cc v kn ke = (fZ cc v (fun v => some (Sum.inl v)) fun e => some (Sum.inr e)).bind (Sum.elim kn ke) := by
 simp only [fZ, bH, ai, Yg, bZ, bB, Ye, Yf, YF, YE]
def yu : LD where
 CC := Nat × Nat
 V := fa
 E := (LA_ × LA_)
 n := 0
 K := 3
 M := (none :: none :: none :: none :: some (.ptr 0 0) :: some (.ptr 1 0) :: some (.int .i64) :: some (.ptr 2 0) :: (rl none 39 []))
 B := [(0, .vec 8 true), (1, .vec 8 true), (2, .vec 8 true)]
 D := []
 pre := []
 F := fun s => [ak s 4 [], ak s 5 [], ak s 7 []]
 toL := Fi
 ofL := uU
 ar := fun ls c v h => by
  unfold uU at h
  split at h
  ·cases h; rfl
  ·cases h
 ct := fZ
 nat := Fj
 sh := Ho
 out := uV
 toE := uW
 eY := my
 ofE := nA
 cQ := Be
 post := fun cc e k => ((fun e => k (.exit 0) (bc 2 (none :: none :: none :: none :: some (.ptr 0 0) :: some (.ptr 1 0) :: (rl none 41 [])) [(0, .vec e.1 cc.1 8 true), (1, .vec e.2 cc.2 8 true)] [])) e)
 cd := fun cc e k => by rfl
theorem Fk : cJ YI 0 yu.la (aJ Tryz.f107 0) :=
 LD.ok (ch := sB) (A := bw) aK uT mixed (fuel := 60) ⟨by kernel_rfl, fun e => by kernel_rfl, fun cc v => by kernel_rfl, aH (l := []) (by kernel_rfl) trivial⟩
def nv (a0 a1 a2 a3 a4 a5 a6 a7 a8 a9 a10 a11 a12 a13 a14 a15 : Int) : Option (Al) :=
 (Option.bind (jc a0 a1 a2 a3 a4 a5 a6 a7) fun r1 => (Option.bind (jc a8 a9 a10 a11 a12 a13 a14 a15) fun r2 => (cond (decide ((IntKind.wrap .i64 (r1 - r2)) < 0)) (some (0, 0, 0, 0, 0, 0, 0, 0, a0, a1, a2, a3, a4, a5, a6, a7)) (Option.bind (pD a8 a9 a10 a11 a12 a13 a14 a15 (IntKind.wrap .i64 (r1 - r2))) fun r3 => (Option.bind (zv (1, 1) ((bN 0 0 0 0 0 0 0 0), (bN a0 a1 a2 a3 a4 a5 a6 a7), (IntKind.wrap .i64 (r1 - r2)), (bN r3.1 r3.2.1 r3.2.2.1 r3.2.2.2.1 r3.2.2.2.2.1 r3.2.2.2.2.2.1 r3.2.2.2.2.2.2.1 r3.2.2.2.2.2.2.2), 1)) fun e4 => (ah (aw gK e4.1 0) (ah (aw gK e4.2 0) (ah (decide (0 + 8 ≤ List.length e4.1)) (ah (decide (0 + 8 ≤ List.length e4.2)) (ah (aw gK (spliced e4.1 0 (bN (ac e4.1 0) (ac e4.1 1) (ac e4.1 2) (ac e4.1 3) (ac e4.1 4) (ac e4.1 5) (ac e4.1 6) (ac e4.1 7))) 0) (ah (aw gK (spliced e4.2 0 (bN (ac e4.2 0) (ac e4.2 1) (ac e4.2 2) (ac e4.2 3) (ac e4.2 4) (ac e4.2 5) (ac e4.2 6) (ac e4.2 7))) 0) (some ((ac (spliced e4.1 0 (bN (ac e4.1 0) (ac e4.1 1) (ac e4.1 2) (ac e4.1 3) (ac e4.1 4) (ac e4.1 5) (ac e4.1 6) (ac e4.1 7))) 0), (ac (spliced e4.1 0 (bN (ac e4.1 0) (ac e4.1 1) (ac e4.1 2) (ac e4.1 3) (ac e4.1 4) (ac e4.1 5) (ac e4.1 6) (ac e4.1 7))) 1), (ac (spliced e4.1 0 (bN (ac e4.1 0) (ac e4.1 1) (ac e4.1 2) (ac e4.1 3) (ac e4.1 4) (ac e4.1 5) (ac e4.1 6) (ac e4.1 7))) 2), (ac (spliced e4.1 0 (bN (ac e4.1 0) (ac e4.1 1) (ac e4.1 2) (ac e4.1 3) (ac e4.1 4) (ac e4.1 5) (ac e4.1 6) (ac e4.1 7))) 3), (ac (spliced e4.1 0 (bN (ac e4.1 0) (ac e4.1 1) (ac e4.1 2) (ac e4.1 3) (ac e4.1 4) (ac e4.1 5) (ac e4.1 6) (ac e4.1 7))) 4), (ac (spliced e4.1 0 (bN (ac e4.1 0) (ac e4.1 1) (ac e4.1 2) (ac e4.1 3) (ac e4.1 4) (ac e4.1 5) (ac e4.1 6) (ac e4.1 7))) 5), (ac (spliced e4.1 0 (bN (ac e4.1 0) (ac e4.1 1) (ac e4.1 2) (ac e4.1 3) (ac e4.1 4) (ac e4.1 5) (ac e4.1 6) (ac e4.1 7))) 6), (ac (spliced e4.1 0 (bN (ac e4.1 0) (ac e4.1 1) (ac e4.1 2) (ac e4.1 3) (ac e4.1 4) (ac e4.1 5) (ac e4.1 6) (ac e4.1 7))) 7), (ac (spliced e4.2 0 (bN (ac e4.2 0) (ac e4.2 1) (ac e4.2 2) (ac e4.2 3) (ac e4.2 4) (ac e4.2 5) (ac e4.2 6) (ac e4.2 7))) 0), (ac (spliced e4.2 0 (bN (ac e4.2 0) (ac e4.2 1) (ac e4.2 2) (ac e4.2 3) (ac e4.2 4) (ac e4.2 5) (ac e4.2 6) (ac e4.2 7))) 1), (ac (spliced e4.2 0 (bN (ac e4.2 0) (ac e4.2 1) (ac e4.2 2) (ac e4.2 3) (ac e4.2 4) (ac e4.2 5) (ac e4.2 6) (ac e4.2 7))) 2), (ac (spliced e4.2 0 (bN (ac e4.2 0) (ac e4.2 1) (ac e4.2 2) (ac e4.2 3) (ac e4.2 4) (ac e4.2 5) (ac e4.2 6) (ac e4.2 7))) 3), (ac (spliced e4.2 0 (bN (ac e4.2 0) (ac e4.2 1) (ac e4.2 2) (ac e4.2 3) (ac e4.2 4) (ac e4.2 5) (ac e4.2 6) (ac e4.2 7))) 4), (ac (spliced e4.2 0 (bN (ac e4.2 0) (ac e4.2 1) (ac e4.2 2) (ac e4.2 3) (ac e4.2 4) (ac e4.2 5) (ac e4.2 6) (ac e4.2 7))) 5), (ac (spliced e4.2 0 (bN (ac e4.2 0) (ac e4.2 1) (ac e4.2 2) (ac e4.2 3) (ac e4.2 4) (ac e4.2 5) (ac e4.2 6) (ac e4.2 7))) 6), (ac (spliced e4.2 0 (bN (ac e4.2 0) (ac e4.2 1) (ac e4.2 2) (ac e4.2 3) (ac e4.2 4) (ac e4.2 5) (ac e4.2 6) (ac e4.2 7))) 7))))))))))))))
def oz : FD where
 X := Al
 k := 0
 pre := []
 F := fun s => []
 M := .tup [.agg (rl (.int .u64) 8 []), .agg (rl (.int .u64) 8 [])]
 B := []
 toL := fun x => [.I x.1, .I x.2.1, .I x.2.2.1, .I x.2.2.2.1, .I x.s4.1, .I x.s4.2.1, .I x.s4.2.2.1, .I x.s4.2.2.2.1, .I x.s8.1, .I x.s8.2.1, .I x.s8.2.2.1, .I x.s8.2.2.2.1, .I x.s8.s4.1, .I x.s8.s4.2.1, .I x.s8.s4.2.2.1, .I x.s8.s4.2.2.2]
 ofL := fun ls => match ls with
  | [.I x0, .I x1, .I x2, .I x3, .I x4, .I x5, .I x6, .I x7, .I x8, .I x9, .I x10, .I x11, .I x12, .I x13, .I x14, .I x15] => some (x0, x1, x2, x3, x4, x5, x6, x7, x8, x9, x10, x11, x12, x13, x14, x15)
  | _ => none
 ar := fun ls x h => by
  split at h
  ·cases h; rfl
  ·cases h
theorem IF (a0 a1 a2 a3 a4 a5 a6 a7 a8 a9 a10 a11 a12 a13 a14 a15 : Int) (x : Al) (h : nv a0 a1 a2 a3 a4 a5 a6 a7 a8 a9 a10 a11 a12 a13 a14 a15 = some x) : aP YI 107 0 [.agg (bN a0 a1 a2 a3 a4 a5 a6 a7), .agg (bN a8 a9 a10 a11 a12 a13 a14 a15)] [] oz x :=
 FD.sem (ch := sB) (A := dL [(6, yu.la)]) (fn := Tryz.f107) (c := br Tryz.f107) (fuel := 60) aK uT mixed bI oz Tryz.func107 (by kernel_rfl) (aH (l := [aJ Tryz.f107 0]) (by kernel_rfl) ⟨bT (by kernel_rfl) Fk, trivial⟩)
  (by kernel_rfl) (Eq.trans (by kernel_rfl) h)
def yn : HK where
 call := fun args σ k => match args with
  | [.agg [.int .u64 a0, .int .u64 a1, .int .u64 a2, .int .u64 a3, .int .u64 a4, .int .u64 a5, .int .u64 a6, .int .u64 a7], .agg [.int .u64 a8, .int .u64 a9, .int .u64 a10, .int .u64 a11, .int .u64 a12, .int .u64 a13, .int .u64 a14, .int .u64 a15]] => Option.bind (nv a0 a1 a2 a3 a4 a5 a6 a7 a8 a9 a10 a11 a12 a13 a14 a15) fun y => au σ 0 (oz.val y) (oz.aI y) k
  | _ => none
 nat := fun args σ k => by
  repeat' split
  all_goals simp only [ao, ai, Yg, Yf, au, Ye]
 pure := true
 pok := fun _ args σ r σ' h => by
  split at h
  ·exact aZ h (fun y => rfl) (fun y f => rfl)
  ·cases h
theorem JJ : aN YI 107 yn := by
 intro args σ r σ' h
 simp only [yn] at h
 split at h
 ·rename_i a0 a1 a2 a3 a4 a5 a6 a7 a8 a9 a10 a11 a12 a13 a14 a15
  obtain ⟨y, hy, h⟩ := bE_ h
  exact aG (xs := []) (ls := []) (cargs := [.agg (bN a0 a1 a2 a3 a4 a5 a6 a7), .agg (bN a8 a9 a10 a11 a12 a13 a14 a15)]) (bg.of trivial) rfl (IF a0 a1 a2 a3 a4 a5 a6 a7 a8 a9 a10 a11 a12 a13 a14 a15 y hy) rfl rfl rfl rfl h
 ·cases h
def IG : CH := (CH.add 109 ny (CH.add 60 dc CH.none))
theorem Ej : aB YI IG := (CH.aj sr (CH.aj dl CH.ay))
def bt (a0 a1 a2 a3 a4 a5 a6 a7 : Int) (q8 : Bool) : Option (Int × Int × Int × Int × Int × Int × Int × Int) :=
 (cond q8 (Option.bind (fx a0 a1 a2 a3 a4 a5 a6 a7) fun r1 => (cond (!(r1.1 == 0 && (r1.2.1 == 0 && (r1.2.2.1 == 0 && (r1.2.2.2.1 == 0 && (r1.2.2.2.2.1 == 0 && (r1.2.2.2.2.2.1 == 0 && (r1.2.2.2.2.2.2.1 == 0 && (r1.2.2.2.2.2.2.2 == 0 && true))))))))) (Option.bind (am r1.1 r1.2.1 r1.2.2.1 r1.2.2.2.1 r1.2.2.2.2.1 r1.2.2.2.2.2.1 r1.2.2.2.2.2.2.1 r1.2.2.2.2.2.2.2) fun r2 => (cond r2 (cond q8 (some (r1.1, r1.2.1, r1.2.2.1, r1.2.2.2.1, r1.2.2.2.2.1, r1.2.2.2.2.2.1, r1.2.2.2.2.2.2.1, r1.2.2.2.2.2.2.2)) none) (cond q8 none (some (r1.1, r1.2.1, r1.2.2.1, r1.2.2.2.1, r1.2.2.2.2.1, r1.2.2.2.2.2.1, r1.2.2.2.2.2.2.1, r1.2.2.2.2.2.2.2))))) (some (r1.1, r1.2.1, r1.2.2.1, r1.2.2.2.1, r1.2.2.2.2.1, r1.2.2.2.2.2.1, r1.2.2.2.2.2.2.1, r1.2.2.2.2.2.2.2)))) (cond (!(a0 == 0 && (a1 == 0 && (a2 == 0 && (a3 == 0 && (a4 == 0 && (a5 == 0 && (a6 == 0 && (a7 == 0 && true))))))))) (Option.bind (am a0 a1 a2 a3 a4 a5 a6 a7) fun r3 => (cond r3 (cond q8 (some (a0, a1, a2, a3, a4, a5, a6, a7)) none) (cond q8 none (some (a0, a1, a2, a3, a4, a5, a6, a7))))) (some (a0, a1, a2, a3, a4, a5, a6, a7))))
def mP : FD where
 X := Int × Int × Int × Int × Int × Int × Int × Int
 k := 0
 pre := []
 F := fun s => []
 M := .agg (rl (.int .u64) 8 [])
 B := []
 toL := fun x => [.I x.1, .I x.2.1, .I x.2.2.1, .I x.2.2.2.1, .I x.s4.1, .I x.s4.2.1, .I x.s4.2.2.1, .I x.s4.2.2.2]
 ofL := fun ls => match ls with
  | [.I x0, .I x1, .I x2, .I x3, .I x4, .I x5, .I x6, .I x7] => some (x0, x1, x2, x3, x4, x5, x6, x7)
  | _ => none
 ar := fun ls x h => by
  split at h
  ·cases h; rfl
  ·cases h
theorem Hr (a0 a1 a2 a3 a4 a5 a6 a7 : Int) (q8 : Bool) (x : Int × Int × Int × Int × Int × Int × Int × Int) (h : bt a0 a1 a2 a3 a4 a5 a6 a7 q8 = some x) : aP YI 87 0 [.agg (bN a0 a1 a2 a3 a4 a5 a6 a7), .bool q8] [] mP x :=
 FD.semA mP Ej Tryz.func87 (fuel := 60) (by kernel_rfl) (by kernel_rfl)
  (by kernel_rfl) (Eq.trans (by kernel_rfl) h)
def vO : HK where
 call := fun args σ k => match args with
  | [.agg [.int .u64 a0, .int .u64 a1, .int .u64 a2, .int .u64 a3, .int .u64 a4, .int .u64 a5, .int .u64 a6, .int .u64 a7], .bool q8] => Option.bind (bt a0 a1 a2 a3 a4 a5 a6 a7 q8) fun y => au σ 0 (mP.val y) (mP.aI y) k
  | _ => none
 nat := fun args σ k => by
  repeat' split
  all_goals simp only [ao, ai, Yg, Yf, au, Ye]
 pure := true
 pok := fun _ args σ r σ' h => by
  split at h
  ·exact aZ h (fun y => rfl) (fun y f => rfl)
  ·cases h
theorem Iu : aN YI 87 vO := by
 intro args σ r σ' h
 simp only [vO] at h
 split at h
 ·rename_i a0 a1 a2 a3 a4 a5 a6 a7 q8
  obtain ⟨y, hy, h⟩ := bE_ h
  exact aG (xs := []) (ls := []) (cargs := [.agg (bN a0 a1 a2 a3 a4 a5 a6 a7), .bool q8]) (bg.of trivial) rfl (Hr a0 a1 a2 a3 a4 a5 a6 a7 q8 y hy) rfl rfl rfl rfl h
 ·cases h
abbrev E9 := (I8 (I8 Bool))
def Dm : CH := (CH.add 107 yn (CH.add 87 vO (CH.add 84 um (CH.add 60 dc (CH.add 59 ov (CH.add 58 jL (CH.add 56 un CH.none)))))))
theorem It : aB YI Dm := (CH.aj JJ (CH.aj Iu (CH.aj A6 (CH.aj dl (CH.aj pO (CH.aj kH (CH.aj A7 CH.ay)))))))
def lE (a0 a1 a2 a3 a4 a5 a6 a7 a8 a9 a10 a11 a12 a13 a14 a15 : Int) : Option (E9) :=
 (Option.bind (mc a8 a9 a10 a11 a12 a13 a14 a15) fun r1 => (cond (r1 == 0) (some (0, 0, 0, 0, 0, 0, 0, 0, 0, 0, 0, 0, 0, 0, 0, 0, false)) (Option.bind (dT a0 a1 a2 a3 a4 a5 a6 a7) fun r2 => (Option.bind (dT a8 a9 a10 a11 a12 a13 a14 a15) fun r3 => (Option.bind (nv r2.1 r2.2.1 r2.2.2.1 r2.2.2.2.1 r2.2.2.2.2.1 r2.2.2.2.2.2.1 r2.2.2.2.2.2.2.1 r2.2.2.2.2.2.2.2 r3.1 r3.2.1 r3.2.2.1 r3.2.2.2.1 r3.2.2.2.2.1 r3.2.2.2.2.2.1 r3.2.2.2.2.2.2.1 r3.2.2.2.2.2.2.2) fun r4 => (Option.bind (am a0 a1 a2 a3 a4 a5 a6 a7) fun r5 => (cond r5 (Option.bind (am a8 a9 a10 a11 a12 a13 a14 a15) fun r6 => (cond r6 (Option.bind (bt r4.1 r4.2.1 r4.2.2.1 r4.2.2.2.1 r4.2.2.2.2.1 r4.2.2.2.2.2.1 r4.2.2.2.2.2.2.1 r4.2.2.2.2.2.2.2.1 false) fun r7 => (Option.bind (am a8 a9 a10 a11 a12 a13 a14 a15) fun r8 => (cond r8 (Option.bind (bt r4.2.2.2.2.2.2.2.2.1 r4.2.2.2.2.2.2.2.2.2.1 r4.2.2.2.2.2.2.2.2.2.2.1 r4.2.2.2.2.2.2.2.2.2.2.2.1 r4.2.2.2.2.2.2.2.2.2.2.2.2.1 r4.2.2.2.2.2.2.2.2.2.2.2.2.2.1 r4.2.2.2.2.2.2.2.2.2.2.2.2.2.2.1 r4.2.2.2.2.2.2.2.2.2.2.2.2.2.2.2 true) fun r9 => (some (r7.1, r7.2.1, r7.2.2.1, r7.2.2.2.1, r7.2.2.2.2.1, r7.2.2.2.2.2.1, r7.2.2.2.2.2.2.1, r7.2.2.2.2.2.2.2, r9.1, r9.2.1, r9.2.2.1, r9.2.2.2.1, r9.2.2.2.2.1, r9.2.2.2.2.2.1, r9.2.2.2.2.2.2.1, r9.2.2.2.2.2.2.2, true))) (Option.bind (bt r4.2.2.2.2.2.2.2.2.1 r4.2.2.2.2.2.2.2.2.2.1 r4.2.2.2.2.2.2.2.2.2.2.1 r4.2.2.2.2.2.2.2.2.2.2.2.1 r4.2.2.2.2.2.2.2.2.2.2.2.2.1 r4.2.2.2.2.2.2.2.2.2.2.2.2.2.1 r4.2.2.2.2.2.2.2.2.2.2.2.2.2.2.1 r4.2.2.2.2.2.2.2.2.2.2.2.2.2.2.2 false) fun r10 => (some (r7.1, r7.2.1, r7.2.2.1, r7.2.2.2.1, r7.2.2.2.2.1, r7.2.2.2.2.2.1, r7.2.2.2.2.2.2.1, r7.2.2.2.2.2.2.2, r10.1, r10.2.1, r10.2.2.1, r10.2.2.2.1, r10.2.2.2.2.1, r10.2.2.2.2.2.1, r10.2.2.2.2.2.2.1, r10.2.2.2.2.2.2.2, true)))))) (cond (!(r4.2.2.2.2.2.2.2.2.1 == 0 && (r4.2.2.2.2.2.2.2.2.2.1 == 0 && (r4.2.2.2.2.2.2.2.2.2.2.1 == 0 && (r4.2.2.2.2.2.2.2.2.2.2.2.1 == 0 && (r4.2.2.2.2.2.2.2.2.2.2.2.2.1 == 0 && (r4.2.2.2.2.2.2.2.2.2.2.2.2.2.1 == 0 && (r4.2.2.2.2.2.2.2.2.2.2.2.2.2.2.1 == 0 && (r4.2.2.2.2.2.2.2.2.2.2.2.2.2.2.2 == 0 && true))))))))) (Option.bind (dS r4.1 r4.2.1 r4.2.2.1 r4.2.2.2.1 r4.2.2.2.2.1 r4.2.2.2.2.2.1 r4.2.2.2.2.2.2.1 r4.2.2.2.2.2.2.2.1 0 0 0 0 0 0 0 0 1) fun r11 => (Option.bind (dT a8 a9 a10 a11 a12 a13 a14 a15) fun r12 => (Option.bind (ij r4.2.2.2.2.2.2.2.2.1 r4.2.2.2.2.2.2.2.2.2.1 r4.2.2.2.2.2.2.2.2.2.2.1 r4.2.2.2.2.2.2.2.2.2.2.2.1 r4.2.2.2.2.2.2.2.2.2.2.2.2.1 r4.2.2.2.2.2.2.2.2.2.2.2.2.2.1 r4.2.2.2.2.2.2.2.2.2.2.2.2.2.2.1 r4.2.2.2.2.2.2.2.2.2.2.2.2.2.2.2) fun r13 => (Option.bind (dS r12.1 r12.2.1 r12.2.2.1 r12.2.2.2.1 r12.2.2.2.2.1 r12.2.2.2.2.2.1 r12.2.2.2.2.2.2.1 r12.2.2.2.2.2.2.2 r13.1 r13.2.1 r13.2.2.1 r13.2.2.2.1 r13.2.2.2.2.1 r13.2.2.2.2.2.1 r13.2.2.2.2.2.2.1 r13.2.2.2.2.2.2.2 1) fun r14 => (Option.bind (bt r11.1 r11.2.1 r11.2.2.1 r11.2.2.2.1 r11.2.2.2.2.1 r11.2.2.2.2.2.1 r11.2.2.2.2.2.2.1 r11.2.2.2.2.2.2.2 true) fun r15 => (Option.bind (am a8 a9 a10 a11 a12 a13 a14 a15) fun r16 => (cond r16 (Option.bind (bt r14.1 r14.2.1 r14.2.2.1 r14.2.2.2.1 r14.2.2.2.2.1 r14.2.2.2.2.2.1 r14.2.2.2.2.2.2.1 r14.2.2.2.2.2.2.2 true) fun r17 => (some (r15.1, r15.2.1, r15.2.2.1, r15.2.2.2.1, r15.2.2.2.2.1, r15.2.2.2.2.2.1, r15.2.2.2.2.2.2.1, r15.2.2.2.2.2.2.2, r17.1, r17.2.1, r17.2.2.1, r17.2.2.2.1, r17.2.2.2.2.1, r17.2.2.2.2.2.1, r17.2.2.2.2.2.2.1, r17.2.2.2.2.2.2.2, true))) (Option.bind (bt r14.1 r14.2.1 r14.2.2.1 r14.2.2.2.1 r14.2.2.2.2.1 r14.2.2.2.2.2.1 r14.2.2.2.2.2.2.1 r14.2.2.2.2.2.2.2 false) fun r18 => (some (r15.1, r15.2.1, r15.2.2.1, r15.2.2.2.1, r15.2.2.2.2.1, r15.2.2.2.2.2.1, r15.2.2.2.2.2.2.1, r15.2.2.2.2.2.2.2, r18.1, r18.2.1, r18.2.2.1, r18.2.2.2.1, r18.2.2.2.2.1, r18.2.2.2.2.2.1, r18.2.2.2.2.2.2.1, r18.2.2.2.2.2.2.2, true)))))))))) (Option.bind (bt r4.1 r4.2.1 r4.2.2.1 r4.2.2.2.1 r4.2.2.2.2.1 r4.2.2.2.2.2.1 r4.2.2.2.2.2.2.1 r4.2.2.2.2.2.2.2.1 true) fun r19 => (Option.bind (am a8 a9 a10 a11 a12 a13 a14 a15) fun r20 => (cond r20 (Option.bind (bt r4.2.2.2.2.2.2.2.2.1 r4.2.2.2.2.2.2.2.2.2.1 r4.2.2.2.2.2.2.2.2.2.2.1 r4.2.2.2.2.2.2.2.2.2.2.2.1 r4.2.2.2.2.2.2.2.2.2.2.2.2.1 r4.2.2.2.2.2.2.2.2.2.2.2.2.2.1 r4.2.2.2.2.2.2.2.2.2.2.2.2.2.2.1 r4.2.2.2.2.2.2.2.2.2.2.2.2.2.2.2 true) fun r21 => (some (r19.1, r19.2.1, r19.2.2.1, r19.2.2.2.1, r19.2.2.2.2.1, r19.2.2.2.2.2.1, r19.2.2.2.2.2.2.1, r19.2.2.2.2.2.2.2, r21.1, r21.2.1, r21.2.2.1, r21.2.2.2.1, r21.2.2.2.2.1, r21.2.2.2.2.2.1, r21.2.2.2.2.2.2.1, r21.2.2.2.2.2.2.2, true))) (Option.bind (bt r4.2.2.2.2.2.2.2.2.1 r4.2.2.2.2.2.2.2.2.2.1 r4.2.2.2.2.2.2.2.2.2.2.1 r4.2.2.2.2.2.2.2.2.2.2.2.1 r4.2.2.2.2.2.2.2.2.2.2.2.2.1 r4.2.2.2.2.2.2.2.2.2.2.2.2.2.1 r4.2.2.2.2.2.2.2.2.2.2.2.2.2.2.1 r4.2.2.2.2.2.2.2.2.2.2.2.2.2.2.2 false) fun r22 => (some (r19.1, r19.2.1, r19.2.2.1, r19.2.2.2.1, r19.2.2.2.2.1, r19.2.2.2.2.2.1, r19.2.2.2.2.2.2.1, r19.2.2.2.2.2.2.2, r22.1, r22.2.1, r22.2.2.1, r22.2.2.2.1, r22.2.2.2.2.1, r22.2.2.2.2.2.1, r22.2.2.2.2.2.2.1, r22.2.2.2.2.2.2.2, true))))))))) (Option.bind (am a8 a9 a10 a11 a12 a13 a14 a15) fun r23 => (cond r23 (cond (!(r4.2.2.2.2.2.2.2.2.1 == 0 && (r4.2.2.2.2.2.2.2.2.2.1 == 0 && (r4.2.2.2.2.2.2.2.2.2.2.1 == 0 && (r4.2.2.2.2.2.2.2.2.2.2.2.1 == 0 && (r4.2.2.2.2.2.2.2.2.2.2.2.2.1 == 0 && (r4.2.2.2.2.2.2.2.2.2.2.2.2.2.1 == 0 && (r4.2.2.2.2.2.2.2.2.2.2.2.2.2.2.1 == 0 && (r4.2.2.2.2.2.2.2.2.2.2.2.2.2.2.2 == 0 && true))))))))) (Option.bind (dS r4.1 r4.2.1 r4.2.2.1 r4.2.2.2.1 r4.2.2.2.2.1 r4.2.2.2.2.2.1 r4.2.2.2.2.2.2.1 r4.2.2.2.2.2.2.2.1 0 0 0 0 0 0 0 0 1) fun r24 => (Option.bind (dT a8 a9 a10 a11 a12 a13 a14 a15) fun r25 => (Option.bind (ij r4.2.2.2.2.2.2.2.2.1 r4.2.2.2.2.2.2.2.2.2.1 r4.2.2.2.2.2.2.2.2.2.2.1 r4.2.2.2.2.2.2.2.2.2.2.2.1 r4.2.2.2.2.2.2.2.2.2.2.2.2.1 r4.2.2.2.2.2.2.2.2.2.2.2.2.2.1 r4.2.2.2.2.2.2.2.2.2.2.2.2.2.2.1 r4.2.2.2.2.2.2.2.2.2.2.2.2.2.2.2) fun r26 => (Option.bind (dS r25.1 r25.2.1 r25.2.2.1 r25.2.2.2.1 r25.2.2.2.2.1 r25.2.2.2.2.2.1 r25.2.2.2.2.2.2.1 r25.2.2.2.2.2.2.2 r26.1 r26.2.1 r26.2.2.1 r26.2.2.2.1 r26.2.2.2.2.1 r26.2.2.2.2.2.1 r26.2.2.2.2.2.2.1 r26.2.2.2.2.2.2.2 1) fun r27 => (Option.bind (bt r24.1 r24.2.1 r24.2.2.1 r24.2.2.2.1 r24.2.2.2.2.1 r24.2.2.2.2.2.1 r24.2.2.2.2.2.2.1 r24.2.2.2.2.2.2.2 true) fun r28 => (Option.bind (am a8 a9 a10 a11 a12 a13 a14 a15) fun r29 => (cond r29 (Option.bind (bt r27.1 r27.2.1 r27.2.2.1 r27.2.2.2.1 r27.2.2.2.2.1 r27.2.2.2.2.2.1 r27.2.2.2.2.2.2.1 r27.2.2.2.2.2.2.2 true) fun r30 => (some (r28.1, r28.2.1, r28.2.2.1, r28.2.2.2.1, r28.2.2.2.2.1, r28.2.2.2.2.2.1, r28.2.2.2.2.2.2.1, r28.2.2.2.2.2.2.2, r30.1, r30.2.1, r30.2.2.1, r30.2.2.2.1, r30.2.2.2.2.1, r30.2.2.2.2.2.1, r30.2.2.2.2.2.2.1, r30.2.2.2.2.2.2.2, true))) (Option.bind (bt r27.1 r27.2.1 r27.2.2.1 r27.2.2.2.1 r27.2.2.2.2.1 r27.2.2.2.2.2.1 r27.2.2.2.2.2.2.1 r27.2.2.2.2.2.2.2 false) fun r31 => (some (r28.1, r28.2.1, r28.2.2.1, r28.2.2.2.1, r28.2.2.2.2.1, r28.2.2.2.2.2.1, r28.2.2.2.2.2.2.1, r28.2.2.2.2.2.2.2, r31.1, r31.2.1, r31.2.2.1, r31.2.2.2.1, r31.2.2.2.2.1, r31.2.2.2.2.2.1, r31.2.2.2.2.2.2.1, r31.2.2.2.2.2.2.2, true)))))))))) (Option.bind (bt r4.1 r4.2.1 r4.2.2.1 r4.2.2.2.1 r4.2.2.2.2.1 r4.2.2.2.2.2.1 r4.2.2.2.2.2.2.1 r4.2.2.2.2.2.2.2.1 true) fun r32 => (Option.bind (am a8 a9 a10 a11 a12 a13 a14 a15) fun r33 => (cond r33 (Option.bind (bt r4.2.2.2.2.2.2.2.2.1 r4.2.2.2.2.2.2.2.2.2.1 r4.2.2.2.2.2.2.2.2.2.2.1 r4.2.2.2.2.2.2.2.2.2.2.2.1 r4.2.2.2.2.2.2.2.2.2.2.2.2.1 r4.2.2.2.2.2.2.2.2.2.2.2.2.2.1 r4.2.2.2.2.2.2.2.2.2.2.2.2.2.2.1 r4.2.2.2.2.2.2.2.2.2.2.2.2.2.2.2 true) fun r34 => (some (r32.1, r32.2.1, r32.2.2.1, r32.2.2.2.1, r32.2.2.2.2.1, r32.2.2.2.2.2.1, r32.2.2.2.2.2.2.1, r32.2.2.2.2.2.2.2, r34.1, r34.2.1, r34.2.2.1, r34.2.2.2.1, r34.2.2.2.2.1, r34.2.2.2.2.2.1, r34.2.2.2.2.2.2.1, r34.2.2.2.2.2.2.2, true))) (Option.bind (bt r4.2.2.2.2.2.2.2.2.1 r4.2.2.2.2.2.2.2.2.2.1 r4.2.2.2.2.2.2.2.2.2.2.1 r4.2.2.2.2.2.2.2.2.2.2.2.1 r4.2.2.2.2.2.2.2.2.2.2.2.2.1 r4.2.2.2.2.2.2.2.2.2.2.2.2.2.1 r4.2.2.2.2.2.2.2.2.2.2.2.2.2.2.1 r4.2.2.2.2.2.2.2.2.2.2.2.2.2.2.2 false) fun r35 => (some (r32.1, r32.2.1, r32.2.2.1, r32.2.2.2.1, r32.2.2.2.2.1, r32.2.2.2.2.2.1, r32.2.2.2.2.2.2.1, r32.2.2.2.2.2.2.2, r35.1, r35.2.1, r35.2.2.1, r35.2.2.2.1, r35.2.2.2.2.1, r35.2.2.2.2.2.1, r35.2.2.2.2.2.2.1, r35.2.2.2.2.2.2.2, true))))))) (Option.bind (bt r4.1 r4.2.1 r4.2.2.1 r4.2.2.2.1 r4.2.2.2.2.1 r4.2.2.2.2.2.1 r4.2.2.2.2.2.2.1 r4.2.2.2.2.2.2.2.1 false) fun r36 => (Option.bind (am a8 a9 a10 a11 a12 a13 a14 a15) fun r37 => (cond r37 (Option.bind (bt r4.2.2.2.2.2.2.2.2.1 r4.2.2.2.2.2.2.2.2.2.1 r4.2.2.2.2.2.2.2.2.2.2.1 r4.2.2.2.2.2.2.2.2.2.2.2.1 r4.2.2.2.2.2.2.2.2.2.2.2.2.1 r4.2.2.2.2.2.2.2.2.2.2.2.2.2.1 r4.2.2.2.2.2.2.2.2.2.2.2.2.2.2.1 r4.2.2.2.2.2.2.2.2.2.2.2.2.2.2.2 true) fun r38 => (some (r36.1, r36.2.1, r36.2.2.1, r36.2.2.2.1, r36.2.2.2.2.1, r36.2.2.2.2.2.1, r36.2.2.2.2.2.2.1, r36.2.2.2.2.2.2.2, r38.1, r38.2.1, r38.2.2.1, r38.2.2.2.1, r38.2.2.2.2.1, r38.2.2.2.2.2.1, r38.2.2.2.2.2.2.1, r38.2.2.2.2.2.2.2, true))) (Option.bind (bt r4.2.2.2.2.2.2.2.2.1 r4.2.2.2.2.2.2.2.2.2.1 r4.2.2.2.2.2.2.2.2.2.2.1 r4.2.2.2.2.2.2.2.2.2.2.2.1 r4.2.2.2.2.2.2.2.2.2.2.2.2.1 r4.2.2.2.2.2.2.2.2.2.2.2.2.2.1 r4.2.2.2.2.2.2.2.2.2.2.2.2.2.2.1 r4.2.2.2.2.2.2.2.2.2.2.2.2.2.2.2 false) fun r39 => (some (r36.1, r36.2.1, r36.2.2.1, r36.2.2.2.1, r36.2.2.2.2.1, r36.2.2.2.2.2.1, r36.2.2.2.2.2.2.1, r36.2.2.2.2.2.2.2, r39.1, r39.2.1, r39.2.2.1, r39.2.2.2.1, r39.2.2.2.2.1, r39.2.2.2.2.2.1, r39.2.2.2.2.2.2.1, r39.2.2.2.2.2.2.2, true)))))))))))))))
def sj : FD where
 X := E9
 k := 0
 pre := []
 F := fun s => []
 M := .tup [.agg (rl (.int .u64) 8 []), .agg (rl (.int .u64) 8 []), .bool]
 B := []
 toL := fun x => [.I x.1, .I x.2.1, .I x.2.2.1, .I x.2.2.2.1, .I x.s4.1, .I x.s4.2.1, .I x.s4.2.2.1, .I x.s4.2.2.2.1, .I x.s8.1, .I x.s8.2.1, .I x.s8.2.2.1, .I x.s8.2.2.2.1, .I x.s8.s4.1, .I x.s8.s4.2.1, .I x.s8.s4.2.2.1, .I x.s8.s4.2.2.2.1, .B x.s16]
 ofL := fun ls => match ls with
  | [.I x0, .I x1, .I x2, .I x3, .I x4, .I x5, .I x6, .I x7, .I x8, .I x9, .I x10, .I x11, .I x12, .I x13, .I x14, .I x15, .B x16] => some (x0, x1, x2, x3, x4, x5, x6, x7, x8, x9, x10, x11, x12, x13, x14, x15, x16)
  | _ => none
 ar := fun ls x h => by
  split at h
  ·cases h; rfl
  ·cases h
theorem K7 : zi YI 106 Tryz.f106 0 (Qe (Qf (br Tryz.f106))) (KN (br Tryz.f106) 0) (KN (br Tryz.f106) 1) (SM (br Tryz.f106)) 4 3 :=
 ⟨Tryz.func106, ⟨_, Tryz.func106, bI 106 _ Tryz.func106, by kernel_rfl⟩, by kernel_rfl, by kernel_rfl, by kernel_rfl, by kernel_rfl, by kernel_rfl, by kernel_rfl, by kernel_rfl, by kernel_rfl, by kernel_rfl, (by decide)⟩
theorem K8 (a0 a1 a2 a3 a4 a5 a6 a7 a8 a9 a10 a11 a12 a13 a14 a15 : Int) (x : E9) (h : lE a0 a1 a2 a3 a4 a5 a6 a7 a8 a9 a10 a11 a12 a13 a14 a15 = some x) : aP YI 79 0 [.agg (bN a0 a1 a2 a3 a4 a5 a6 a7), .agg (bN a8 a9 a10 a11 a12 a13 a14 a15)] [] sj x :=
 FD.V5 (ch := Dm) (A := bw) (fn := Tryz.f79) (c := br Tryz.f79) (fuel := 60) aK It mixed bI sj Tryz.func79 (by kernel_rfl) (aH (l := []) (by kernel_rfl) trivial)
  (by kernel_rfl) K7 (by kernel_rfl) (Eq.trans (by kernel_rfl) h)
def Cm : HK where
 call := fun args σ k => match args with
  | [.agg [.int .u64 a0, .int .u64 a1, .int .u64 a2, .int .u64 a3, .int .u64 a4, .int .u64 a5, .int .u64 a6, .int .u64 a7], .agg [.int .u64 a8, .int .u64 a9, .int .u64 a10, .int .u64 a11, .int .u64 a12, .int .u64 a13, .int .u64 a14, .int .u64 a15]] => Option.bind (lE a0 a1 a2 a3 a4 a5 a6 a7 a8 a9 a10 a11 a12 a13 a14 a15) fun y => au σ 0 (sj.val y) (sj.aI y) k
  | _ => none
 nat := fun args σ k => by
  repeat' split
  all_goals simp only [ao, ai, Yg, Yf, au, Ye]
 pure := true
 pok := fun _ args σ r σ' h => by
  split at h
  ·exact aZ h (fun y => rfl) (fun y f => rfl)
  ·cases h
theorem ME : aN YI 79 Cm := by
 intro args σ r σ' h
 simp only [Cm] at h
 split at h
 ·rename_i a0 a1 a2 a3 a4 a5 a6 a7 a8 a9 a10 a11 a12 a13 a14 a15
  obtain ⟨y, hy, h⟩ := bE_ h
  exact aG (xs := []) (ls := []) (cargs := [.agg (bN a0 a1 a2 a3 a4 a5 a6 a7), .agg (bN a8 a9 a10 a11 a12 a13 a14 a15)]) (bg.of trivial) rfl (K8 a0 a1 a2 a3 a4 a5 a6 a7 a8 a9 a10 a11 a12 a13 a14 a15 y hy) rfl rfl rfl rfl h
 ·cases h
end Go.Ev
