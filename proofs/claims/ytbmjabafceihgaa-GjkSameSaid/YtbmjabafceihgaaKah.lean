import Derived.Test.YtbmjabafceihgaaKag
set_option linter.unusedVariables false
set_option linter.unusedSimpArgs false
set_option maxRecDepth 100000
noncomputable section
namespace Go.Ev
open Go.Proofs
def pL : CH := CH.none
theorem sn : aG U2 pL := CH.aF
def fa {R : Type} (cc : LA_ × Nat × LA_ × Nat) (v : Int) (kn : (Int) → Option R) (ke : ((Int) ⊕ (Unit)) → Option R) : Option R :=
 (cond (decide (v ≥ 0)) (af (decide (0 ≤ v) && decide (v < ((8 : Nat) : Int))) (af (aq [.int .u64] cc.1 (0 + (Int.toNat v * 1))) (af (decide (0 ≤ v) && decide (v < ((8 : Nat) : Int))) (af (aq [.int .u64] cc.2.2.1 (0 + (Int.toNat v * 1))) (cond ((ac cc.1 ((0 + (Int.toNat v * 1)) + 0)) != (ac cc.2.2.1 ((0 + (Int.toNat v * 1)) + 0))) (af (decide (0 ≤ v) && decide (v < ((8 : Nat) : Int))) (af (aq [.int .u64] cc.1 (0 + (Int.toNat v * 1))) (af (decide (0 ≤ v) && decide (v < ((8 : Nat) : Int))) (af (aq [.int .u64] cc.2.2.1 (0 + (Int.toNat v * 1))) (cond (decide ((ac cc.1 ((0 + (Int.toNat v * 1)) + 0)) < (ac cc.2.2.1 ((0 + (Int.toNat v * 1)) + 0)))) (ke (.inl (-1))) (ke (.inl 1))))))) (kn (IntKind.wrap .i64 (v - 1)))))))) (ke (.inr ())))
def n9 (cc : LA_ × Nat × LA_ × Nat) (v : Int) : Option ((Int) ⊕ ((Int) ⊕ (Unit))) := fa cc v (fun v => some (Sum.inl v)) fun e => some (Sum.inr e)
def wu (cc : LA_ × Nat × LA_ × Nat) (v : Int) : Option ((Int) ⊕ (Unit)) := dZ (n9 cc) v
def BP (cc : LA_ × Nat × LA_ × Nat) (v : Int) : List ah := [.I v, .C cc.1, .N cc.2.1, .C cc.2.2.1, .N cc.2.2.2]
def so (ls : List ah) : Option ((LA_ × Nat × LA_ × Nat) × (Int)) := match ls with
 | [.I x0, .C x1, .N x2, .C x3, .N x4] => some ((x1, x2, x3, x4), x0)
 | _ => none
def sr (e : (Int) ⊕ (Unit)) : an := ((Sum.elim (fun e => .ret) (fun e => .exit 0)) e)
def ss (cc : LA_ × Nat × LA_ × Nat) (e : (Int) ⊕ (Unit)) : List ah := ((Sum.elim (fun e => [.I e]) (fun e => [])) e)
def qT (cc : LA_ × Nat × LA_ × Nat) (e : (Int) ⊕ (Unit)) : List ah := ((Sum.elim (fun e => []) (fun e => [])) e)
def lu (o : an) (ls : List ah) : Option (((Int) ⊕ (Unit)) × List ah) := match o with
 | .ret => (match ls with
  | [.I x0] => some ((.inl x0), [])
  | _ => none)
 | .exit 0 => (match ls with
  | [] => some ((.inr ()), [])
  | _ => none)
 | _ => none
theorem ye : ∀ o ls e cl cc, lu o ls = some (e, cl) → cl = qT cc e → ls = ss cc e ∧ sr e = o ∧ o ≠ .normal ∧ ∀ v, o = .pan v → sc 0 v = true := by
 intro o ls e cl cc h hc
 unfold lu at h
 split at h
 ·split at h
  ·cases h
   exact ⟨rfl, rfl, by simp, by intro v hv; cases hv <;> rfl⟩
  ·cases h
 ·split at h
  ·cases h
   exact ⟨rfl, rfl, by simp, by intro v hv; cases hv <;> rfl⟩
  ·cases h
 ·cases h
def DE (o : an) : ExS := match o with
 | .ret => ⟨0, (none :: none :: none :: none :: some (.int .i64) :: (rl none 19 [])), [], fun s => [], [], []⟩
 | .exit 0 => ⟨0, (rl none 24 []), [], fun s => [], [], []⟩
 | _ => ⟨0, [], [], fun _ => [], [], []⟩
theorem BQ {R : Type} (cc : LA_ × Nat × LA_ × Nat) (v : Int) (kn : (Int) → Option R) (ke : ((Int) ⊕ (Unit)) → Option R) : fa cc v kn ke = (fa cc v (fun v => some (Sum.inl v)) fun e => some (Sum.inr e)).bind (Sum.elim kn ke) := by
 simp only [fa, bX, ai, UA, cu, bS, Uy, Uz, UZ, UY]
def vn : LD where
 CC := LA_ × Nat × LA_ × Nat
 V := Int
 E := (Int) ⊕ (Unit)
 n := 0
 K := 2
 M := (none :: none :: some (.ptr 0 0) :: some (.ptr 1 0) :: none :: some (.int .i64) :: (rl none 18 []))
 B := [(0, .vec 8 true), (1, .vec 8 true)]
 D := []
 pre := []
 F := fun s => [nameAt s 2 [], nameAt s 3 []]
 toL := BP
 ofL := so
 au := fun ls c v h => by
  unfold so at h
  split at h
  ·cases h; rfl
  ·cases h
 cw := fa
 nat := BQ
 sh := DE
 out := sr
 toE := ss
 fQ := qT
 ofE := lu
 dn := ye
 post := fun cc e k => ((Sum.elim (fun e => k (.ret) (bo 0 (none :: none :: none :: none :: some (.int .i64 e) :: (rl none 19 [])) [] [])) (fun e => k (.exit 0) (bo 0 (rl none 24 []) [] []))) e)
 cv := fun cc e k => by rcases e with e | e <;> rfl
theorem BR : cX U2 0 vn.la (aO Try.f38 0) :=
 LD.ok (ch := pL) (A := bD) aJ sn mixed (fuel := 60) ⟨by kernel_rfl, fun e => by (rcases e with e | e <;> kernel_rfl), fun cc v => by kernel_rfl, aK (l := []) (by kernel_rfl) trivial⟩
def gI (a0 a1 a2 a3 a4 a5 a6 a7 a8 a9 a10 a11 a12 a13 a14 a15 : Int) : Option (Int) :=
 (Option.bind (wu ((bI a0 a1 a2 a3 a4 a5 a6 a7), 1, (bI a8 a9 a10 a11 a12 a13 a14 a15), 1) 7) (Sum.elim (fun e1 => (some e1)) (fun e1 => (some 0))))
def mf : FD where
 X := Int
 k := 0
 pre := []
 F := fun s => []
 M := .int .i64
 B := []
 toL := fun x => [.I x]
 ofL := fun ls => match ls with
  | [.I x0] => some x0
  | _ => none
 au := fun ls x h => by
  split at h
  ·cases h; rfl
  ·cases h
theorem EP (a0 a1 a2 a3 a4 a5 a6 a7 a8 a9 a10 a11 a12 a13 a14 a15 x : Int) (h : gI a0 a1 a2 a3 a4 a5 a6 a7 a8 a9 a10 a11 a12 a13 a14 a15 = some x) : bg U2 38 0 [.agg (bI a0 a1 a2 a3 a4 a5 a6 a7), .agg (bI a8 a9 a10 a11 a12 a13 a14 a15)] [] mf x :=
 FD.sem (ch := pL) (A := eT [(2, vn.la)]) (fn := Try.f38) (c := bu Try.f38) (fuel := 60) aJ sn mixed bK mf Try.func38 (by kernel_rfl) (aK (l := [aO Try.f38 0]) (by kernel_rfl) ⟨ci (by kernel_rfl) BR, trivial⟩)
  (by kernel_rfl) (Eq.trans (by kernel_rfl) h)
def pM : HK where
 call := fun args σ k => match args with
  | [.agg [.int .u64 a0, .int .u64 a1, .int .u64 a2, .int .u64 a3, .int .u64 a4, .int .u64 a5, .int .u64 a6, .int .u64 a7], .agg [.int .u64 a8, .int .u64 a9, .int .u64 a10, .int .u64 a11, .int .u64 a12, .int .u64 a13, .int .u64 a14, .int .u64 a15]] => Option.bind (gI a0 a1 a2 a3 a4 a5 a6 a7 a8 a9 a10 a11 a12 a13 a14 a15) fun y => aC σ 0 (mf.val y) (mf.aN y) k
  | _ => none
 nat := fun args σ k => by
  repeat' split
  all_goals simp only [av, ai, UA, Uz, aC, Uy]
 pure := true
 pok := fun _ args σ r σ' h => by
  split at h
  ·exact bq h (fun y => rfl) (fun y f => rfl)
  ·cases h
theorem wv : aX U2 38 pM := by
 intro args σ r σ' h
 simp only [pM] at h
 split at h
 ·rename_i a0 a1 a2 a3 a4 a5 a6 a7 a8 a9 a10 a11 a12 a13 a14 a15
  obtain ⟨y, hy, h⟩ := bE_ h
  exact lifted (xs := []) (ls := []) (cargs := [.agg (bI a0 a1 a2 a3 a4 a5 a6 a7), .agg (bI a8 a9 a10 a11 a12 a13 a14 a15)]) (bC.of trivial) rfl (EP a0 a1 a2 a3 a4 a5 a6 a7 a8 a9 a10 a11 a12 a13 a14 a15 y hy) rfl rfl rfl rfl h
 ·cases h
def BY : CH := CH.none
theorem yp : aG U2 BY := CH.aF
def aj (a0 a1 a2 a3 a4 a5 a6 a7 : Int) : Option (Bool) :=
 (cond ((aD .u64 a7 63) == 1) (some true) (some false))
def iW : FD where
 X := Bool
 k := 0
 pre := []
 F := fun s => []
 M := .bool
 B := []
 toL := fun x => [.B x]
 ofL := fun ls => match ls with
  | [.B x0] => some x0
  | _ => none
 au := fun ls x h => by
  split at h
  ·cases h; rfl
  ·cases h
theorem Bi (a0 a1 a2 a3 a4 a5 a6 a7 : Int) (x : Bool) (h : aj a0 a1 a2 a3 a4 a5 a6 a7 = some x) : bg U2 37 0 [.agg (v8 a0 a1 a2 a3 a4 a5 a6 a7 [])] [] iW x :=
 FD.semA iW yp Try.func37 (fuel := 60) (by kernel_rfl) (by kernel_rfl)
  (by kernel_rfl) (Eq.trans (by kernel_rfl) h)
def cQ : HK where
 call := fun args σ k => match args with
  | [.agg [.int .u64 a0, .int .u64 a1, .int .u64 a2, .int .u64 a3, .int .u64 a4, .int .u64 a5, .int .u64 a6, .int .u64 a7]] => Option.bind (aj a0 a1 a2 a3 a4 a5 a6 a7) fun y => aC σ 0 (iW.val y) (iW.aN y) k
  | _ => none
 nat := fun args σ k => by
  repeat' split
  all_goals simp only [av, ai, UA, Uz, aC, Uy]
 pure := true
 pok := fun _ args σ r σ' h => by
  split at h
  ·exact bq h (fun y => rfl) (fun y f => rfl)
  ·cases h
theorem cV : aX U2 37 cQ := by
 intro args σ r σ' h
 simp only [cQ] at h
 split at h
 ·rename_i a0 a1 a2 a3 a4 a5 a6 a7
  obtain ⟨y, hy, h⟩ := bE_ h
  exact lifted (xs := []) (ls := []) (cargs := [.agg (v8 a0 a1 a2 a3 a4 a5 a6 a7 [])]) (bC.of trivial) rfl (Bi a0 a1 a2 a3 a4 a5 a6 a7 y hy) rfl rfl rfl rfl h
 ·cases h
def I4 : CH := (CH.add 38 pM (CH.add 37 cQ CH.none))
theorem ER : aG U2 I4 := (CH.ak wv (CH.ak cV CH.aF))
def pP (a0 a1 a2 a3 a4 a5 a6 a7 a8 a9 a10 a11 a12 a13 a14 a15 : Int) : Option (Int) :=
 (Option.bind (aj a0 a1 a2 a3 a4 a5 a6 a7) fun r1 => (cond r1 (Option.bind (aj a8 a9 a10 a11 a12 a13 a14 a15) fun r2 => (cond r2 (Option.bind (gI a0 a1 a2 a3 a4 a5 a6 a7 a8 a9 a10 a11 a12 a13 a14 a15) fun r3 => (some r3)) (some (-1)))) (Option.bind (aj a8 a9 a10 a11 a12 a13 a14 a15) fun r4 => (cond r4 (some 1) (Option.bind (gI a0 a1 a2 a3 a4 a5 a6 a7 a8 a9 a10 a11 a12 a13 a14 a15) fun r5 => (some r5))))))
def pQ : FD where
 X := Int
 k := 0
 pre := []
 F := fun s => []
 M := .int .i64
 B := []
 toL := fun x => [.I x]
 ofL := fun ls => match ls with
  | [.I x0] => some x0
  | _ => none
 au := fun ls x h => by
  split at h
  ·cases h; rfl
  ·cases h
theorem HG (a0 a1 a2 a3 a4 a5 a6 a7 a8 a9 a10 a11 a12 a13 a14 a15 x : Int) (h : pP a0 a1 a2 a3 a4 a5 a6 a7 a8 a9 a10 a11 a12 a13 a14 a15 = some x) : bg U2 21 0 [.agg (v8 a0 a1 a2 a3 a4 a5 a6 a7 []), .agg (v8 a8 a9 a10 a11 a12 a13 a14 a15 [])] [] pQ x :=
 FD.semA pQ ER Try.func21 (fuel := 60) (by kernel_rfl) (by kernel_rfl)
  (by kernel_rfl) (Eq.trans (by kernel_rfl) h)
def zF : HK where
 call := fun args σ k => match args with
  | [.agg [.int .u64 a0, .int .u64 a1, .int .u64 a2, .int .u64 a3, .int .u64 a4, .int .u64 a5, .int .u64 a6, .int .u64 a7], .agg [.int .u64 a8, .int .u64 a9, .int .u64 a10, .int .u64 a11, .int .u64 a12, .int .u64 a13, .int .u64 a14, .int .u64 a15]] => Option.bind (pP a0 a1 a2 a3 a4 a5 a6 a7 a8 a9 a10 a11 a12 a13 a14 a15) fun y => aC σ 0 (pQ.val y) (pQ.aN y) k
  | _ => none
 nat := fun args σ k => by
  repeat' split
  all_goals simp only [av, ai, UA, Uz, aC, Uy]
 pure := true
 pok := fun _ args σ r σ' h => by
  split at h
  ·exact bq h (fun y => rfl) (fun y f => rfl)
  ·cases h
theorem I5 : aX U2 21 zF := by
 intro args σ r σ' h
 simp only [zF] at h
 split at h
 ·rename_i a0 a1 a2 a3 a4 a5 a6 a7 a8 a9 a10 a11 a12 a13 a14 a15
  obtain ⟨y, hy, h⟩ := bE_ h
  exact lifted (xs := []) (ls := []) (cargs := [.agg (v8 a0 a1 a2 a3 a4 a5 a6 a7 []), .agg (v8 a8 a9 a10 a11 a12 a13 a14 a15 [])]) (bC.of trivial) rfl (HG a0 a1 a2 a3 a4 a5 a6 a7 a8 a9 a10 a11 a12 a13 a14 a15 y hy) rfl rfl rfl rfl h
 ·cases h
def HQ : CH := (CH.add 37 cQ CH.none)
theorem DP : aG U2 HQ := (CH.ak cV CH.aF)
def kl (a0 a1 a2 a3 a4 a5 a6 a7 : Int) : Option (Int) :=
 (Option.bind (aj a0 a1 a2 a3 a4 a5 a6 a7) fun r1 => (cond r1 (some (-1)) (cond (a0 == 0 && (a1 == 0 && (a2 == 0 && (a3 == 0 && (a4 == 0 && (a5 == 0 && (a6 == 0 && (a7 == 0 && true)))))))) (some 0) (some 1))))
def nJ : FD where
 X := Int
 k := 0
 pre := []
 F := fun s => []
 M := .int .i64
 B := []
 toL := fun x => [.I x]
 ofL := fun ls => match ls with
  | [.I x0] => some x0
  | _ => none
 au := fun ls x h => by
  split at h
  ·cases h; rfl
  ·cases h
theorem F7 (a0 a1 a2 a3 a4 a5 a6 a7 x : Int) (h : kl a0 a1 a2 a3 a4 a5 a6 a7 = some x) : bg U2 28 0 [.agg (v8 a0 a1 a2 a3 a4 a5 a6 a7 [])] [] nJ x :=
 FD.semA nJ DP Try.func28 (fuel := 60) (by kernel_rfl) (by kernel_rfl)
  (by kernel_rfl) (Eq.trans (by kernel_rfl) h)
def rM : HK where
 call := fun args σ k => match args with
  | [.agg [.int .u64 a0, .int .u64 a1, .int .u64 a2, .int .u64 a3, .int .u64 a4, .int .u64 a5, .int .u64 a6, .int .u64 a7]] => Option.bind (kl a0 a1 a2 a3 a4 a5 a6 a7) fun y => aC σ 0 (nJ.val y) (nJ.aN y) k
  | _ => none
 nat := fun args σ k => by
  repeat' split
  all_goals simp only [av, ai, UA, Uz, aC, Uy]
 pure := true
 pok := fun _ args σ r σ' h => by
  split at h
  ·exact bq h (fun y => rfl) (fun y f => rfl)
  ·cases h
theorem yh : aX U2 28 rM := by
 intro args σ r σ' h
 simp only [rM] at h
 split at h
 ·rename_i a0 a1 a2 a3 a4 a5 a6 a7
  obtain ⟨y, hy, h⟩ := bE_ h
  exact lifted (xs := []) (ls := []) (cargs := [.agg (v8 a0 a1 a2 a3 a4 a5 a6 a7 [])]) (bC.of trivial) rfl (F7 a0 a1 a2 a3 a4 a5 a6 a7 y hy) rfl rfl rfl rfl h
 ·cases h
abbrev zN := Int × Int × Int × Int × Int × Int × Int × Int
def wB : CH := (CH.add 60 F3 CH.none)
def yr : CH := uJ U2 iQ [76, 87] 60 wB 2
theorem B7 : aG U2 wB := (CH.ak (In Try.func60 (by kernel_rfl) (by kernel_rfl) (by kernel_rfl) (by kernel_rfl)) CH.aF)
theorem DO : aG U2 yr := ik aJ mixed bK B7 2
def dy (a0 a1 a2 a3 a4 a5 a6 a7 a8 a9 a10 a11 a12 a13 a14 a15 a16 : Int) : Option (zN) :=
 (Option.bind (gR a0 a8 a16) fun r1 => (Option.bind (gR a1 a9 r1.2) fun r2 => (Option.bind (gR a2 a10 r2.2) fun r3 => (Option.bind (gR a3 a11 r3.2) fun r4 => (Option.bind (gR a4 a12 r4.2) fun r5 => (Option.bind (gR a5 a13 r5.2) fun r6 => (Option.bind (gR a6 a14 r6.2) fun r7 => (Option.bind (gR a7 a15 r7.2) fun r8 => (some (r1.1, r2.1, r3.1, r4.1, r5.1, r6.1, r7.1, r8.1))))))))))
def nI : FD where
 X := zN
 k := 0
 pre := []
 F := fun s => []
 M := .agg (rl (.int .u64) 8 [])
 B := []
 toL := fun x => [.I x.1, .I x.2.1, .I x.2.2.1, .I x.2.2.2.1, .I x.s4.1, .I x.s4.2.1, .I x.s4.2.2.1, .I x.s4.2.2.2]
 ofL := fun ls => match ls with
  | [.I x0, .I x1, .I x2, .I x3, .I x4, .I x5, .I x6, .I x7] => some (x0, x1, x2, x3, x4, x5, x6, x7)
  | _ => none
 au := fun ls x h => by
  split at h
  ·cases h; rfl
  ·cases h
theorem F6 (a0 a1 a2 a3 a4 a5 a6 a7 a8 a9 a10 a11 a12 a13 a14 a15 a16 : Int) (x : zN) (h : dy a0 a1 a2 a3 a4 a5 a6 a7 a8 a9 a10 a11 a12 a13 a14 a15 a16 = some x) : bg U2 49 0 [.agg (bI a0 a1 a2 a3 a4 a5 a6 a7), .agg (bI a8 a9 a10 a11 a12 a13 a14 a15), .int .u64 a16] [] nI x :=
 FD.sem (ch := yr) (A := bD) (fn := Try.f49) (c := bu Try.f49) (fuel := 60) aJ DO mixed bK nI Try.func49 (by kernel_rfl) (aK (l := [aO Try.f49 0]) (by kernel_rfl) ⟨(eh (by kernel_rfl)), trivial⟩)
  (by kernel_rfl) (Eq.trans (by kernel_rfl) h)
def iJ : HK where
 call := fun args σ k => match args with
  | [.agg [.int .u64 a0, .int .u64 a1, .int .u64 a2, .int .u64 a3, .int .u64 a4, .int .u64 a5, .int .u64 a6, .int .u64 a7], .agg [.int .u64 a8, .int .u64 a9, .int .u64 a10, .int .u64 a11, .int .u64 a12, .int .u64 a13, .int .u64 a14, .int .u64 a15], .int .u64 a16] => Option.bind (dy a0 a1 a2 a3 a4 a5 a6 a7 a8 a9 a10 a11 a12 a13 a14 a15 a16) fun y => aC σ 0 (nI.val y) (nI.aN y) k
  | _ => none
 nat := fun args σ k => by
  repeat' split
  all_goals simp only [av, ai, UA, Uz, aC, Uy]
 pure := true
 pok := fun _ args σ r σ' h => by
  split at h
  ·exact bq h (fun y => rfl) (fun y f => rfl)
  ·cases h
theorem jl : aX U2 49 iJ := by
 intro args σ r σ' h
 simp only [iJ] at h
 split at h
 ·rename_i a0 a1 a2 a3 a4 a5 a6 a7 a8 a9 a10 a11 a12 a13 a14 a15 a16
  obtain ⟨y, hy, h⟩ := bE_ h
  exact lifted (xs := []) (ls := []) (cargs := [.agg (bI a0 a1 a2 a3 a4 a5 a6 a7), .agg (bI a8 a9 a10 a11 a12 a13 a14 a15), .int .u64 a16]) (bC.of trivial) rfl (F6 a0 a1 a2 a3 a4 a5 a6 a7 a8 a9 a10 a11 a12 a13 a14 a15 a16 y hy) rfl rfl rfl rfl h
 ·cases h
abbrev BS := (I8 Bool)
def I2 : CH := (CH.add 49 iJ (CH.add 37 cQ CH.none))
theorem EQ : aG U2 I2 := (CH.ak jl (CH.ak cV CH.aF))
def pN (a0 a1 a2 a3 a4 a5 a6 a7 a8 a9 a10 a11 a12 a13 a14 a15 : Int) : Option (BS) :=
 (Option.bind (dy a0 a1 a2 a3 a4 a5 a6 a7 a8 a9 a10 a11 a12 a13 a14 a15 0) fun r1 => (Option.bind (aj a0 a1 a2 a3 a4 a5 a6 a7) fun r2 => (cond r2 (Option.bind (aj a8 a9 a10 a11 a12 a13 a14 a15) fun r3 => (cond r3 (Option.bind (aj r1.1 r1.2.1 r1.2.2.1 r1.2.2.2.1 r1.2.2.2.2.1 r1.2.2.2.2.2.1 r1.2.2.2.2.2.2.1 r1.2.2.2.2.2.2.2) fun r4 => (cond r4 (Option.bind (aj a0 a1 a2 a3 a4 a5 a6 a7) fun r5 => (cond r5 (some (r1.1, r1.2.1, r1.2.2.1, r1.2.2.2.1, r1.2.2.2.2.1, r1.2.2.2.2.2.1, r1.2.2.2.2.2.2.1, r1.2.2.2.2.2.2.2, true)) (some (0, 0, 0, 0, 0, 0, 0, 0, false)))) (Option.bind (aj a0 a1 a2 a3 a4 a5 a6 a7) fun r6 => (cond r6 (some (0, 0, 0, 0, 0, 0, 0, 0, false)) (some (r1.1, r1.2.1, r1.2.2.1, r1.2.2.2.1, r1.2.2.2.2.1, r1.2.2.2.2.2.1, r1.2.2.2.2.2.2.1, r1.2.2.2.2.2.2.2, true)))))) (some (r1.1, r1.2.1, r1.2.2.1, r1.2.2.2.1, r1.2.2.2.2.1, r1.2.2.2.2.2.1, r1.2.2.2.2.2.2.1, r1.2.2.2.2.2.2.2, true)))) (Option.bind (aj a8 a9 a10 a11 a12 a13 a14 a15) fun r7 => (cond r7 (some (r1.1, r1.2.1, r1.2.2.1, r1.2.2.2.1, r1.2.2.2.2.1, r1.2.2.2.2.2.1, r1.2.2.2.2.2.2.1, r1.2.2.2.2.2.2.2, true)) (Option.bind (aj r1.1 r1.2.1 r1.2.2.1 r1.2.2.2.1 r1.2.2.2.2.1 r1.2.2.2.2.2.1 r1.2.2.2.2.2.2.1 r1.2.2.2.2.2.2.2) fun r8 => (cond r8 (Option.bind (aj a0 a1 a2 a3 a4 a5 a6 a7) fun r9 => (cond r9 (some (r1.1, r1.2.1, r1.2.2.1, r1.2.2.2.1, r1.2.2.2.2.1, r1.2.2.2.2.2.1, r1.2.2.2.2.2.2.1, r1.2.2.2.2.2.2.2, true)) (some (0, 0, 0, 0, 0, 0, 0, 0, false)))) (Option.bind (aj a0 a1 a2 a3 a4 a5 a6 a7) fun r10 => (cond r10 (some (0, 0, 0, 0, 0, 0, 0, 0, false)) (some (r1.1, r1.2.1, r1.2.2.1, r1.2.2.2.1, r1.2.2.2.2.1, r1.2.2.2.2.2.1, r1.2.2.2.2.2.2.1, r1.2.2.2.2.2.2.2, true)))))))))))
def pO : FD where
 X := BS
 k := 0
 pre := []
 F := fun s => []
 M := .tup [.agg (rl (.int .u64) 8 []), .bool]
 B := []
 toL := fun x => [.I x.1, .I x.2.1, .I x.2.2.1, .I x.2.2.2.1, .I x.s4.1, .I x.s4.2.1, .I x.s4.2.2.1, .I x.s4.2.2.2.1, .B x.s8]
 ofL := fun ls => match ls with
  | [.I x0, .I x1, .I x2, .I x3, .I x4, .I x5, .I x6, .I x7, .B x8] => some (x0, x1, x2, x3, x4, x5, x6, x7, x8)
  | _ => none
 au := fun ls x h => by
  split at h
  ·cases h; rfl
  ·cases h
theorem HF (a0 a1 a2 a3 a4 a5 a6 a7 a8 a9 a10 a11 a12 a13 a14 a15 : Int) (x : BS) (h : pN a0 a1 a2 a3 a4 a5 a6 a7 a8 a9 a10 a11 a12 a13 a14 a15 = some x) : bg U2 36 0 [.agg (bI a0 a1 a2 a3 a4 a5 a6 a7), .agg (bI a8 a9 a10 a11 a12 a13 a14 a15)] [] pO x :=
 FD.semA pO EQ Try.func36 (fuel := 60) (by kernel_rfl) (by kernel_rfl)
  (by kernel_rfl) (Eq.trans (by kernel_rfl) h)
def zE : HK where
 call := fun args σ k => match args with
  | [.agg [.int .u64 a0, .int .u64 a1, .int .u64 a2, .int .u64 a3, .int .u64 a4, .int .u64 a5, .int .u64 a6, .int .u64 a7], .agg [.int .u64 a8, .int .u64 a9, .int .u64 a10, .int .u64 a11, .int .u64 a12, .int .u64 a13, .int .u64 a14, .int .u64 a15]] => Option.bind (pN a0 a1 a2 a3 a4 a5 a6 a7 a8 a9 a10 a11 a12 a13 a14 a15) fun y => aC σ 0 (pO.val y) (pO.aN y) k
  | _ => none
 nat := fun args σ k => by
  repeat' split
  all_goals simp only [av, ai, UA, Uz, aC, Uy]
 pure := true
 pok := fun _ args σ r σ' h => by
  split at h
  ·exact bq h (fun y => rfl) (fun y f => rfl)
  ·cases h
theorem I3 : aX U2 36 zE := by
 intro args σ r σ' h
 simp only [zE] at h
 split at h
 ·rename_i a0 a1 a2 a3 a4 a5 a6 a7 a8 a9 a10 a11 a12 a13 a14 a15
  obtain ⟨y, hy, h⟩ := bE_ h
  exact lifted (xs := []) (ls := []) (cargs := [.agg (bI a0 a1 a2 a3 a4 a5 a6 a7), .agg (bI a8 a9 a10 a11 a12 a13 a14 a15)]) (bC.of trivial) rfl (HF a0 a1 a2 a3 a4 a5 a6 a7 a8 a9 a10 a11 a12 a13 a14 a15 y hy) rfl rfl rfl rfl h
 ·cases h
abbrev BZ := Int × Int × Int × Int × Int × Int × Int × Int
def AI : CH := CH.none
theorem E2 : aG U2 AI := CH.aF
def ge (a0 a1 a2 a3 a4 a5 a6 a7 : Int) : Option (BZ) :=
 (some ((xw .u64 18446744073709551615 a0), (xw .u64 18446744073709551615 a1), (xw .u64 18446744073709551615 a2), (xw .u64 18446744073709551615 a3), (xw .u64 18446744073709551615 a4), (xw .u64 18446744073709551615 a5), (xw .u64 18446744073709551615 a6), (xw .u64 18446744073709551615 a7)))
def p5 : FD where
 X := BZ
 k := 0
 pre := []
 F := fun s => []
 M := .agg (rl (.int .u64) 8 [])
 B := []
 toL := fun x => [.I x.1, .I x.2.1, .I x.2.2.1, .I x.2.2.2.1, .I x.s4.1, .I x.s4.2.1, .I x.s4.2.2.1, .I x.s4.2.2.2]
 ofL := fun ls => match ls with
  | [.I x0, .I x1, .I x2, .I x3, .I x4, .I x5, .I x6, .I x7] => some (x0, x1, x2, x3, x4, x5, x6, x7)
  | _ => none
 au := fun ls x h => by
  split at h
  ·cases h; rfl
  ·cases h
theorem HP (a0 a1 a2 a3 a4 a5 a6 a7 : Int) (x : BZ) (h : ge a0 a1 a2 a3 a4 a5 a6 a7 = some x) : bg U2 50 0 [.agg (v8 a0 a1 a2 a3 a4 a5 a6 a7 [])] [] p5 x :=
 FD.sem (ch := AI) (A := bD) (fn := Try.f50) (c := bu Try.f50) (fuel := 60) aJ E2 mixed bK p5 Try.func50 (by kernel_rfl) (aK (l := [aO Try.f50 0]) (by kernel_rfl) ⟨(eh (by kernel_rfl)), trivial⟩)
  (by kernel_rfl) (Eq.trans (by kernel_rfl) h)
def mg : HK where
 call := fun args σ k => match args with
  | [.agg [.int .u64 a0, .int .u64 a1, .int .u64 a2, .int .u64 a3, .int .u64 a4, .int .u64 a5, .int .u64 a6, .int .u64 a7]] => Option.bind (ge a0 a1 a2 a3 a4 a5 a6 a7) fun y => aC σ 0 (p5.val y) (p5.aN y) k
  | _ => none
 nat := fun args σ k => by
  repeat' split
  all_goals simp only [av, ai, UA, Uz, aC, Uy]
 pure := true
 pok := fun _ args σ r σ' h => by
  split at h
  ·exact bq h (fun y => rfl) (fun y f => rfl)
  ·cases h
theorem nE : aX U2 50 mg := by
 intro args σ r σ' h
 simp only [mg] at h
 split at h
 ·rename_i a0 a1 a2 a3 a4 a5 a6 a7
  obtain ⟨y, hy, h⟩ := bE_ h
  exact lifted (xs := []) (ls := []) (cargs := [.agg (v8 a0 a1 a2 a3 a4 a5 a6 a7 [])]) (bC.of trivial) rfl (HP a0 a1 a2 a3 a4 a5 a6 a7 y hy) rfl rfl rfl rfl h
 ·cases h
abbrev B8 := (I8 Bool)
def Jc : CH := (CH.add 50 mg (CH.add 49 iJ (CH.add 37 cQ CH.none)))
theorem E6 : aG U2 Jc := (CH.ak nE (CH.ak jl (CH.ak cV CH.aF)))
def mi (a0 a1 a2 a3 a4 a5 a6 a7 a8 a9 a10 a11 a12 a13 a14 a15 : Int) : Option (B8) :=
 (Option.bind (ge a8 a9 a10 a11 a12 a13 a14 a15) fun r1 => (Option.bind (dy a0 a1 a2 a3 a4 a5 a6 a7 r1.1 r1.2.1 r1.2.2.1 r1.2.2.2.1 r1.2.2.2.2.1 r1.2.2.2.2.2.1 r1.2.2.2.2.2.2.1 r1.2.2.2.2.2.2.2 1) fun r2 => (Option.bind (aj a0 a1 a2 a3 a4 a5 a6 a7) fun r3 => (cond r3 (Option.bind (aj a8 a9 a10 a11 a12 a13 a14 a15) fun r4 => (cond r4 (some (r2.1, r2.2.1, r2.2.2.1, r2.2.2.2.1, r2.2.2.2.2.1, r2.2.2.2.2.2.1, r2.2.2.2.2.2.2.1, r2.2.2.2.2.2.2.2, true)) (Option.bind (aj r2.1 r2.2.1 r2.2.2.1 r2.2.2.2.1 r2.2.2.2.2.1 r2.2.2.2.2.2.1 r2.2.2.2.2.2.2.1 r2.2.2.2.2.2.2.2) fun r5 => (cond r5 (Option.bind (aj a0 a1 a2 a3 a4 a5 a6 a7) fun r6 => (cond r6 (some (r2.1, r2.2.1, r2.2.2.1, r2.2.2.2.1, r2.2.2.2.2.1, r2.2.2.2.2.2.1, r2.2.2.2.2.2.2.1, r2.2.2.2.2.2.2.2, true)) (some (0, 0, 0, 0, 0, 0, 0, 0, false)))) (Option.bind (aj a0 a1 a2 a3 a4 a5 a6 a7) fun r7 => (cond r7 (some (0, 0, 0, 0, 0, 0, 0, 0, false)) (some (r2.1, r2.2.1, r2.2.2.1, r2.2.2.2.1, r2.2.2.2.2.1, r2.2.2.2.2.2.1, r2.2.2.2.2.2.2.1, r2.2.2.2.2.2.2.2, true)))))))) (Option.bind (aj a8 a9 a10 a11 a12 a13 a14 a15) fun r8 => (cond r8 (Option.bind (aj r2.1 r2.2.1 r2.2.2.1 r2.2.2.2.1 r2.2.2.2.2.1 r2.2.2.2.2.2.1 r2.2.2.2.2.2.2.1 r2.2.2.2.2.2.2.2) fun r9 => (cond r9 (Option.bind (aj a0 a1 a2 a3 a4 a5 a6 a7) fun r10 => (cond r10 (some (r2.1, r2.2.1, r2.2.2.1, r2.2.2.2.1, r2.2.2.2.2.1, r2.2.2.2.2.2.1, r2.2.2.2.2.2.2.1, r2.2.2.2.2.2.2.2, true)) (some (0, 0, 0, 0, 0, 0, 0, 0, false)))) (Option.bind (aj a0 a1 a2 a3 a4 a5 a6 a7) fun r11 => (cond r11 (some (0, 0, 0, 0, 0, 0, 0, 0, false)) (some (r2.1, r2.2.1, r2.2.2.1, r2.2.2.2.1, r2.2.2.2.2.1, r2.2.2.2.2.2.1, r2.2.2.2.2.2.2.1, r2.2.2.2.2.2.2.2, true)))))) (some (r2.1, r2.2.1, r2.2.2.1, r2.2.2.2.1, r2.2.2.2.2.1, r2.2.2.2.2.2.1, r2.2.2.2.2.2.2.1, r2.2.2.2.2.2.2.2, true))))))))
def p7 : FD where
 X := B8
 k := 0
 pre := []
 F := fun s => []
 M := .tup [.agg (rl (.int .u64) 8 []), .bool]
 B := []
 toL := fun x => [.I x.1, .I x.2.1, .I x.2.2.1, .I x.2.2.2.1, .I x.s4.1, .I x.s4.2.1, .I x.s4.2.2.1, .I x.s4.2.2.2.1, .B x.s8]
 ofL := fun ls => match ls with
  | [.I x0, .I x1, .I x2, .I x3, .I x4, .I x5, .I x6, .I x7, .B x8] => some (x0, x1, x2, x3, x4, x5, x6, x7, x8)
  | _ => none
 au := fun ls x h => by
  split at h
  ·cases h; rfl
  ·cases h
theorem HS (a0 a1 a2 a3 a4 a5 a6 a7 a8 a9 a10 a11 a12 a13 a14 a15 : Int) (x : B8) (h : mi a0 a1 a2 a3 a4 a5 a6 a7 a8 a9 a10 a11 a12 a13 a14 a15 = some x) : bg U2 83 0 [.agg (bI a0 a1 a2 a3 a4 a5 a6 a7), .agg (bI a8 a9 a10 a11 a12 a13 a14 a15)] [] p7 x :=
 FD.semA p7 E6 Try.func83 (fuel := 60) (by kernel_rfl) (by kernel_rfl)
  (by kernel_rfl) (Eq.trans (by kernel_rfl) h)
def uh : HK where
 call := fun args σ k => match args with
  | [.agg [.int .u64 a0, .int .u64 a1, .int .u64 a2, .int .u64 a3, .int .u64 a4, .int .u64 a5, .int .u64 a6, .int .u64 a7], .agg [.int .u64 a8, .int .u64 a9, .int .u64 a10, .int .u64 a11, .int .u64 a12, .int .u64 a13, .int .u64 a14, .int .u64 a15]] => Option.bind (mi a0 a1 a2 a3 a4 a5 a6 a7 a8 a9 a10 a11 a12 a13 a14 a15) fun y => aC σ 0 (p7.val y) (p7.aN y) k
  | _ => none
 nat := fun args σ k => by
  repeat' split
  all_goals simp only [av, ai, UA, Uz, aC, Uy]
 pure := true
 pok := fun _ args σ r σ' h => by
  split at h
  ·exact bq h (fun y => rfl) (fun y f => rfl)
  ·cases h
theorem AH : aX U2 83 uh := by
 intro args σ r σ' h
 simp only [uh] at h
 split at h
 ·rename_i a0 a1 a2 a3 a4 a5 a6 a7 a8 a9 a10 a11 a12 a13 a14 a15
  obtain ⟨y, hy, h⟩ := bE_ h
  exact lifted (xs := []) (ls := []) (cargs := [.agg (bI a0 a1 a2 a3 a4 a5 a6 a7), .agg (bI a8 a9 a10 a11 a12 a13 a14 a15)]) (bC.of trivial) rfl (HS a0 a1 a2 a3 a4 a5 a6 a7 a8 a9 a10 a11 a12 a13 a14 a15 y hy) rfl rfl rfl rfl h
 ·cases h
abbrev BX := (I8 Bool)
def I9 : CH := (CH.add 83 uh CH.none)
theorem E1 : aG U2 I9 := (CH.ak AH CH.aF)
def pZ (a0 a1 a2 a3 a4 a5 a6 a7 : Int) : Option (BX) :=
 (Option.bind (mi 0 0 0 0 0 0 0 0 a0 a1 a2 a3 a4 a5 a6 a7) fun r1 => (cond r1.2.2.2.2.2.2.2.2 (some (r1.1, r1.2.1, r1.2.2.1, r1.2.2.2.1, r1.2.2.2.2.1, r1.2.2.2.2.2.1, r1.2.2.2.2.2.2.1, r1.2.2.2.2.2.2.2.1, true)) (some (r1.1, r1.2.1, r1.2.2.1, r1.2.2.2.1, r1.2.2.2.2.1, r1.2.2.2.2.2.1, r1.2.2.2.2.2.2.1, r1.2.2.2.2.2.2.2.1, false))))
def p4 : FD where
 X := BX
 k := 0
 pre := []
 F := fun s => []
 M := .tup [.agg (rl (.int .u64) 8 []), .bool]
 B := []
 toL := fun x => [.I x.1, .I x.2.1, .I x.2.2.1, .I x.2.2.2.1, .I x.s4.1, .I x.s4.2.1, .I x.s4.2.2.1, .I x.s4.2.2.2.1, .B x.s8]
 ofL := fun ls => match ls with
  | [.I x0, .I x1, .I x2, .I x3, .I x4, .I x5, .I x6, .I x7, .B x8] => some (x0, x1, x2, x3, x4, x5, x6, x7, x8)
  | _ => none
 au := fun ls x h => by
  split at h
  ·cases h; rfl
  ·cases h
theorem HO (a0 a1 a2 a3 a4 a5 a6 a7 : Int) (x : BX) (h : pZ a0 a1 a2 a3 a4 a5 a6 a7 = some x) : bg U2 67 0 [.agg (v8 a0 a1 a2 a3 a4 a5 a6 a7 [])] [] p4 x :=
 FD.semA p4 E1 Try.func67 (fuel := 60) (by kernel_rfl) (by kernel_rfl)
  (by kernel_rfl) (Eq.trans (by kernel_rfl) h)
def zM : HK where
 call := fun args σ k => match args with
  | [.agg [.int .u64 a0, .int .u64 a1, .int .u64 a2, .int .u64 a3, .int .u64 a4, .int .u64 a5, .int .u64 a6, .int .u64 a7]] => Option.bind (pZ a0 a1 a2 a3 a4 a5 a6 a7) fun y => aC σ 0 (p4.val y) (p4.aN y) k
  | _ => none
 nat := fun args σ k => by
  repeat' split
  all_goals simp only [av, ai, UA, Uz, aC, Uy]
 pure := true
 pok := fun _ args σ r σ' h => by
  split at h
  ·exact bq h (fun y => rfl) (fun y f => rfl)
  ·cases h
theorem Ja : aX U2 67 zM := by
 intro args σ r σ' h
 simp only [zM] at h
 split at h
 ·rename_i a0 a1 a2 a3 a4 a5 a6 a7
  obtain ⟨y, hy, h⟩ := bE_ h
  exact lifted (xs := []) (ls := []) (cargs := [.agg (v8 a0 a1 a2 a3 a4 a5 a6 a7 [])]) (bC.of trivial) rfl (HO a0 a1 a2 a3 a4 a5 a6 a7 y hy) rfl rfl rfl rfl h
 ·cases h
def ze : CH := CH.none
theorem vQ : aG U2 ze := CH.aF
def fY (a0 a1 : Int) : Option (Int × Int) :=
 (some ((IntKind.wrap .u64 ((IntKind.wrap .u64 ((IntKind.wrap .u64 ((aD .u64 a0 32) * (aD .u64 a1 32))) + (aD .u64 (IntKind.wrap .u64 ((IntKind.wrap .u64 ((aD .u64 a0 32) * (uY .u64 a1 4294967295))) + (aD .u64 (IntKind.wrap .u64 ((uY .u64 a0 4294967295) * (uY .u64 a1 4294967295))) 32))) 32))) + (aD .u64 (IntKind.wrap .u64 ((uY .u64 (IntKind.wrap .u64 ((IntKind.wrap .u64 ((aD .u64 a0 32) * (uY .u64 a1 4294967295))) + (aD .u64 (IntKind.wrap .u64 ((uY .u64 a0 4294967295) * (uY .u64 a1 4294967295))) 32))) 4294967295) + (IntKind.wrap .u64 ((uY .u64 a0 4294967295) * (aD .u64 a1 32))))) 32))), (IntKind.wrap .u64 (a0 * a1))))
def gM : FD where
 X := Int × Int
 k := 0
 pre := []
 F := fun s => []
 M := .tup [.int .u64, .int .u64]
 B := []
 toL := fun x => [.I x.1, .I x.2]
 ofL := fun ls => match ls with
  | [.I x0, .I x1] => some (x0, x1)
  | _ => none
 au := fun ls x h => by
  split at h
  ·cases h; rfl
  ·cases h
theorem xS (a0 a1 : Int) (x : Int × Int) (h : fY a0 a1 = some x) : bg U2 59 0 [.int .u64 a0, .int .u64 a1] [] gM x :=
 FD.semA gM vQ Try.func59 (fuel := 60) (by kernel_rfl) (by kernel_rfl)
  (by kernel_rfl) (Eq.trans (by kernel_rfl) h)
def mN : HK where
 call := fun args σ k => match args with
  | [.int .u64 a0, .int .u64 a1] => Option.bind (fY a0 a1) fun y => aC σ 0 (gM.val y) (gM.aN y) k
  | _ => none
 nat := fun args σ k => by
  repeat' split
  all_goals simp only [av, ai, UA, Uz, aC, Uy]
 pure := true
 pok := fun _ args σ r σ' h => by
  split at h
  ·exact bq h (fun y => rfl) (fun y f => rfl)
  ·cases h
theorem zf : aX U2 59 mN := by
 intro args σ r σ' h
 simp only [mN] at h
 split at h
 ·rename_i a0 a1
  obtain ⟨y, hy, h⟩ := bE_ h
  exact lifted (xs := []) (ls := []) (cargs := [.int .u64 a0, .int .u64 a1]) (bC.of trivial) rfl (xS a0 a1 y hy) rfl rfl rfl rfl h
 ·cases h
abbrev xv := Int × Int × Int × Int × Int × Int × Int × Int
def F2 : CH := (CH.add 50 mg (CH.add 49 iJ CH.none))
theorem BV : aG U2 F2 := (CH.ak nE (CH.ak jl CH.aF))
def eH (a0 a1 a2 a3 a4 a5 a6 a7 : Int) : Option (xv) :=
 (Option.bind (ge a0 a1 a2 a3 a4 a5 a6 a7) fun r1 => (Option.bind (dy r1.1 r1.2.1 r1.2.2.1 r1.2.2.2.1 r1.2.2.2.2.1 r1.2.2.2.2.2.1 r1.2.2.2.2.2.2.1 r1.2.2.2.2.2.2.2 0 0 0 0 0 0 0 0 1) fun r2 => (some (r2.1, r2.2.1, r2.2.2.1, r2.2.2.2.1, r2.2.2.2.2.1, r2.2.2.2.2.2.1, r2.2.2.2.2.2.2.1, r2.2.2.2.2.2.2.2))))
def mh : FD where
 X := xv
 k := 0
 pre := []
 F := fun s => []
 M := .agg (rl (.int .u64) 8 [])
 B := []
 toL := fun x => [.I x.1, .I x.2.1, .I x.2.2.1, .I x.2.2.2.1, .I x.s4.1, .I x.s4.2.1, .I x.s4.2.2.1, .I x.s4.2.2.2]
 ofL := fun ls => match ls with
  | [.I x0, .I x1, .I x2, .I x3, .I x4, .I x5, .I x6, .I x7] => some (x0, x1, x2, x3, x4, x5, x6, x7)
  | _ => none
 au := fun ls x h => by
  split at h
  ·cases h; rfl
  ·cases h
theorem EW (a0 a1 a2 a3 a4 a5 a6 a7 : Int) (x : xv) (h : eH a0 a1 a2 a3 a4 a5 a6 a7 = some x) : bg U2 75 0 [.agg (v8 a0 a1 a2 a3 a4 a5 a6 a7 [])] [] mh x :=
 FD.semA mh BV Try.func75 (fuel := 60) (by kernel_rfl) (by kernel_rfl)
  (by kernel_rfl) (Eq.trans (by kernel_rfl) h)
def ly : HK where
 call := fun args σ k => match args with
  | [.agg [.int .u64 a0, .int .u64 a1, .int .u64 a2, .int .u64 a3, .int .u64 a4, .int .u64 a5, .int .u64 a6, .int .u64 a7]] => Option.bind (eH a0 a1 a2 a3 a4 a5 a6 a7) fun y => aC σ 0 (mh.val y) (mh.aN y) k
  | _ => none
 nat := fun args σ k => by
  repeat' split
  all_goals simp only [av, ai, UA, Uz, aC, Uy]
 pure := true
 pok := fun _ args σ r σ' h => by
  split at h
  ·exact bq h (fun y => rfl) (fun y f => rfl)
  ·cases h
theorem pU : aX U2 75 ly := by
 intro args σ r σ' h
 simp only [ly] at h
 split at h
 ·rename_i a0 a1 a2 a3 a4 a5 a6 a7
  obtain ⟨y, hy, h⟩ := bE_ h
  exact lifted (xs := []) (ls := []) (cargs := [.agg (v8 a0 a1 a2 a3 a4 a5 a6 a7 [])]) (bC.of trivial) rfl (EW a0 a1 a2 a3 a4 a5 a6 a7 y hy) rfl rfl rfl rfl h
 ·cases h
abbrev zO := Int × Int × Int × Int × Int × Int × Int × Int
def HR : CH := (CH.add 75 ly (CH.add 37 cQ CH.none))
theorem DR : aG U2 HR := (CH.ak pU (CH.ak cV CH.aF))
def dz (a0 a1 a2 a3 a4 a5 a6 a7 : Int) : Option (zO) :=
 (Option.bind (aj a0 a1 a2 a3 a4 a5 a6 a7) fun r1 => (cond r1 (Option.bind (eH a0 a1 a2 a3 a4 a5 a6 a7) fun r2 => (some (r2.1, r2.2.1, r2.2.2.1, r2.2.2.2.1, r2.2.2.2.2.1, r2.2.2.2.2.2.1, r2.2.2.2.2.2.2.1, r2.2.2.2.2.2.2.2))) (some (a0, a1, a2, a3, a4, a5, a6, a7))))
def nL : FD where
 X := zO
 k := 0
 pre := []
 F := fun s => []
 M := .agg (rl (.int .u64) 8 [])
 B := []
 toL := fun x => [.I x.1, .I x.2.1, .I x.2.2.1, .I x.2.2.2.1, .I x.s4.1, .I x.s4.2.1, .I x.s4.2.2.1, .I x.s4.2.2.2]
 ofL := fun ls => match ls with
  | [.I x0, .I x1, .I x2, .I x3, .I x4, .I x5, .I x6, .I x7] => some (x0, x1, x2, x3, x4, x5, x6, x7)
  | _ => none
 au := fun ls x h => by
  split at h
  ·cases h; rfl
  ·cases h
theorem F8 (a0 a1 a2 a3 a4 a5 a6 a7 : Int) (x : zO) (h : dz a0 a1 a2 a3 a4 a5 a6 a7 = some x) : bg U2 48 0 [.agg (v8 a0 a1 a2 a3 a4 a5 a6 a7 [])] [] nL x :=
 FD.semA nL DR Try.func48 (fuel := 60) (by kernel_rfl) (by kernel_rfl)
  (by kernel_rfl) (Eq.trans (by kernel_rfl) h)
def rK : HK where
 call := fun args σ k => match args with
  | [.agg [.int .u64 a0, .int .u64 a1, .int .u64 a2, .int .u64 a3, .int .u64 a4, .int .u64 a5, .int .u64 a6, .int .u64 a7]] => Option.bind (dz a0 a1 a2 a3 a4 a5 a6 a7) fun y => aC σ 0 (nL.val y) (nL.aN y) k
  | _ => none
 nat := fun args σ k => by
  repeat' split
  all_goals simp only [av, ai, UA, Uz, aC, Uy]
 pure := true
 pok := fun _ args σ r σ' h => by
  split at h
  ·exact bq h (fun y => rfl) (fun y f => rfl)
  ·cases h
theorem yf : aX U2 48 rK := by
 intro args σ r σ' h
 simp only [rK] at h
 split at h
 ·rename_i a0 a1 a2 a3 a4 a5 a6 a7
  obtain ⟨y, hy, h⟩ := bE_ h
  exact lifted (xs := []) (ls := []) (cargs := [.agg (v8 a0 a1 a2 a3 a4 a5 a6 a7 [])]) (bC.of trivial) rfl (F8 a0 a1 a2 a3 a4 a5 a6 a7 y hy) rfl rfl rfl rfl h
 ·cases h
abbrev iu := LA_ × Nat × LA_ × Nat × LA_ × Nat × LA_ × Nat × LA_ × Nat × Nat × Int × Int
abbrev iv := LA_ × Nat × LA_ × Nat × LA_ × Nat × LA_ × Nat × LA_ × Nat × Nat
abbrev BW := (I8 Bool)
def yl : CH := (CH.add 75 ly (CH.add 59 mN (CH.add 48 rK (CH.add 37 cQ (CH.add 60 F3 CH.none)))))
def nH : CH := uJ U2 iQ [51] 60 yl 2
theorem DK : aG U2 yl := (CH.ak pU (CH.ak zf (CH.ak yf (CH.ak cV (CH.ak (In Try.func60 (by kernel_rfl) (by kernel_rfl) (by kernel_rfl) (by kernel_rfl)) CH.aF)))))
theorem od : aG U2 nH := ik aJ mixed bK DK 2
def fN {R : Type} (cc : iu) (v : LA_ × Int × Int) (kn : (LA_ × Int × Int) → Option R) (ke : ((Unit) ⊕ (LA_ × Int)) → Option R) : Option R :=
 (cond (decide (v.2.2 < 8)) (af (decide (0 ≤ cc.2.2.2.2.2.2.2.2.2.2.2.1) && decide (cc.2.2.2.2.2.2.2.2.2.2.2.1 < ((8 : Nat) : Int))) (af (aq [.int .u64] cc.2.2.2.2.2.2.1 (0 + (Int.toNat cc.2.2.2.2.2.2.2.2.2.2.2.1 * 1))) (af (decide (0 ≤ v.2.2) && decide (v.2.2 < ((8 : Nat) : Int))) (af (aq [.int .u64] cc.2.2.2.2.2.2.2.2.1 (0 + (Int.toNat v.2.2 * 1))) (Option.bind (fY (ac cc.2.2.2.2.2.2.1 ((0 + (Int.toNat cc.2.2.2.2.2.2.2.2.2.2.2.1 * 1)) + 0)) (ac cc.2.2.2.2.2.2.2.2.1 ((0 + (Int.toNat v.2.2 * 1)) + 0))) fun r3 => (Option.bind (gR r3.2 v.2.1 0) fun r4 => (cond (decide ((IntKind.wrap .i64 (cc.2.2.2.2.2.2.2.2.2.2.2.1 + v.2.2)) ≥ 8)) (cond (r4.1 != 0) (ke (.inl ())) (cond ((IntKind.wrap .u64 (r3.1 + r4.2)) != 0) (ke (.inl ())) (kn (v.1, 0, (IntKind.wrap .i64 (v.2.2 + 1)))))) (af (decide (0 ≤ (IntKind.wrap .i64 (cc.2.2.2.2.2.2.2.2.2.2.2.1 + v.2.2))) && decide ((IntKind.wrap .i64 (cc.2.2.2.2.2.2.2.2.2.2.2.1 + v.2.2)) < ((8 : Nat) : Int))) (af (aq [.int .u64] v.1 (0 + (Int.toNat (IntKind.wrap .i64 (cc.2.2.2.2.2.2.2.2.2.2.2.1 + v.2.2)) * 1))) (Option.bind (gR (ac v.1 ((0 + (Int.toNat (IntKind.wrap .i64 (cc.2.2.2.2.2.2.2.2.2.2.2.1 + v.2.2)) * 1)) + 0)) r4.1 0) fun r5 => (af (decide (0 ≤ (IntKind.wrap .i64 (cc.2.2.2.2.2.2.2.2.2.2.2.1 + v.2.2))) && decide ((IntKind.wrap .i64 (cc.2.2.2.2.2.2.2.2.2.2.2.1 + v.2.2)) < ((8 : Nat) : Int))) (af (decide ((0 + (Int.toNat (IntKind.wrap .i64 (cc.2.2.2.2.2.2.2.2.2.2.2.1 + v.2.2)) * 1)) + 1 ≤ List.length v.1)) (kn ((spliced v.1 (0 + (Int.toNat (IntKind.wrap .i64 (cc.2.2.2.2.2.2.2.2.2.2.2.1 + v.2.2)) * 1)) [.int .u64 r5.1]), (IntKind.wrap .u64 ((IntKind.wrap .u64 (r3.1 + r4.2)) + r5.2)), (IntKind.wrap .i64 (v.2.2 + 1)))))))))))))))) (ke (.inr (v.1, v.2.1))))
def pV (cc : iu) (v : LA_ × Int × Int) : Option ((LA_ × Int × Int) ⊕ ((Unit) ⊕ (LA_ × Int))) := fN cc v (fun v => some (Sum.inl v)) fun e => some (Sum.inr e)
def ym (cc : iu) (v : LA_ × Int × Int) : Option ((Unit) ⊕ (LA_ × Int)) := dZ (pV cc) v
def DL (cc : iu) (v : LA_ × Int × Int) : List ah := [.I cc.s8.2.2.2.1, .I v.2.1, .I cc.s8.s4, .I v.2.2, .C cc.1, .N cc.2.1, .C cc.2.2.1, .N cc.2.2.2.1, .C cc.s4.1, .N cc.s4.2.1, .C cc.s4.2.2.1, .N cc.s4.2.2.2.1, .C cc.s8.1, .N cc.s8.2.1, .C v.1, .N cc.s8.2.2.1]
def tS (ls : List ah) : Option ((iu) × (LA_ × Int × Int)) := match ls with
 | [.I x0, .I x1, .I x2, .I x3, .C x4, .N x5, .C x6, .N x7, .C x8, .N x9, .C x10, .N x11, .C x12, .N x13, .C x14, .N x15] => some ((x4, x5, x6, x7, x8, x9, x10, x11, x12, x13, x15, x0, x2), (x14, x1, x3))
 | _ => none
def tT (e : (Unit) ⊕ (LA_ × Int)) : an := ((Sum.elim (fun e => .pan (.iface 110 (.agg []))) (fun e => .exit 2)) e)
def tU (cc : iu) (e : (Unit) ⊕ (LA_ × Int)) : List ah := ((Sum.elim (fun e => [.C cc.s4.1, .N cc.s4.2.1]) (fun e => [.I e.2, .I cc.s8.s4, .C cc.1, .N cc.2.1, .C cc.2.2.1, .N cc.2.2.2.1, .C cc.s4.1, .N cc.s4.2.1, .C cc.s4.2.2.1, .N cc.s4.2.2.2.1, .C cc.s8.1, .N cc.s8.2.1, .C e.1, .N cc.s8.2.2.1])) e)
def iw (cc : iu) (e : (Unit) ⊕ (LA_ × Int)) : List ah := ((Sum.elim (fun e => [.C cc.s4.1, .N cc.s4.2.1]) (fun e => [.I cc.s8.s4, .C cc.1, .N cc.2.1, .C cc.2.2.1, .N cc.2.2.2.1, .C cc.s4.1, .N cc.s4.2.1, .C cc.s4.2.2.1, .N cc.s4.2.2.2.1, .C cc.s8.1, .N cc.s8.2.1, .N cc.s8.2.2.1])) e)
def mX (o : an) (ls : List ah) : Option (((Unit) ⊕ (LA_ × Int)) × List ah) := match o with
 | .pan (.iface 110 (.agg [])) => (match ls with
  | [.C x0, .N x1] => some ((.inl ()), [.C x0, .N x1])
  | _ => none)
 | .exit 2 => (match ls with
  | [.I x0, .I x1, .C x2, .N x3, .C x4, .N x5, .C x6, .N x7, .C x8, .N x9, .C x10, .N x11, .C x12, .N x13] => some ((.inr (x12, x0)), [.I x1, .C x2, .N x3, .C x4, .N x5, .C x6, .N x7, .C x8, .N x9, .C x10, .N x11, .N x13])
  | _ => none)
 | _ => none
theorem zK : ∀ o ls e cl cc, mX o ls = some (e, cl) → cl = iw cc e → ls = tU cc e ∧ tT e = o ∧ o ≠ .normal ∧ ∀ v, o = .pan v → sc 0 v = true := by
 intro o ls e cl cc h hc
 unfold mX at h
 split at h
 ·split at h
  ·cases h
   simp only [iw, UZ, UY, List.cons.injEq, ah.I.injEq, ah.N.injEq, ah.C.injEq, and_true] at hc
   obtain ⟨rfl, rfl⟩ := hc
   exact ⟨rfl, rfl, by simp, by intro v hv; cases hv <;> rfl⟩
  ·cases h
 ·split at h
  ·cases h
   simp only [iw, UZ, UY, List.cons.injEq, ah.I.injEq, ah.N.injEq, ah.C.injEq, and_true] at hc
   obtain ⟨rfl, rfl, rfl, rfl, rfl, rfl, rfl, rfl, rfl, rfl, rfl, rfl⟩ := hc
   exact ⟨rfl, rfl, by simp, by intro v hv; cases hv <;> rfl⟩
  ·cases h
 ·cases h
def EX (o : an) : ExS := match o with
 | .pan (.iface 110 (.agg [])) => ⟨2, (none :: none :: none :: none :: some (.ptr 0 0) :: some (.ptr 1 0) :: (rl none 89 [])), [(0, .vec 8 true), (1, .cells [.s6 false] true none)], fun s => [nameAt s 4 [], nameAt s 5 []], [], [(58, [4, 5])]⟩
 | .exit 2 => ⟨7, (none :: none :: some (.ptr 0 0) :: some (.ptr 1 0) :: some (.ptr 2 0) :: some (.ptr 3 0) :: some (.ptr 4 0) :: some (.ptr 5 0) :: some (.ptr 6 0) :: none :: some (.int .u64) :: (rl none 11 (some (.int .i64) :: (rl none 72 [])))), [(0, .vec 8 true), (1, .vec 8 true), (2, .vec 8 true), (3, .cells [.s6 false] true none), (4, .vec 8 true), (5, .vec 8 true), (6, .vec 8 true)], fun s => [nameAt s 2 [], nameAt s 3 [], nameAt s 4 [], nameAt s 5 [], nameAt s 6 [], nameAt s 7 [], nameAt s 8 []], [], [(58, [4, 5])]⟩
 | _ => ⟨0, [], [], fun _ => [], [], []⟩
theorem DM {R : Type} (cc : iu) (v : LA_ × Int × Int) (kn : (LA_ × Int × Int) → Option R) (ke : ((Unit) ⊕ (LA_ × Int)) → Option R) : fN cc v kn ke = (fN cc v (fun v => some (Sum.inl v)) fun e => some (Sum.inr e)).bind (Sum.elim kn ke) := by
 simp only [fN, bX, ai, UA, cu, bS, Uy, Uz, UZ, UY]
def pW : LD where
 CC := iu
 V := LA_ × Int × Int
 E := (Unit) ⊕ (LA_ × Int)
 n := 0
 K := 7
 M := (none :: none :: some (.ptr 0 0) :: some (.ptr 1 0) :: some (.ptr 2 0) :: some (.ptr 3 0) :: some (.ptr 4 0) :: some (.ptr 5 0) :: some (.ptr 6 0) :: some (.int .i64) :: some (.int .u64) :: (rl none 11 (some (.int .i64) :: (rl none 6 (some (.int .i64) :: (rl none 65 []))))))
 B := [(0, .vec 8 true), (1, .vec 8 true), (2, .vec 8 true), (3, .cells [.s6 false] true none), (4, .vec 8 true), (5, .vec 8 true), (6, .vec 8 true)]
 D := [(58, [4, 5])]
 pre := []
 F := fun s => [nameAt s 2 [], nameAt s 3 [], nameAt s 4 [], nameAt s 5 [], nameAt s 6 [], nameAt s 7 [], nameAt s 8 []]
 toL := DL
 ofL := tS
 au := fun ls c v h => by
  unfold tS at h
  split at h
  ·cases h; rfl
  ·cases h
 cw := fN
 nat := DM
 sh := EX
 out := tT
 toE := tU
 fQ := iw
 ofE := mX
 dn := zK
 post := fun cc e k => ((Sum.elim (fun e => k (.pan (.iface 110 (.agg []))) (bo 2 (none :: none :: none :: none :: some (.ptr 0 0) :: some (.ptr 1 0) :: (rl none 89 [])) [(0, .vec cc.s4.1 cc.s4.2.1 8 true), (1, .cells [.bool false] true none)] [(58, [4, 5])])) (fun e => k (.exit 2) (bo 7 (none :: none :: some (.ptr 0 0) :: some (.ptr 1 0) :: some (.ptr 2 0) :: some (.ptr 3 0) :: some (.ptr 4 0) :: some (.ptr 5 0) :: some (.ptr 6 0) :: none :: some (.int .u64 e.2) :: (rl none 11 (some (.int .i64 cc.s8.s4) :: (rl none 72 [])))) [(0, .vec cc.1 cc.2.1 8 true), (1, .vec cc.2.2.1 cc.2.2.2.1 8 true), (2, .vec cc.s4.1 cc.s4.2.1 8 true), (3, .cells [.bool false] true none), (4, .vec cc.s4.2.2.1 cc.s4.2.2.2.1 8 true), (5, .vec cc.s8.1 cc.s8.2.1 8 true), (6, .vec e.1 cc.s8.2.2.1 8 true)] [(58, [4, 5])]))) e)
 cv := fun cc e k => by rcases e with e | e <;> rfl
theorem tV : cX U2 0 pW.la (aO Try.f35 1) :=
 LD.ok (ch := nH) (A := bD) aJ od mixed (fuel := 60) ⟨by kernel_rfl, fun e => by (rcases e with e | e <;> kernel_rfl), fun cc v => by kernel_rfl, aK (l := []) (by kernel_rfl) trivial⟩
def gy {R : Type} (cc : iv) (v : LA_ × Int) (kn : (LA_ × Int) → Option R) (ke : ((Unit) ⊕ (LA_)) → Option R) : Option R :=
 (cond (decide (v.2 < 8)) (af (decide (0 ≤ v.2) && decide (v.2 < ((8 : Nat) : Int))) (af (aq [.int .u64] cc.2.2.2.2.2.2.1 (0 + (Int.toNat v.2 * 1))) (cond ((ac cc.2.2.2.2.2.2.1 ((0 + (Int.toNat v.2 * 1)) + 0)) == 0) (kn (v.1, (IntKind.wrap .i64 (v.2 + 1)))) (Option.bind (ym (cc.1, cc.2.1, cc.2.2.1, cc.2.2.2.1, cc.2.2.2.2.1, cc.2.2.2.2.2.1, cc.2.2.2.2.2.2.1, cc.2.2.2.2.2.2.2.1, cc.2.2.2.2.2.2.2.2.1, cc.2.2.2.2.2.2.2.2.2.1, cc.2.2.2.2.2.2.2.2.2.2, v.2, v.2) (v.1, 0, 0)) (Sum.elim (fun e6 => (ke (.inl ()))) (fun e6 => (cond (e6.2 != 0) (ke (.inl ())) (kn (e6.1, (IntKind.wrap .i64 (v.2 + 1))))))))))) (ke (.inr v.1)))
def rv (cc : iv) (v : LA_ × Int) : Option ((LA_ × Int) ⊕ ((Unit) ⊕ (LA_))) := gy cc v (fun v => some (Sum.inl v)) fun e => some (Sum.inr e)
def tl (cc : iv) (v : LA_ × Int) : Option ((Unit) ⊕ (LA_)) := dZ (rv cc) v
def EY (cc : iv) (v : LA_ × Int) : List ah := [.I v.2, .C cc.1, .N cc.2.1, .C cc.2.2.1, .N cc.2.2.2.1, .C cc.s4.1, .N cc.s4.2.1, .C cc.s4.2.2.1, .N cc.s4.2.2.2.1, .C cc.s8.1, .N cc.s8.2.1, .C v.1, .N cc.s8.2.2]
def vq (ls : List ah) : Option ((iv) × (LA_ × Int)) := match ls with
 | [.I x0, .C x1, .N x2, .C x3, .N x4, .C x5, .N x6, .C x7, .N x8, .C x9, .N x10, .C x11, .N x12] => some ((x1, x2, x3, x4, x5, x6, x7, x8, x9, x10, x12), (x11, x0))
 | _ => none
def vr (e : (Unit) ⊕ (LA_)) : an := ((Sum.elim (fun e => .pan (.iface 110 (.agg []))) (fun e => .exit 0)) e)
def vt (cc : iv) (e : (Unit) ⊕ (LA_)) : List ah := ((Sum.elim (fun e => [.C cc.s4.1, .N cc.s4.2.1]) (fun e => [.C cc.1, .N cc.2.1, .C cc.2.2.1, .N cc.2.2.2.1, .C cc.s4.1, .N cc.s4.2.1, .C e, .N cc.s8.2.2])) e)
def iV (cc : iv) (e : (Unit) ⊕ (LA_)) : List ah := ((Sum.elim (fun e => [.C cc.s4.1, .N cc.s4.2.1]) (fun e => [.C cc.1, .N cc.2.1, .C cc.2.2.1, .N cc.2.2.2.1, .C cc.s4.1, .N cc.s4.2.1, .N cc.s8.2.2])) e)
def oe (o : an) (ls : List ah) : Option (((Unit) ⊕ (LA_)) × List ah) := match o with
 | .pan (.iface 110 (.agg [])) => (match ls with
  | [.C x0, .N x1] => some ((.inl ()), [.C x0, .N x1])
  | _ => none)
 | .exit 0 => (match ls with
  | [.C x0, .N x1, .C x2, .N x3, .C x4, .N x5, .C x6, .N x7] => some ((.inr x6), [.C x0, .N x1, .C x2, .N x3, .C x4, .N x5, .N x7])
  | _ => none)
 | _ => none
theorem Bh : ∀ o ls e cl cc, oe o ls = some (e, cl) → cl = iV cc e → ls = vt cc e ∧ vr e = o ∧ o ≠ .normal ∧ ∀ v, o = .pan v → sc 0 v = true := by
 intro o ls e cl cc h hc
 unfold oe at h
 split at h
 ·split at h
  ·cases h
   simp only [iV, UZ, UY, List.cons.injEq, ah.N.injEq, ah.C.injEq, and_true] at hc
   obtain ⟨rfl, rfl⟩ := hc
   exact ⟨rfl, rfl, by simp, by intro v hv; cases hv <;> rfl⟩
  ·cases h
 ·split at h
  ·cases h
   simp only [iV, UZ, UY, List.cons.injEq, ah.N.injEq, ah.C.injEq, and_true] at hc
   obtain ⟨rfl, rfl, rfl, rfl, rfl, rfl, rfl⟩ := hc
   exact ⟨rfl, rfl, by simp, by intro v hv; cases hv <;> rfl⟩
  ·cases h
 ·cases h
def F4 (o : an) : ExS := match o with
 | .pan (.iface 110 (.agg [])) => ⟨2, (none :: none :: none :: none :: some (.ptr 0 0) :: some (.ptr 1 0) :: (rl none 89 [])), [(0, .vec 8 true), (1, .cells [.s6 false] true none)], fun s => [nameAt s 4 [], nameAt s 5 []], [], [(58, [4, 5])]⟩
 | .exit 0 => ⟨5, (none :: none :: some (.ptr 0 0) :: some (.ptr 1 0) :: some (.ptr 2 0) :: some (.ptr 3 0) :: none :: none :: some (.ptr 4 0) :: (rl none 86 [])), [(0, .vec 8 true), (1, .vec 8 true), (2, .vec 8 true), (3, .cells [.s6 false] true none), (4, .vec 8 true)], fun s => [nameAt s 2 [], nameAt s 3 [], nameAt s 4 [], nameAt s 5 [], nameAt s 8 []], [], [(58, [4, 5])]⟩
 | _ => ⟨0, [], [], fun _ => [], [], []⟩
theorem EZ {R : Type} (cc : iv) (v : LA_ × Int) (kn : (LA_ × Int) → Option R) (ke : ((Unit) ⊕ (LA_)) → Option R) : gy cc v kn ke = (gy cc v (fun v => some (Sum.inl v)) fun e => some (Sum.inr e)).bind (Sum.elim kn ke) := by
 simp only [gy, bX, ai, UA, cu, bS, Uy, Uz, UZ, UY]
def yn : LD where
 CC := iv
 V := LA_ × Int
 E := (Unit) ⊕ (LA_)
 n := 0
 K := 7
 M := (none :: none :: some (.ptr 0 0) :: some (.ptr 1 0) :: some (.ptr 2 0) :: some (.ptr 3 0) :: some (.ptr 4 0) :: some (.ptr 5 0) :: some (.ptr 6 0) :: (rl none 13 (some (.int .i64) :: (rl none 72 []))))
 B := [(0, .vec 8 true), (1, .vec 8 true), (2, .vec 8 true), (3, .cells [.s6 false] true none), (4, .vec 8 true), (5, .vec 8 true), (6, .vec 8 true)]
 D := [(58, [4, 5])]
 pre := []
 F := fun s => [nameAt s 2 [], nameAt s 3 [], nameAt s 4 [], nameAt s 5 [], nameAt s 6 [], nameAt s 7 [], nameAt s 8 []]
 toL := EY
 ofL := vq
 au := fun ls c v h => by
  unfold vq at h
  split at h
  ·cases h; rfl
  ·cases h
 cw := gy
 nat := EZ
 sh := F4
 out := vr
 toE := vt
 fQ := iV
 ofE := oe
 dn := Bh
 post := fun cc e k => ((Sum.elim (fun e => k (.pan (.iface 110 (.agg []))) (bo 2 (none :: none :: none :: none :: some (.ptr 0 0) :: some (.ptr 1 0) :: (rl none 89 [])) [(0, .vec cc.s4.1 cc.s4.2.1 8 true), (1, .cells [.bool false] true none)] [(58, [4, 5])])) (fun e => k (.exit 0) (bo 5 (none :: none :: some (.ptr 0 0) :: some (.ptr 1 0) :: some (.ptr 2 0) :: some (.ptr 3 0) :: none :: none :: some (.ptr 4 0) :: (rl none 86 [])) [(0, .vec cc.1 cc.2.1 8 true), (1, .vec cc.2.2.1 cc.2.2.2.1 8 true), (2, .vec cc.s4.1 cc.s4.2.1 8 true), (3, .cells [.bool false] true none), (4, .vec e cc.s8.2.2 8 true)] [(58, [4, 5])]))) e)
 cv := fun cc e k => by rcases e with e | e <;> rfl
theorem E0 : cX U2 0 yn.la (aO Try.f35 0) :=
 LD.ok (ch := nH) (A := eT [(10, pW.la)]) aJ od mixed (fuel := 60) ⟨by kernel_rfl, fun e => by (rcases e with e | e <;> kernel_rfl), fun cc v => by kernel_rfl, aK (l := [aO Try.f35 1]) (by kernel_rfl) ⟨ci (by kernel_rfl) tV, trivial⟩⟩
def pX (a0 a1 a2 a3 a4 a5 a6 a7 a8 a9 a10 a11 a12 a13 a14 a15 : Int) : Option (BW) :=
 (Option.bind (dz a0 a1 a2 a3 a4 a5 a6 a7) fun r1 => (Option.bind (dz a8 a9 a10 a11 a12 a13 a14 a15) fun r2 => (Option.bind (tl ((bI a0 a1 a2 a3 a4 a5 a6 a7), 1, (bI a8 a9 a10 a11 a12 a13 a14 a15), 1, (bI 0 0 0 0 0 0 0 0), 1, (bI r1.1 r1.2.1 r1.2.2.1 r1.2.2.2.1 r1.2.2.2.2.1 r1.2.2.2.2.2.1 r1.2.2.2.2.2.2.1 r1.2.2.2.2.2.2.2), 1, (bI r2.1 r2.2.1 r2.2.2.1 r2.2.2.2.1 r2.2.2.2.2.1 r2.2.2.2.2.2.1 r2.2.2.2.2.2.2.1 r2.2.2.2.2.2.2.2), 1, 1) ((bI 0 0 0 0 0 0 0 0), 0)) (Sum.elim (fun e3 => (some (0, 0, 0, 0, 0, 0, 0, 0, false))) (fun e3 => (af (aq fL e3 0) (Option.bind (aj a0 a1 a2 a3 a4 a5 a6 a7) fun r4 => (cond r4 (Option.bind (aj a8 a9 a10 a11 a12 a13 a14 a15) fun r5 => (cond r5 (cond (!((ac e3 0) == 0 && ((ac e3 1) == 0 && ((ac e3 2) == 0 && ((ac e3 3) == 0 && ((ac e3 4) == 0 && ((ac e3 5) == 0 && ((ac e3 6) == 0 && ((ac e3 7) == 0 && true))))))))) (Option.bind (aj (ac e3 0) (ac e3 1) (ac e3 2) (ac e3 3) (ac e3 4) (ac e3 5) (ac e3 6) (ac e3 7)) fun r6 => (cond r6 (some (0, 0, 0, 0, 0, 0, 0, 0, false)) (some ((ac e3 0), (ac e3 1), (ac e3 2), (ac e3 3), (ac e3 4), (ac e3 5), (ac e3 6), (ac e3 7), true)))) (some ((ac e3 0), (ac e3 1), (ac e3 2), (ac e3 3), (ac e3 4), (ac e3 5), (ac e3 6), (ac e3 7), true))) (Option.bind (eH (ac e3 0) (ac e3 1) (ac e3 2) (ac e3 3) (ac e3 4) (ac e3 5) (ac e3 6) (ac e3 7)) fun r7 => (cond (!(r7.1 == 0 && (r7.2.1 == 0 && (r7.2.2.1 == 0 && (r7.2.2.2.1 == 0 && (r7.2.2.2.2.1 == 0 && (r7.2.2.2.2.2.1 == 0 && (r7.2.2.2.2.2.2.1 == 0 && (r7.2.2.2.2.2.2.2 == 0 && true))))))))) (Option.bind (aj r7.1 r7.2.1 r7.2.2.1 r7.2.2.2.1 r7.2.2.2.2.1 r7.2.2.2.2.2.1 r7.2.2.2.2.2.2.1 r7.2.2.2.2.2.2.2) fun r8 => (cond r8 (some (r7.1, r7.2.1, r7.2.2.1, r7.2.2.2.1, r7.2.2.2.2.1, r7.2.2.2.2.2.1, r7.2.2.2.2.2.2.1, r7.2.2.2.2.2.2.2, true)) (some (0, 0, 0, 0, 0, 0, 0, 0, false)))) (some (r7.1, r7.2.1, r7.2.2.1, r7.2.2.2.1, r7.2.2.2.2.1, r7.2.2.2.2.2.1, r7.2.2.2.2.2.2.1, r7.2.2.2.2.2.2.2, true)))))) (Option.bind (aj a8 a9 a10 a11 a12 a13 a14 a15) fun r9 => (cond r9 (Option.bind (eH (ac e3 0) (ac e3 1) (ac e3 2) (ac e3 3) (ac e3 4) (ac e3 5) (ac e3 6) (ac e3 7)) fun r10 => (cond (!(r10.1 == 0 && (r10.2.1 == 0 && (r10.2.2.1 == 0 && (r10.2.2.2.1 == 0 && (r10.2.2.2.2.1 == 0 && (r10.2.2.2.2.2.1 == 0 && (r10.2.2.2.2.2.2.1 == 0 && (r10.2.2.2.2.2.2.2 == 0 && true))))))))) (Option.bind (aj r10.1 r10.2.1 r10.2.2.1 r10.2.2.2.1 r10.2.2.2.2.1 r10.2.2.2.2.2.1 r10.2.2.2.2.2.2.1 r10.2.2.2.2.2.2.2) fun r11 => (cond r11 (some (r10.1, r10.2.1, r10.2.2.1, r10.2.2.2.1, r10.2.2.2.2.1, r10.2.2.2.2.2.1, r10.2.2.2.2.2.2.1, r10.2.2.2.2.2.2.2, true)) (some (0, 0, 0, 0, 0, 0, 0, 0, false)))) (some (r10.1, r10.2.1, r10.2.2.1, r10.2.2.2.1, r10.2.2.2.2.1, r10.2.2.2.2.2.1, r10.2.2.2.2.2.2.1, r10.2.2.2.2.2.2.2, true)))) (cond (!((ac e3 0) == 0 && ((ac e3 1) == 0 && ((ac e3 2) == 0 && ((ac e3 3) == 0 && ((ac e3 4) == 0 && ((ac e3 5) == 0 && ((ac e3 6) == 0 && ((ac e3 7) == 0 && true))))))))) (Option.bind (aj (ac e3 0) (ac e3 1) (ac e3 2) (ac e3 3) (ac e3 4) (ac e3 5) (ac e3 6) (ac e3 7)) fun r12 => (cond r12 (some (0, 0, 0, 0, 0, 0, 0, 0, false)) (some ((ac e3 0), (ac e3 1), (ac e3 2), (ac e3 3), (ac e3 4), (ac e3 5), (ac e3 6), (ac e3 7), true)))) (some ((ac e3 0), (ac e3 1), (ac e3 2), (ac e3 3), (ac e3 4), (ac e3 5), (ac e3 6), (ac e3 7), true)))))))))))))
def pY : FD where
 X := BW
 k := 0
 pre := []
 F := fun s => []
 M := .tup [.agg (rl (.int .u64) 8 []), .bool]
 B := []
 toL := fun x => [.I x.1, .I x.2.1, .I x.2.2.1, .I x.2.2.2.1, .I x.s4.1, .I x.s4.2.1, .I x.s4.2.2.1, .I x.s4.2.2.2.1, .B x.s8]
 ofL := fun ls => match ls with
  | [.I x0, .I x1, .I x2, .I x3, .I x4, .I x5, .I x6, .I x7, .B x8] => some (x0, x1, x2, x3, x4, x5, x6, x7, x8)
  | _ => none
 au := fun ls x h => by
  split at h
  ·cases h; rfl
  ·cases h
theorem HM : wh U2 58 Try.f58 0 (Mp (Mq (bu Try.f58))) (Hk (bu Try.f58) 0) (Hk (bu Try.f58) 1) (O7 (bu Try.f58)) 3 2 :=
 ⟨Try.func58, ⟨_, Try.func58, bK 58 _ Try.func58, by kernel_rfl⟩, by kernel_rfl, by kernel_rfl, by kernel_rfl, by kernel_rfl, by kernel_rfl, by kernel_rfl, by kernel_rfl, by kernel_rfl, by kernel_rfl, (by decide)⟩
theorem HN (a0 a1 a2 a3 a4 a5 a6 a7 a8 a9 a10 a11 a12 a13 a14 a15 : Int) (x : BW) (h : pX a0 a1 a2 a3 a4 a5 a6 a7 a8 a9 a10 a11 a12 a13 a14 a15 = some x) : bg U2 35 0 [.agg (bI a0 a1 a2 a3 a4 a5 a6 a7), .agg (bI a8 a9 a10 a11 a12 a13 a14 a15)] [] pY x :=
 FD.Su (ch := nH) (A := eT [(10, pW.la), (5, yn.la)]) (fn := Try.f35) (c := bu Try.f35) (fuel := 60) aJ od mixed bK pY Try.func35 (by kernel_rfl) (aK (l := [aO Try.f35 0, aO Try.f35 1]) (by kernel_rfl) ⟨ci (by kernel_rfl) E0, ci (by kernel_rfl) tV, trivial⟩)
  (by kernel_rfl) HM (by kernel_rfl) (Eq.trans (by kernel_rfl) h)
def zL : HK where
 call := fun args σ k => match args with
  | [.agg [.int .u64 a0, .int .u64 a1, .int .u64 a2, .int .u64 a3, .int .u64 a4, .int .u64 a5, .int .u64 a6, .int .u64 a7], .agg [.int .u64 a8, .int .u64 a9, .int .u64 a10, .int .u64 a11, .int .u64 a12, .int .u64 a13, .int .u64 a14, .int .u64 a15]] => Option.bind (pX a0 a1 a2 a3 a4 a5 a6 a7 a8 a9 a10 a11 a12 a13 a14 a15) fun y => aC σ 0 (pY.val y) (pY.aN y) k
  | _ => none
 nat := fun args σ k => by
  repeat' split
  all_goals simp only [av, ai, UA, Uz, aC, Uy]
 pure := true
 pok := fun _ args σ r σ' h => by
  split at h
  ·exact bq h (fun y => rfl) (fun y f => rfl)
  ·cases h
theorem I7 : aX U2 35 zL := by
 intro args σ r σ' h
 simp only [zL] at h
 split at h
 ·rename_i a0 a1 a2 a3 a4 a5 a6 a7 a8 a9 a10 a11 a12 a13 a14 a15
  obtain ⟨y, hy, h⟩ := bE_ h
  exact lifted (xs := []) (ls := []) (cargs := [.agg (bI a0 a1 a2 a3 a4 a5 a6 a7), .agg (bI a8 a9 a10 a11 a12 a13 a14 a15)]) (bC.of trivial) rfl (HN a0 a1 a2 a3 a4 a5 a6 a7 a8 a9 a10 a11 a12 a13 a14 a15 y hy) rfl rfl rfl rfl h
 ·cases h
abbrev zH := Int × Int × Int × Int × Int × Int × Int × Int
def yi : CH := CH.none
theorem DF : aG U2 yi := CH.aF
def km (a0 a1 a2 a3 a4 a5 a6 a7 : Int) : Option (zH) :=
 (some ((ior .u64 (aD .u64 a0 1) (gV .u64 a1 63)), (ior .u64 (aD .u64 a1 1) (gV .u64 a2 63)), (ior .u64 (aD .u64 a2 1) (gV .u64 a3 63)), (ior .u64 (aD .u64 a3 1) (gV .u64 a4 63)), (ior .u64 (aD .u64 a4 1) (gV .u64 a5 63)), (ior .u64 (aD .u64 a5 1) (gV .u64 a6 63)), (ior .u64 (aD .u64 a6 1) (gV .u64 a7 63)), (aD .u64 a7 1)))
def nF : FD where
 X := zH
 k := 0
 pre := []
 F := fun s => []
 M := .agg (rl (.int .u64) 8 [])
 B := []
 toL := fun x => [.I x.1, .I x.2.1, .I x.2.2.1, .I x.2.2.2.1, .I x.s4.1, .I x.s4.2.1, .I x.s4.2.2.1, .I x.s4.2.2.2]
 ofL := fun ls => match ls with
  | [.I x0, .I x1, .I x2, .I x3, .I x4, .I x5, .I x6, .I x7] => some (x0, x1, x2, x3, x4, x5, x6, x7)
  | _ => none
 au := fun ls x h => by
  split at h
  ·cases h; rfl
  ·cases h
theorem F0 (a0 a1 a2 a3 a4 a5 a6 a7 : Int) (x : zH) (h : km a0 a1 a2 a3 a4 a5 a6 a7 = some x) : bg U2 74 0 [.agg (v8 a0 a1 a2 a3 a4 a5 a6 a7 [])] [] nF x :=
 FD.sem (ch := yi) (A := bD) (fn := Try.f74) (c := bu Try.f74) (fuel := 60) aJ DF mixed bK nF Try.func74 (by kernel_rfl) (aK (l := [aO Try.f74 0]) (by kernel_rfl) ⟨(eh (by kernel_rfl)), trivial⟩)
  (by kernel_rfl) (Eq.trans (by kernel_rfl) h)
def xq : HK where
 call := fun args σ k => match args with
  | [.agg [.int .u64 a0, .int .u64 a1, .int .u64 a2, .int .u64 a3, .int .u64 a4, .int .u64 a5, .int .u64 a6, .int .u64 a7]] => Option.bind (km a0 a1 a2 a3 a4 a5 a6 a7) fun y => aC σ 0 (nF.val y) (nF.aN y) k
  | _ => none
 nat := fun args σ k => by
  repeat' split
  all_goals simp only [av, ai, UA, Uz, aC, Uy]
 pure := true
 pok := fun _ args σ r σ' h => by
  split at h
  ·exact bq h (fun y => rfl) (fun y f => rfl)
  ·cases h
theorem HJ : aX U2 74 xq := by
 intro args σ r σ' h
 simp only [xq] at h
 split at h
 ·rename_i a0 a1 a2 a3 a4 a5 a6 a7
  obtain ⟨y, hy, h⟩ := bE_ h
  exact lifted (xs := []) (ls := []) (cargs := [.agg (v8 a0 a1 a2 a3 a4 a5 a6 a7 [])]) (bC.of trivial) rfl (F0 a0 a1 a2 a3 a4 a5 a6 a7 y hy) rfl rfl rfl rfl h
 ·cases h
abbrev gf := Int × LA_ × Nat × LA_ × Nat × Nat
abbrev zI := Int × Int × Int × Int × Int × Int × Int × Int
def ru : CH := CH.none
theorem tN : aG U2 ru := CH.aF
def fM {R : Type} (cc : gf) (v : LA_ × Int) (kn : (LA_ × Int) → Option R) (ke : ((LA_)) → Option R) : Option R :=
 (cond (decide (v.2 < 8)) (af (decide (0 ≤ (IntKind.wrap .i64 (v.2 - (IntKind.wrap .i64 (Int.tdiv cc.1 64))))) && decide ((IntKind.wrap .i64 (v.2 - (IntKind.wrap .i64 (Int.tdiv cc.1 64)))) < ((8 : Nat) : Int))) (af (aq [.int .u64] cc.2.1 (0 + (Int.toNat (IntKind.wrap .i64 (v.2 - (IntKind.wrap .i64 (Int.tdiv cc.1 64)))) * 1))) (af (!decide ((Int.tmod cc.1 64) < 0)) (af (decide (0 ≤ v.2) && decide (v.2 < ((8 : Nat) : Int))) (af (decide ((0 + (Int.toNat v.2 * 1)) + 1 ≤ List.length v.1)) (cond (decide ((Int.tmod cc.1 64) > 0)) (cond (decide (v.2 > (IntKind.wrap .i64 (Int.tdiv cc.1 64)))) (af (decide (0 ≤ v.2) && decide (v.2 < ((8 : Nat) : Int))) (af (aq [.int .u64] (spliced v.1 (0 + (Int.toNat v.2 * 1)) [.int .u64 (gV .u64 (ac cc.2.1 ((0 + (Int.toNat (IntKind.wrap .i64 (v.2 - (IntKind.wrap .i64 (Int.tdiv cc.1 64)))) * 1)) + 0)) (Int.tmod cc.1 64))]) (0 + (Int.toNat v.2 * 1))) (af (decide (0 ≤ (IntKind.wrap .i64 ((IntKind.wrap .i64 (v.2 - (IntKind.wrap .i64 (Int.tdiv cc.1 64)))) - 1))) && decide ((IntKind.wrap .i64 ((IntKind.wrap .i64 (v.2 - (IntKind.wrap .i64 (Int.tdiv cc.1 64)))) - 1)) < ((8 : Nat) : Int))) (af (aq [.int .u64] cc.2.1 (0 + (Int.toNat (IntKind.wrap .i64 ((IntKind.wrap .i64 (v.2 - (IntKind.wrap .i64 (Int.tdiv cc.1 64)))) - 1)) * 1))) (af (!decide ((IntKind.wrap .i64 (64 - (Int.tmod cc.1 64))) < 0)) (af (decide (0 ≤ v.2) && decide (v.2 < ((8 : Nat) : Int))) (af (decide ((0 + (Int.toNat v.2 * 1)) + 1 ≤ List.length (spliced v.1 (0 + (Int.toNat v.2 * 1)) [.int .u64 (gV .u64 (ac cc.2.1 ((0 + (Int.toNat (IntKind.wrap .i64 (v.2 - (IntKind.wrap .i64 (Int.tdiv cc.1 64)))) * 1)) + 0)) (Int.tmod cc.1 64))]))) (kn ((spliced (spliced v.1 (0 + (Int.toNat v.2 * 1)) [.int .u64 (gV .u64 (ac cc.2.1 ((0 + (Int.toNat (IntKind.wrap .i64 (v.2 - (IntKind.wrap .i64 (Int.tdiv cc.1 64)))) * 1)) + 0)) (Int.tmod cc.1 64))]) (0 + (Int.toNat v.2 * 1)) [.int .u64 (ior .u64 (ac (spliced v.1 (0 + (Int.toNat v.2 * 1)) [.int .u64 (gV .u64 (ac cc.2.1 ((0 + (Int.toNat (IntKind.wrap .i64 (v.2 - (IntKind.wrap .i64 (Int.tdiv cc.1 64)))) * 1)) + 0)) (Int.tmod cc.1 64))]) ((0 + (Int.toNat v.2 * 1)) + 0)) (aD .u64 (ac cc.2.1 ((0 + (Int.toNat (IntKind.wrap .i64 ((IntKind.wrap .i64 (v.2 - (IntKind.wrap .i64 (Int.tdiv cc.1 64)))) - 1)) * 1)) + 0)) (IntKind.wrap .i64 (64 - (Int.tmod cc.1 64)))))]), (IntKind.wrap .i64 (v.2 + 1))))))))))) (kn ((spliced v.1 (0 + (Int.toNat v.2 * 1)) [.int .u64 (gV .u64 (ac cc.2.1 ((0 + (Int.toNat (IntKind.wrap .i64 (v.2 - (IntKind.wrap .i64 (Int.tdiv cc.1 64)))) * 1)) + 0)) (Int.tmod cc.1 64))]), (IntKind.wrap .i64 (v.2 + 1))))) (kn ((spliced v.1 (0 + (Int.toNat v.2 * 1)) [.int .u64 (gV .u64 (ac cc.2.1 ((0 + (Int.toNat (IntKind.wrap .i64 (v.2 - (IntKind.wrap .i64 (Int.tdiv cc.1 64)))) * 1)) + 0)) (Int.tmod cc.1 64))]), (IntKind.wrap .i64 (v.2 + 1)))))))))) (ke v.1))
def pS (cc : gf) (v : LA_ × Int) : Option ((LA_ × Int) ⊕ ((LA_))) := fM cc v (fun v => some (Sum.inl v)) fun e => some (Sum.inr e)
def yj (cc : gf) (v : LA_ × Int) : Option ((LA_)) := dZ (pS cc) v
def DG (cc : gf) (v : LA_ × Int) : List ah := [.I cc.1, .I v.2, .C cc.2.1, .N cc.2.2.1, .C cc.2.2.2.1, .N cc.s4.1, .C v.1, .N cc.s4.2]
def tO (ls : List ah) : Option ((gf) × (LA_ × Int)) := match ls with
 | [.I x0, .I x1, .C x2, .N x3, .C x4, .N x5, .C x6, .N x7] => some ((x0, x2, x3, x4, x5, x7), (x6, x1))
 | _ => none
def tP (e : (LA_)) : an := ((fun e => .exit 0) e)
def tQ (cc : gf) (e : (LA_)) : List ah := ((fun e => [.C cc.2.2.2.1, .N cc.s4.1, .C e, .N cc.s4.2]) e)
def lx (cc : gf) (e : (LA_)) : List ah := ((fun e => [.C cc.2.2.2.1, .N cc.s4.1, .N cc.s4.2]) e)
def mV (o : an) (ls : List ah) : Option (((LA_)) × List ah) := match o with
 | .exit 0 => (match ls with
  | [.C x0, .N x1, .C x2, .N x3] => some (x2, [.C x0, .N x1, .N x3])
  | _ => none)
 | _ => none
theorem zJ : ∀ o ls e cl cc, mV o ls = some (e, cl) → cl = lx cc e → ls = tQ cc e ∧ tP e = o ∧ o ≠ .normal ∧ ∀ v, o = .pan v → sc 0 v = true := by
 intro o ls e cl cc h hc
 unfold mV at h
 split at h
 ·split at h
  ·cases h
   simp only [lx, List.cons.injEq, ah.N.injEq, ah.C.injEq, and_true] at hc
   obtain ⟨rfl, rfl, rfl⟩ := hc
   exact ⟨rfl, rfl, by simp, by intro v hv; cases hv <;> rfl⟩
  ·cases h
 ·cases h
def EU (o : an) : ExS := match o with
 | .exit 0 => ⟨2, (none :: none :: none :: none :: some (.ptr 0 0) :: some (.ptr 1 0) :: (rl none 44 [])), [(0, .vec 8 true), (1, .vec 8 true)], fun s => [nameAt s 4 [], nameAt s 5 []], [], []⟩
 | _ => ⟨0, [], [], fun _ => [], [], []⟩
theorem DH {R : Type} (cc : gf) (v : LA_ × Int) (kn : (LA_ × Int) → Option R) (ke : ((LA_)) → Option R) : fM cc v kn ke = (fM cc v (fun v => some (Sum.inl v)) fun e => some (Sum.inr e)).bind (Sum.elim kn ke) := by
 simp only [fM, bX, ai, UA, cu, bS, Uy, Uz, UZ, UY]
def ww : LD where
 CC := gf
 V := LA_ × Int
 E := (LA_)
 n := 0
 K := 3
 M := (none :: some (.int .i64) :: some (.ptr 0 0) :: none :: some (.ptr 1 0) :: some (.ptr 2 0) :: some (.int .i64) :: (rl none 43 []))
 B := [(0, .vec 8 true), (1, .vec 8 true), (2, .vec 8 true)]
 D := []
 pre := []
 F := fun s => [nameAt s 2 [], nameAt s 4 [], nameAt s 5 []]
 toL := DG
 ofL := tO
 au := fun ls c v h => by
  unfold tO at h
  split at h
  ·cases h; rfl
  ·cases h
 cw := fM
 nat := DH
 sh := EU
 out := tP
 toE := tQ
 fQ := lx
 ofE := mV
 dn := zJ
 post := fun cc e k => ((fun e => k (.exit 0) (bo 2 (none :: none :: none :: none :: some (.ptr 0 0) :: some (.ptr 1 0) :: (rl none 44 [])) [(0, .vec cc.2.2.2.1 cc.s4.1 8 true), (1, .vec e cc.s4.2 8 true)] [])) e)
 cv := fun cc e k => by rfl
theorem DI : cX U2 0 ww.la (aO Try.f73 0) :=
 LD.ok (ch := ru) (A := bD) aJ tN mixed (fuel := 60) ⟨by kernel_rfl, fun e => by kernel_rfl, fun cc v => by kernel_rfl, aK (l := []) (by kernel_rfl) trivial⟩
def ns (a0 a1 a2 a3 a4 a5 a6 a7 a8 : Int) : Option (zI) :=
 (Option.bind (yj (a8, (bI a0 a1 a2 a3 a4 a5 a6 a7), 1, (bI 0 0 0 0 0 0 0 0), 1, 1) ((bI 0 0 0 0 0 0 0 0), (IntKind.wrap .i64 (Int.tdiv a8 64)))) fun e1 => (af (aq fL e1 0) (some ((ac e1 0), (ac e1 1), (ac e1 2), (ac e1 3), (ac e1 4), (ac e1 5), (ac e1 6), (ac e1 7)))))
def nG : FD where
 X := zI
 k := 0
 pre := []
 F := fun s => []
 M := .agg (rl (.int .u64) 8 [])
 B := []
 toL := fun x => [.I x.1, .I x.2.1, .I x.2.2.1, .I x.2.2.2.1, .I x.s4.1, .I x.s4.2.1, .I x.s4.2.2.1, .I x.s4.2.2.2]
 ofL := fun ls => match ls with
  | [.I x0, .I x1, .I x2, .I x3, .I x4, .I x5, .I x6, .I x7] => some (x0, x1, x2, x3, x4, x5, x6, x7)
  | _ => none
 au := fun ls x h => by
  split at h
  ·cases h; rfl
  ·cases h
theorem F1 (a0 a1 a2 a3 a4 a5 a6 a7 a8 : Int) (x : zI) (h : ns a0 a1 a2 a3 a4 a5 a6 a7 a8 = some x) : bg U2 73 0 [.agg (bI a0 a1 a2 a3 a4 a5 a6 a7), .int .i64 a8] [] nG x :=
 FD.sem (ch := ru) (A := eT [(3, ww.la)]) (fn := Try.f73) (c := bu Try.f73) (fuel := 60) aJ tN mixed bK nG Try.func73 (by kernel_rfl) (aK (l := [aO Try.f73 0]) (by kernel_rfl) ⟨ci (by kernel_rfl) DI, trivial⟩)
  (by kernel_rfl) (Eq.trans (by kernel_rfl) h)
def xr : HK where
 call := fun args σ k => match args with
  | [.agg [.int .u64 a0, .int .u64 a1, .int .u64 a2, .int .u64 a3, .int .u64 a4, .int .u64 a5, .int .u64 a6, .int .u64 a7], .int .i64 a8] => Option.bind (ns a0 a1 a2 a3 a4 a5 a6 a7 a8) fun y => aC σ 0 (nG.val y) (nG.aN y) k
  | _ => none
 nat := fun args σ k => by
  repeat' split
  all_goals simp only [av, ai, UA, Uz, aC, Uy]
 pure := true
 pok := fun _ args σ r σ' h => by
  split at h
  ·exact bq h (fun y => rfl) (fun y f => rfl)
  ·cases h
theorem HL : aX U2 73 xr := by
 intro args σ r σ' h
 simp only [xr] at h
 split at h
 ·rename_i a0 a1 a2 a3 a4 a5 a6 a7 a8
  obtain ⟨y, hy, h⟩ := bE_ h
  exact lifted (xs := []) (ls := []) (cargs := [.agg (bI a0 a1 a2 a3 a4 a5 a6 a7), .int .i64 a8]) (bC.of trivial) rfl (F1 a0 a1 a2 a3 a4 a5 a6 a7 a8 y hy) rfl rfl rfl rfl h
 ·cases h
abbrev bv : ByteArray := ⟨#[0, 1, 2, 2, 3, 3, 3, 3, 4, 4, 4, 4, 4, 4, 4, 4, 5, 5, 5, 5, 5, 5, 5, 5, 5, 5, 5, 5, 5, 5, 5, 5, 6, 6, 6, 6, 6, 6, 6, 6, 6, 6, 6, 6, 6, 6, 6, 6, 6, 6, 6, 6, 6, 6, 6, 6, 6, 6, 6, 6, 6, 6, 6, 6, 7, 7, 7, 7, 7, 7, 7, 7, 7, 7, 7, 7, 7, 7, 7, 7, 7, 7, 7, 7, 7, 7, 7, 7, 7, 7, 7, 7, 7, 7, 7, 7, 7, 7, 7, 7, 7, 7, 7, 7, 7, 7, 7, 7, 7, 7, 7, 7, 7, 7, 7, 7, 7, 7, 7, 7, 7, 7, 7, 7, 7, 7, 7, 7, 8, 8, 8, 8, 8, 8, 8, 8, 8, 8, 8, 8, 8, 8, 8, 8, 8, 8, 8, 8, 8, 8, 8, 8, 8, 8, 8, 8, 8, 8, 8, 8, 8, 8, 8, 8, 8, 8, 8, 8, 8, 8, 8, 8, 8, 8, 8, 8, 8, 8, 8, 8, 8, 8, 8, 8, 8, 8, 8, 8, 8, 8, 8, 8, 8, 8, 8, 8, 8, 8, 8, 8, 8, 8, 8, 8, 8, 8, 8, 8, 8, 8, 8, 8, 8, 8, 8, 8, 8, 8, 8, 8, 8, 8, 8, 8, 8, 8, 8, 8, 8, 8, 8, 8, 8, 8, 8, 8, 8, 8, 8, 8, 8, 8, 8, 8, 8, 8, 8, 8, 8, 8, 8, 8, 8, 8, 8, 8]⟩
def zc : CH := CH.none
theorem vP : aG U2 zc := CH.aF
def fX (a0 : Int) : Option (Int) :=
 (cond (decide (a0 ≥ 4294967296)) (cond (decide ((aD .u64 a0 32) ≥ 65536)) (cond (decide ((aD .u64 (aD .u64 a0 32) 16) ≥ 256)) (af (decide (0 ≤ (IntKind.wrap .u8 (aD .u64 (aD .u64 (aD .u64 a0 32) 16) 8))) && decide ((IntKind.wrap .u8 (aD .u64 (aD .u64 (aD .u64 a0 32) 16) 8)) < ((ByteArray.size bv : Nat) : Int))) (some (IntKind.wrap .i64 (56 + (IntKind.wrap .i64 (dN bv (Int.toNat (IntKind.wrap .u8 (aD .u64 (aD .u64 (aD .u64 a0 32) 16) 8))))))))) (af (decide (0 ≤ (IntKind.wrap .u8 (aD .u64 (aD .u64 a0 32) 16))) && decide ((IntKind.wrap .u8 (aD .u64 (aD .u64 a0 32) 16)) < ((ByteArray.size bv : Nat) : Int))) (some (IntKind.wrap .i64 (48 + (IntKind.wrap .i64 (dN bv (Int.toNat (IntKind.wrap .u8 (aD .u64 (aD .u64 a0 32) 16)))))))))) (cond (decide ((aD .u64 a0 32) ≥ 256)) (af (decide (0 ≤ (IntKind.wrap .u8 (aD .u64 (aD .u64 a0 32) 8))) && decide ((IntKind.wrap .u8 (aD .u64 (aD .u64 a0 32) 8)) < ((ByteArray.size bv : Nat) : Int))) (some (IntKind.wrap .i64 (40 + (IntKind.wrap .i64 (dN bv (Int.toNat (IntKind.wrap .u8 (aD .u64 (aD .u64 a0 32) 8))))))))) (af (decide (0 ≤ (IntKind.wrap .u8 (aD .u64 a0 32))) && decide ((IntKind.wrap .u8 (aD .u64 a0 32)) < ((ByteArray.size bv : Nat) : Int))) (some (IntKind.wrap .i64 (32 + (IntKind.wrap .i64 (dN bv (Int.toNat (IntKind.wrap .u8 (aD .u64 a0 32))))))))))) (cond (decide (a0 ≥ 65536)) (cond (decide ((aD .u64 a0 16) ≥ 256)) (af (decide (0 ≤ (IntKind.wrap .u8 (aD .u64 (aD .u64 a0 16) 8))) && decide ((IntKind.wrap .u8 (aD .u64 (aD .u64 a0 16) 8)) < ((ByteArray.size bv : Nat) : Int))) (some (IntKind.wrap .i64 (24 + (IntKind.wrap .i64 (dN bv (Int.toNat (IntKind.wrap .u8 (aD .u64 (aD .u64 a0 16) 8))))))))) (af (decide (0 ≤ (IntKind.wrap .u8 (aD .u64 a0 16))) && decide ((IntKind.wrap .u8 (aD .u64 a0 16)) < ((ByteArray.size bv : Nat) : Int))) (some (IntKind.wrap .i64 (16 + (IntKind.wrap .i64 (dN bv (Int.toNat (IntKind.wrap .u8 (aD .u64 a0 16)))))))))) (cond (decide (a0 ≥ 256)) (af (decide (0 ≤ (IntKind.wrap .u8 (aD .u64 a0 8))) && decide ((IntKind.wrap .u8 (aD .u64 a0 8)) < ((ByteArray.size bv : Nat) : Int))) (some (IntKind.wrap .i64 (8 + (IntKind.wrap .i64 (dN bv (Int.toNat (IntKind.wrap .u8 (aD .u64 a0 8))))))))) (af (decide (0 ≤ (IntKind.wrap .u8 a0)) && decide ((IntKind.wrap .u8 a0) < ((ByteArray.size bv : Nat) : Int))) (some (IntKind.wrap .i64 (0 + (IntKind.wrap .i64 (dN bv (Int.toNat (IntKind.wrap .u8 a0)))))))))))
def gL : FD where
 X := Int
 k := 0
 pre := []
 F := fun s => []
 M := .int .i64
 B := []
 toL := fun x => [.I x]
 ofL := fun ls => match ls with
  | [.I x0] => some x0
  | _ => none
 au := fun ls x h => by
  split at h
  ·cases h; rfl
  ·cases h
theorem xR (a0 x : Int) (h : fX a0 = some x) : bg U2 86 0 [.int .u64 a0] [] gL x :=
 FD.semA gL vP Try.func86 (fuel := 60) (by kernel_rfl) (by kernel_rfl)
  (by kernel_rfl) (Eq.trans (by kernel_rfl) h)
def mL : HK where
 call := fun args σ k => match args with
  | [.int .u64 a0] => Option.bind (fX a0) fun y => aC σ 0 (gL.val y) (gL.aN y) k
  | _ => none
 nat := fun args σ k => by
  repeat' split
  all_goals simp only [av, ai, UA, Uz, aC, Uy]
 pure := true
 pok := fun _ args σ r σ' h => by
  split at h
  ·exact bq h (fun y => rfl) (fun y f => rfl)
  ·cases h
theorem zd : aX U2 86 mL := by
 intro args σ r σ' h
 simp only [mL] at h
 split at h
 ·rename_i a0
  obtain ⟨y, hy, h⟩ := bE_ h
  exact lifted (xs := []) (ls := []) (cargs := [.int .u64 a0]) (bC.of trivial) rfl (xR a0 y hy) rfl rfl rfl rfl h
 ·cases h
def oc : CH := (CH.add 86 mL CH.none)
theorem qU : aG U2 oc := (CH.ak zd CH.aF)
def eO {R : Type} (cc : LA_ × Nat) (v : Int) (kn : (Int) → Option R) (ke : ((Int) ⊕ (Unit)) → Option R) : Option R :=
 (cond (decide (v ≥ 0)) (af (decide (0 ≤ v) && decide (v < ((8 : Nat) : Int))) (af (aq [.int .u64] cc.1 (0 + (Int.toNat v * 1))) (cond ((ac cc.1 ((0 + (Int.toNat v * 1)) + 0)) != 0) (af (decide (0 ≤ v) && decide (v < ((8 : Nat) : Int))) (af (aq [.int .u64] cc.1 (0 + (Int.toNat v * 1))) (Option.bind (fX (ac cc.1 ((0 + (Int.toNat v * 1)) + 0))) fun r1 => (ke (.inl (IntKind.wrap .i64 ((IntKind.wrap .i64 (64 * v)) + r1))))))) (kn (IntKind.wrap .i64 (v - 1)))))) (ke (.inr ())))
def mW (cc : LA_ × Nat) (v : Int) : Option ((Int) ⊕ ((Int) ⊕ (Unit))) := eO cc v (fun v => some (Sum.inl v)) fun e => some (Sum.inr e)
def vp (cc : LA_ × Nat) (v : Int) : Option ((Int) ⊕ (Unit)) := dZ (mW cc) v
def Be (cc : LA_ × Nat) (v : Int) : List ah := [.I v, .C cc.1, .N cc.2]
def qV (ls : List ah) : Option ((LA_ × Nat) × (Int)) := match ls with
 | [.I x0, .C x1, .N x2] => some ((x1, x2), x0)
 | _ => none
def qW (e : (Int) ⊕ (Unit)) : an := ((Sum.elim (fun e => .ret) (fun e => .exit 0)) e)
def qX (cc : LA_ × Nat) (e : (Int) ⊕ (Unit)) : List ah := ((Sum.elim (fun e => [.I e]) (fun e => [])) e)
def pT (cc : LA_ × Nat) (e : (Int) ⊕ (Unit)) : List ah := ((Sum.elim (fun e => []) (fun e => [])) e)
def kG (o : an) (ls : List ah) : Option (((Int) ⊕ (Unit)) × List ah) := match o with
 | .ret => (match ls with
  | [.I x0] => some ((.inl x0), [])
  | _ => none)
 | .exit 0 => (match ls with
  | [] => some ((.inr ()), [])
  | _ => none)
 | _ => none
theorem xu : ∀ o ls e cl cc, kG o ls = some (e, cl) → cl = pT cc e → ls = qX cc e ∧ qW e = o ∧ o ≠ .normal ∧ ∀ v, o = .pan v → sc 0 v = true := by
 intro o ls e cl cc h hc
 unfold kG at h
 split at h
 ·split at h
  ·cases h
   exact ⟨rfl, rfl, by simp, by intro v hv; cases hv <;> rfl⟩
  ·cases h
 ·split at h
  ·cases h
   exact ⟨rfl, rfl, by simp, by intro v hv; cases hv <;> rfl⟩
  ·cases h
 ·cases h
def BU (o : an) : ExS := match o with
 | .ret => ⟨0, (none :: none :: some (.int .i64) :: (rl none 16 [])), [], fun s => [], [], []⟩
 | .exit 0 => ⟨0, (rl none 19 []), [], fun s => [], [], []⟩
 | _ => ⟨0, [], [], fun _ => [], [], []⟩
theorem Bf {R : Type} (cc : LA_ × Nat) (v : Int) (kn : (Int) → Option R) (ke : ((Int) ⊕ (Unit)) → Option R) : eO cc v kn ke = (eO cc v (fun v => some (Sum.inl v)) fun e => some (Sum.inr e)).bind (Sum.elim kn ke) := by
 simp only [eO, bX, ai, UA, cu, bS, Uy, Uz, UZ, UY]
def tR : LD where
 CC := LA_ × Nat
 V := Int
 E := (Int) ⊕ (Unit)
 n := 0
 K := 1
 M := (none :: some (.ptr 0 0) :: none :: some (.int .i64) :: (rl none 15 []))
 B := [(0, .vec 8 true)]
 D := []
 pre := []
 F := fun s => [nameAt s 1 []]
 toL := Be
 ofL := qV
 au := fun ls c v h => by
  unfold qV at h
  split at h
  ·cases h; rfl
  ·cases h
 cw := eO
 nat := Bf
 sh := BU
 out := qW
 toE := qX
 fQ := pT
 ofE := kG
 dn := xu
 post := fun cc e k => ((Sum.elim (fun e => k (.ret) (bo 0 (none :: none :: some (.int .i64 e) :: (rl none 16 [])) [] [])) (fun e => k (.exit 0) (bo 0 (rl none 19 []) [] []))) e)
 cv := fun cc e k => by rcases e with e | e <;> rfl
theorem Bg : cX U2 0 tR.la (aO Try.f72 0) :=
 LD.ok (ch := oc) (A := bD) aJ qU mixed (fuel := 60) ⟨by kernel_rfl, fun e => by (rcases e with e | e <;> kernel_rfl), fun cc v => by kernel_rfl, aK (l := []) (by kernel_rfl) trivial⟩
def gX (a0 a1 a2 a3 a4 a5 a6 a7 : Int) : Option (Int) :=
 (Option.bind (vp (([.int .u64 a0, .int .u64 a1, .int .u64 a2, .int .u64 a3, .int .u64 a4, .int .u64 a5, .int .u64 a6, .int .u64 a7] : LA_), 1) 7) (Sum.elim (fun e1 => (some e1)) (fun e1 => (some 0))))
def kS : FD where
 X := Int
 k := 0
 pre := []
 F := fun s => []
 M := .int .i64
 B := []
 toL := fun x => [.I x]
 ofL := fun ls => match ls with
  | [.I x0] => some x0
  | _ => none
 au := fun ls x h => by
  split at h
  ·cases h; rfl
  ·cases h
theorem DJ (a0 a1 a2 a3 a4 a5 a6 a7 x : Int) (h : gX a0 a1 a2 a3 a4 a5 a6 a7 = some x) : bg U2 72 0 [.agg (v8 a0 a1 a2 a3 a4 a5 a6 a7 [])] [] kS x :=
 FD.sem (ch := oc) (A := eT [(2, tR.la)]) (fn := Try.f72) (c := bu Try.f72) (fuel := 60) aJ qU mixed bK kS Try.func72 (by kernel_rfl) (aK (l := [aO Try.f72 0]) (by kernel_rfl) ⟨ci (by kernel_rfl) Bg, trivial⟩)
  (by kernel_rfl) (Eq.trans (by kernel_rfl) h)
def tk : HK where
 call := fun args σ k => match args with
  | [.agg [.int .u64 a0, .int .u64 a1, .int .u64 a2, .int .u64 a3, .int .u64 a4, .int .u64 a5, .int .u64 a6, .int .u64 a7]] => Option.bind (gX a0 a1 a2 a3 a4 a5 a6 a7) fun y => aC σ 0 (kS.val y) (kS.aN y) k
  | _ => none
 nat := fun args σ k => by
  repeat' split
  all_goals simp only [av, ai, UA, Uz, aC, Uy]
 pure := true
 pok := fun _ args σ r σ' h => by
  split at h
  ·exact bq h (fun y => rfl) (fun y f => rfl)
  ·cases h
theorem EV : aX U2 72 tk := by
 intro args σ r σ' h
 simp only [tk] at h
 split at h
 ·rename_i a0 a1 a2 a3 a4 a5 a6 a7
  obtain ⟨y, hy, h⟩ := bE_ h
  exact lifted (xs := []) (ls := []) (cargs := [.agg (v8 a0 a1 a2 a3 a4 a5 a6 a7 [])]) (bC.of trivial) rfl (DJ a0 a1 a2 a3 a4 a5 a6 a7 y hy) rfl rfl rfl rfl h
 ·cases h
abbrev xx := (I8 (Int × Int × Int × Int × Int × Int × Int × Int))
abbrev ew := LA_ × LA_ × Int × LA_ × Nat
def p6 : CH := (CH.add 74 xq (CH.add 73 xr (CH.add 72 tk (CH.add 50 mg (CH.add 49 iJ (CH.add 38 pM CH.none))))))
theorem sv : aG U2 p6 := (CH.ak HJ (CH.ak HL (CH.ak EV (CH.ak nE (CH.ak jl (CH.ak wv CH.aF))))))
def fb {R : Type} (cc : Nat × Nat) (v : ew) (kn : (ew) → Option R) (ke : ((LA_ × LA_)) → Option R) : Option R :=
 (cond (decide (v.2.2.1 ≥ 0)) (af (aq fL v.2.1 0) (af (aq fL v.2.2.2.1 0) (Option.bind (gI (ac v.2.1 0) (ac v.2.1 1) (ac v.2.1 2) (ac v.2.1 3) (ac v.2.1 4) (ac v.2.1 5) (ac v.2.1 6) (ac v.2.1 7) (ac v.2.2.2.1 0) (ac v.2.2.2.1 1) (ac v.2.2.2.1 2) (ac v.2.2.2.1 3) (ac v.2.2.2.1 4) (ac v.2.2.2.1 5) (ac v.2.2.2.1 6) (ac v.2.2.2.1 7)) fun r4 => (cond (decide (r4 ≥ 0)) (af (aq fL v.2.1 0) (af (aq fL v.2.2.2.1 0) (Option.bind (ge (ac v.2.2.2.1 0) (ac v.2.2.2.1 1) (ac v.2.2.2.1 2) (ac v.2.2.2.1 3) (ac v.2.2.2.1 4) (ac v.2.2.2.1 5) (ac v.2.2.2.1 6) (ac v.2.2.2.1 7)) fun r5 => (Option.bind (dy (ac v.2.1 0) (ac v.2.1 1) (ac v.2.1 2) (ac v.2.1 3) (ac v.2.1 4) (ac v.2.1 5) (ac v.2.1 6) (ac v.2.1 7) r5.1 r5.2.1 r5.2.2.1 r5.2.2.2.1 r5.2.2.2.2.1 r5.2.2.2.2.2.1 r5.2.2.2.2.2.2.1 r5.2.2.2.2.2.2.2 1) fun r6 => (af (decide (0 + 8 ≤ List.length v.2.1)) (af (decide (0 ≤ (IntKind.wrap .i64 (Int.tdiv v.2.2.1 64))) && decide ((IntKind.wrap .i64 (Int.tdiv v.2.2.1 64)) < ((8 : Nat) : Int))) (af (aq [.int .u64] v.1 (0 + (Int.toNat (IntKind.wrap .i64 (Int.tdiv v.2.2.1 64)) * 1))) (af (!decide ((Int.tmod v.2.2.1 64) < 0)) (af (decide (0 ≤ (IntKind.wrap .i64 (Int.tdiv v.2.2.1 64))) && decide ((IntKind.wrap .i64 (Int.tdiv v.2.2.1 64)) < ((8 : Nat) : Int))) (af (decide ((0 + (Int.toNat (IntKind.wrap .i64 (Int.tdiv v.2.2.1 64)) * 1)) + 1 ≤ List.length v.1)) (af (aq fL v.2.2.2.1 0) (Option.bind (km (ac v.2.2.2.1 0) (ac v.2.2.2.1 1) (ac v.2.2.2.1 2) (ac v.2.2.2.1 3) (ac v.2.2.2.1 4) (ac v.2.2.2.1 5) (ac v.2.2.2.1 6) (ac v.2.2.2.1 7)) fun r7 => (af (decide (0 + 8 ≤ List.length v.2.2.2.1)) (af (aq fL (spliced v.2.2.2.1 0 (bI r7.1 r7.2.1 r7.2.2.1 r7.2.2.2.1 r7.2.2.2.2.1 r7.2.2.2.2.2.1 r7.2.2.2.2.2.2.1 r7.2.2.2.2.2.2.2)) 0) (kn ((spliced v.1 (0 + (Int.toNat (IntKind.wrap .i64 (Int.tdiv v.2.2.1 64)) * 1)) [.int .u64 (ior .u64 (ac v.1 ((0 + (Int.toNat (IntKind.wrap .i64 (Int.tdiv v.2.2.1 64)) * 1)) + 0)) (gV .u64 1 (Int.tmod v.2.2.1 64)))]), (spliced v.2.1 0 (bI r6.1 r6.2.1 r6.2.2.1 r6.2.2.2.1 r6.2.2.2.2.1 r6.2.2.2.2.2.1 r6.2.2.2.2.2.2.1 r6.2.2.2.2.2.2.2)), (IntKind.wrap .i64 (v.2.2.1 - 1)), ([.int .u64 (ac (spliced v.2.2.2.1 0 (bI r7.1 r7.2.1 r7.2.2.1 r7.2.2.2.1 r7.2.2.2.2.1 r7.2.2.2.2.2.1 r7.2.2.2.2.2.2.1 r7.2.2.2.2.2.2.2)) 0), .int .u64 (ac (spliced v.2.2.2.1 0 (bI r7.1 r7.2.1 r7.2.2.1 r7.2.2.2.1 r7.2.2.2.2.1 r7.2.2.2.2.2.1 r7.2.2.2.2.2.2.1 r7.2.2.2.2.2.2.2)) 1), .int .u64 (ac (spliced v.2.2.2.1 0 (bI r7.1 r7.2.1 r7.2.2.1 r7.2.2.2.1 r7.2.2.2.2.1 r7.2.2.2.2.2.1 r7.2.2.2.2.2.2.1 r7.2.2.2.2.2.2.2)) 2), .int .u64 (ac (spliced v.2.2.2.1 0 (bI r7.1 r7.2.1 r7.2.2.1 r7.2.2.2.1 r7.2.2.2.2.1 r7.2.2.2.2.2.1 r7.2.2.2.2.2.2.1 r7.2.2.2.2.2.2.2)) 3), .int .u64 (ac (spliced v.2.2.2.1 0 (bI r7.1 r7.2.1 r7.2.2.1 r7.2.2.2.1 r7.2.2.2.2.1 r7.2.2.2.2.2.1 r7.2.2.2.2.2.2.1 r7.2.2.2.2.2.2.2)) 4), .int .u64 (ac (spliced v.2.2.2.1 0 (bI r7.1 r7.2.1 r7.2.2.1 r7.2.2.2.1 r7.2.2.2.2.1 r7.2.2.2.2.2.1 r7.2.2.2.2.2.2.1 r7.2.2.2.2.2.2.2)) 5), .int .u64 (ac (spliced v.2.2.2.1 0 (bI r7.1 r7.2.1 r7.2.2.1 r7.2.2.2.1 r7.2.2.2.2.1 r7.2.2.2.2.2.1 r7.2.2.2.2.2.2.1 r7.2.2.2.2.2.2.2)) 6), .int .u64 (ac (spliced v.2.2.2.1 0 (bI r7.1 r7.2.1 r7.2.2.1 r7.2.2.2.1 r7.2.2.2.2.1 r7.2.2.2.2.2.1 r7.2.2.2.2.2.2.1 r7.2.2.2.2.2.2.2)) 7)] : LA_), 1)))))))))))))))) (af (aq fL v.2.2.2.1 0) (Option.bind (km (ac v.2.2.2.1 0) (ac v.2.2.2.1 1) (ac v.2.2.2.1 2) (ac v.2.2.2.1 3) (ac v.2.2.2.1 4) (ac v.2.2.2.1 5) (ac v.2.2.2.1 6) (ac v.2.2.2.1 7)) fun r8 => (af (decide (0 + 8 ≤ List.length v.2.2.2.1)) (af (aq fL (spliced v.2.2.2.1 0 (bI r8.1 r8.2.1 r8.2.2.1 r8.2.2.2.1 r8.2.2.2.2.1 r8.2.2.2.2.2.1 r8.2.2.2.2.2.2.1 r8.2.2.2.2.2.2.2)) 0) (kn (v.1, v.2.1, (IntKind.wrap .i64 (v.2.2.1 - 1)), ([.int .u64 (ac (spliced v.2.2.2.1 0 (bI r8.1 r8.2.1 r8.2.2.1 r8.2.2.2.1 r8.2.2.2.2.1 r8.2.2.2.2.2.1 r8.2.2.2.2.2.2.1 r8.2.2.2.2.2.2.2)) 0), .int .u64 (ac (spliced v.2.2.2.1 0 (bI r8.1 r8.2.1 r8.2.2.1 r8.2.2.2.1 r8.2.2.2.2.1 r8.2.2.2.2.2.1 r8.2.2.2.2.2.2.1 r8.2.2.2.2.2.2.2)) 1), .int .u64 (ac (spliced v.2.2.2.1 0 (bI r8.1 r8.2.1 r8.2.2.1 r8.2.2.2.1 r8.2.2.2.2.1 r8.2.2.2.2.2.1 r8.2.2.2.2.2.2.1 r8.2.2.2.2.2.2.2)) 2), .int .u64 (ac (spliced v.2.2.2.1 0 (bI r8.1 r8.2.1 r8.2.2.1 r8.2.2.2.1 r8.2.2.2.2.1 r8.2.2.2.2.2.1 r8.2.2.2.2.2.2.1 r8.2.2.2.2.2.2.2)) 3), .int .u64 (ac (spliced v.2.2.2.1 0 (bI r8.1 r8.2.1 r8.2.2.1 r8.2.2.2.1 r8.2.2.2.2.1 r8.2.2.2.2.2.1 r8.2.2.2.2.2.2.1 r8.2.2.2.2.2.2.2)) 4), .int .u64 (ac (spliced v.2.2.2.1 0 (bI r8.1 r8.2.1 r8.2.2.1 r8.2.2.2.1 r8.2.2.2.2.1 r8.2.2.2.2.2.1 r8.2.2.2.2.2.2.1 r8.2.2.2.2.2.2.2)) 5), .int .u64 (ac (spliced v.2.2.2.1 0 (bI r8.1 r8.2.1 r8.2.2.1 r8.2.2.2.1 r8.2.2.2.2.1 r8.2.2.2.2.2.1 r8.2.2.2.2.2.2.1 r8.2.2.2.2.2.2.2)) 6), .int .u64 (ac (spliced v.2.2.2.1 0 (bI r8.1 r8.2.1 r8.2.2.1 r8.2.2.2.1 r8.2.2.2.2.1 r8.2.2.2.2.2.1 r8.2.2.2.2.2.2.1 r8.2.2.2.2.2.2.2)) 7)] : LA_), 1)))))))))) (ke (v.1, v.2.1)))
def og (cc : Nat × Nat) (v : ew) : Option ((ew) ⊕ ((LA_ × LA_))) := fb cc v (fun v => some (Sum.inl v)) fun e => some (Sum.inr e)
def wA (cc : Nat × Nat) (v : ew) : Option ((LA_ × LA_)) := dZ (og cc) v
def B4 (cc : Nat × Nat) (v : ew) : List ah := [.I v.2.2.1, .C v.1, .N cc.1, .C v.2.1, .N cc.2, .C v.2.2.2.1, .N v.s4]
def sw (ls : List ah) : Option ((Nat × Nat) × (ew)) := match ls with
 | [.I x0, .C x1, .N x2, .C x3, .N x4, .C x5, .N x6] => some ((x2, x4), (x1, x3, x0, x5, x6))
 | _ => none
def sx (e : (LA_ × LA_)) : an := ((fun e => .exit 0) e)
def sy (cc : Nat × Nat) (e : (LA_ × LA_)) : List ah := ((fun e => [.C e.1, .N cc.1, .C e.2, .N cc.2]) e)
def kH (cc : Nat × Nat) (e : (LA_ × LA_)) : List ah := ((fun e => [.N cc.1, .N cc.2]) e)
def lz (o : an) (ls : List ah) : Option (((LA_ × LA_)) × List ah) := match o with
 | .exit 0 => (match ls with
  | [.C x0, .N x1, .C x2, .N x3] => some ((x0, x2), [.N x1, .N x3])
  | _ => none)
 | _ => none
theorem yq : ∀ o ls e cl cc, lz o ls = some (e, cl) → cl = kH cc e → ls = sy cc e ∧ sx e = o ∧ o ≠ .normal ∧ ∀ v, o = .pan v → sc 0 v = true := by
 intro o ls e cl cc h hc
 unfold lz at h
 split at h
 ·split at h
  ·cases h
   simp only [kH, List.cons.injEq, ah.N.injEq, and_true] at hc
   obtain ⟨rfl, rfl⟩ := hc
   exact ⟨rfl, rfl, by simp, by intro v hv; cases hv <;> rfl⟩
  ·cases h
 ·cases h
def DN (o : an) : ExS := match o with
 | .exit 0 => ⟨2, (none :: none :: none :: none :: some (.ptr 0 0) :: some (.ptr 1 0) :: (rl none 41 [])), [(0, .vec 8 true), (1, .vec 8 true)], fun s => [nameAt s 4 [], nameAt s 5 []], [], []⟩
 | _ => ⟨0, [], [], fun _ => [], [], []⟩
theorem B5 {R : Type} (cc : Nat × Nat) (v : ew) (kn : (ew) → Option R) (ke : ((LA_ × LA_)) → Option R) : fb cc v kn ke = (fb cc v (fun v => some (Sum.inl v)) fun e => some (Sum.inr e)).bind (Sum.elim kn ke) := by
 simp only [fb, bX, ai, UA, cu, bS, Uy, Uz, UZ, UY]
def vu : LD where
 CC := Nat × Nat
 V := ew
 E := (LA_ × LA_)
 n := 0
 K := 3
 M := (none :: none :: none :: none :: some (.ptr 0 0) :: some (.ptr 1 0) :: some (.int .i64) :: some (.ptr 2 0) :: (rl none 39 []))
 B := [(0, .vec 8 true), (1, .vec 8 true), (2, .vec 8 true)]
 D := []
 pre := []
 F := fun s => [nameAt s 4 [], nameAt s 5 [], nameAt s 7 []]
 toL := B4
 ofL := sw
 au := fun ls c v h => by
  unfold sw at h
  split at h
  ·cases h; rfl
  ·cases h
 cw := fb
 nat := B5
 sh := DN
 out := sx
 toE := sy
 fQ := kH
 ofE := lz
 dn := yq
 post := fun cc e k => ((fun e => k (.exit 0) (bo 2 (none :: none :: none :: none :: some (.ptr 0 0) :: some (.ptr 1 0) :: (rl none 41 [])) [(0, .vec e.1 cc.1 8 true), (1, .vec e.2 cc.2 8 true)] [])) e)
 cv := fun cc e k => by rfl
theorem B6 : cX U2 0 vu.la (aO Try.f47 0) :=
 LD.ok (ch := p6) (A := bD) aJ sv mixed (fuel := 60) ⟨by kernel_rfl, fun e => by kernel_rfl, fun cc v => by kernel_rfl, aK (l := []) (by kernel_rfl) trivial⟩
def lw (a0 a1 a2 a3 a4 a5 a6 a7 a8 a9 a10 a11 a12 a13 a14 a15 : Int) : Option (xx) :=
 (Option.bind (gX a0 a1 a2 a3 a4 a5 a6 a7) fun r1 => (Option.bind (gX a8 a9 a10 a11 a12 a13 a14 a15) fun r2 => (cond (decide ((IntKind.wrap .i64 (r1 - r2)) < 0)) (some (0, 0, 0, 0, 0, 0, 0, 0, a0, a1, a2, a3, a4, a5, a6, a7)) (Option.bind (ns a8 a9 a10 a11 a12 a13 a14 a15 (IntKind.wrap .i64 (r1 - r2))) fun r3 => (Option.bind (wA (1, 1) ((bI 0 0 0 0 0 0 0 0), (bI a0 a1 a2 a3 a4 a5 a6 a7), (IntKind.wrap .i64 (r1 - r2)), (bI r3.1 r3.2.1 r3.2.2.1 r3.2.2.2.1 r3.2.2.2.2.1 r3.2.2.2.2.2.1 r3.2.2.2.2.2.2.1 r3.2.2.2.2.2.2.2), 1)) fun e4 => (af (aq fL e4.1 0) (af (aq fL e4.2 0) (af (decide (0 + 8 ≤ List.length e4.1)) (af (decide (0 + 8 ≤ List.length e4.2)) (af (aq fL (spliced e4.1 0 (bI (ac e4.1 0) (ac e4.1 1) (ac e4.1 2) (ac e4.1 3) (ac e4.1 4) (ac e4.1 5) (ac e4.1 6) (ac e4.1 7))) 0) (af (aq fL (spliced e4.2 0 (bI (ac e4.2 0) (ac e4.2 1) (ac e4.2 2) (ac e4.2 3) (ac e4.2 4) (ac e4.2 5) (ac e4.2 6) (ac e4.2 7))) 0) (some ((ac (spliced e4.1 0 (bI (ac e4.1 0) (ac e4.1 1) (ac e4.1 2) (ac e4.1 3) (ac e4.1 4) (ac e4.1 5) (ac e4.1 6) (ac e4.1 7))) 0), (ac (spliced e4.1 0 (bI (ac e4.1 0) (ac e4.1 1) (ac e4.1 2) (ac e4.1 3) (ac e4.1 4) (ac e4.1 5) (ac e4.1 6) (ac e4.1 7))) 1), (ac (spliced e4.1 0 (bI (ac e4.1 0) (ac e4.1 1) (ac e4.1 2) (ac e4.1 3) (ac e4.1 4) (ac e4.1 5) (ac e4.1 6) (ac e4.1 7))) 2), (ac (spliced e4.1 0 (bI (ac e4.1 0) (ac e4.1 1) (ac e4.1 2) (ac e4.1 3) (ac e4.1 4) (ac e4.1 5) (ac e4.1 6) (ac e4.1 7))) 3), (ac (spliced e4.1 0 (bI (ac e4.1 0) (ac e4.1 1) (ac e4.1 2) (ac e4.1 3) (ac e4.1 4) (ac e4.1 5) (ac e4.1 6) (ac e4.1 7))) 4), (ac (spliced e4.1 0 (bI (ac e4.1 0) (ac e4.1 1) (ac e4.1 2) (ac e4.1 3) (ac e4.1 4) (ac e4.1 5) (ac e4.1 6) (ac e4.1 7))) 5), (ac (spliced e4.1 0 (bI (ac e4.1 0) (ac e4.1 1) (ac e4.1 2) (ac e4.1 3) (ac e4.1 4) (ac e4.1 5) (ac e4.1 6) (ac e4.1 7))) 6), (ac (spliced e4.1 0 (bI (ac e4.1 0) (ac e4.1 1) (ac e4.1 2) (ac e4.1 3) (ac e4.1 4) (ac e4.1 5) (ac e4.1 6) (ac e4.1 7))) 7), (ac (spliced e4.2 0 (bI (ac e4.2 0) (ac e4.2 1) (ac e4.2 2) (ac e4.2 3) (ac e4.2 4) (ac e4.2 5) (ac e4.2 6) (ac e4.2 7))) 0), (ac (spliced e4.2 0 (bI (ac e4.2 0) (ac e4.2 1) (ac e4.2 2) (ac e4.2 3) (ac e4.2 4) (ac e4.2 5) (ac e4.2 6) (ac e4.2 7))) 1), (ac (spliced e4.2 0 (bI (ac e4.2 0) (ac e4.2 1) (ac e4.2 2) (ac e4.2 3) (ac e4.2 4) (ac e4.2 5) (ac e4.2 6) (ac e4.2 7))) 2), (ac (spliced e4.2 0 (bI (ac e4.2 0) (ac e4.2 1) (ac e4.2 2) (ac e4.2 3) (ac e4.2 4) (ac e4.2 5) (ac e4.2 6) (ac e4.2 7))) 3), (ac (spliced e4.2 0 (bI (ac e4.2 0) (ac e4.2 1) (ac e4.2 2) (ac e4.2 3) (ac e4.2 4) (ac e4.2 5) (ac e4.2 6) (ac e4.2 7))) 4), (ac (spliced e4.2 0 (bI (ac e4.2 0) (ac e4.2 1) (ac e4.2 2) (ac e4.2 3) (ac e4.2 4) (ac e4.2 5) (ac e4.2 6) (ac e4.2 7))) 5), (ac (spliced e4.2 0 (bI (ac e4.2 0) (ac e4.2 1) (ac e4.2 2) (ac e4.2 3) (ac e4.2 4) (ac e4.2 5) (ac e4.2 6) (ac e4.2 7))) 6), (ac (spliced e4.2 0 (bI (ac e4.2 0) (ac e4.2 1) (ac e4.2 2) (ac e4.2 3) (ac e4.2 4) (ac e4.2 5) (ac e4.2 6) (ac e4.2 7))) 7))))))))))))))
def mj : FD where
 X := xx
 k := 0
 pre := []
 F := fun s => []
 M := .tup [.agg (rl (.int .u64) 8 []), .agg (rl (.int .u64) 8 [])]
 B := []
 toL := fun x => [.I x.1, .I x.2.1, .I x.2.2.1, .I x.2.2.2.1, .I x.s4.1, .I x.s4.2.1, .I x.s4.2.2.1, .I x.s4.2.2.2.1, .I x.s8.1, .I x.s8.2.1, .I x.s8.2.2.1, .I x.s8.2.2.2.1, .I x.s8.s4.1, .I x.s8.s4.2.1, .I x.s8.s4.2.2.1, .I x.s8.s4.2.2.2]
 ofL := fun ls => match ls with
  | [.I x0, .I x1, .I x2, .I x3, .I x4, .I x5, .I x6, .I x7, .I x8, .I x9, .I x10, .I x11, .I x12, .I x13, .I x14, .I x15] => some (x0, x1, x2, x3, x4, x5, x6, x7, x8, x9, x10, x11, x12, x13, x14, x15)
  | _ => none
 au := fun ls x h => by
  split at h
  ·cases h; rfl
  ·cases h
theorem E4 (a0 a1 a2 a3 a4 a5 a6 a7 a8 a9 a10 a11 a12 a13 a14 a15 : Int) (x : xx) (h : lw a0 a1 a2 a3 a4 a5 a6 a7 a8 a9 a10 a11 a12 a13 a14 a15 = some x) : bg U2 47 0 [.agg (bI a0 a1 a2 a3 a4 a5 a6 a7), .agg (bI a8 a9 a10 a11 a12 a13 a14 a15)] [] mj x :=
 FD.sem (ch := p6) (A := eT [(6, vu.la)]) (fn := Try.f47) (c := bu Try.f47) (fuel := 60) aJ sv mixed bK mj Try.func47 (by kernel_rfl) (aK (l := [aO Try.f47 0]) (by kernel_rfl) ⟨ci (by kernel_rfl) B6, trivial⟩)
  (by kernel_rfl) (Eq.trans (by kernel_rfl) h)
def vo : HK where
 call := fun args σ k => match args with
  | [.agg [.int .u64 a0, .int .u64 a1, .int .u64 a2, .int .u64 a3, .int .u64 a4, .int .u64 a5, .int .u64 a6, .int .u64 a7], .agg [.int .u64 a8, .int .u64 a9, .int .u64 a10, .int .u64 a11, .int .u64 a12, .int .u64 a13, .int .u64 a14, .int .u64 a15]] => Option.bind (lw a0 a1 a2 a3 a4 a5 a6 a7 a8 a9 a10 a11 a12 a13 a14 a15) fun y => aC σ 0 (mj.val y) (mj.aN y) k
  | _ => none
 nat := fun args σ k => by
  repeat' split
  all_goals simp only [av, ai, UA, Uz, aC, Uy]
 pure := true
 pok := fun _ args σ r σ' h => by
  split at h
  ·exact bq h (fun y => rfl) (fun y f => rfl)
  ·cases h
theorem FZ : aX U2 47 vo := by
 intro args σ r σ' h
 simp only [vo] at h
 split at h
 ·rename_i a0 a1 a2 a3 a4 a5 a6 a7 a8 a9 a10 a11 a12 a13 a14 a15
  obtain ⟨y, hy, h⟩ := bE_ h
  exact lifted (xs := []) (ls := []) (cargs := [.agg (bI a0 a1 a2 a3 a4 a5 a6 a7), .agg (bI a8 a9 a10 a11 a12 a13 a14 a15)]) (bC.of trivial) rfl (E4 a0 a1 a2 a3 a4 a5 a6 a7 a8 a9 a10 a11 a12 a13 a14 a15 y hy) rfl rfl rfl rfl h
 ·cases h
def E5 : CH := (CH.add 75 ly (CH.add 37 cQ CH.none))
theorem Bj : aG U2 E5 := (CH.ak pU (CH.ak cV CH.aF))
def bn (a0 a1 a2 a3 a4 a5 a6 a7 : Int) (q8 : Bool) : Option (Int × Int × Int × Int × Int × Int × Int × Int) :=
 (cond q8 (Option.bind (eH a0 a1 a2 a3 a4 a5 a6 a7) fun r1 => (cond (!(r1.1 == 0 && (r1.2.1 == 0 && (r1.2.2.1 == 0 && (r1.2.2.2.1 == 0 && (r1.2.2.2.2.1 == 0 && (r1.2.2.2.2.2.1 == 0 && (r1.2.2.2.2.2.2.1 == 0 && (r1.2.2.2.2.2.2.2 == 0 && true))))))))) (Option.bind (aj r1.1 r1.2.1 r1.2.2.1 r1.2.2.2.1 r1.2.2.2.2.1 r1.2.2.2.2.2.1 r1.2.2.2.2.2.2.1 r1.2.2.2.2.2.2.2) fun r2 => (cond r2 (cond q8 (some (r1.1, r1.2.1, r1.2.2.1, r1.2.2.2.1, r1.2.2.2.2.1, r1.2.2.2.2.2.1, r1.2.2.2.2.2.2.1, r1.2.2.2.2.2.2.2)) none) (cond q8 none (some (r1.1, r1.2.1, r1.2.2.1, r1.2.2.2.1, r1.2.2.2.2.1, r1.2.2.2.2.2.1, r1.2.2.2.2.2.2.1, r1.2.2.2.2.2.2.2))))) (some (r1.1, r1.2.1, r1.2.2.1, r1.2.2.2.1, r1.2.2.2.2.1, r1.2.2.2.2.2.1, r1.2.2.2.2.2.2.1, r1.2.2.2.2.2.2.2)))) (cond (!(a0 == 0 && (a1 == 0 && (a2 == 0 && (a3 == 0 && (a4 == 0 && (a5 == 0 && (a6 == 0 && (a7 == 0 && true))))))))) (Option.bind (aj a0 a1 a2 a3 a4 a5 a6 a7) fun r3 => (cond r3 (cond q8 (some (a0, a1, a2, a3, a4, a5, a6, a7)) none) (cond q8 none (some (a0, a1, a2, a3, a4, a5, a6, a7))))) (some (a0, a1, a2, a3, a4, a5, a6, a7))))
def kT : FD where
 X := Int × Int × Int × Int × Int × Int × Int × Int
 k := 0
 pre := []
 F := fun s => []
 M := .agg (rl (.int .u64) 8 [])
 B := []
 toL := fun x => [.I x.1, .I x.2.1, .I x.2.2.1, .I x.2.2.2.1, .I x.s4.1, .I x.s4.2.1, .I x.s4.2.2.1, .I x.s4.2.2.2]
 ofL := fun ls => match ls with
  | [.I x0, .I x1, .I x2, .I x3, .I x4, .I x5, .I x6, .I x7] => some (x0, x1, x2, x3, x4, x5, x6, x7)
  | _ => none
 au := fun ls x h => by
  split at h
  ·cases h; rfl
  ·cases h
theorem DQ (a0 a1 a2 a3 a4 a5 a6 a7 : Int) (q8 : Bool) (x : Int × Int × Int × Int × Int × Int × Int × Int) (h : bn a0 a1 a2 a3 a4 a5 a6 a7 q8 = some x) : bg U2 51 0 [.agg (bI a0 a1 a2 a3 a4 a5 a6 a7), .bool q8] [] kT x :=
 FD.semA kT Bj Try.func51 (fuel := 60) (by kernel_rfl) (by kernel_rfl)
  (by kernel_rfl) (Eq.trans (by kernel_rfl) h)
def tj : HK where
 call := fun args σ k => match args with
  | [.agg [.int .u64 a0, .int .u64 a1, .int .u64 a2, .int .u64 a3, .int .u64 a4, .int .u64 a5, .int .u64 a6, .int .u64 a7], .bool q8] => Option.bind (bn a0 a1 a2 a3 a4 a5 a6 a7 q8) fun y => aC σ 0 (kT.val y) (kT.aN y) k
  | _ => none
 nat := fun args σ k => by
  repeat' split
  all_goals simp only [av, ai, UA, Uz, aC, Uy]
 pure := true
 pok := fun _ args σ r σ' h => by
  split at h
  ·exact bq h (fun y => rfl) (fun y f => rfl)
  ·cases h
theorem ET : aX U2 51 tj := by
 intro args σ r σ' h
 simp only [tj] at h
 split at h
 ·rename_i a0 a1 a2 a3 a4 a5 a6 a7 q8
  obtain ⟨y, hy, h⟩ := bE_ h
  exact lifted (xs := []) (ls := []) (cargs := [.agg (bI a0 a1 a2 a3 a4 a5 a6 a7), .bool q8]) (bC.of trivial) rfl (DQ a0 a1 a2 a3 a4 a5 a6 a7 q8 y hy) rfl rfl rfl rfl h
 ·cases h
abbrev BT := (I8 (I8 Bool))
def AG : CH := (CH.add 51 tj (CH.add 50 mg (CH.add 49 iJ (CH.add 48 rK (CH.add 47 vo (CH.add 37 cQ (CH.add 28 rM CH.none)))))))
theorem ES : aG U2 AG := (CH.ak ET (CH.ak nE (CH.ak jl (CH.ak yf (CH.ak FZ (CH.ak cV (CH.ak yh CH.aF)))))))
def jT (a0 a1 a2 a3 a4 a5 a6 a7 a8 a9 a10 a11 a12 a13 a14 a15 : Int) : Option (BT) :=
 (Option.bind (kl a8 a9 a10 a11 a12 a13 a14 a15) fun r1 => (cond (r1 == 0) (some (0, 0, 0, 0, 0, 0, 0, 0, 0, 0, 0, 0, 0, 0, 0, 0, false)) (Option.bind (dz a0 a1 a2 a3 a4 a5 a6 a7) fun r2 => (Option.bind (dz a8 a9 a10 a11 a12 a13 a14 a15) fun r3 => (Option.bind (lw r2.1 r2.2.1 r2.2.2.1 r2.2.2.2.1 r2.2.2.2.2.1 r2.2.2.2.2.2.1 r2.2.2.2.2.2.2.1 r2.2.2.2.2.2.2.2 r3.1 r3.2.1 r3.2.2.1 r3.2.2.2.1 r3.2.2.2.2.1 r3.2.2.2.2.2.1 r3.2.2.2.2.2.2.1 r3.2.2.2.2.2.2.2) fun r4 => (Option.bind (aj a0 a1 a2 a3 a4 a5 a6 a7) fun r5 => (cond r5 (Option.bind (aj a8 a9 a10 a11 a12 a13 a14 a15) fun r6 => (cond r6 (Option.bind (bn r4.1 r4.2.1 r4.2.2.1 r4.2.2.2.1 r4.2.2.2.2.1 r4.2.2.2.2.2.1 r4.2.2.2.2.2.2.1 r4.2.2.2.2.2.2.2.1 false) fun r7 => (Option.bind (aj a8 a9 a10 a11 a12 a13 a14 a15) fun r8 => (cond r8 (Option.bind (bn r4.2.2.2.2.2.2.2.2.1 r4.2.2.2.2.2.2.2.2.2.1 r4.2.2.2.2.2.2.2.2.2.2.1 r4.2.2.2.2.2.2.2.2.2.2.2.1 r4.2.2.2.2.2.2.2.2.2.2.2.2.1 r4.2.2.2.2.2.2.2.2.2.2.2.2.2.1 r4.2.2.2.2.2.2.2.2.2.2.2.2.2.2.1 r4.2.2.2.2.2.2.2.2.2.2.2.2.2.2.2 true) fun r9 => (some (r7.1, r7.2.1, r7.2.2.1, r7.2.2.2.1, r7.2.2.2.2.1, r7.2.2.2.2.2.1, r7.2.2.2.2.2.2.1, r7.2.2.2.2.2.2.2, r9.1, r9.2.1, r9.2.2.1, r9.2.2.2.1, r9.2.2.2.2.1, r9.2.2.2.2.2.1, r9.2.2.2.2.2.2.1, r9.2.2.2.2.2.2.2, true))) (Option.bind (bn r4.2.2.2.2.2.2.2.2.1 r4.2.2.2.2.2.2.2.2.2.1 r4.2.2.2.2.2.2.2.2.2.2.1 r4.2.2.2.2.2.2.2.2.2.2.2.1 r4.2.2.2.2.2.2.2.2.2.2.2.2.1 r4.2.2.2.2.2.2.2.2.2.2.2.2.2.1 r4.2.2.2.2.2.2.2.2.2.2.2.2.2.2.1 r4.2.2.2.2.2.2.2.2.2.2.2.2.2.2.2 false) fun r10 => (some (r7.1, r7.2.1, r7.2.2.1, r7.2.2.2.1, r7.2.2.2.2.1, r7.2.2.2.2.2.1, r7.2.2.2.2.2.2.1, r7.2.2.2.2.2.2.2, r10.1, r10.2.1, r10.2.2.1, r10.2.2.2.1, r10.2.2.2.2.1, r10.2.2.2.2.2.1, r10.2.2.2.2.2.2.1, r10.2.2.2.2.2.2.2, true)))))) (cond (!(r4.2.2.2.2.2.2.2.2.1 == 0 && (r4.2.2.2.2.2.2.2.2.2.1 == 0 && (r4.2.2.2.2.2.2.2.2.2.2.1 == 0 && (r4.2.2.2.2.2.2.2.2.2.2.2.1 == 0 && (r4.2.2.2.2.2.2.2.2.2.2.2.2.1 == 0 && (r4.2.2.2.2.2.2.2.2.2.2.2.2.2.1 == 0 && (r4.2.2.2.2.2.2.2.2.2.2.2.2.2.2.1 == 0 && (r4.2.2.2.2.2.2.2.2.2.2.2.2.2.2.2 == 0 && true))))))))) (Option.bind (dy r4.1 r4.2.1 r4.2.2.1 r4.2.2.2.1 r4.2.2.2.2.1 r4.2.2.2.2.2.1 r4.2.2.2.2.2.2.1 r4.2.2.2.2.2.2.2.1 0 0 0 0 0 0 0 0 1) fun r11 => (Option.bind (dz a8 a9 a10 a11 a12 a13 a14 a15) fun r12 => (Option.bind (ge r4.2.2.2.2.2.2.2.2.1 r4.2.2.2.2.2.2.2.2.2.1 r4.2.2.2.2.2.2.2.2.2.2.1 r4.2.2.2.2.2.2.2.2.2.2.2.1 r4.2.2.2.2.2.2.2.2.2.2.2.2.1 r4.2.2.2.2.2.2.2.2.2.2.2.2.2.1 r4.2.2.2.2.2.2.2.2.2.2.2.2.2.2.1 r4.2.2.2.2.2.2.2.2.2.2.2.2.2.2.2) fun r13 => (Option.bind (dy r12.1 r12.2.1 r12.2.2.1 r12.2.2.2.1 r12.2.2.2.2.1 r12.2.2.2.2.2.1 r12.2.2.2.2.2.2.1 r12.2.2.2.2.2.2.2 r13.1 r13.2.1 r13.2.2.1 r13.2.2.2.1 r13.2.2.2.2.1 r13.2.2.2.2.2.1 r13.2.2.2.2.2.2.1 r13.2.2.2.2.2.2.2 1) fun r14 => (Option.bind (bn r11.1 r11.2.1 r11.2.2.1 r11.2.2.2.1 r11.2.2.2.2.1 r11.2.2.2.2.2.1 r11.2.2.2.2.2.2.1 r11.2.2.2.2.2.2.2 true) fun r15 => (Option.bind (aj a8 a9 a10 a11 a12 a13 a14 a15) fun r16 => (cond r16 (Option.bind (bn r14.1 r14.2.1 r14.2.2.1 r14.2.2.2.1 r14.2.2.2.2.1 r14.2.2.2.2.2.1 r14.2.2.2.2.2.2.1 r14.2.2.2.2.2.2.2 true) fun r17 => (some (r15.1, r15.2.1, r15.2.2.1, r15.2.2.2.1, r15.2.2.2.2.1, r15.2.2.2.2.2.1, r15.2.2.2.2.2.2.1, r15.2.2.2.2.2.2.2, r17.1, r17.2.1, r17.2.2.1, r17.2.2.2.1, r17.2.2.2.2.1, r17.2.2.2.2.2.1, r17.2.2.2.2.2.2.1, r17.2.2.2.2.2.2.2, true))) (Option.bind (bn r14.1 r14.2.1 r14.2.2.1 r14.2.2.2.1 r14.2.2.2.2.1 r14.2.2.2.2.2.1 r14.2.2.2.2.2.2.1 r14.2.2.2.2.2.2.2 false) fun r18 => (some (r15.1, r15.2.1, r15.2.2.1, r15.2.2.2.1, r15.2.2.2.2.1, r15.2.2.2.2.2.1, r15.2.2.2.2.2.2.1, r15.2.2.2.2.2.2.2, r18.1, r18.2.1, r18.2.2.1, r18.2.2.2.1, r18.2.2.2.2.1, r18.2.2.2.2.2.1, r18.2.2.2.2.2.2.1, r18.2.2.2.2.2.2.2, true)))))))))) (Option.bind (bn r4.1 r4.2.1 r4.2.2.1 r4.2.2.2.1 r4.2.2.2.2.1 r4.2.2.2.2.2.1 r4.2.2.2.2.2.2.1 r4.2.2.2.2.2.2.2.1 true) fun r19 => (Option.bind (aj a8 a9 a10 a11 a12 a13 a14 a15) fun r20 => (cond r20 (Option.bind (bn r4.2.2.2.2.2.2.2.2.1 r4.2.2.2.2.2.2.2.2.2.1 r4.2.2.2.2.2.2.2.2.2.2.1 r4.2.2.2.2.2.2.2.2.2.2.2.1 r4.2.2.2.2.2.2.2.2.2.2.2.2.1 r4.2.2.2.2.2.2.2.2.2.2.2.2.2.1 r4.2.2.2.2.2.2.2.2.2.2.2.2.2.2.1 r4.2.2.2.2.2.2.2.2.2.2.2.2.2.2.2 true) fun r21 => (some (r19.1, r19.2.1, r19.2.2.1, r19.2.2.2.1, r19.2.2.2.2.1, r19.2.2.2.2.2.1, r19.2.2.2.2.2.2.1, r19.2.2.2.2.2.2.2, r21.1, r21.2.1, r21.2.2.1, r21.2.2.2.1, r21.2.2.2.2.1, r21.2.2.2.2.2.1, r21.2.2.2.2.2.2.1, r21.2.2.2.2.2.2.2, true))) (Option.bind (bn r4.2.2.2.2.2.2.2.2.1 r4.2.2.2.2.2.2.2.2.2.1 r4.2.2.2.2.2.2.2.2.2.2.1 r4.2.2.2.2.2.2.2.2.2.2.2.1 r4.2.2.2.2.2.2.2.2.2.2.2.2.1 r4.2.2.2.2.2.2.2.2.2.2.2.2.2.1 r4.2.2.2.2.2.2.2.2.2.2.2.2.2.2.1 r4.2.2.2.2.2.2.2.2.2.2.2.2.2.2.2 false) fun r22 => (some (r19.1, r19.2.1, r19.2.2.1, r19.2.2.2.1, r19.2.2.2.2.1, r19.2.2.2.2.2.1, r19.2.2.2.2.2.2.1, r19.2.2.2.2.2.2.2, r22.1, r22.2.1, r22.2.2.1, r22.2.2.2.1, r22.2.2.2.2.1, r22.2.2.2.2.2.1, r22.2.2.2.2.2.2.1, r22.2.2.2.2.2.2.2, true))))))))) (Option.bind (aj a8 a9 a10 a11 a12 a13 a14 a15) fun r23 => (cond r23 (cond (!(r4.2.2.2.2.2.2.2.2.1 == 0 && (r4.2.2.2.2.2.2.2.2.2.1 == 0 && (r4.2.2.2.2.2.2.2.2.2.2.1 == 0 && (r4.2.2.2.2.2.2.2.2.2.2.2.1 == 0 && (r4.2.2.2.2.2.2.2.2.2.2.2.2.1 == 0 && (r4.2.2.2.2.2.2.2.2.2.2.2.2.2.1 == 0 && (r4.2.2.2.2.2.2.2.2.2.2.2.2.2.2.1 == 0 && (r4.2.2.2.2.2.2.2.2.2.2.2.2.2.2.2 == 0 && true))))))))) (Option.bind (dy r4.1 r4.2.1 r4.2.2.1 r4.2.2.2.1 r4.2.2.2.2.1 r4.2.2.2.2.2.1 r4.2.2.2.2.2.2.1 r4.2.2.2.2.2.2.2.1 0 0 0 0 0 0 0 0 1) fun r24 => (Option.bind (dz a8 a9 a10 a11 a12 a13 a14 a15) fun r25 => (Option.bind (ge r4.2.2.2.2.2.2.2.2.1 r4.2.2.2.2.2.2.2.2.2.1 r4.2.2.2.2.2.2.2.2.2.2.1 r4.2.2.2.2.2.2.2.2.2.2.2.1 r4.2.2.2.2.2.2.2.2.2.2.2.2.1 r4.2.2.2.2.2.2.2.2.2.2.2.2.2.1 r4.2.2.2.2.2.2.2.2.2.2.2.2.2.2.1 r4.2.2.2.2.2.2.2.2.2.2.2.2.2.2.2) fun r26 => (Option.bind (dy r25.1 r25.2.1 r25.2.2.1 r25.2.2.2.1 r25.2.2.2.2.1 r25.2.2.2.2.2.1 r25.2.2.2.2.2.2.1 r25.2.2.2.2.2.2.2 r26.1 r26.2.1 r26.2.2.1 r26.2.2.2.1 r26.2.2.2.2.1 r26.2.2.2.2.2.1 r26.2.2.2.2.2.2.1 r26.2.2.2.2.2.2.2 1) fun r27 => (Option.bind (bn r24.1 r24.2.1 r24.2.2.1 r24.2.2.2.1 r24.2.2.2.2.1 r24.2.2.2.2.2.1 r24.2.2.2.2.2.2.1 r24.2.2.2.2.2.2.2 true) fun r28 => (Option.bind (aj a8 a9 a10 a11 a12 a13 a14 a15) fun r29 => (cond r29 (Option.bind (bn r27.1 r27.2.1 r27.2.2.1 r27.2.2.2.1 r27.2.2.2.2.1 r27.2.2.2.2.2.1 r27.2.2.2.2.2.2.1 r27.2.2.2.2.2.2.2 true) fun r30 => (some (r28.1, r28.2.1, r28.2.2.1, r28.2.2.2.1, r28.2.2.2.2.1, r28.2.2.2.2.2.1, r28.2.2.2.2.2.2.1, r28.2.2.2.2.2.2.2, r30.1, r30.2.1, r30.2.2.1, r30.2.2.2.1, r30.2.2.2.2.1, r30.2.2.2.2.2.1, r30.2.2.2.2.2.2.1, r30.2.2.2.2.2.2.2, true))) (Option.bind (bn r27.1 r27.2.1 r27.2.2.1 r27.2.2.2.1 r27.2.2.2.2.1 r27.2.2.2.2.2.1 r27.2.2.2.2.2.2.1 r27.2.2.2.2.2.2.2 false) fun r31 => (some (r28.1, r28.2.1, r28.2.2.1, r28.2.2.2.1, r28.2.2.2.2.1, r28.2.2.2.2.2.1, r28.2.2.2.2.2.2.1, r28.2.2.2.2.2.2.2, r31.1, r31.2.1, r31.2.2.1, r31.2.2.2.1, r31.2.2.2.2.1, r31.2.2.2.2.2.1, r31.2.2.2.2.2.2.1, r31.2.2.2.2.2.2.2, true)))))))))) (Option.bind (bn r4.1 r4.2.1 r4.2.2.1 r4.2.2.2.1 r4.2.2.2.2.1 r4.2.2.2.2.2.1 r4.2.2.2.2.2.2.1 r4.2.2.2.2.2.2.2.1 true) fun r32 => (Option.bind (aj a8 a9 a10 a11 a12 a13 a14 a15) fun r33 => (cond r33 (Option.bind (bn r4.2.2.2.2.2.2.2.2.1 r4.2.2.2.2.2.2.2.2.2.1 r4.2.2.2.2.2.2.2.2.2.2.1 r4.2.2.2.2.2.2.2.2.2.2.2.1 r4.2.2.2.2.2.2.2.2.2.2.2.2.1 r4.2.2.2.2.2.2.2.2.2.2.2.2.2.1 r4.2.2.2.2.2.2.2.2.2.2.2.2.2.2.1 r4.2.2.2.2.2.2.2.2.2.2.2.2.2.2.2 true) fun r34 => (some (r32.1, r32.2.1, r32.2.2.1, r32.2.2.2.1, r32.2.2.2.2.1, r32.2.2.2.2.2.1, r32.2.2.2.2.2.2.1, r32.2.2.2.2.2.2.2, r34.1, r34.2.1, r34.2.2.1, r34.2.2.2.1, r34.2.2.2.2.1, r34.2.2.2.2.2.1, r34.2.2.2.2.2.2.1, r34.2.2.2.2.2.2.2, true))) (Option.bind (bn r4.2.2.2.2.2.2.2.2.1 r4.2.2.2.2.2.2.2.2.2.1 r4.2.2.2.2.2.2.2.2.2.2.1 r4.2.2.2.2.2.2.2.2.2.2.2.1 r4.2.2.2.2.2.2.2.2.2.2.2.2.1 r4.2.2.2.2.2.2.2.2.2.2.2.2.2.1 r4.2.2.2.2.2.2.2.2.2.2.2.2.2.2.1 r4.2.2.2.2.2.2.2.2.2.2.2.2.2.2.2 false) fun r35 => (some (r32.1, r32.2.1, r32.2.2.1, r32.2.2.2.1, r32.2.2.2.2.1, r32.2.2.2.2.2.1, r32.2.2.2.2.2.2.1, r32.2.2.2.2.2.2.2, r35.1, r35.2.1, r35.2.2.1, r35.2.2.2.1, r35.2.2.2.2.1, r35.2.2.2.2.2.1, r35.2.2.2.2.2.2.1, r35.2.2.2.2.2.2.2, true))))))) (Option.bind (bn r4.1 r4.2.1 r4.2.2.1 r4.2.2.2.1 r4.2.2.2.2.1 r4.2.2.2.2.2.1 r4.2.2.2.2.2.2.1 r4.2.2.2.2.2.2.2.1 false) fun r36 => (Option.bind (aj a8 a9 a10 a11 a12 a13 a14 a15) fun r37 => (cond r37 (Option.bind (bn r4.2.2.2.2.2.2.2.2.1 r4.2.2.2.2.2.2.2.2.2.1 r4.2.2.2.2.2.2.2.2.2.2.1 r4.2.2.2.2.2.2.2.2.2.2.2.1 r4.2.2.2.2.2.2.2.2.2.2.2.2.1 r4.2.2.2.2.2.2.2.2.2.2.2.2.2.1 r4.2.2.2.2.2.2.2.2.2.2.2.2.2.2.1 r4.2.2.2.2.2.2.2.2.2.2.2.2.2.2.2 true) fun r38 => (some (r36.1, r36.2.1, r36.2.2.1, r36.2.2.2.1, r36.2.2.2.2.1, r36.2.2.2.2.2.1, r36.2.2.2.2.2.2.1, r36.2.2.2.2.2.2.2, r38.1, r38.2.1, r38.2.2.1, r38.2.2.2.1, r38.2.2.2.2.1, r38.2.2.2.2.2.1, r38.2.2.2.2.2.2.1, r38.2.2.2.2.2.2.2, true))) (Option.bind (bn r4.2.2.2.2.2.2.2.2.1 r4.2.2.2.2.2.2.2.2.2.1 r4.2.2.2.2.2.2.2.2.2.2.1 r4.2.2.2.2.2.2.2.2.2.2.2.1 r4.2.2.2.2.2.2.2.2.2.2.2.2.1 r4.2.2.2.2.2.2.2.2.2.2.2.2.2.1 r4.2.2.2.2.2.2.2.2.2.2.2.2.2.2.1 r4.2.2.2.2.2.2.2.2.2.2.2.2.2.2.2 false) fun r39 => (some (r36.1, r36.2.1, r36.2.2.1, r36.2.2.2.1, r36.2.2.2.2.1, r36.2.2.2.2.2.1, r36.2.2.2.2.2.2.1, r36.2.2.2.2.2.2.2, r39.1, r39.2.1, r39.2.2.1, r39.2.2.2.1, r39.2.2.2.2.1, r39.2.2.2.2.2.1, r39.2.2.2.2.2.2.1, r39.2.2.2.2.2.2.2, true)))))))))))))))
def pR : FD where
 X := BT
 k := 0
 pre := []
 F := fun s => []
 M := .tup [.agg (rl (.int .u64) 8 []), .agg (rl (.int .u64) 8 []), .bool]
 B := []
 toL := fun x => [.I x.1, .I x.2.1, .I x.2.2.1, .I x.2.2.2.1, .I x.s4.1, .I x.s4.2.1, .I x.s4.2.2.1, .I x.s4.2.2.2.1, .I x.s8.1, .I x.s8.2.1, .I x.s8.2.2.1, .I x.s8.2.2.2.1, .I x.s8.s4.1, .I x.s8.s4.2.1, .I x.s8.s4.2.2.1, .I x.s8.s4.2.2.2.1, .B x.s16]
 ofL := fun ls => match ls with
  | [.I x0, .I x1, .I x2, .I x3, .I x4, .I x5, .I x6, .I x7, .I x8, .I x9, .I x10, .I x11, .I x12, .I x13, .I x14, .I x15, .B x16] => some (x0, x1, x2, x3, x4, x5, x6, x7, x8, x9, x10, x11, x12, x13, x14, x15, x16)
  | _ => none
 au := fun ls x h => by
  split at h
  ·cases h; rfl
  ·cases h
theorem HH : wh U2 46 Try.f46 0 (Mp (Mq (bu Try.f46))) (Hk (bu Try.f46) 0) (Hk (bu Try.f46) 1) (O7 (bu Try.f46)) 4 3 :=
 ⟨Try.func46, ⟨_, Try.func46, bK 46 _ Try.func46, by kernel_rfl⟩, by kernel_rfl, by kernel_rfl, by kernel_rfl, by kernel_rfl, by kernel_rfl, by kernel_rfl, by kernel_rfl, by kernel_rfl, by kernel_rfl, (by decide)⟩
theorem HI (a0 a1 a2 a3 a4 a5 a6 a7 a8 a9 a10 a11 a12 a13 a14 a15 : Int) (x : BT) (h : jT a0 a1 a2 a3 a4 a5 a6 a7 a8 a9 a10 a11 a12 a13 a14 a15 = some x) : bg U2 27 0 [.agg (bI a0 a1 a2 a3 a4 a5 a6 a7), .agg (bI a8 a9 a10 a11 a12 a13 a14 a15)] [] pR x :=
 FD.Su (ch := AG) (A := bD) (fn := Try.f27) (c := bu Try.f27) (fuel := 60) aJ ES mixed bK pR Try.func27 (by kernel_rfl) (aK (l := []) (by kernel_rfl) trivial)
  (by kernel_rfl) HH (by kernel_rfl) (Eq.trans (by kernel_rfl) h)
def zG : HK where
 call := fun args σ k => match args with
  | [.agg [.int .u64 a0, .int .u64 a1, .int .u64 a2, .int .u64 a3, .int .u64 a4, .int .u64 a5, .int .u64 a6, .int .u64 a7], .agg [.int .u64 a8, .int .u64 a9, .int .u64 a10, .int .u64 a11, .int .u64 a12, .int .u64 a13, .int .u64 a14, .int .u64 a15]] => Option.bind (jT a0 a1 a2 a3 a4 a5 a6 a7 a8 a9 a10 a11 a12 a13 a14 a15) fun y => aC σ 0 (pR.val y) (pR.aN y) k
  | _ => none
 nat := fun args σ k => by
  repeat' split
  all_goals simp only [av, ai, UA, Uz, aC, Uy]
 pure := true
 pok := fun _ args σ r σ' h => by
  split at h
  ·exact bq h (fun y => rfl) (fun y f => rfl)
  ·cases h
theorem I6 : aX U2 27 zG := by
 intro args σ r σ' h
 simp only [zG] at h
 split at h
 ·rename_i a0 a1 a2 a3 a4 a5 a6 a7 a8 a9 a10 a11 a12 a13 a14 a15
  obtain ⟨y, hy, h⟩ := bE_ h
  exact lifted (xs := []) (ls := []) (cargs := [.agg (bI a0 a1 a2 a3 a4 a5 a6 a7), .agg (bI a8 a9 a10 a11 a12 a13 a14 a15)]) (bC.of trivial) rfl (HI a0 a1 a2 a3 a4 a5 a6 a7 a8 a9 a10 a11 a12 a13 a14 a15 y hy) rfl rfl rfl rfl h
 ·cases h
end Go.Ev
