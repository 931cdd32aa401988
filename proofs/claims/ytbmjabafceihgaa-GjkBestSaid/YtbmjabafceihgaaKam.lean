import Derived.Test.YtbmjabafceihgaaKal
set_option linter.unusedVariables false
set_option linter.unusedSimpArgs false
set_option maxRecDepth 100000
noncomputable section
namespace Go.Ev
open Go.Proofs
def tC : CH := (CH.add 14 pE CH.none)
theorem vd : aE Try.prog tC := (CH.aj wI CH.aB)
def fo {R : Type} (cc : LA_ × Nat × Int) (v : Int) (kn : (Int) → Option R) (ke : ((Unit) ⊕ (Unit)) → Option R) : Option R :=
 (cond (decide (v < cc.2.2)) (af (decide (0 ≤ v) && decide (v < ((cc.2.1 : Nat) : Int))) (af (aq lC cc.1 (Int.toNat v * 3)) (Option.bind (jv (ac cc.1 ((Int.toNat v * 3) + 0)) (ac cc.1 ((Int.toNat v * 3) + 1)) (ac cc.1 ((Int.toNat v * 3) + 2))) fun r1 => (cond (r1 != 0) (ke (.inl ())) (kn (IntKind.wrap .i64 (v + 1))))))) (ke (.inr ())))
def jw (cc : LA_ × Nat × Int) (v : Int) : Option ((Int) ⊕ ((Unit) ⊕ (Unit))) := fo cc v (fun v => some (Sum.inl v)) fun e => some (Sum.inr e)
def A5 (cc : LA_ × Nat × Int) (v : Int) : Option ((Unit) ⊕ (Unit)) := dA (jw cc) v
def EL (cc : LA_ × Nat × Int) (v : Int) : List ah := [.I cc.2.2, .I v, .C cc.1, .N cc.2.1]
def ve (ls : List ah) : Option ((LA_ × Nat × Int) × (Int)) := match ls with
 | [.I x0, .I x1, .C x2, .N x3] => some ((x2, x3, x0), x1)
 | _ => none
def vf (e : (Unit) ⊕ (Unit)) : an := ((Sum.elim (fun e => .ret) (fun e => .exit 0)) e)
def vg (cc : LA_ × Nat × Int) (e : (Unit) ⊕ (Unit)) : List ah := ((Sum.elim (fun e => []) (fun e => [.C cc.1, .N cc.2.1])) e)
def na (cc : LA_ × Nat × Int) (e : (Unit) ⊕ (Unit)) : List ah := ((Sum.elim (fun e => []) (fun e => [.C cc.1, .N cc.2.1])) e)
def ov (o : an) (ls : List ah) : Option (((Unit) ⊕ (Unit)) × List ah) := match o with
 | .ret => (match ls with
  | [] => some ((.inl ()), [])
  | _ => none)
 | .exit 0 => (match ls with
  | [.C x0, .N x1] => some ((.inr ()), [.C x0, .N x1])
  | _ => none)
 | _ => none
theorem Bh : ∀ o ls e cl cc, ov o ls = some (e, cl) → cl = na cc e → ls = vg cc e ∧ vf e = o ∧ o ≠ .normal ∧ ∀ v, o = .pan v → sc 0 v = true := by
 intro o ls e cl cc h hc
 unfold ov at h
 split at h
 ·split at h
  ·cases h
   exact ⟨rfl, rfl, by simp, by intro v hv; cases hv <;> rfl⟩
  ·cases h
 ·split at h
  ·cases h
   simp only [na, Sum.elim_inl, Sum.elim_inr, List.cons.injEq, ah.N.injEq, ah.C.injEq, and_true] at hc
   obtain ⟨rfl, rfl⟩ := hc
   exact ⟨rfl, rfl, by simp, by intro v hv; cases hv <;> rfl⟩
  ·cases h
 ·cases h
def Gb (o : an) : ExS := match o with
 | .ret => ⟨1, (none :: none :: some (.ga .i64 7) :: (rl none 20 [])), [], fun s => [0], [], []⟩
 | .exit 0 => ⟨1, (some (.vec 0) :: (rl none 22 [])), [(0, .vec 3 false)], fun s => [0], [], []⟩
 | _ => ⟨0, [], [], fun _ => [], [], []⟩
theorem EM {R : Type} (cc : LA_ × Nat × Int) (v : Int) (kn : (Int) → Option R) (ke : ((Unit) ⊕ (Unit)) → Option R) : fo cc v kn ke = (fo cc v (fun v => some (Sum.inl v)) fun e => some (Sum.inr e)).bind (Sum.elim kn ke) := by
 simp only [fo, bK, ai, Option.bind_assoc, cb, bF, Option.bind_some, Option.bind_none, Sum.elim_inl, Sum.elim_inr]
def yl : LD where
 CC := LA_ × Nat × Int
 V := Int
 E := (Unit) ⊕ (Unit)
 n := 1
 K := 1
 M := (some (.vec 0) :: none :: none :: none :: none :: some (.vec 0) :: some (.int .i64) :: some (.int .i64) :: (rl none 15 []))
 B := [(0, .vec 3 false)]
 D := []
 pre := []
 F := fun s => [0]
 toL := EL
 ofL := ve
 au := fun ls c v h => by
  unfold ve at h
  split at h
  ·cases h; rfl
  ·cases h
 ck := fo
 nat := EM
 sh := Gb
 out := vf
 toE := vg
 fp := na
 ofE := ov
 da := Bh
 post := fun cc e k => ((Sum.elim (fun e => k (.ret) (bd 1 (none :: none :: some (.int .i64 7) :: (rl none 20 [])) [] [])) (fun e => k (.exit 0) (bd 1 (some (.vec 0) :: (rl none 22 [])) [(0, .vec cc.1 cc.2.1 3 false)] []))) e)
 cd := fun cc e k => by rcases e with e | e <;> rfl
theorem EN : cF Try.prog 1 yl.la (aK Try.f29 0) :=
 LD.ok (ch := tC) (A := bt) aJ vd mixed (fuel := 60) ⟨by kernel_rfl, fun e => by (rcases e with e | e <;> kernel_rfl), fun cc v => by kernel_rfl, aI (l := []) (by kernel_rfl) trivial⟩
def iv (cs0 : LA_) (n1 : Nat) : Option (Int) :=
 (Option.bind (A5 (cs0, n1, ((n1 : Nat) : Int)) 0) (Sum.elim (fun e1 => (some 7)) (fun e1 => (cond (decide (((n1 : Nat) : Int) > 256)) (some 3) (cond (((n1 : Nat) : Int) == 0) (some 2) (some 0))))))
def pF : FD where
 X := Int
 k := 1
 pre := []
 F := fun s => [0]
 M := .int .i64
 B := []
 toL := fun x => [.I x]
 ofL := fun ls => match ls with
  | [.I x0] => some x0
  | _ => none
 au := fun ls x h => by
  split at h
  ·cases h; rfl
  ·cases h
theorem HR (cs0 : LA_) (n1 : Nat) (x : Int) (h : iv cs0 n1 = some x) : bc Try.prog 29 1 [.vec 0] [.vec cs0 n1 3 false] pF x :=
 FD.sem (ch := tC) (A := eF [(2, yl.la)]) (fn := Try.f29) (c := bq Try.f29) (fuel := 60) aJ vd mixed bG pF Try.func29 (by kernel_rfl) (aI (l := [aK Try.f29 0]) (by kernel_rfl) ⟨bX (by kernel_rfl) EN, trivial⟩)
  (by kernel_rfl) (Eq.trans (by kernel_rfl) h)
def uC : HK where
 call := fun args σ k => match args with
  | [x0] => cM σ 3 x0 fun cs0 n1 => Option.bind (iv cs0 n1) fun y => aA σ 1 (pF.val y) (pF.aL y) k
  | _ => none
 nat := fun args σ k => by
  repeat' split
  all_goals simp only [aw, ai, Option.bind_assoc, Option.bind_none, aA, Option.bind_some]
 pure := false
 pok := fun h => by cases h
theorem A6 : aW Try.prog 29 uC := by
 intro args σ r σ' h
 simp only [uC] at h
 split at h
 ·rename_i x0
  obtain ⟨cs0, n1, he0, hf0, h⟩ := bA h
  obtain ⟨y, hy, h⟩ := bE_ h
  exact lifted (xs := [x0]) (ls := [.vec cs0 n1 3 false]) (cargs := [.vec 0]) (bv.of ⟨⟨rfl, he0, hf0, by decide⟩, trivial⟩) rfl (HR cs0 n1 y hy) rfl rfl rfl rfl h
 ·cases h
abbrev zw := (I8 (I8 (I8 (I8 (Int × Int × LA_ × Nat)))))
abbrev uD := Int × Int × Int × Int × Int × Int × LA_ × Nat
def ym : CH := (CH.add 31 zx (CH.add 29 uC CH.none))
theorem DK : aE Try.prog ym := (CH.aj Jy (CH.aj A6 CH.aB))
def nG (cs0 : LA_) (n1 : Nat) : Option (zw) :=
 (Option.bind (iv cs0 n1) fun r1 => (cond (r1 != 0) (some (0, 0, 0, 0, 0, 0, 0, 0, 0, 0, 0, 0, 0, 0, 0, 0, 0, 0, 0, 0, 0, 0, 0, 0, 0, 0, 0, 0, 0, 0, 0, 0, 0, r1, ([] : LA_), 0)) (Option.bind (jZ cs0 n1) fun r2 => (some (aX r2.1 (aX r2.2.1 (aX r2.2.2.1 (aX r2.2.2.2.1 (r2.2.2.2.2.1, 0, r2.2.2.2.2.2.1, r2.2.2.2.2.2.2)))))))))
def eX : FD where
 X := zw
 k := 1
 pre := [(33000002, 1)]
 F := fun s => [0, nameAt s 0 [.c 0, .c 32]]
 M := .tup [.agg (rl (.int .u64) 32 [.vec 1]), .int .i64, .int .i64]
 B := [.vec 1 true]
 toL := fun x => [.I x.1, .I x.2.1, .I x.2.2.1, .I x.2.2.2.1, .I x.s4.1, .I x.s4.2.1, .I x.s4.2.2.1, .I x.s4.2.2.2.1, .I x.s8.1, .I x.s8.2.1, .I x.s8.2.2.1, .I x.s8.2.2.2.1, .I x.s8.s4.1, .I x.s8.s4.2.1, .I x.s8.s4.2.2.1, .I x.s8.s4.2.2.2.1, .I x.s16.1, .I x.s16.2.1, .I x.s16.2.2.1, .I x.s16.2.2.2.1, .I x.s16.s4.1, .I x.s16.s4.2.1, .I x.s16.s4.2.2.1, .I x.s16.s4.2.2.2.1, .I x.s16.s8.1, .I x.s16.s8.2.1, .I x.s16.s8.2.2.1, .I x.s16.s8.2.2.2.1, .I x.s16.s8.s4.1, .I x.s16.s8.s4.2.1, .I x.s16.s8.s4.2.2.1, .I x.s16.s8.s4.2.2.2.1, .I x.s16.s16.1, .I x.s16.s16.2.1, .C x.s16.s16.2.2.1, .N x.s16.s16.2.2.2]
 ofL := fun ls => match ls with
  | (.I x0 :: .I x1 :: .I x2 :: .I x3 :: .I x4 :: .I x5 :: .I x6 :: .I x7 :: .I x8 :: .I x9 :: .I x10 :: .I x11 :: .I x12 :: .I x13 :: .I x14 :: .I x15 :: .I x16 :: .I x17 :: .I x18 :: .I x19 :: .I x20 :: .I x21 :: .I x22 :: .I x23 :: .I x24 :: .I x25 :: .I x26 :: .I x27 :: .I x28 :: .I x29 :: .I x30 :: .I x31 :: .I x32 :: .I x33 :: .C x34 :: .N x35 :: []) => some (x0, x1, x2, x3, x4, x5, x6, x7, x8, x9, x10, x11, x12, x13, x14, x15, x16, x17, x18, x19, x20, x21, x22, x23, x24, x25, x26, x27, x28, x29, x30, x31, x32, x33, x34, x35)
  | _ => none
 au := fun ls x h => by
  split at h
  ·cases h; rfl
  ·cases h
theorem Gc : wJ Try.prog 30 Try.f30 0 (MP (MQ (bq Try.f30))) (HS (bq Try.f30) 0) (HS (bq Try.f30) 1) (Pr (bq Try.f30)) 4 3 :=
 ⟨Try.func30, ⟨_, Try.func30, bG 30 _ Try.func30, by kernel_rfl⟩, by kernel_rfl, by kernel_rfl, by kernel_rfl, by kernel_rfl, by kernel_rfl, by kernel_rfl, by kernel_rfl, by kernel_rfl, by kernel_rfl, (by decide)⟩
theorem Gd (cs0 : LA_) (n1 : Nat) (x : zw) (h : nG cs0 n1 = some x) : bc Try.prog 16 1 [.vec 0] [.vec cs0 n1 3 false] eX x :=
 FD.T2 (ch := ym) (A := bt) (fn := Try.f16) (c := bq Try.f16) (fuel := 60) aJ DK mixed bG eX Try.func16 (by kernel_rfl) (aI (l := []) (by kernel_rfl) trivial)
  (by kernel_rfl) Gc (by kernel_rfl) (Eq.trans (by kernel_rfl) h)
def eC (cs0 : LA_) (n1 : Nat) : Option (uD) := Option.bind (nG cs0 n1) fun (x0, x1, x2, x3, x4, x5, x6, x7, x8, x9, x10, x11, x12, x13, x14, x15, x16, x17, x18, x19, x20, x21, x22, x23, x24, x25, x26, x27, x28, x29, x30, x31, x32, x33, x34, x35) => af (ok8 x0 x1 x2 x3 x4 x5 x6 x7 && ok8 x8 x9 x10 x11 x12 x13 x14 x15 && ok8 x16 x17 x18 x19 x20 x21 x22 x23 && ok8 x24 x25 x26 x27 x28 x29 x30 x31) (some ((num x0 x1 x2 x3 x4 x5 x6 x7), (num x8 x9 x10 x11 x12 x13 x14 x15), (num x16 x17 x18 x19 x20 x21 x22 x23), (num x24 x25 x26 x27 x28 x29 x30 x31), x32, x33, x34, x35))
def tD : FD := ⟨uD, eX.k, eX.pre, eX.F, eX.M, eX.B, fun y => eX.toL (aX y.1 (aX y.2.1 (aX y.2.2.1 (aX y.2.2.2.1 (y.s4.1, y.s4.2.1, y.s4.2.2.1, y.s4.2.2.2))))), fun _ => none, fun _ _ h => by cases h⟩
theorem HT (cs0 : LA_) (n1 : Nat) {y : uD} (h : eC cs0 n1 = some y) : nG cs0 n1 = some (aX y.1 (aX y.2.1 (aX y.2.2.1 (aX y.2.2.2.1 (y.s4.1, y.s4.2.1, y.s4.2.2.1, y.s4.2.2.2))))) := by
 unfold eC at h
 obtain ⟨⟨x0, x1, x2, x3, x4, x5, x6, x7, x8, x9, x10, x11, x12, x13, x14, x15, x16, x17, x18, x19, x20, x21, x22, x23, x24, x25, x26, x27, x28, x29, x30, x31, x32, x33, x34, x35⟩, h1, h2⟩ := bE_ h
 obtain ⟨h3, h4⟩ := aH h2
 simp only [Bool.and_eq_true, and_assoc] at h3
 simp only [Option.some.injEq] at h4
 subst h4
 obtain ⟨o0, o1, o2, o3⟩ := h3
 have q0 := aQ o0
 have q1 := aQ o1
 have q2 := aQ o2
 have q3 := aQ o3
 rw [h1]
 simp only [aX, q0, q1, q2, q3]
theorem Ge (cs0 : LA_) (n1 : Nat) (y : uD) (h : eC cs0 n1 = some y) : bc Try.prog 16 1 [.vec 0] [.vec cs0 n1 3 false] tD y := Gd cs0 n1 _ (HT cs0 n1 h)
def so : HK where
 call := fun args σ k => match args with
  | [x0] => cM σ 3 x0 fun cs0 n1 => Option.bind (eC cs0 n1) fun y => aA σ 1 (tD.val y) (tD.aL y) k
  | _ => none
 nat := fun args σ k => by
  repeat' split
  all_goals simp only [aw, ai, Option.bind_assoc, Option.bind_none, aA, Option.bind_some]
 pure := false
 pok := fun h => by cases h
theorem yn : aW Try.prog 16 so := by
 intro args σ r σ' h
 simp only [so] at h
 split at h
 ·rename_i x0
  obtain ⟨cs0, n1, he0, hf0, h⟩ := bA h
  obtain ⟨y, hy, h⟩ := bE_ h
  exact lifted (xs := [x0]) (ls := [.vec cs0 n1 3 false]) (cargs := [.vec 0]) (bv.of ⟨⟨rfl, he0, hf0, by decide⟩, trivial⟩) rfl (Ge cs0 n1 y hy) rfl rfl rfl rfl h
 ·cases h
abbrev BR := (I8 (I8 (I8 (I8 (Int × LA_ × Nat)))))
abbrev wL := Int × Int × Int × Int × Int × LA_ × Nat
def JC : CH := (CH.add 16 so (CH.add 12 jy CH.none))
theorem EU : aE Try.prog JC := (CH.aj yn (CH.aj ni CH.aB))
def my (cs0 : LA_) (n1 : Nat) : Option (BR) :=
 (Option.bind (eC cs0 n1) fun r1 => (cond (r1.2.2.2.2.2.1 == 0) (cond (decide (((n1 : Nat) : Int) ≤ 4)) (Option.bind (dc cs0 n1) fun r2 => (some (aX r2.1 (aX r2.2.1 (aX r2.2.2.1 (aX r2.2.2.2.1 (r2.2.2.2.2.1, r2.2.2.2.2.2.1, r2.2.2.2.2.2.2))))))) (some (aX r1.1 (aX r1.2.1 (aX r1.2.2.1 (aX r1.2.2.2.1 (r1.2.2.2.2.2.1, r1.2.2.2.2.2.2.1, r1.2.2.2.2.2.2.2))))))) (some (aX r1.1 (aX r1.2.1 (aX r1.2.2.1 (aX r1.2.2.2.1 (r1.2.2.2.2.2.1, r1.2.2.2.2.2.2.1, r1.2.2.2.2.2.2.2))))))))
def fL : FD where
 X := BR
 k := 1
 pre := []
 F := fun s => [0, nameAt s 0 [.c 0, .c 32]]
 M := .tup [.agg (rl (.int .u64) 32 [.vec 1]), .int .i64]
 B := [.vec 1 true]
 toL := fun x => [.I x.1, .I x.2.1, .I x.2.2.1, .I x.2.2.2.1, .I x.s4.1, .I x.s4.2.1, .I x.s4.2.2.1, .I x.s4.2.2.2.1, .I x.s8.1, .I x.s8.2.1, .I x.s8.2.2.1, .I x.s8.2.2.2.1, .I x.s8.s4.1, .I x.s8.s4.2.1, .I x.s8.s4.2.2.1, .I x.s8.s4.2.2.2.1, .I x.s16.1, .I x.s16.2.1, .I x.s16.2.2.1, .I x.s16.2.2.2.1, .I x.s16.s4.1, .I x.s16.s4.2.1, .I x.s16.s4.2.2.1, .I x.s16.s4.2.2.2.1, .I x.s16.s8.1, .I x.s16.s8.2.1, .I x.s16.s8.2.2.1, .I x.s16.s8.2.2.2.1, .I x.s16.s8.s4.1, .I x.s16.s8.s4.2.1, .I x.s16.s8.s4.2.2.1, .I x.s16.s8.s4.2.2.2.1, .I x.s16.s16.1, .C x.s16.s16.2.1, .N x.s16.s16.2.2]
 ofL := fun ls => match ls with
  | (.I x0 :: .I x1 :: .I x2 :: .I x3 :: .I x4 :: .I x5 :: .I x6 :: .I x7 :: .I x8 :: .I x9 :: .I x10 :: .I x11 :: .I x12 :: .I x13 :: .I x14 :: .I x15 :: .I x16 :: .I x17 :: .I x18 :: .I x19 :: .I x20 :: .I x21 :: .I x22 :: .I x23 :: .I x24 :: .I x25 :: .I x26 :: .I x27 :: .I x28 :: .I x29 :: .I x30 :: .I x31 :: .I x32 :: .C x33 :: .N x34 :: []) => some (x0, x1, x2, x3, x4, x5, x6, x7, x8, x9, x10, x11, x12, x13, x14, x15, x16, x17, x18, x19, x20, x21, x22, x23, x24, x25, x26, x27, x28, x29, x30, x31, x32, x33, x34)
  | _ => none
 au := fun ls x h => by
  split at h
  ·cases h; rfl
  ·cases h
theorem H1 (cs0 : LA_) (n1 : Nat) (x : BR) (h : my cs0 n1 = some x) : bc Try.prog 6 1 [.vec 0] [.vec cs0 n1 3 false] fL x :=
 FD.semA fL EU Try.func6 (fuel := 60) (by kernel_rfl) (by kernel_rfl)
  (by kernel_rfl) (Eq.trans (by kernel_rfl) h)
def cD (cs0 : LA_) (n1 : Nat) : Option (wL) := Option.bind (my cs0 n1) fun (x0, x1, x2, x3, x4, x5, x6, x7, x8, x9, x10, x11, x12, x13, x14, x15, x16, x17, x18, x19, x20, x21, x22, x23, x24, x25, x26, x27, x28, x29, x30, x31, x32, x33, x34) => af (ok8 x0 x1 x2 x3 x4 x5 x6 x7 && ok8 x8 x9 x10 x11 x12 x13 x14 x15 && ok8 x16 x17 x18 x19 x20 x21 x22 x23 && ok8 x24 x25 x26 x27 x28 x29 x30 x31) (some ((num x0 x1 x2 x3 x4 x5 x6 x7), (num x8 x9 x10 x11 x12 x13 x14 x15), (num x16 x17 x18 x19 x20 x21 x22 x23), (num x24 x25 x26 x27 x28 x29 x30 x31), x32, x33, x34))
def vl : FD := ⟨wL, fL.k, fL.pre, fL.F, fL.M, fL.B, fun y => fL.toL (aX y.1 (aX y.2.1 (aX y.2.2.1 (aX y.2.2.2.1 (y.s4.1, y.s4.2.1, y.s4.2.2))))), fun _ => none, fun _ _ h => by cases h⟩
theorem JD (cs0 : LA_) (n1 : Nat) {y : wL} (h : cD cs0 n1 = some y) : my cs0 n1 = some (aX y.1 (aX y.2.1 (aX y.2.2.1 (aX y.2.2.2.1 (y.s4.1, y.s4.2.1, y.s4.2.2))))) := by
 unfold cD at h
 obtain ⟨⟨x0, x1, x2, x3, x4, x5, x6, x7, x8, x9, x10, x11, x12, x13, x14, x15, x16, x17, x18, x19, x20, x21, x22, x23, x24, x25, x26, x27, x28, x29, x30, x31, x32, x33, x34⟩, h1, h2⟩ := bE_ h
 obtain ⟨h3, h4⟩ := aH h2
 simp only [Bool.and_eq_true, and_assoc] at h3
 simp only [Option.some.injEq] at h4
 subst h4
 obtain ⟨o0, o1, o2, o3⟩ := h3
 have q0 := aQ o0
 have q1 := aQ o1
 have q2 := aQ o2
 have q3 := aQ o3
 rw [h1]
 simp only [aX, q0, q1, q2, q3]
theorem H2 (cs0 : LA_) (n1 : Nat) (y : wL) (h : cD cs0 n1 = some y) : bc Try.prog 6 1 [.vec 0] [.vec cs0 n1 3 false] vl y := H1 cs0 n1 _ (JD cs0 n1 h)
def pD : HK where
 call := fun args σ k => match args with
  | [x0] => cM σ 3 x0 fun cs0 n1 => Option.bind (cD cs0 n1) fun y => aA σ 1 (vl.val y) (vl.aL y) k
  | _ => none
 nat := fun args σ k => by
  repeat' split
  all_goals simp only [aw, ai, Option.bind_assoc, Option.bind_none, aA, Option.bind_some]
 pure := false
 pok := fun h => by cases h
theorem tA : aW Try.prog 6 pD := by
 intro args σ r σ' h
 simp only [pD] at h
 split at h
 ·rename_i x0
  obtain ⟨cs0, n1, he0, hf0, h⟩ := bA h
  obtain ⟨y, hy, h⟩ := bE_ h
  exact lifted (xs := [x0]) (ls := [.vec cs0 n1 3 false]) (cargs := [.vec 0]) (bv.of ⟨⟨rfl, he0, hf0, by decide⟩, trivial⟩) rfl (H2 cs0 n1 y hy) rfl rfl rfl rfl h
 ·cases h
def f9 (l : List Pt) : Int := cond (bf l) (cond (decide (((l.length : Nat) : Int) > 256)) 3 (cond (((l.length : Nat) : Int) == 0) 2 0)) 7
theorem NF {l : List Pt} {i : Nat} (h : i < l.length) : bf (l.take (i + 1)) = (bf (l.take i) && bP (pat l i)) := by
 have : l.take (i + 1) = l.take i ++ [pat l i] := by
  rw [List.take_add_one, List.getElem?_eq_getElem h]; simp [pat, List.getD_eq_getElem?_getD, List.getElem?_eq_getElem h]
 unfold bf
 rw [this, List.all_append]; simp
theorem L9 {l : List Pt} {i : Nat} (h : i < l.length) (hb : bP (pat l i) = false) : bf l = false := by
 cases hc : bf l with
 | false => rfl
 | true => rw [fC hc h] at hb; cases hb
theorem ME {l : List Pt} (hl : l.length < 4611686018427387904) : iv (pcs l) l.length = some (f9 l) := by
 have key : ∃ e, A5 (pcs l, l.length, ((l.length : Nat) : Int)) 0 = some e ∧ (match e with | .inl () => bf l = false | .inr () => bf l = true) := by
  refine gL (step := jw (pcs l, l.length, ((l.length : Nat) : Int))) (fun v => ∃ i : Nat, v = (i : Int) ∧ i ≤ l.length ∧ bf (l.take i) = true) (fun v => ((l.length : Int) - v).toNat) _ ?_
   (Nat.lt_of_le_of_lt (show ((l.length : Int) - 0).toNat ≤ 4611686018427387904 by omega) (by decide)) ⟨0, rfl, by omega, rfl⟩
  rintro v ⟨i, rfl, hi, hok⟩
  by_cases h : i < l.length
  ·have w : IntKind.wrap .i64 ((i : Int) + 1) = ((i + 1 : Nat) : Int) := by rw [cf (by omega)]; omega
   have st : jw (pcs l, l.length, ((l.length : Nat) : Int)) (i : Int) = cond (cond (bP (pat l i)) (0 : Int) 7 != 0) (some (.inr (.inl ()))) (some (.inl ((i + 1 : Nat) : Int))) := by
    have hb' : (bnd (pat l i).1 && bnd (pat l i).2.1 && bnd (pat l i).2.2) = bP (pat l i) := rfl
    simp only [jw, fo, decLt h, fD, cond_true, Bool.and_self, az, gH, pro h, pg0 h, pg1 h, pg2 h, MG, Option.bind_some, w, hb']
   cases hb : bP (pat l i) with
   | true =>
    rw [hb] at st
    exact .inl ⟨_, st, ⟨i + 1, rfl, by omega, by rw [NF h, hok, hb]; rfl⟩, by omega⟩
   | false =>
    rw [hb] at st
    exact .inr ⟨.inl (), st, L9 h hb⟩
  ·have hi' : i = l.length := by omega
   subst hi'
   rw [List.take_length] at hok
   exact .inr ⟨.inr (), by simp only [jw, fo, decide_eq_false (show ¬ ((l.length : Int) < ((l.length : Nat) : Int)) by omega), cond_false], hok⟩
 obtain ⟨e, he, h⟩ := key
 unfold iv f9
 rw [he, Option.bind_some]
 rcases e with ⟨⟩ | ⟨⟩
 ·simp only at h; rw [h]; rfl
 ·simp only at h
  rw [h]
  simp only [Sum.elim_inr, cond_true]
  cases decide (((l.length : Nat) : Int) > 256) <;> cases (((l.length : Nat) : Int) == 0) <;> rfl
theorem Qp {l : List Pt} (hok : bf l = true) (h1 : 1 ≤ l.length) (h : l.length ≤ 256) : f9 l = 0 := by
 unfold f9
 rw [hok, cond_true, decide_eq_false (by omega), cond_false]
 have : (((l.length : Nat) : Int) == 0) = false := beq_eq_false_iff_ne.2 (by omega)
 rw [this]; rfl
theorem MD {l : List Pt} (hok : bf l = true) (h1 : 1 ≤ l.length) (h64 : l.length ≤ 256) :
  ∃ o N D st, Wk l o N D st ∧ eC (pcs l) l.length = some (N.1, N.2.1, N.2.2, D, ((st : Nat) : Int), 0, cj o, o.length) := by
 obtain ⟨o, N, D, st, hW, e⟩ := Tx hok h1 h64
 refine ⟨o, N, D, st, hW, ?_⟩
 unfold eC nG
 unfold aX
 rw [ME (by omega), Qp hok h1 (by omega), Option.bind_some, e]
 have z : ((0 : Int) != 0) = false := rfl
 simp only [z, cond_false, Option.bind_some, bz, Bool.and_self, az]
 rw [aG (be hW.sN.h.1 (by decide)), aG (be hW.sN.h.2.1 (by decide)), aG (be hW.sN.h.2.2 (by decide)), aG (be hW.sD (by decide))]
structure Nr (l : List Pt) (o : List Nat) (N : Pt) (D : Int) : Prop where
 own : Own l o
 IQ : Prim (bu (pick l o)) (wts (pick l o)).2 N D
 none : sg l (pick l o)
 sN : PtB 240 N
 sD : sm 190 D
theorem Ql (l : List Pt) : pick l (List.range l.length) = l := by
 unfold pick
 apply List.ext_getElem?
 intro i
 rw [List.getElem?_map]
 rcases Nat.lt_or_ge i l.length with h | h
 ·simp [h, pat, List.getD_eq_getElem?_getD, List.getElem?_eq_getElem h]
 ·rw [List.getElem?_eq_none h, List.getElem?_eq_none (by simpa using h)]; rfl
theorem Sf {l : List Pt} (hok : bf l = true) (h1 : 1 ≤ l.length) (h64 : l.length ≤ 256) :
  ∃ o N D, Nr l o N D ∧ cD (pcs l) l.length = some (N.1, N.2.1, N.2.2, D, 0, cj o, o.length) := by
 obtain ⟨o, N, D, st, hW, e⟩ := MD hok h1 h64
 have z : ((0 : Int) == 0) = true := rfl
 by_cases h4 : l.length ≤ 4
 ·obtain ⟨ch, hch, N', D', e2, hi, ⟨hw, hn⟩, hP, hN, hD⟩ := Lx hok h1 h4
  obtain ⟨c1, c2, c3, c4, c5⟩ := HC hch
  refine ⟨ch, N', D', ⟨⟨⟨hi, hw⟩, c4, c5, c1, by omega⟩, hP, hn, hN, hD⟩, ?_⟩
  unfold cD my
  unfold aX
  rw [e, Option.bind_some]
  have d4 : decide (((l.length : Nat) : Int) ≤ 4) = true := decide_eq_true (by omega)
  simp only [z, cond_true, d4]
  rw [e2]
  simp only [Option.bind_some, bz, Bool.and_self, az]
  rw [aG (be hN.h.1 (by decide)), aG (be hN.h.2.1 (by decide)), aG (be hN.h.2.2 (by decide)), aG (be hD (by decide))]
  rfl
 ·refine ⟨o, N, D, ⟨hW.own, hW.IQ, hW.none, hW.sN, hW.sD⟩, ?_⟩
  unfold cD my
  unfold aX
  rw [e, Option.bind_some]
  have d4 : decide (((l.length : Nat) : Int) ≤ 4) = false := decide_eq_false (by omega)
  simp only [z, cond_true, d4, cond_false, Option.bind_some, bz, Bool.and_self, az]
  rw [aG (be hW.sN.h.1 (by decide)), aG (be hW.sN.h.2.1 (by decide)), aG (be hW.sN.h.2.2 (by decide)), aG (be hW.sD (by decide))]
theorem L8 (l : List Pt) : f9 l = 7 ∨ f9 l = 3 ∨ f9 l = 2 ∨ (f9 l = 0 ∧ bf l = true ∧ 1 ≤ l.length ∧ l.length ≤ 256) := by
 unfold f9
 cases bf l with
 | false => exact .inl rfl
 | true =>
  by_cases h : ((l.length : Nat) : Int) > 256
  ·rw [decide_eq_true h]; exact .inr (.inl rfl)
  ·rw [decide_eq_false h]
   by_cases h0 : l.length = 0
   ·rw [h0]; exact .inr (.inr (.inl rfl))
   ·have : (((l.length : Nat) : Int) == 0) = false := beq_eq_false_iff_ne.2 (by omega)
    rw [this]
    exact .inr (.inr (.inr ⟨rfl, rfl, by omega, by omega⟩))
theorem HF {l : List Pt} (hl : l.length < 4611686018427387904) (h : f9 l ≠ 0) : eC (pcs l) l.length = some (0, 0, 0, 0, 0, f9 l, [], 0) := by
 have z : (f9 l != 0) = true := by simpa using h
 unfold eC nG
 unfold aX
 rw [ME hl, Option.bind_some]
 simp only [z, cond_true, Option.bind_some]
 have o0 : ok8 0 0 0 0 0 0 0 0 = true := rfl
 have n0 : num 0 0 0 0 0 0 0 0 = 0 := rfl
 simp only [o0, n0, Bool.and_self, az]
theorem NE {l : List Pt} (hl : l.length < 4611686018427387904) (h : f9 l ≠ 0) : cD (pcs l) l.length = some (0, 0, 0, 0, f9 l, [], 0) := by
 have z : (f9 l == 0) = false := beq_eq_false_iff_ne.2 h
 have o0 : ok8 0 0 0 0 0 0 0 0 = true := rfl
 have n0 : num 0 0 0 0 0 0 0 0 = 0 := rfl
 unfold cD my
 unfold aX
 rw [HF hl h, Option.bind_some]
 simp only [z, cond_false, fc, Option.bind_some, o0, n0, Bool.and_self, az]
end Go.Ev
namespace Go.Ev
theorem Qr {a b c : Int} (h : a * a + b * b + c * c ≤ 0) : a = 0 ∧ b = 0 ∧ c = 0 := by
 have nn : ∀ x : Int, 0 ≤ x * x := fun x => by
  rcases Int.le_total 0 x with k | k
  ·exact Int.mul_nonneg k k
  ·exact Int.mul_nonneg_of_nonpos_of_nonpos k k
 have h1 := nn a
 have h2 := nn b
 have h3 := nn c
 refine ⟨?_, ?_, ?_⟩
 ·exact (Int.mul_eq_zero.1 (show a * a = 0 by omega)).elim id id
 ·exact (Int.mul_eq_zero.1 (show b * b = 0 by omega)).elim id id
 ·exact (Int.mul_eq_zero.1 (show c * c = 0 by omega)).elim id id
theorem Lz {T T' : List Pt} {w w' : List Int} {N N' : Pt} {d s d' s' : Int} (h : Nst T w N d s) (h' : Nst T' w' N' d' s') (hd : 0 < d) (hd' : 0 < d') (hT : ∀ p ∈ T, s' ≤ ae p N') (hT' : ∀ p ∈ T', s ≤ ae p N) :
  d' * N.1 = d * N'.1 ∧ d' * N.2.1 = d * N'.2.1 ∧ d' * N.2.2 = d * N'.2.2 := by
 have h1 := sH N' s' w T h.len (fun x hx => Int.le_of_lt (h.pos x hx)) hT
 have h2 := sH N s w' T' h'.len (fun x hx => Int.le_of_lt (h'.pos x hx)) hT'
 rw [← h.sum, h.div] at h1
 rw [← h'.sum, h'.div] at h2
 have q := h.sq
 have q' := h'.sq
 have e : (d' * N.1 - d * N'.1) * (d' * N.1 - d * N'.1) + (d' * N.2.1 - d * N'.2.1) * (d' * N.2.1 - d * N'.2.1) + (d' * N.2.2 - d * N'.2.2) * (d' * N.2.2 - d * N'.2.2) = d' * d' * ae N N - d * d' * ae N N' - d * d' * ae N' N + d * d * ae N' N' := by
  simp only [ae]; grind
 have hdd : 0 < d * d' := Int.mul_pos hd hd'
 have a1 : d * d' * (d * s') ≤ d * d' * ae N N' := Int.mul_le_mul_of_nonneg_left h1 (Int.le_of_lt hdd)
 have a2 : d * d' * (d' * s) ≤ d * d' * ae N' N := Int.mul_le_mul_of_nonneg_left h2 (Int.le_of_lt hdd)
 have e1 : d' * d' * ae N N = d * d' * (d' * s) := by rw [q]; grind
 have e2 : d * d * ae N' N' = d * d' * (d * s') := by rw [q']; grind
 obtain ⟨z1, z2, z3⟩ := Qr (a := d' * N.1 - d * N'.1) (b := d' * N.2.1 - d * N'.2.1) (c := d' * N.2.2 - d * N'.2.2) (by rw [e, e1, e2]; omega)
 exact ⟨by omega, by omega, by omega⟩
theorem Qs : ∀ {T : List Pt} {c : List Int}, ind T → c.length = T.length → bQ c = 0 → bg c T = (0, 0, 0) → ∀ x ∈ c, x = 0
 | [p], [a], _, _, h, _ => by simp only [bQ] at h; intro x hx; simp only [List.mem_singleton] at hx; omega
 | [p, q], [a, b], hi, _, h, e => by
  simp only [bQ] at h
  simp only [bg, Prod.mk.injEq] at e
  obtain ⟨e1, e2, e3⟩ := e
  have hb : b = 0 := by
   rcases Int.lt_trichotomy b 0 with k | k | k
   ·exfalso; apply hi
    have ha : a = -b := by omega
    subst ha
    simp only [ax, Prod.mk.injEq]
    have z : b ≠ 0 := by omega
    exact ⟨Int.eq_of_mul_eq_mul_left z (by grind), Int.eq_of_mul_eq_mul_left z (by grind), Int.eq_of_mul_eq_mul_left z (by grind)⟩
   ·exact k
   ·exfalso; apply hi
    have ha : a = -b := by omega
    subst ha
    simp only [ax, Prod.mk.injEq]
    have z : b ≠ 0 := by omega
    exact ⟨Int.eq_of_mul_eq_mul_left z (by grind), Int.eq_of_mul_eq_mul_left z (by grind), Int.eq_of_mul_eq_mul_left z (by grind)⟩
  intro x hx
  simp only [List.mem_cons, List.not_mem_nil, or_false] at hx
  omega
 | [p, q, r], [a, b, c], hi, _, h, e => by
  simp only [bQ] at h
  simp only [bg, Prod.mk.injEq] at e
  obtain ⟨e1, e2, e3⟩ := e
  have ha : a = -b - c := by omega
  subst ha
  have key : ∀ z : Int, (z = b ∨ z = c) → z = 0 := by
   intro z hz
   rcases Int.lt_trichotomy z 0 with k | k | k
   ·exfalso; apply hi
    have z0 : z ≠ 0 := by omega
    simp only [crs, ax, Prod.mk.injEq]
    refine ⟨Int.eq_of_mul_eq_mul_left z0 ?_, Int.eq_of_mul_eq_mul_left z0 ?_, Int.eq_of_mul_eq_mul_left z0 ?_⟩ <;> rcases hz with rfl | rfl <;> grind
   ·exact k
   ·exfalso; apply hi
    have z0 : z ≠ 0 := by omega
    simp only [crs, ax, Prod.mk.injEq]
    refine ⟨Int.eq_of_mul_eq_mul_left z0 ?_, Int.eq_of_mul_eq_mul_left z0 ?_, Int.eq_of_mul_eq_mul_left z0 ?_⟩ <;> rcases hz with rfl | rfl <;> grind
  have hb := key b (.inl rfl)
  have hc := key c (.inr rfl)
  intro x hx
  simp only [List.mem_cons, List.not_mem_nil, or_false] at hx
  omega
 | [p, q, r, s], [a, b, c, d], hi, _, h, e => by
  simp only [bQ] at h
  simp only [bg, Prod.mk.injEq] at e
  obtain ⟨e1, e2, e3⟩ := e
  have ha : a = -b - c - d := by omega
  subst ha
  have f1 : b * (q.1 - p.1) + c * (r.1 - p.1) + d * (s.1 - p.1) = 0 := by grind
  have f2 : b * (q.2.1 - p.2.1) + c * (r.2.1 - p.2.1) + d * (s.2.1 - p.2.1) = 0 := by grind
  have f3 : b * (q.2.2 - p.2.2) + c * (r.2.2 - p.2.2) + d * (s.2.2 - p.2.2) = 0 := by grind
  clear e1 e2 e3 h
  have key : ∀ z : Int, (z = b ∨ z = c ∨ z = d) → z = 0 := by
   intro z hz
   have : z * cL (ax q p) (ax r p) (ax s p) = 0 := by
    simp only [cL, crs, ae, ax]
    generalize q.1 - p.1 = q1 at *
    generalize q.2.1 - p.2.1 = q2 at *
    generalize q.2.2 - p.2.2 = q3 at *
    generalize r.1 - p.1 = r1 at *
    generalize r.2.1 - p.2.1 = r2 at *
    generalize r.2.2 - p.2.2 = r3 at *
    generalize s.1 - p.1 = s1 at *
    generalize s.2.1 - p.2.1 = s2 at *
    generalize s.2.2 - p.2.2 = s3 at *
    rcases hz with rfl | rfl | rfl <;> grind
   exact (Int.mul_eq_zero.1 this).resolve_right hi
  have hb := key b (.inl rfl)
  have hc := key c (.inr (.inl rfl))
  have hd := key d (.inr (.inr rfl))
  intro x hx
  simp only [List.mem_cons, List.not_mem_nil, or_false] at hx
  omega
 | [], _, h, _, _, _ => h.elim
 | _ :: _ :: _ :: _ :: _ :: _, _, h, _, _, _ => h.elim
theorem Sj {T' T : List Pt} (h : T'.Sublist T) : ∀ w' : List Int, w'.length = T'.length → ∃ w : List Int, w.length = T.length ∧ bg w T = bg w' T' ∧ bQ w = bQ w' ∧ (T'.length < T.length → (0 : Int) ∈ w) := by
 induction h with
 | slnil => intro w' h; exact ⟨[], rfl, by cases w' <;> simp_all [bg], by cases w' <;> simp_all, fun h => by simp at h⟩
 | cons a h ih =>
  intro w' hw
  obtain ⟨w, h1, h2, h3, h4⟩ := ih w' hw
  refine ⟨0 :: w, by simp [h1], ?_, ?_, fun _ => by simp⟩
  ·simp only [bg, h2, Int.zero_mul, Int.zero_add]
  ·simp only [bQ, h3, Int.zero_add]
 | cons_cons a h ih =>
  intro w' hw
  match w', hw with
  | x :: w', hw =>
   obtain ⟨w, h1, h2, h3, h4⟩ := ih w' (by simpa using hw)
   refine ⟨x :: w, by simp [h1], ?_, ?_, fun h => ?_⟩
   ·simp only [bg, h2]
   ·simp only [bQ, h3]
   ·exact List.mem_cons_of_mem _ (h4 (by simpa using h))
theorem MJ {a : Int} : ∀ {w c : List Int}, c.length = w.length → a ∈ c → ∃ x ∈ w, (x, a) ∈ w.zip c
 | [], [], _, h => by cases h
 | x :: w, y :: c, hl, h => by
  rcases List.mem_cons.1 h with rfl | h
  ·exact ⟨x, by simp, by simp⟩
  ·obtain ⟨z, h1, h2⟩ := MJ (w := w) (c := c) (by simpa using hl) h
   exact ⟨z, by simp [h1], by simp [h2]⟩
theorem Qm {T T' : List Pt} {w w' : List Int} {N N' : Pt} {d s d' s' : Int} (hi : ind T) (h : Nst T w N d s) (h' : Nst T' w' N' d' s') (hd : 0 < d) (hd' : 0 < d') (hs : T'.Sublist T) (e : d' * N.1 = d * N'.1 ∧ d' * N.2.1 = d * N'.2.1 ∧ d' * N.2.2 = d * N'.2.2) : T'.length = T.length := by
 rcases Nat.lt_or_ge T'.length T.length with k | k
 ·exfalso
  obtain ⟨u, h1, h2, h3, h4⟩ := Sj hs w' h'.len
  obtain ⟨x, hx, hz⟩ := MJ (h1.trans h.len.symm) (h4 k)
  have hm := IT d' d w u _ hz
  have := Qs hi (c := mvd d' d w u) (by rw [IR _ _ _ _ (h.len.trans h1.symm), h1]) (by rw [IS _ _ _ _ (h.len.trans h1.symm), h3, h.div, h'.div]; grind) (by
   rw [F0 _ _ _ _ _ h.len h1, h2, ← h.sum, ← h'.sum]
   obtain ⟨e1, e2, e3⟩ := e
   simp only [Prod.mk.injEq]
   omega) _ hm
  have hp := h.pos x hx
  have := Int.mul_pos hd' hp
  simp only [Int.mul_zero, Int.sub_zero] at *
  omega
 ·exact Nat.le_antisymm hs.length_le k
end Go.Ev
namespace Go.Ev
open Go.Proofs
theorem HE {a b c d m k : Int} (one : ∀ e, e ∣ a → e ∣ b → e ∣ c → e ∣ d → e ∣ 1) (ha : k ∣ m * a) (hb : k ∣ m * b) (hc : k ∣ m * c) (hd : k ∣ m * d) : k ∣ m := by
 have h1 : Nat.gcd (Nat.gcd a.natAbs b.natAbs) (Nat.gcd c.natAbs d.natAbs) = 1 := by
  have z := one ((Nat.gcd (Nat.gcd a.natAbs b.natAbs) (Nat.gcd c.natAbs d.natAbs) : Nat) : Int)
   (Int.ofNat_dvd_left.2 (Nat.dvd_trans (Nat.gcd_dvd_left _ _) (Nat.gcd_dvd_left _ _))) (Int.ofNat_dvd_left.2 (Nat.dvd_trans (Nat.gcd_dvd_left _ _) (Nat.gcd_dvd_right _ _)))
   (Int.ofNat_dvd_left.2 (Nat.dvd_trans (Nat.gcd_dvd_right _ _) (Nat.gcd_dvd_left _ _))) (Int.ofNat_dvd_left.2 (Nat.dvd_trans (Nat.gcd_dvd_right _ _) (Nat.gcd_dvd_right _ _)))
  have := Int.ofNat_dvd_left.1 z
  exact Nat.dvd_one.1 (by simpa using this)
 have n : ∀ {x : Int}, k ∣ m * x → k.natAbs ∣ m.natAbs * x.natAbs := fun {x} h => by
  rw [← Int.natAbs_mul]; exact Int.natAbs_dvd_natAbs.2 h
 have h2 : k.natAbs ∣ m.natAbs * Nat.gcd (Nat.gcd a.natAbs b.natAbs) (Nat.gcd c.natAbs d.natAbs) := by
  rw [← Nat.gcd_mul_left, ← Nat.gcd_mul_left, ← Nat.gcd_mul_left]
  exact Nat.dvd_gcd (Nat.dvd_gcd (n ha) (n hb)) (Nat.dvd_gcd (n hc) (n hd))
 rw [h1, Nat.mul_one] at h2
 exact Int.natAbs_dvd_natAbs.1 h2
theorem Prim.only {n n' N N' : Pt} {d d' D D' : Int} (h : Prim n d N D) (h' : Prim n' d' N' D') (hd : 0 < d) (hd' : 0 < d')
  (e : d' * n.1 = d * n'.1 ∧ d' * n.2.1 = d * n'.2.1 ∧ d' * n.2.2 = d * n'.2.2) : N = N' ∧ D = D' := by
 obtain ⟨g, hg, rfl, rfl⟩ := h.ex
 obtain ⟨g', hg', rfl, rfl⟩ := h'.ex
 have hD : 0 < D := by
  rcases Int.lt_or_le 0 D with k | k
  ·exact k
  ·have := Int.mul_nonpos_of_nonneg_of_nonpos (Int.le_of_lt hg) k; omega
 have hD' : 0 < D' := by
  rcases Int.lt_or_le 0 D' with k | k
  ·exact k
  ·have := Int.mul_nonpos_of_nonneg_of_nonpos (Int.le_of_lt hg') k; omega
 have gg : g * g' ≠ 0 := Int.ne_of_gt (Int.mul_pos hg hg')
 have c : ∀ {x y : Int}, g' * D' * (g * x) = g * D * (g' * y) → D' * x = D * y := fun {x y} q => Int.eq_of_mul_eq_mul_left gg (by grind)
 obtain ⟨e1, e2, e3⟩ := e
 have c1 := c e1
 have c2 := c e2
 have c3 := c e3
 have k1 : D ∣ D' := HE h.one ⟨_, c1⟩ ⟨_, c2⟩ ⟨_, c3⟩ ⟨D', Int.mul_comm _ _⟩
 have k2 : D' ∣ D := HE h'.one ⟨_, c1.symm⟩ ⟨_, c2.symm⟩ ⟨_, c3.symm⟩ ⟨D, Int.mul_comm _ _⟩
 have eD : D = D' := Int.le_antisymm (Int.le_of_dvd hD' k1) (Int.le_of_dvd hD k2)
 subst eD
 have nz : D ≠ 0 := Int.ne_of_gt hD
 refine ⟨?_, rfl⟩
 obtain ⟨a, b, c⟩ := N
 obtain ⟨a', b', c'⟩ := N'
 rw [show a = a' from Int.eq_of_mul_eq_mul_left nz c1, show b = b' from Int.eq_of_mul_eq_mul_left nz c2, show c = c' from Int.eq_of_mul_eq_mul_left nz c3]
theorem Nr.only {l l' : List Pt} {o o' : List Nat} {N N' : Pt} {D D' : Int} (h : Nr l o N D) (h' : Nr l' o' N' D') (hT : ∀ p ∈ pick l o, lev l' o' ≤ ae p (bu (pick l' o'))) (hT' : ∀ p ∈ pick l' o', lev l o ≤ ae p (bu (pick l o))) : N = N' ∧ D = D' := by
 have z : Nst (pick l o) (wts (pick l o)).1 (bu (pick l o)) (wts (pick l o)).2 (lev l o) := Nst.of h.own.v.1 h.own.v.2
 have z' : Nst (pick l' o') (wts (pick l' o')).1 (bu (pick l' o')) (wts (pick l' o')).2 (lev l' o') := Nst.of h'.own.v.1 h'.own.v.2
 exact h.IQ.only h'.IQ z.oW z'.oW (Lz z z' z.oW z'.oW hT hT')
theorem Qk {l : List Pt} {o : List Nat} (h : ∀ x ∈ o, x < l.length) : ∀ p ∈ pick l o, p ∈ l := by
 intro p hp
 obtain ⟨i, hi, rfl⟩ := List.mem_map.1 hp
 have := h i hi
 unfold pat
 rw [List.getD_eq_getElem?_getD, List.getElem?_eq_getElem this]
 exact List.getElem_mem this
end Go.Ev
namespace Go.Ev
open Go.Proofs
abbrev iw := LA_ × Nat × Int × Int × Int × LA_ × Nat × Int × Int × Int
abbrev ix := LA_ × Nat × LA_ × Nat × Int × Int
abbrev iy := LA_ × Nat × LA_ × Nat × Int
def kK : CH := (CH.add 29 uC CH.none)
theorem j0 : aE Try.prog kK := (CH.aj A6 CH.aB)
def jx {R : Type} (cc : ix) (v : Int) (kn : (Int) → Option R) (ke : ((Int) ⊕ (Unit)) → Option R) : Option R :=
 (cond (decide (v < 3)) (let l3 := ([.int .i64 7, .int .i64 3, .int .i64 2] : LA_); (af (decide (0 ≤ v) && decide (v < ((3 : Nat) : Int)) && aq [.int .i64] l3 (Int.toNat v * 1)) (cond (cc.2.2.2.2.1 == (ac l3 ((Int.toNat v * 1) + 0))) (ke (.inl (ac l3 ((Int.toNat v * 1) + 0)))) (cond (cc.2.2.2.2.2 == (ac l3 ((Int.toNat v * 1) + 0))) (ke (.inl (ac l3 ((Int.toNat v * 1) + 0)))) (kn (IntKind.wrap .i64 (v + 1))))))) (ke (.inr ())))
def HU (cc : ix) (v : Int) : Option ((Int) ⊕ ((Int) ⊕ (Unit))) := jx cc v (fun v => some (Sum.inl v)) fun e => some (Sum.inr e)
def Jz (cc : ix) (v : Int) : Option ((Int) ⊕ (Unit)) := dA (HU cc) v
def EO (cc : ix) (v : Int) : List ah := [.I cc.s4.1, .I cc.s4.2, .I v, .C cc.1, .N cc.2.1, .C cc.2.2.1, .N cc.2.2.2.1]
def vh (ls : List ah) : Option ((ix) × (Int)) := match ls with
 | [.I x0, .I x1, .I x2, .C x3, .N x4, .C x5, .N x6] => some ((x3, x4, x5, x6, x0, x1), x2)
 | _ => none
def vj (e : (Int) ⊕ (Unit)) : an := ((Sum.elim (fun e => .ret) (fun e => .exit 0)) e)
def vk (cc : ix) (e : (Int) ⊕ (Unit)) : List ah := ((Sum.elim (fun e => [.I e]) (fun e => [.C cc.1, .N cc.2.1, .C cc.2.2.1, .N cc.2.2.2.1])) e)
def nf (cc : ix) (e : (Int) ⊕ (Unit)) : List ah := ((Sum.elim (fun e => []) (fun e => [.C cc.1, .N cc.2.1, .C cc.2.2.1, .N cc.2.2.2.1])) e)
def oy (o : an) (ls : List ah) : Option (((Int) ⊕ (Unit)) × List ah) := match o with
 | .ret => (match ls with
  | [.I x0] => some ((.inl x0), [])
  | _ => none)
 | .exit 0 => (match ls with
  | [.C x0, .N x1, .C x2, .N x3] => some ((.inr ()), [.C x0, .N x1, .C x2, .N x3])
  | _ => none)
 | _ => none
theorem Bi : ∀ o ls e cl cc, oy o ls = some (e, cl) → cl = nf cc e → ls = vk cc e ∧ vj e = o ∧ o ≠ .normal ∧ ∀ v, o = .pan v → sc 0 v = true := by
 intro o ls e cl cc h hc
 unfold oy at h
 split at h
 ·split at h
  ·cases h
   exact ⟨rfl, rfl, by simp, by intro v hv; cases hv <;> rfl⟩
  ·cases h
 ·split at h
  ·cases h
   simp only [nf, Sum.elim_inl, Sum.elim_inr, List.cons.injEq, ah.N.injEq, ah.C.injEq, and_true] at hc
   obtain ⟨rfl, rfl, rfl, rfl⟩ := hc
   exact ⟨rfl, rfl, by simp, by intro v hv; cases hv <;> rfl⟩
  ·cases h
 ·cases h
def Gf (o : an) : ExS := match o with
 | .ret => ⟨2, (none :: none :: none :: none :: some (.aO) :: some (.int .i64) :: (rl none 73 [])), [], fun s => [0, 1], [], []⟩
 | .exit 0 => ⟨2, (some (.vec 0) :: some (.vec 1) :: (rl none 77 [])), [(0, .vec 3 false), (1, .vec 3 false)], fun s => [0, 1], [], []⟩
 | _ => ⟨0, [], [], fun _ => [], [], []⟩
theorem EP {R : Type} (cc : ix) (v : Int) (kn : (Int) → Option R) (ke : ((Int) ⊕ (Unit)) → Option R) : jx cc v kn ke = (jx cc v (fun v => some (Sum.inl v)) fun e => some (Sum.inr e)).bind (Sum.elim kn ke) := by
 simp only [jx, bK, ai, Option.bind_assoc, cb, bF, Option.bind_some, Option.bind_none, Sum.elim_inl, Sum.elim_inr]
def yr : LD where
 CC := ix
 V := Int
 E := (Int) ⊕ (Unit)
 n := 2
 K := 2
 M := (some (.vec 0) :: some (.vec 1) :: none :: none :: none :: none :: some (.int .i64) :: some (.int .i64) :: (rl none 12 (some (.agg [.ga .i64 7, .ga .i64 3, .ga .i64 2]) :: some (.int .i64) :: (rl none 57 []))))
 B := [(0, .vec 3 false), (1, .vec 3 false)]
 D := []
 pre := []
 F := fun s => [0, 1]
 toL := EO
 ofL := vh
 au := fun ls c v h => by
  unfold vh at h
  split at h
  ·cases h; rfl
  ·cases h
 ck := jx
 nat := EP
 sh := Gf
 out := vj
 toE := vk
 fp := nf
 ofE := oy
 da := Bi
 post := fun cc e k => ((Sum.elim (fun e => k (.ret) (bd 2 (none :: none :: none :: none :: some (.aO) :: some (.int .i64 e) :: (rl none 73 [])) [] [])) (fun e => k (.exit 0) (bd 2 (some (.vec 0) :: some (.vec 1) :: (rl none 77 [])) [(0, .vec cc.1 cc.2.1 3 false), (1, .vec cc.2.2.1 cc.2.2.2.1 3 false)] []))) e)
 cd := fun cc e k => by rcases e with e | e <;> rfl
theorem EQ : cF Try.prog 2 yr.la (aK Try.f56 0) :=
 LD.ok (ch := kK) (A := bt) aJ j0 mixed (fuel := 60) ⟨by kernel_rfl, fun e => by (rcases e with e | e <;> kernel_rfl), fun cc v => by kernel_rfl, aI (l := []) (by kernel_rfl) trivial⟩
def iz {R : Type} (cc : iw) (v : LA_ × Nat × Int) (kn : (LA_ × Nat × Int) → Option R) (ke : ((LA_ × Nat)) → Option R) : Option R :=
 (cond (decide (v.2.2 < cc.2.2.2.2.2.2.2.2.2)) (af (decide (0 ≤ v.2.2) && decide (v.2.2 < ((cc.2.1 : Nat) : Int))) (af (aq lC cc.1 (Int.toNat v.2.2 * 3)) (af (decide (2 * (v.2.1 + 1) * 24 ≤ 2 ^ 48)) (kn ((v.1 ++ [.int .i64 (IntKind.wrap .i64 (cc.2.2.1 - (ac cc.1 ((Int.toNat v.2.2 * 3) + 0)))), .int .i64 (IntKind.wrap .i64 (cc.2.2.2.1 - (ac cc.1 ((Int.toNat v.2.2 * 3) + 1)))), .int .i64 (IntKind.wrap .i64 (cc.2.2.2.2.1 - (ac cc.1 ((Int.toNat v.2.2 * 3) + 2))))]), (v.2.1 + 1), (IntKind.wrap .i64 (v.2.2 + 1))))))) (ke (v.1, v.2.1)))
def Gg (cc : iw) (v : LA_ × Nat × Int) : Option ((LA_ × Nat × Int) ⊕ ((LA_ × Nat))) := iz cc v (fun v => some (Sum.inl v)) fun e => some (Sum.inr e)
def HV (cc : iw) (v : LA_ × Nat × Int) : Option ((LA_ × Nat)) := dA (Gg cc) v
def DL (cc : iw) (v : LA_ × Nat × Int) : List ah := [.I cc.s4.2.2.2.1, .I cc.s8.1, .I cc.s8.2, .I v.2.2, .C cc.1, .N cc.2.1, .C v.1, .N v.2.1, .I cc.2.2.1, .I cc.2.2.2.1, .I cc.s4.1, .C cc.s4.2.1, .N cc.s4.2.2.1]
def ua (ls : List ah) : Option ((iw) × (LA_ × Nat × Int)) := match ls with
 | [.I x0, .I x1, .I x2, .I x3, .C x4, .N x5, .C x6, .N x7, .I x8, .I x9, .I x10, .C x11, .N x12] => some ((x4, x5, x8, x9, x10, x11, x12, x0, x1, x2), (x6, x7, x3))
 | _ => none
def ub (e : (LA_ × Nat)) : an := ((fun e => .exit 4) e)
def uc (cc : iw) (e : (LA_ × Nat)) : List ah := ((fun e => [.I cc.s4.2.2.2.1, .I cc.s8.1, .C cc.1, .N cc.2.1, .C e.1, .N e.2, .C cc.s4.2.1, .N cc.s4.2.2.1]) e)
def lD (cc : iw) (e : (LA_ × Nat)) : List ah := ((fun e => [.I cc.s4.2.2.2.1, .I cc.s8.1, .C cc.1, .N cc.2.1, .C cc.s4.2.1, .N cc.s4.2.2.1]) e)
def ng (o : an) (ls : List ah) : Option (((LA_ × Nat)) × List ah) := match o with
 | .exit 4 => (match ls with
  | [.I x0, .I x1, .C x2, .N x3, .C x4, .N x5, .C x6, .N x7] => some ((x4, x5), [.I x0, .I x1, .C x2, .N x3, .C x6, .N x7])
  | _ => none)
 | _ => none
theorem zy : ∀ o ls e cl cc, ng o ls = some (e, cl) → cl = lD cc e → ls = uc cc e ∧ ub e = o ∧ o ≠ .normal ∧ ∀ v, o = .pan v → sc 0 v = true := by
 intro o ls e cl cc h hc
 unfold ng at h
 split at h
 ·split at h
  ·cases h
   simp only [lD, List.cons.injEq, ah.I.injEq, ah.N.injEq, ah.C.injEq, and_true] at hc
   obtain ⟨rfl, rfl, rfl, rfl, rfl, rfl⟩ := hc
   exact ⟨rfl, rfl, by simp, by intro v hv; cases hv <;> rfl⟩
  ·cases h
 ·cases h
def ER (o : an) : ExS := match o with
 | .exit 4 => ⟨3, (none :: some (.vec 1) :: (rl none 8 (some (.vec 2) :: (rl none 29 (some (.vec 0) :: some (.int .i64) :: some (.int .i64) :: (rl none 36 [])))))), [(1, .vec 3 false), (2, .vec 3 true), (0, .vec 3 false)], fun s => [0, 1, nameAt s 10 []], [], []⟩
 | _ => ⟨0, [], [], fun _ => [], [], []⟩
theorem DM {R : Type} (cc : iw) (v : LA_ × Nat × Int) (kn : (LA_ × Nat × Int) → Option R) (ke : ((LA_ × Nat)) → Option R) : iz cc v kn ke = (iz cc v (fun v => some (Sum.inl v)) fun e => some (Sum.inr e)).bind (Sum.elim kn ke) := by
 simp only [iz, bK, ai, Option.bind_assoc, cb, bF, Option.bind_some, Option.bind_none, Sum.elim_inl, Sum.elim_inr]
def pG : LD where
 CC := iw
 V := LA_ × Nat × Int
 E := (LA_ × Nat)
 n := 2
 K := 4
 M := (none :: some (.vec 1) :: (rl none 8 (some (.vec 2) :: none :: some (.ptr 3 0) :: (rl none 27 (some (.vec 0) :: some (.int .i64) :: some (.int .i64) :: none :: none :: none :: some (.vec 1) :: some (.int .i64) :: some (.int .i64) :: (rl none 30 []))))))
 B := [(1, .vec 3 false), (2, .vec 3 true), (3, .cells [.int .i64, .int .i64, .int .i64] true none), (0, .vec 3 false)]
 D := []
 pre := []
 F := fun s => [0, 1, nameAt s 10 [], nameAt s 12 []]
 toL := DL
 ofL := ua
 au := fun ls c v h => by
  unfold ua at h
  split at h
  ·cases h; rfl
  ·cases h
 ck := iz
 nat := DM
 sh := ER
 out := ub
 toE := uc
 fp := lD
 ofE := ng
 da := zy
 post := fun cc e k => ((fun e => k (.exit 4) (bd 3 (none :: some (.vec 1) :: (rl none 8 (some (.vec 2) :: (rl none 29 (some (.vec 0) :: some (.int .i64 cc.s4.2.2.2.1) :: some (.int .i64 cc.s8.1) :: (rl none 36 [])))))) [(1, .vec cc.1 cc.2.1 3 false), (2, .vec e.1 e.2 3 true), (0, .vec cc.s4.2.1 cc.s4.2.2.1 3 false)] [])) e)
 cd := fun cc e k => by rfl
theorem ud : cF Try.prog 2 pG.la (aK Try.f56 2) :=
 LD.ok (ch := kK) (A := bt) aJ j0 mixed (fuel := 60) ⟨by kernel_rfl, fun e => by kernel_rfl, fun cc v => by kernel_rfl, aI (l := []) (by kernel_rfl) trivial⟩
def iA {R : Type} (cc : iy) (v : LA_ × Nat × Int) (kn : (LA_ × Nat × Int) → Option R) (ke : ((LA_ × Nat)) → Option R) : Option R :=
 (cond (decide (v.2.2 < cc.2.2.2.2)) (af (decide (0 ≤ v.2.2) && decide (v.2.2 < ((cc.2.2.2.1 : Nat) : Int))) (af (aq lC cc.2.2.1 (Int.toNat v.2.2 * 3)) (Option.bind (HV (cc.1, cc.2.1, (ac cc.2.2.1 ((Int.toNat v.2.2 * 3) + 0)), (ac cc.2.2.1 ((Int.toNat v.2.2 * 3) + 1)), (ac cc.2.2.1 ((Int.toNat v.2.2 * 3) + 2)), cc.2.2.1, cc.2.2.2.1, cc.2.2.2.2, v.2.2, ((cc.2.1 : Nat) : Int)) (v.1, v.2.1, 0)) fun e5 => (kn (e5.1, e5.2, (IntKind.wrap .i64 (v.2.2 + 1))))))) (ke (v.1, v.2.1)))
def Gh (cc : iy) (v : LA_ × Nat × Int) : Option ((LA_ × Nat × Int) ⊕ ((LA_ × Nat))) := iA cc v (fun v => some (Sum.inl v)) fun e => some (Sum.inr e)
def HW (cc : iy) (v : LA_ × Nat × Int) : Option ((LA_ × Nat)) := dA (Gh cc) v
def DN (cc : iy) (v : LA_ × Nat × Int) : List ah := [.I cc.s4, .I v.2.2, .C cc.1, .N cc.2.1, .C v.1, .N v.2.1, .C cc.2.2.1, .N cc.2.2.2.1]
def ue (ls : List ah) : Option ((iy) × (LA_ × Nat × Int)) := match ls with
 | [.I x0, .I x1, .C x2, .N x3, .C x4, .N x5, .C x6, .N x7] => some ((x2, x3, x6, x7, x0), (x4, x5, x1))
 | _ => none
def uf (e : (LA_ × Nat)) : an := ((fun e => .exit 2) e)
def ug (cc : iy) (e : (LA_ × Nat)) : List ah := ((fun e => [.C e.1, .N e.2]) e)
def sK (cc : iy) (e : (LA_ × Nat)) : List ah := ((fun e => []) e)
def nh (o : an) (ls : List ah) : Option (((LA_ × Nat)) × List ah) := match o with
 | .exit 2 => (match ls with
  | [.C x0, .N x1] => some ((x0, x1), [])
  | _ => none)
 | _ => none
theorem zA : ∀ o ls e cl cc, nh o ls = some (e, cl) → cl = sK cc e → ls = ug cc e ∧ uf e = o ∧ o ≠ .normal ∧ ∀ v, o = .pan v → sc 0 v = true := by
 intro o ls e cl cc h hc
 unfold nh at h
 split at h
 ·split at h
  ·cases h
   exact ⟨rfl, rfl, by simp, by intro v hv; cases hv <;> rfl⟩
  ·cases h
 ·cases h
def ES (o : an) : ExS := match o with
 | .exit 2 => ⟨3, (rl none 10 (some (.vec 2) :: (rl none 68 []))), [(2, .vec 3 true)], fun s => [0, 1, nameAt s 10 []], [], []⟩
 | _ => ⟨0, [], [], fun _ => [], [], []⟩
theorem DO {R : Type} (cc : iy) (v : LA_ × Nat × Int) (kn : (LA_ × Nat × Int) → Option R) (ke : ((LA_ × Nat)) → Option R) : iA cc v kn ke = (iA cc v (fun v => some (Sum.inl v)) fun e => some (Sum.inr e)).bind (Sum.elim kn ke) := by
 simp only [iA, bK, ai, Option.bind_assoc, cb, bF, Option.bind_some, Option.bind_none, Sum.elim_inl, Sum.elim_inr]
def wK : LD where
 CC := iy
 V := LA_ × Nat × Int
 E := (LA_ × Nat)
 n := 2
 K := 3
 M := (none :: some (.vec 1) :: (rl none 8 (some (.vec 2) :: (rl none 29 (some (.vec 0) :: some (.int .i64) :: some (.int .i64) :: (rl none 36 []))))))
 B := [(1, .vec 3 false), (2, .vec 3 true), (0, .vec 3 false)]
 D := []
 pre := [(10, 3)]
 F := fun s => [0, 1, nameAt s 10 []]
 toL := DN
 ofL := ue
 au := fun ls c v h => by
  unfold ue at h
  split at h
  ·cases h; rfl
  ·cases h
 ck := iA
 nat := DO
 sh := ES
 out := uf
 toE := ug
 fp := sK
 ofE := nh
 da := zA
 post := fun cc e k => ((fun e => k (.exit 2) (bd 3 (rl none 10 (some (.vec 2) :: (rl none 68 []))) [(2, .vec e.1 e.2 3 true)] [])) e)
 cd := fun cc e k => by rfl
theorem DP : cF Try.prog 2 wK.la (aK Try.f56 1) :=
 LD.ok (ch := kK) (A := eF [(15, pG.la)]) aJ j0 mixed (fuel := 60) ⟨by kernel_rfl, fun e => by kernel_rfl, fun cc v => by kernel_rfl, aI (l := [aK Try.f56 2]) (by kernel_rfl) ⟨bX (by kernel_rfl) ud, trivial⟩⟩
def zv (cs0 : LA_) (n1 : Nat) (cs2 : LA_) (n3 : Nat) : Option (Int × LA_ × Nat) :=
 (Option.bind (iv cs0 n1) fun r1 => (Option.bind (iv cs2 n3) fun r2 => (Option.bind (Jz (cs0, n1, cs2, n3, r1, r2) 0) (Sum.elim (fun e3 => (some (e3, ([] : LA_), 0))) (fun e3 => (cond (decide ((IntKind.wrap .i64 (((n1 : Nat) : Int) * ((n3 : Nat) : Int))) > 256)) (some (3, ([] : LA_), 0)) (Option.bind (HW (cs2, n3, cs0, n1, ((n1 : Nat) : Int)) (([] : LA_), 0, 0)) fun e4 => (Option.bind (iv e4.1 e4.2) fun r5 => (cond (r5 != 0) (some (r5, ([] : LA_), 0)) (some (0, e4.1, e4.2)))))))))))
def pH : FD where
 X := Int × LA_ × Nat
 k := 2
 pre := [(4, 3)]
 F := fun s => [0, 1, nameAt s 0 [.c 0]]
 M := .tup [.vec 2, .int .i64]
 B := [.vec 3 true]
 toL := fun x => [.I x.1, .C x.2.1, .N x.2.2]
 ofL := fun ls => match ls with
  | [.I x0, .C x1, .N x2] => some (x0, x1, x2)
  | _ => none
 au := fun ls x h => by
  split at h
  ·cases h; rfl
  ·cases h
theorem HX (cs0 : LA_) (n1 : Nat) (cs2 : LA_) (n3 : Nat) (x : Int × LA_ × Nat) (h : zv cs0 n1 cs2 n3 = some x) : bc Try.prog 56 2 [.vec 0, .vec 1] [.vec cs0 n1 3 false, .vec cs2 n3 3 false] pH x :=
 FD.sem (ch := kK) (A := eF [(3, yr.la), (15, pG.la), (12, wK.la)]) (fn := Try.f56) (c := bq Try.f56) (fuel := 60) aJ j0 mixed bG pH Try.func56 (by kernel_rfl) (aI (l := [aK Try.f56 0, aK Try.f56 1, aK Try.f56 2]) (by kernel_rfl) ⟨bX (by kernel_rfl) EQ, bX (by kernel_rfl) DP, bX (by kernel_rfl) ud, trivial⟩)
  (by kernel_rfl) (Eq.trans (by kernel_rfl) h)
def zu : HK where
 call := fun args σ k => match args with
  | [x0, x1] => cM σ 3 x0 fun cs0 n1 => cM σ 3 x1 fun cs2 n3 => Option.bind (zv cs0 n1 cs2 n3) fun y => aA σ 2 (pH.val y) (pH.aL y) k
  | _ => none
 nat := fun args σ k => by
  repeat' split
  all_goals simp only [aw, ai, Option.bind_assoc, Option.bind_none, aA, Option.bind_some]
 pure := false
 pok := fun h => by cases h
theorem Jx : aW Try.prog 56 zu := by
 intro args σ r σ' h
 simp only [zu] at h
 split at h
 ·rename_i x0 x1
  obtain ⟨cs0, n1, he0, hf0, h⟩ := bA h
  obtain ⟨cs2, n3, he1, hf1, h⟩ := bA h
  obtain ⟨y, hy, h⟩ := bE_ h
  exact lifted (xs := [x0, x1]) (ls := [.vec cs0 n1 3 false, .vec cs2 n3 3 false]) (cargs := [.vec 0, .vec 1]) (bv.of ⟨⟨rfl, he0, hf0, by decide⟩, ⟨rfl, he1, hf1, by decide⟩, trivial⟩) rfl (HX cs0 n1 cs2 n3 y hy) rfl rfl rfl rfl h
 ·cases h
abbrev zt := (I8 (I8 (I8 (I8 (Int × LA_ × Nat)))))
abbrev uB := Int × Int × Int × Int × Int × LA_ × Nat
def HO : CH := (CH.add 56 zu (CH.add 6 pD CH.none))
theorem DJ : aE Try.prog HO := (CH.aj Jx (CH.aj tA CH.aB))
def xu (cs0 : LA_) (n1 : Nat) (cs2 : LA_) (n3 : Nat) : Option (zt) :=
 (Option.bind (zv cs0 n1 cs2 n3) fun r1 => (cond (r1.1 != 0) (some (0, 0, 0, 0, 0, 0, 0, 0, 0, 0, 0, 0, 0, 0, 0, 0, 0, 0, 0, 0, 0, 0, 0, 0, 0, 0, 0, 0, 0, 0, 0, 0, r1.1, ([] : LA_), 0)) (Option.bind (cD r1.2.1 r1.2.2) fun r2 => (some (aX r2.1 (aX r2.2.1 (aX r2.2.2.1 (aX r2.2.2.2.1 (r2.2.2.2.2.1, r2.2.2.2.2.2.1, r2.2.2.2.2.2.2)))))))))
def eW : FD where
 X := zt
 k := 2
 pre := [(33000004, 1)]
 F := fun s => [0, 1, nameAt s 0 [.c 0, .c 32]]
 M := .tup [.agg (rl (.int .u64) 32 [.vec 2]), .int .i64]
 B := [.vec 1 true]
 toL := fun x => [.I x.1, .I x.2.1, .I x.2.2.1, .I x.2.2.2.1, .I x.s4.1, .I x.s4.2.1, .I x.s4.2.2.1, .I x.s4.2.2.2.1, .I x.s8.1, .I x.s8.2.1, .I x.s8.2.2.1, .I x.s8.2.2.2.1, .I x.s8.s4.1, .I x.s8.s4.2.1, .I x.s8.s4.2.2.1, .I x.s8.s4.2.2.2.1, .I x.s16.1, .I x.s16.2.1, .I x.s16.2.2.1, .I x.s16.2.2.2.1, .I x.s16.s4.1, .I x.s16.s4.2.1, .I x.s16.s4.2.2.1, .I x.s16.s4.2.2.2.1, .I x.s16.s8.1, .I x.s16.s8.2.1, .I x.s16.s8.2.2.1, .I x.s16.s8.2.2.2.1, .I x.s16.s8.s4.1, .I x.s16.s8.s4.2.1, .I x.s16.s8.s4.2.2.1, .I x.s16.s8.s4.2.2.2.1, .I x.s16.s16.1, .C x.s16.s16.2.1, .N x.s16.s16.2.2]
 ofL := fun ls => match ls with
  | (.I x0 :: .I x1 :: .I x2 :: .I x3 :: .I x4 :: .I x5 :: .I x6 :: .I x7 :: .I x8 :: .I x9 :: .I x10 :: .I x11 :: .I x12 :: .I x13 :: .I x14 :: .I x15 :: .I x16 :: .I x17 :: .I x18 :: .I x19 :: .I x20 :: .I x21 :: .I x22 :: .I x23 :: .I x24 :: .I x25 :: .I x26 :: .I x27 :: .I x28 :: .I x29 :: .I x30 :: .I x31 :: .I x32 :: .C x33 :: .N x34 :: []) => some (x0, x1, x2, x3, x4, x5, x6, x7, x8, x9, x10, x11, x12, x13, x14, x15, x16, x17, x18, x19, x20, x21, x22, x23, x24, x25, x26, x27, x28, x29, x30, x31, x32, x33, x34)
  | _ => none
 au := fun ls x h => by
  split at h
  ·cases h; rfl
  ·cases h
theorem F9 (cs0 : LA_) (n1 : Nat) (cs2 : LA_) (n3 : Nat) (x : zt) (h : xu cs0 n1 cs2 n3 = some x) : bc Try.prog 32 2 [.vec 0, .vec 1] [.vec cs0 n1 3 false, .vec cs2 n3 3 false] eW x :=
 FD.semA eW DJ Try.func32 (fuel := 60) (by kernel_rfl) (by kernel_rfl)
  (by kernel_rfl) (Eq.trans (by kernel_rfl) h)
def nF (cs0 : LA_) (n1 : Nat) (cs2 : LA_) (n3 : Nat) : Option (uB) := Option.bind (xu cs0 n1 cs2 n3) fun (x0, x1, x2, x3, x4, x5, x6, x7, x8, x9, x10, x11, x12, x13, x14, x15, x16, x17, x18, x19, x20, x21, x22, x23, x24, x25, x26, x27, x28, x29, x30, x31, x32, x33, x34) => af (ok8 x0 x1 x2 x3 x4 x5 x6 x7 && ok8 x8 x9 x10 x11 x12 x13 x14 x15 && ok8 x16 x17 x18 x19 x20 x21 x22 x23 && ok8 x24 x25 x26 x27 x28 x29 x30 x31) (some ((num x0 x1 x2 x3 x4 x5 x6 x7), (num x8 x9 x10 x11 x12 x13 x14 x15), (num x16 x17 x18 x19 x20 x21 x22 x23), (num x24 x25 x26 x27 x28 x29 x30 x31), x32, x33, x34))
def tB : FD := ⟨uB, eW.k, eW.pre, eW.F, eW.M, eW.B, fun y => eW.toL (aX y.1 (aX y.2.1 (aX y.2.2.1 (aX y.2.2.2.1 (y.s4.1, y.s4.2.1, y.s4.2.2))))), fun _ => none, fun _ _ h => by cases h⟩
theorem HP (cs0 : LA_) (n1 : Nat) (cs2 : LA_) (n3 : Nat) {y : uB} (h : nF cs0 n1 cs2 n3 = some y) : xu cs0 n1 cs2 n3 = some (aX y.1 (aX y.2.1 (aX y.2.2.1 (aX y.2.2.2.1 (y.s4.1, y.s4.2.1, y.s4.2.2))))) := by
 unfold nF at h
 obtain ⟨⟨x0, x1, x2, x3, x4, x5, x6, x7, x8, x9, x10, x11, x12, x13, x14, x15, x16, x17, x18, x19, x20, x21, x22, x23, x24, x25, x26, x27, x28, x29, x30, x31, x32, x33, x34⟩, h1, h2⟩ := bE_ h
 obtain ⟨h3, h4⟩ := aH h2
 simp only [Bool.and_eq_true, and_assoc] at h3
 simp only [Option.some.injEq] at h4
 subst h4
 obtain ⟨o0, o1, o2, o3⟩ := h3
 have q0 := aQ o0
 have q1 := aQ o1
 have q2 := aQ o2
 have q3 := aQ o3
 rw [h1]
 simp only [aX, q0, q1, q2, q3]
theorem Ga (cs0 : LA_) (n1 : Nat) (cs2 : LA_) (n3 : Nat) (y : uB) (h : nF cs0 n1 cs2 n3 = some y) : bc Try.prog 32 2 [.vec 0, .vec 1] [.vec cs0 n1 3 false, .vec cs2 n3 3 false] tB y := F9 cs0 n1 cs2 n3 _ (HP cs0 n1 cs2 n3 h)
def xw : HK where
 call := fun args σ k => match args with
  | [x0, x1] => cM σ 3 x0 fun cs0 n1 => cM σ 3 x1 fun cs2 n3 => Option.bind (nF cs0 n1 cs2 n3) fun y => aA σ 2 (tB.val y) (tB.aL y) k
  | _ => none
 nat := fun args σ k => by
  repeat' split
  all_goals simp only [aw, ai, Option.bind_assoc, Option.bind_none, aA, Option.bind_some]
 pure := false
 pok := fun h => by cases h
theorem HQ : aW Try.prog 32 xw := by
 intro args σ r σ' h
 simp only [xw] at h
 split at h
 ·rename_i x0 x1
  obtain ⟨cs0, n1, he0, hf0, h⟩ := bA h
  obtain ⟨cs2, n3, he1, hf1, h⟩ := bA h
  obtain ⟨y, hy, h⟩ := bE_ h
  exact lifted (xs := [x0, x1]) (ls := [.vec cs0 n1 3 false, .vec cs2 n3 3 false]) (cargs := [.vec 0, .vec 1]) (bv.of ⟨⟨rfl, he0, hf0, by decide⟩, ⟨rfl, he1, hf1, by decide⟩, trivial⟩) rfl (Ga cs0 n1 cs2 n3 y hy) rfl rfl rfl rfl h
 ·cases h
def HY : CH := (CH.add 32 xw CH.none)
theorem DQ : aE Try.prog HY := (CH.aj HQ CH.aB)
def nH (cs0 : LA_) (n1 : Nat) (cs2 : LA_) (n3 : Nat) : Option (Bool × Int) :=
 (Option.bind (nF cs0 n1 cs2 n3) fun r1 => (cond (r1.2.2.2.2.1 == 0) (cond ((aa r1.1 0) == 0 && ((aa r1.1 1) == 0 && ((aa r1.1 2) == 0 && ((aa r1.1 3) == 0 && ((aa r1.1 4) == 0 && ((aa r1.1 5) == 0 && ((aa r1.1 6) == 0 && ((aa r1.1 7) == 0 && ((aa r1.2.1 0) == 0 && ((aa r1.2.1 1) == 0 && ((aa r1.2.1 2) == 0 && ((aa r1.2.1 3) == 0 && ((aa r1.2.1 4) == 0 && ((aa r1.2.1 5) == 0 && ((aa r1.2.1 6) == 0 && ((aa r1.2.1 7) == 0 && ((aa r1.2.2.1 0) == 0 && ((aa r1.2.2.1 1) == 0 && ((aa r1.2.2.1 2) == 0 && ((aa r1.2.2.1 3) == 0 && ((aa r1.2.2.1 4) == 0 && ((aa r1.2.2.1 5) == 0 && ((aa r1.2.2.1 6) == 0 && ((aa r1.2.2.1 7) == 0 && true)))))))))))))))))))))))) (some (true, r1.2.2.2.2.1)) (some (false, r1.2.2.2.2.1))) (some (false, r1.2.2.2.2.1))))
def nW : FD where
 X := Bool × Int
 k := 2
 pre := []
 F := fun s => [0, 1]
 M := .tup [.bool, .int .i64]
 B := []
 toL := fun x => [.B x.1, .I x.2]
 ofL := fun ls => match ls with
  | [.B x0, .I x1] => some (x0, x1)
  | _ => none
 au := fun ls x h => by
  split at h
  ·cases h; rfl
  ·cases h
theorem Gi (cs0 : LA_) (n1 : Nat) (cs2 : LA_) (n3 : Nat) (x : Bool × Int) (h : nH cs0 n1 cs2 n3 = some x) : bc Try.prog 17 2 [.vec 0, .vec 1] [.vec cs0 n1 3 false, .vec cs2 n3 3 false] nW x :=
 FD.semA nW DQ Try.func17 (fuel := 60) (by kernel_rfl) (by kernel_rfl)
  (by kernel_rfl) (Eq.trans (by kernel_rfl) h)
def xy : HK where
 call := fun args σ k => match args with
  | [x0, x1] => cM σ 3 x0 fun cs0 n1 => cM σ 3 x1 fun cs2 n3 => Option.bind (nH cs0 n1 cs2 n3) fun y => aA σ 2 (nW.val y) (nW.aL y) k
  | _ => none
 nat := fun args σ k => by
  repeat' split
  all_goals simp only [aw, ai, Option.bind_assoc, Option.bind_none, aA, Option.bind_some]
 pure := false
 pok := fun h => by cases h
theorem HZ : aW Try.prog 17 xy := by
 intro args σ r σ' h
 simp only [xy] at h
 split at h
 ·rename_i x0 x1
  obtain ⟨cs0, n1, he0, hf0, h⟩ := bA h
  obtain ⟨cs2, n3, he1, hf1, h⟩ := bA h
  obtain ⟨y, hy, h⟩ := bE_ h
  exact lifted (xs := [x0, x1]) (ls := [.vec cs0 n1 3 false, .vec cs2 n3 3 false]) (cargs := [.vec 0, .vec 1]) (bv.of ⟨⟨rfl, he0, hf0, by decide⟩, ⟨rfl, he1, hf1, by decide⟩, trivial⟩) rfl (Gi cs0 n1 cs2 n3 y hy) rfl rfl rfl rfl h
 ·cases h
def jA : CH := CH.none
theorem lH : aE Try.prog jA := CH.aB
def dT {R : Type} (cc : Int × Int) (v : LA_ × Nat × Int) (kn : (LA_ × Nat × Int) → Option R) (ke : ((LA_ × Nat)) → Option R) : Option R :=
 (cond (decide (v.2.2 < 8)) (af (decide (2 * (v.2.1 + 1) * 24 ≤ 2 ^ 48)) (kn ((v.1 ++ [.int .i64 (IntKind.wrap .i64 (cc.1 + (IntKind.wrap .i64 ((Int.tmod v.2.2 2) * cc.2)))), .int .i64 (IntKind.wrap .i64 (cc.1 + (IntKind.wrap .i64 ((Int.tmod (IntKind.wrap .i64 (Int.tdiv v.2.2 2)) 2) * cc.2)))), .int .i64 (IntKind.wrap .i64 (cc.1 + (IntKind.wrap .i64 ((IntKind.wrap .i64 (Int.tdiv v.2.2 4)) * cc.2))))]), (v.2.1 + 1), (IntKind.wrap .i64 (v.2.2 + 1))))) (ke (v.1, v.2.1)))
def xF (cc : Int × Int) (v : LA_ × Nat × Int) : Option ((LA_ × Nat × Int) ⊕ ((LA_ × Nat))) := dT cc v (fun v => some (Sum.inl v)) fun e => some (Sum.inr e)
def yB (cc : Int × Int) (v : LA_ × Nat × Int) : Option ((LA_ × Nat)) := dA (xF cc) v
def vF (cc : Int × Int) (v : LA_ × Nat × Int) : List ah := [.I cc.1, .I cc.2, .I v.2.2, .C v.1, .N v.2.1]
def lI (ls : List ah) : Option ((Int × Int) × (LA_ × Nat × Int)) := match ls with
 | [.I x0, .I x1, .I x2, .C x3, .N x4] => some ((x0, x1), (x3, x4, x2))
 | _ => none
def lJ (e : (LA_ × Nat)) : an := ((fun e => .exit 0) e)
def lK (cc : Int × Int) (e : (LA_ × Nat)) : List ah := ((fun e => [.C e.1, .N e.2]) e)
def lu (cc : Int × Int) (e : (LA_ × Nat)) : List ah := ((fun e => []) e)
def gO (o : an) (ls : List ah) : Option (((LA_ × Nat)) × List ah) := match o with
 | .exit 0 => (match ls with
  | [.C x0, .N x1] => some ((x0, x1), [])
  | _ => none)
 | _ => none
theorem sM : ∀ o ls e cl cc, gO o ls = some (e, cl) → cl = lu cc e → ls = lK cc e ∧ lJ e = o ∧ o ≠ .normal ∧ ∀ v, o = .pan v → sc 0 v = true := by
 intro o ls e cl cc h hc
 unfold gO at h
 split at h
 ·split at h
  ·cases h
   exact ⟨rfl, rfl, by simp, by intro v hv; cases hv <;> rfl⟩
  ·cases h
 ·cases h
def wt (o : an) : ExS := match o with
 | .exit 0 => ⟨1, (rl none 5 (some (.vec 0) :: (rl none 33 []))), [(0, .vec 3 true)], fun s => [nameAt s 5 []], [], []⟩
 | _ => ⟨0, [], [], fun _ => [], [], []⟩
theorem vG {R : Type} (cc : Int × Int) (v : LA_ × Nat × Int) (kn : (LA_ × Nat × Int) → Option R) (ke : ((LA_ × Nat)) → Option R) : dT cc v kn ke = (dT cc v (fun v => some (Sum.inl v)) fun e => some (Sum.inr e)).bind (Sum.elim kn ke) := by
 simp only [dT, bK, ai, Option.bind_assoc, cb, bF, Option.bind_some, Option.bind_none, Sum.elim_inl, Sum.elim_inr]
def nI : LD where
 CC := Int × Int
 V := LA_ × Nat × Int
 E := (LA_ × Nat)
 n := 0
 K := 1
 M := (some (.int .i64) :: none :: none :: none :: none :: some (.vec 0) :: some (.int .i64) :: some (.int .i64) :: (rl none 31 []))
 B := [(0, .vec 3 true)]
 D := []
 pre := [(5, 3)]
 F := fun s => [nameAt s 5 []]
 toL := vF
 ofL := lI
 au := fun ls c v h => by
  unfold lI at h
  split at h
  ·cases h; rfl
  ·cases h
 ck := dT
 nat := vG
 sh := wt
 out := lJ
 toE := lK
 fp := lu
 ofE := gO
 da := sM
 post := fun cc e k => ((fun e => k (.exit 0) (bd 1 (rl none 5 (some (.vec 0) :: (rl none 33 []))) [(0, .vec e.1 e.2 3 true)] [])) e)
 cd := fun cc e k => by rfl
theorem vH : cF Try.prog 0 nI.la (aK Try.f18 0) :=
 LD.ok (ch := jA) (A := bt) aJ lH mixed (fuel := 60) ⟨by kernel_rfl, fun e => by kernel_rfl, fun cc v => by kernel_rfl, aI (l := []) (by kernel_rfl) trivial⟩
def fO (a0 a1 : Int) : Option (LA_ × Nat) :=
 (Option.bind (yB (a0, (IntKind.wrap .i64 (a1 - a0))) (([] : LA_), 0, 0)) fun e1 => (some (e1.1, e1.2)))
def gw : FD where
 X := LA_ × Nat
 k := 0
 pre := [(4, 3)]
 F := fun s => [nameAt s 0 []]
 M := .vec 0
 B := [.vec 3 true]
 toL := fun x => [.C x.1, .N x.2]
 ofL := fun ls => match ls with
  | [.C x0, .N x1] => some (x0, x1)
  | _ => none
 au := fun ls x h => by
  split at h
  ·cases h; rfl
  ·cases h
theorem xG (a0 a1 : Int) (x : LA_ × Nat) (h : fO a0 a1 = some x) : bc Try.prog 18 0 [.int .i64 a0, .int .i64 a1] [] gw x :=
 FD.sem (ch := jA) (A := eF [(4, nI.la)]) (fn := Try.f18) (c := bq Try.f18) (fuel := 60) aJ lH mixed bG gw Try.func18 (by kernel_rfl) (aI (l := [aK Try.f18 0]) (by kernel_rfl) ⟨bX (by kernel_rfl) vH, trivial⟩)
  (by kernel_rfl) (Eq.trans (by kernel_rfl) h)
def lG : HK where
 call := fun args σ k => match args with
  | [.int .i64 a0, .int .i64 a1] => Option.bind (fO a0 a1) fun y => aA σ 0 (gw.val y) (gw.aL y) k
  | _ => none
 nat := fun args σ k => by
  repeat' split
  all_goals simp only [aw, ai, Option.bind_assoc, Option.bind_none, aA, Option.bind_some]
 pure := false
 pok := fun h => by cases h
theorem yA : aW Try.prog 18 lG := by
 intro args σ r σ' h
 simp only [lG] at h
 split at h
 ·rename_i a0 a1
  obtain ⟨y, hy, h⟩ := bE_ h
  exact lifted (xs := []) (ls := []) (cargs := [.int .i64 a0, .int .i64 a1]) (bv.of trivial) rfl (xG a0 a1 y hy) rfl rfl rfl rfl h
 ·cases h
def wo : CH := (CH.add 18 lG (CH.add 17 xy (CH.add 6 pD (CH.add 19 Ic CH.none))))
theorem tH : aE Try.prog wo := (CH.aj yA (CH.aj HZ (CH.aj tA (CH.aj Dc CH.aB))))
def j9 : Option (Bool) :=
 (Option.bind (cD ([.int .i64 2, .int .i64 (-9), .int .i64 0, .int .i64 2, .int .i64 9, .int .i64 0, .int .i64 5, .int .i64 0, .int .i64 0, .int .i64 9, .int .i64 1, .int .i64 1] : LA_) 4) fun r1 => (Option.bind (fO 0 2) fun r2 => (Option.bind (nH r2.1 r2.2 ([.int .i64 1, .int .i64 1, .int .i64 1] : LA_) 1) fun r3 => (cond r3.1 (Option.bind (fO 0 2) fun r4 => (Option.bind (nH r4.1 r4.2 ([.int .i64 3, .int .i64 3, .int .i64 3] : LA_) 1) fun r5 => (cond r5.1 (Option.bind (cD ([] : LA_) 0) fun r6 => (cond (r1.2.2.2.2.1 == 0) (Option.bind (cOf 2) fun r7 => (cond ((aa r1.1 0) == (aa r7 0) && ((aa r1.1 1) == (aa r7 1) && ((aa r1.1 2) == (aa r7 2) && ((aa r1.1 3) == (aa r7 3) && ((aa r1.1 4) == (aa r7 4) && ((aa r1.1 5) == (aa r7 5) && ((aa r1.1 6) == (aa r7 6) && ((aa r1.1 7) == (aa r7 7) && ((aa r1.2.1 0) == 0 && ((aa r1.2.1 1) == 0 && ((aa r1.2.1 2) == 0 && ((aa r1.2.1 3) == 0 && ((aa r1.2.1 4) == 0 && ((aa r1.2.1 5) == 0 && ((aa r1.2.1 6) == 0 && ((aa r1.2.1 7) == 0 && ((aa r1.2.2.1 0) == 0 && ((aa r1.2.2.1 1) == 0 && ((aa r1.2.2.1 2) == 0 && ((aa r1.2.2.1 3) == 0 && ((aa r1.2.2.1 4) == 0 && ((aa r1.2.2.1 5) == 0 && ((aa r1.2.2.1 6) == 0 && ((aa r1.2.2.1 7) == 0 && true)))))))))))))))))))))))) (Option.bind (cOf 1) fun r8 => (cond ((aa r1.2.2.2.1 0) == (aa r8 0) && ((aa r1.2.2.2.1 1) == (aa r8 1) && ((aa r1.2.2.2.1 2) == (aa r8 2) && ((aa r1.2.2.2.1 3) == (aa r8 3) && ((aa r1.2.2.2.1 4) == (aa r8 4) && ((aa r1.2.2.2.1 5) == (aa r8 5) && ((aa r1.2.2.2.1 6) == (aa r8 6) && ((aa r1.2.2.2.1 7) == (aa r8 7) && true)))))))) (cond (r3.2 == 0) (some false) (some false)) (some false))) (some false))) (some false))) (Option.bind (cD ([] : LA_) 0) fun r9 => (cond (r1.2.2.2.2.1 == 0) (Option.bind (cOf 2) fun r10 => (cond ((aa r1.1 0) == (aa r10 0) && ((aa r1.1 1) == (aa r10 1) && ((aa r1.1 2) == (aa r10 2) && ((aa r1.1 3) == (aa r10 3) && ((aa r1.1 4) == (aa r10 4) && ((aa r1.1 5) == (aa r10 5) && ((aa r1.1 6) == (aa r10 6) && ((aa r1.1 7) == (aa r10 7) && ((aa r1.2.1 0) == 0 && ((aa r1.2.1 1) == 0 && ((aa r1.2.1 2) == 0 && ((aa r1.2.1 3) == 0 && ((aa r1.2.1 4) == 0 && ((aa r1.2.1 5) == 0 && ((aa r1.2.1 6) == 0 && ((aa r1.2.1 7) == 0 && ((aa r1.2.2.1 0) == 0 && ((aa r1.2.2.1 1) == 0 && ((aa r1.2.2.1 2) == 0 && ((aa r1.2.2.1 3) == 0 && ((aa r1.2.2.1 4) == 0 && ((aa r1.2.2.1 5) == 0 && ((aa r1.2.2.1 6) == 0 && ((aa r1.2.2.1 7) == 0 && true)))))))))))))))))))))))) (Option.bind (cOf 1) fun r11 => (cond ((aa r1.2.2.2.1 0) == (aa r11 0) && ((aa r1.2.2.2.1 1) == (aa r11 1) && ((aa r1.2.2.2.1 2) == (aa r11 2) && ((aa r1.2.2.2.1 3) == (aa r11 3) && ((aa r1.2.2.2.1 4) == (aa r11 4) && ((aa r1.2.2.2.1 5) == (aa r11 5) && ((aa r1.2.2.2.1 6) == (aa r11 6) && ((aa r1.2.2.2.1 7) == (aa r11 7) && true)))))))) (cond (r3.2 == 0) (cond (r5.2 == 0) (cond (r9.2.2.2.2.1 == 2) (some true) (some false)) (some false)) (some false)) (some false))) (some false))) (some false)))))) (Option.bind (fO 0 2) fun r12 => (Option.bind (nH r12.1 r12.2 ([.int .i64 3, .int .i64 3, .int .i64 3] : LA_) 1) fun r13 => (cond r13.1 (Option.bind (cD ([] : LA_) 0) fun r14 => (cond (r1.2.2.2.2.1 == 0) (Option.bind (cOf 2) fun r15 => (cond ((aa r1.1 0) == (aa r15 0) && ((aa r1.1 1) == (aa r15 1) && ((aa r1.1 2) == (aa r15 2) && ((aa r1.1 3) == (aa r15 3) && ((aa r1.1 4) == (aa r15 4) && ((aa r1.1 5) == (aa r15 5) && ((aa r1.1 6) == (aa r15 6) && ((aa r1.1 7) == (aa r15 7) && ((aa r1.2.1 0) == 0 && ((aa r1.2.1 1) == 0 && ((aa r1.2.1 2) == 0 && ((aa r1.2.1 3) == 0 && ((aa r1.2.1 4) == 0 && ((aa r1.2.1 5) == 0 && ((aa r1.2.1 6) == 0 && ((aa r1.2.1 7) == 0 && ((aa r1.2.2.1 0) == 0 && ((aa r1.2.2.1 1) == 0 && ((aa r1.2.2.1 2) == 0 && ((aa r1.2.2.1 3) == 0 && ((aa r1.2.2.1 4) == 0 && ((aa r1.2.2.1 5) == 0 && ((aa r1.2.2.1 6) == 0 && ((aa r1.2.2.1 7) == 0 && true)))))))))))))))))))))))) (Option.bind (cOf 1) fun r16 => (cond ((aa r1.2.2.2.1 0) == (aa r16 0) && ((aa r1.2.2.2.1 1) == (aa r16 1) && ((aa r1.2.2.2.1 2) == (aa r16 2) && ((aa r1.2.2.2.1 3) == (aa r16 3) && ((aa r1.2.2.2.1 4) == (aa r16 4) && ((aa r1.2.2.2.1 5) == (aa r16 5) && ((aa r1.2.2.2.1 6) == (aa r16 6) && ((aa r1.2.2.2.1 7) == (aa r16 7) && true)))))))) (some false) (some false))) (some false))) (some false))) (Option.bind (cD ([] : LA_) 0) fun r17 => (cond (r1.2.2.2.2.1 == 0) (Option.bind (cOf 2) fun r18 => (cond ((aa r1.1 0) == (aa r18 0) && ((aa r1.1 1) == (aa r18 1) && ((aa r1.1 2) == (aa r18 2) && ((aa r1.1 3) == (aa r18 3) && ((aa r1.1 4) == (aa r18 4) && ((aa r1.1 5) == (aa r18 5) && ((aa r1.1 6) == (aa r18 6) && ((aa r1.1 7) == (aa r18 7) && ((aa r1.2.1 0) == 0 && ((aa r1.2.1 1) == 0 && ((aa r1.2.1 2) == 0 && ((aa r1.2.1 3) == 0 && ((aa r1.2.1 4) == 0 && ((aa r1.2.1 5) == 0 && ((aa r1.2.1 6) == 0 && ((aa r1.2.1 7) == 0 && ((aa r1.2.2.1 0) == 0 && ((aa r1.2.2.1 1) == 0 && ((aa r1.2.2.1 2) == 0 && ((aa r1.2.2.1 3) == 0 && ((aa r1.2.2.1 4) == 0 && ((aa r1.2.2.1 5) == 0 && ((aa r1.2.2.1 6) == 0 && ((aa r1.2.2.1 7) == 0 && true)))))))))))))))))))))))) (Option.bind (cOf 1) fun r19 => (cond ((aa r1.2.2.2.1 0) == (aa r19 0) && ((aa r1.2.2.2.1 1) == (aa r19 1) && ((aa r1.2.2.2.1 2) == (aa r19 2) && ((aa r1.2.2.2.1 3) == (aa r19 3) && ((aa r1.2.2.2.1 4) == (aa r19 4) && ((aa r1.2.2.2.1 5) == (aa r19 5) && ((aa r1.2.2.2.1 6) == (aa r19 6) && ((aa r1.2.2.2.1 7) == (aa r19 7) && true)))))))) (some false) (some false))) (some false))) (some false))))))))))
def fH : FD where
 X := Bool
 k := 0
 pre := []
 F := fun s => []
 M := .bool
 B := []
 toL := fun x => [.B x]
 ofL := fun ls => match ls with
  | [.B x0] => some x0
  | _ => none
 au := fun ls x h => by
  split at h
  ·cases h; rfl
  ·cases h
theorem vE (x : Bool) (h : j9 = some x) : bc Try.prog 7 0 [] [] fH x :=
 FD.semA fH tH Try.func7 (fuel := 60) (by kernel_rfl) (by kernel_rfl)
  (by kernel_rfl) (Eq.trans (by kernel_rfl) h)
def kc : HK where
 call := fun args σ k => match args with
  | [] => Option.bind (j9) fun y => aA σ 0 (fH.val y) (fH.aL y) k
  | _ => none
 nat := fun args σ k => by
  repeat' split
  all_goals simp only [aw, ai, Option.bind_assoc, Option.bind_none, aA, Option.bind_some]
 pure := true
 pok := fun _ args σ r σ' h => by
  split at h
  ·exact bp h (fun y => rfl) (fun y f => rfl)
  ·cases h
theorem wq : aW Try.prog 7 kc := by
 intro args σ r σ' h
 simp only [kc] at h
 split at h
 ·skip
  obtain ⟨y, hy, h⟩ := bE_ h
  exact lifted (xs := []) (ls := []) (cargs := []) (bv.of trivial) rfl (vE y hy) rfl rfl rfl rfl h
 ·cases h
theorem Sg : j9 = some true := by kernel_rfl
def yC : Option Unit := some ()
def Id : HK where
 call := fun args σ k => match args with
  | [] => Option.bind yC fun r => k (.ret (.bool true)) σ
  | _ => none
 nat := fun args σ k => by
  repeat' split
  all_goals simp only [Option.bind_assoc, Option.bind_none, Option.bind_some]
 pure := true
 pok := fun _ args σ r σ' h => by
  split at h
  ·obtain ⟨q, h1, h2⟩ := bE_ h
   simp only [Option.some.injEq, Prod.mk.injEq] at h2
   obtain ⟨rfl, rfl⟩ := h2
   exact ⟨rfl, ⟨_, rfl⟩, fun σ2 => by simp only [h1, Option.bind_some]⟩
  ·cases h
theorem MS : aW Try.prog 7 Id := wq.cJ fun args σ x h => by
 simp only [Id] at h
 split at h
 ·obtain ⟨r, h1, h2⟩ := bE_ h
  simp only [kc, Sg, Option.bind_some]
  exact h2
 ·cases h
def H3 : CH := (CH.add 16 so CH.none)
theorem DR : aE Try.prog H3 := (CH.aj yn CH.aB)
def iS (cs0 : LA_) (n1 : Nat) : Option (Int × Int) :=
 (Option.bind (eC cs0 n1) fun r1 => (some (r1.2.2.2.2.1, r1.2.2.2.2.2.1)))
def nX : FD where
 X := Int × Int
 k := 1
 pre := []
 F := fun s => [0]
 M := .tup [.int .i64, .int .i64]
 B := []
 toL := fun x => [.I x.1, .I x.2]
 ofL := fun ls => match ls with
  | [.I x0, .I x1] => some (x0, x1)
  | _ => none
 au := fun ls x h => by
  split at h
  ·cases h; rfl
  ·cases h
theorem Gj (cs0 : LA_) (n1 : Nat) (x : Int × Int) (h : iS cs0 n1 = some x) : bc Try.prog 9 1 [.vec 0] [.vec cs0 n1 3 false] nX x :=
 FD.semA nX DR Try.func9 (fuel := 60) (by kernel_rfl) (by kernel_rfl)
  (by kernel_rfl) (Eq.trans (by kernel_rfl) h)
def xz : HK where
 call := fun args σ k => match args with
  | [x0] => cM σ 3 x0 fun cs0 n1 => Option.bind (iS cs0 n1) fun y => aA σ 1 (nX.val y) (nX.aL y) k
  | _ => none
 nat := fun args σ k => by
  repeat' split
  all_goals simp only [aw, ai, Option.bind_assoc, Option.bind_none, aA, Option.bind_some]
 pure := false
 pok := fun h => by cases h
theorem H4 : aW Try.prog 9 xz := by
 intro args σ r σ' h
 simp only [xz] at h
 split at h
 ·rename_i x0
  obtain ⟨cs0, n1, he0, hf0, h⟩ := bA h
  obtain ⟨y, hy, h⟩ := bE_ h
  exact lifted (xs := [x0]) (ls := [.vec cs0 n1 3 false]) (cargs := [.vec 0]) (bv.of ⟨⟨rfl, he0, hf0, by decide⟩, trivial⟩) rfl (Gj cs0 n1 y hy) rfl rfl rfl rfl h
 ·cases h
def uF : CH := CH.none
theorem rJ : aE Try.prog uF := CH.aB
def dU (a0 : Int) : Option (Int) :=
 (some (IntKind.wrap .i64 ((IntKind.wrap .i64 ((IntKind.wrap .i64 (a0 + (IntKind.wrap .i64 (Int.tdiv (IntKind.wrap .i64 (a0 * (IntKind.wrap .i64 (a0 - 1)))) 2)))) + (IntKind.wrap .i64 (Int.tdiv (IntKind.wrap .i64 ((IntKind.wrap .i64 (a0 * (IntKind.wrap .i64 (a0 - 1)))) * (IntKind.wrap .i64 (a0 - 2)))) 6)))) + (IntKind.wrap .i64 (Int.tdiv (IntKind.wrap .i64 ((IntKind.wrap .i64 ((IntKind.wrap .i64 (a0 * (IntKind.wrap .i64 (a0 - 1)))) * (IntKind.wrap .i64 (a0 - 2)))) * (IntKind.wrap .i64 (a0 - 3)))) 24)))))
def eH : FD where
 X := Int
 k := 0
 pre := []
 F := fun s => []
 M := .int .i64
 B := []
 toL := fun x => [.I x]
 ofL := fun ls => match ls with
  | [.I x0] => some x0
  | _ => none
 au := fun ls x h => by
  split at h
  ·cases h; rfl
  ·cases h
theorem tI (a0 x : Int) (h : dU a0 = some x) : bc Try.prog 13 0 [.int .i64 a0] [] eH x :=
 FD.semA eH rJ Try.func13 (fuel := 60) (by kernel_rfl) (by kernel_rfl)
  (by kernel_rfl) (Eq.trans (by kernel_rfl) h)
def iU : HK where
 call := fun args σ k => match args with
  | [.int .i64 a0] => Option.bind (dU a0) fun y => aA σ 0 (eH.val y) (eH.aL y) k
  | _ => none
 nat := fun args σ k => by
  repeat' split
  all_goals simp only [aw, ai, Option.bind_assoc, Option.bind_none, aA, Option.bind_some]
 pure := true
 pok := fun _ args σ r σ' h => by
  split at h
  ·exact bp h (fun y => rfl) (fun y f => rfl)
  ·cases h
theorem uG : aW Try.prog 13 iU := by
 intro args σ r σ' h
 simp only [iU] at h
 split at h
 ·rename_i a0
  obtain ⟨y, hy, h⟩ := bE_ h
  exact lifted (xs := []) (ls := []) (cargs := [.int .i64 a0]) (bv.of trivial) rfl (tI a0 y hy) rfl rfl rfl rfl h
 ·cases h
abbrev aM := LA_ × Nat × Int × Int × Int × Int × Int × Int × Int × Int × Int × Int × Int × Int × Int × Int × Int × Int × Int × Int × Int × Int × Int × Int × Int × Int × Int × Int × Int × Int × Int × Int × Int × Int × LA_ × Nat × Int
def kM : CH := (CH.add 13 iU (CH.add 12 jy (CH.add 11 gb (CH.add 10 jz (CH.add 9 xz (CH.add 6 pD (CH.add 7 Id CH.none)))))))
def eA : CH := vm Try.prog jm [8] 60 kM 5
theorem qW : aE Try.prog kM := (CH.aj uG (CH.aj ni (CH.aj gP (CH.aj nj (CH.aj H4 (CH.aj tA (CH.aj MS CH.aB)))))))
theorem fu : aE Try.prog eA := iF aJ mixed bG qW 5
def bU {R : Type} (cc : aM) (v : Int) (kn : (Int) → Option R) (ke : ((Unit) ⊕ (Unit)) → Option R) : Option R :=
 (cond (decide (v < ((cc.2.1 : Nat) : Int))) (af (decide (0 ≤ v) && decide (v < ((cc.2.1 : Nat) : Int))) (af (aq lC cc.1 (Int.toNat v * 3)) (Option.bind (eo cc.2.2.1 cc.2.2.2.1 cc.2.2.2.2.1 cc.2.2.2.2.2.1 cc.2.2.2.2.2.2.1 cc.2.2.2.2.2.2.2.1 cc.2.2.2.2.2.2.2.2.1 cc.2.2.2.2.2.2.2.2.2.1 cc.2.2.2.2.2.2.2.2.2.2.1 cc.2.2.2.2.2.2.2.2.2.2.2.1 cc.2.2.2.2.2.2.2.2.2.2.2.2.1 cc.2.2.2.2.2.2.2.2.2.2.2.2.2.1 cc.2.2.2.2.2.2.2.2.2.2.2.2.2.2.1 cc.2.2.2.2.2.2.2.2.2.2.2.2.2.2.2.1 cc.2.2.2.2.2.2.2.2.2.2.2.2.2.2.2.2.1 cc.2.2.2.2.2.2.2.2.2.2.2.2.2.2.2.2.2.1 cc.2.2.2.2.2.2.2.2.2.2.2.2.2.2.2.2.2.2.1 cc.2.2.2.2.2.2.2.2.2.2.2.2.2.2.2.2.2.2.2.1 cc.2.2.2.2.2.2.2.2.2.2.2.2.2.2.2.2.2.2.2.2.1 cc.2.2.2.2.2.2.2.2.2.2.2.2.2.2.2.2.2.2.2.2.2.1 cc.2.2.2.2.2.2.2.2.2.2.2.2.2.2.2.2.2.2.2.2.2.2.1 cc.2.2.2.2.2.2.2.2.2.2.2.2.2.2.2.2.2.2.2.2.2.2.2.1 cc.2.2.2.2.2.2.2.2.2.2.2.2.2.2.2.2.2.2.2.2.2.2.2.2.1 cc.2.2.2.2.2.2.2.2.2.2.2.2.2.2.2.2.2.2.2.2.2.2.2.2.2.1 cc.2.2.2.2.2.2.2.2.2.2.2.2.2.2.2.2.2.2.2.2.2.2.2.2.2.2.1 cc.2.2.2.2.2.2.2.2.2.2.2.2.2.2.2.2.2.2.2.2.2.2.2.2.2.2.2.1 cc.2.2.2.2.2.2.2.2.2.2.2.2.2.2.2.2.2.2.2.2.2.2.2.2.2.2.2.2.1 cc.2.2.2.2.2.2.2.2.2.2.2.2.2.2.2.2.2.2.2.2.2.2.2.2.2.2.2.2.2.1 cc.2.2.2.2.2.2.2.2.2.2.2.2.2.2.2.2.2.2.2.2.2.2.2.2.2.2.2.2.2.2.1 cc.2.2.2.2.2.2.2.2.2.2.2.2.2.2.2.2.2.2.2.2.2.2.2.2.2.2.2.2.2.2.2.1 cc.2.2.2.2.2.2.2.2.2.2.2.2.2.2.2.2.2.2.2.2.2.2.2.2.2.2.2.2.2.2.2.2.1 cc.2.2.2.2.2.2.2.2.2.2.2.2.2.2.2.2.2.2.2.2.2.2.2.2.2.2.2.2.2.2.2.2.2.1 cc.2.2.2.2.2.2.2.2.2.2.2.2.2.2.2.2.2.2.2.2.2.2.2.2.2.2.2.2.2.2.2.2.2.2.1 cc.2.2.2.2.2.2.2.2.2.2.2.2.2.2.2.2.2.2.2.2.2.2.2.2.2.2.2.2.2.2.2.2.2.2.2.1 (ac cc.1 ((Int.toNat v * 3) + 0)) (ac cc.1 ((Int.toNat v * 3) + 1)) (ac cc.1 ((Int.toNat v * 3) + 2))) fun r5 => (cond r5 (ke (.inl ())) (kn (IntKind.wrap .i64 (v + 1))))))) (ke (.inr ())))
def dM (cc : aM) (v : Int) : Option ((Int) ⊕ ((Unit) ⊕ (Unit))) := bU cc v (fun v => some (Sum.inl v)) fun e => some (Sum.inr e)
def kN (cc : aM) (v : Int) : Option ((Unit) ⊕ (Unit)) := dA (dM cc) v
def qX (cc : aM) (v : Int) : List ah := [.I cc.s16.s16.s4, .I v, .C cc.1, .N cc.2.1, .I cc.2.2.1, .I cc.2.2.2.1, .I cc.s4.1, .I cc.s4.2.1, .I cc.s4.2.2.1, .I cc.s4.2.2.2.1, .I cc.s8.1, .I cc.s8.2.1, .I cc.s8.2.2.1, .I cc.s8.2.2.2.1, .I cc.s8.s4.1, .I cc.s8.s4.2.1, .I cc.s8.s4.2.2.1, .I cc.s8.s4.2.2.2.1, .I cc.s16.1, .I cc.s16.2.1, .I cc.s16.2.2.1, .I cc.s16.2.2.2.1, .I cc.s16.s4.1, .I cc.s16.s4.2.1, .I cc.s16.s4.2.2.1, .I cc.s16.s4.2.2.2.1, .I cc.s16.s8.1, .I cc.s16.s8.2.1, .I cc.s16.s8.2.2.1, .I cc.s16.s8.2.2.2.1, .I cc.s16.s8.s4.1, .I cc.s16.s8.s4.2.1, .I cc.s16.s8.s4.2.2.1, .I cc.s16.s8.s4.2.2.2.1, .I cc.s16.s16.1, .I cc.s16.s16.2.1, .C cc.s16.s16.2.2.1, .N cc.s16.s16.2.2.2.1]
def je (ls : List ah) : Option ((aM) × (Int)) := match ls with
 | (.I x0 :: .I x1 :: .C x2 :: .N x3 :: .I x4 :: .I x5 :: .I x6 :: .I x7 :: .I x8 :: .I x9 :: .I x10 :: .I x11 :: .I x12 :: .I x13 :: .I x14 :: .I x15 :: .I x16 :: .I x17 :: .I x18 :: .I x19 :: .I x20 :: .I x21 :: .I x22 :: .I x23 :: .I x24 :: .I x25 :: .I x26 :: .I x27 :: .I x28 :: .I x29 :: .I x30 :: .I x31 :: .I x32 :: .I x33 :: .I x34 :: .I x35 :: .C x36 :: .N x37 :: []) => some ((x2, x3, x4, x5, x6, x7, x8, x9, x10, x11, x12, x13, x14, x15, x16, x17, x18, x19, x20, x21, x22, x23, x24, x25, x26, x27, x28, x29, x30, x31, x32, x33, x34, x35, x36, x37, x0), x1)
 | _ => none
def jf (e : (Unit) ⊕ (Unit)) : an := ((Sum.elim (fun e => .ret) (fun e => .exit 0)) e)
def jg (cc : aM) (e : (Unit) ⊕ (Unit)) : List ah := ((Sum.elim (fun e => []) (fun e => [.I cc.s16.s16.s4, .C cc.1, .N cc.2.1, .I cc.2.2.1, .I cc.2.2.2.1, .I cc.s4.1, .I cc.s4.2.1, .I cc.s4.2.2.1, .I cc.s4.2.2.2.1, .I cc.s8.1, .I cc.s8.2.1, .I cc.s8.2.2.1, .I cc.s8.2.2.2.1, .I cc.s8.s4.1, .I cc.s8.s4.2.1, .I cc.s8.s4.2.2.1, .I cc.s8.s4.2.2.2.1, .I cc.s16.1, .I cc.s16.2.1, .I cc.s16.2.2.1, .I cc.s16.2.2.2.1, .I cc.s16.s4.1, .I cc.s16.s4.2.1, .I cc.s16.s4.2.2.1, .I cc.s16.s4.2.2.2.1, .I cc.s16.s8.1, .I cc.s16.s8.2.1, .I cc.s16.s8.2.2.1, .I cc.s16.s8.2.2.2.1, .I cc.s16.s8.s4.1, .I cc.s16.s8.s4.2.1, .I cc.s16.s8.s4.2.2.1, .I cc.s16.s8.s4.2.2.2.1, .I cc.s16.s16.1, .I cc.s16.s16.2.1, .C cc.s16.s16.2.2.1, .N cc.s16.s16.2.2.2.1])) e)
def eI (cc : aM) (e : (Unit) ⊕ (Unit)) : List ah := ((Sum.elim (fun e => []) (fun e => [.I cc.s16.s16.s4, .C cc.1, .N cc.2.1, .I cc.2.2.1, .I cc.2.2.2.1, .I cc.s4.1, .I cc.s4.2.1, .I cc.s4.2.2.1, .I cc.s4.2.2.2.1, .I cc.s8.1, .I cc.s8.2.1, .I cc.s8.2.2.1, .I cc.s8.2.2.2.1, .I cc.s8.s4.1, .I cc.s8.s4.2.1, .I cc.s8.s4.2.2.1, .I cc.s8.s4.2.2.2.1, .I cc.s16.1, .I cc.s16.2.1, .I cc.s16.2.2.1, .I cc.s16.2.2.2.1, .I cc.s16.s4.1, .I cc.s16.s4.2.1, .I cc.s16.s4.2.2.1, .I cc.s16.s4.2.2.2.1, .I cc.s16.s8.1, .I cc.s16.s8.2.1, .I cc.s16.s8.2.2.1, .I cc.s16.s8.2.2.2.1, .I cc.s16.s8.s4.1, .I cc.s16.s8.s4.2.1, .I cc.s16.s8.s4.2.2.1, .I cc.s16.s8.s4.2.2.2.1, .I cc.s16.s16.1, .I cc.s16.s16.2.1, .C cc.s16.s16.2.2.1, .N cc.s16.s16.2.2.2.1])) e)
def eZ (o : an) (ls : List ah) : Option (((Unit) ⊕ (Unit)) × List ah) := match o with
 | .ret => (match ls with
  | [] => some ((.inl ()), [])
  | _ => none)
 | .exit 0 => (match ls with
  | (.I x0 :: .C x1 :: .N x2 :: .I x3 :: .I x4 :: .I x5 :: .I x6 :: .I x7 :: .I x8 :: .I x9 :: .I x10 :: .I x11 :: .I x12 :: .I x13 :: .I x14 :: .I x15 :: .I x16 :: .I x17 :: .I x18 :: .I x19 :: .I x20 :: .I x21 :: .I x22 :: .I x23 :: .I x24 :: .I x25 :: .I x26 :: .I x27 :: .I x28 :: .I x29 :: .I x30 :: .I x31 :: .I x32 :: .I x33 :: .I x34 :: .C x35 :: .N x36 :: []) => some ((.inr ()), [.I x0, .C x1, .N x2, .I x3, .I x4, .I x5, .I x6, .I x7, .I x8, .I x9, .I x10, .I x11, .I x12, .I x13, .I x14, .I x15, .I x16, .I x17, .I x18, .I x19, .I x20, .I x21, .I x22, .I x23, .I x24, .I x25, .I x26, .I x27, .I x28, .I x29, .I x30, .I x31, .I x32, .I x33, .I x34, .C x35, .N x36])
  | _ => none)
 | _ => none
theorem oC : ∀ o ls e cl cc, eZ o ls = some (e, cl) → cl = eI cc e → ls = jg cc e ∧ jf e = o ∧ o ≠ .normal ∧ ∀ v, o = .pan v → sc 0 v = true := by
 intro o ls e cl cc h hc
 unfold eZ at h
 split at h
 ·split at h
  ·cases h
   exact ⟨rfl, rfl, by simp, by intro v hv; cases hv <;> rfl⟩
  ·cases h
 ·split at h
  ·cases h
   simp only [eI, Sum.elim_inl, Sum.elim_inr, List.cons.injEq, ah.I.injEq, ah.N.injEq, ah.C.injEq, and_true] at hc
   obtain ⟨rfl, rfl, rfl, rfl, rfl, rfl, rfl, rfl, rfl, rfl, rfl, rfl, rfl, rfl, rfl, rfl, rfl, rfl, rfl, rfl, rfl, rfl, rfl, rfl, rfl, rfl, rfl, rfl, rfl, rfl, rfl, rfl, rfl, rfl, rfl, rfl, rfl⟩ := hc
   exact ⟨rfl, rfl, by simp, by intro v hv; cases hv <;> rfl⟩
  ·cases h
 ·cases h
def rK (o : an) : ExS := match o with
 | .ret => ⟨1, (none :: none :: some (.pR false) :: (rl none 160 [])), [], fun s => [0], [], []⟩
 | .exit 0 => ⟨3, (some (.vec 0) :: none :: none :: some (.ptr 1 0) :: none :: some (.int .i64) :: (rl none 157 [])), [(0, .vec 3 false), (1, .cells (rl (.int .u64) 32 [.vec 2]) true none), (2, .vec 1 true)], fun s => [0, nameAt s 3 [], nameAt s 3 [.d 32]], [], []⟩
 | _ => ⟨0, [], [], fun _ => [], [], []⟩
theorem qY {R : Type} (cc : aM) (v : Int) (kn : (Int) → Option R) (ke : ((Unit) ⊕ (Unit)) → Option R) : bU cc v kn ke = (bU cc v (fun v => some (Sum.inl v)) fun e => some (Sum.inr e)).bind (Sum.elim kn ke) := by
 simp only [bU, bK, ai, Option.bind_assoc, cb, bF, Option.bind_some, Option.bind_none, Sum.elim_inl, Sum.elim_inr]
def jT : LD where
 CC := aM
 V := Int
 E := (Unit) ⊕ (Unit)
 n := 1
 K := 3
 M := (some (.vec 0) :: none :: none :: some (.ptr 1 0) :: none :: some (.int .i64) :: none :: some (.int .i64) :: (rl none 155 []))
 B := [(0, .vec 3 false), (1, .cells (rl (.int .u64) 32 [.vec 2]) true none), (2, .vec 1 true)]
 D := []
 pre := []
 F := fun s => [0, nameAt s 3 [], nameAt s 3 [.d 32]]
 toL := qX
 ofL := je
 au := fun ls c v h => by
  unfold je at h
  split at h
  ·cases h; rfl
  ·cases h
 ck := bU
 nat := qY
 sh := rK
 out := jf
 toE := jg
 fp := eI
 ofE := eZ
 da := oC
 post := fun cc e k => ((Sum.elim (fun e => k (.ret) (bd 1 (none :: none :: some (.bool false) :: (rl none 160 [])) [] [])) (fun e => k (.exit 0) (bd 3 (some (.vec 0) :: none :: none :: some (.ptr 1 0) :: none :: some (.int .i64 cc.s16.s16.s4) :: (rl none 157 [])) [(0, .vec cc.1 cc.2.1 3 false), (1, .cells (v8 cc.2.2.1 cc.2.2.2.1 cc.s4.1 cc.s4.2.1 cc.s4.2.2.1 cc.s4.2.2.2.1 cc.s8.1 cc.s8.2.1 (v8 cc.s8.2.2.1 cc.s8.2.2.2.1 cc.s8.s4.1 cc.s8.s4.2.1 cc.s8.s4.2.2.1 cc.s8.s4.2.2.2.1 cc.s16.1 cc.s16.2.1 (v8 cc.s16.2.2.1 cc.s16.2.2.2.1 cc.s16.s4.1 cc.s16.s4.2.1 cc.s16.s4.2.2.1 cc.s16.s4.2.2.2.1 cc.s16.s8.1 cc.s16.s8.2.1 (v8 cc.s16.s8.2.2.1 cc.s16.s8.2.2.2.1 cc.s16.s8.s4.1 cc.s16.s8.s4.2.1 cc.s16.s8.s4.2.2.1 cc.s16.s8.s4.2.2.2.1 cc.s16.s16.1 cc.s16.s16.2.1 [.vec 2])))) true none), (2, .vec cc.s16.s16.2.2.1 cc.s16.s16.2.2.2.1 1 true)] []))) e)
 cd := fun cc e k => by rcases e with e | e <;> rfl
theorem qZ : cF Try.prog 1 jT.la (aK Try.f4 0) :=
 LD.ok (ch := eA) (A := bt) aJ fu mixed (fuel := 60) ⟨by kernel_rfl, fun e => by (rcases e with e | e <;> kernel_rfl), fun cc v => by kernel_rfl, aI (l := []) (by kernel_rfl) trivial⟩
def bH {R : Type} (cc : aM) (v : LA_ × Nat × Int) (kn : (LA_ × Nat × Int) → Option R) (ke : ((Unit) ⊕ (LA_ × Nat)) → Option R) : Option R :=
 (cond (decide (v.2.2 < ((cc.2.2.2.2.2.2.2.2.2.2.2.2.2.2.2.2.2.2.2.2.2.2.2.2.2.2.2.2.2.2.2.2.2.2.2.1 : Nat) : Int))) (af (decide (0 ≤ v.2.2) && decide (v.2.2 < ((cc.2.2.2.2.2.2.2.2.2.2.2.2.2.2.2.2.2.2.2.2.2.2.2.2.2.2.2.2.2.2.2.2.2.2.2.1 : Nat) : Int))) (af (aq [.int .i64] cc.2.2.2.2.2.2.2.2.2.2.2.2.2.2.2.2.2.2.2.2.2.2.2.2.2.2.2.2.2.2.2.2.2.2.1 (Int.toNat v.2.2 * 1)) (cond (decide ((ac cc.2.2.2.2.2.2.2.2.2.2.2.2.2.2.2.2.2.2.2.2.2.2.2.2.2.2.2.2.2.2.2.2.2.2.1 ((Int.toNat v.2.2 * 1) + 0)) < 0)) (ke (.inl ())) (af (decide (0 ≤ v.2.2) && decide (v.2.2 < ((cc.2.2.2.2.2.2.2.2.2.2.2.2.2.2.2.2.2.2.2.2.2.2.2.2.2.2.2.2.2.2.2.2.2.2.2.1 : Nat) : Int))) (af (aq [.int .i64] cc.2.2.2.2.2.2.2.2.2.2.2.2.2.2.2.2.2.2.2.2.2.2.2.2.2.2.2.2.2.2.2.2.2.2.1 (Int.toNat v.2.2 * 1)) (cond (decide ((ac cc.2.2.2.2.2.2.2.2.2.2.2.2.2.2.2.2.2.2.2.2.2.2.2.2.2.2.2.2.2.2.2.2.2.2.1 ((Int.toNat v.2.2 * 1) + 0)) ≥ ((cc.2.1 : Nat) : Int))) (ke (.inl ())) (cond (decide (v.2.2 > 0)) (af (decide (0 ≤ (IntKind.wrap .i64 (v.2.2 - 1))) && decide ((IntKind.wrap .i64 (v.2.2 - 1)) < ((cc.2.2.2.2.2.2.2.2.2.2.2.2.2.2.2.2.2.2.2.2.2.2.2.2.2.2.2.2.2.2.2.2.2.2.2.1 : Nat) : Int))) (af (aq [.int .i64] cc.2.2.2.2.2.2.2.2.2.2.2.2.2.2.2.2.2.2.2.2.2.2.2.2.2.2.2.2.2.2.2.2.2.2.1 (Int.toNat (IntKind.wrap .i64 (v.2.2 - 1)) * 1)) (af (decide (0 ≤ v.2.2) && decide (v.2.2 < ((cc.2.2.2.2.2.2.2.2.2.2.2.2.2.2.2.2.2.2.2.2.2.2.2.2.2.2.2.2.2.2.2.2.2.2.2.1 : Nat) : Int))) (af (aq [.int .i64] cc.2.2.2.2.2.2.2.2.2.2.2.2.2.2.2.2.2.2.2.2.2.2.2.2.2.2.2.2.2.2.2.2.2.2.1 (Int.toNat v.2.2 * 1)) (cond (decide ((ac cc.2.2.2.2.2.2.2.2.2.2.2.2.2.2.2.2.2.2.2.2.2.2.2.2.2.2.2.2.2.2.2.2.2.2.1 ((Int.toNat (IntKind.wrap .i64 (v.2.2 - 1)) * 1) + 0)) ≥ (ac cc.2.2.2.2.2.2.2.2.2.2.2.2.2.2.2.2.2.2.2.2.2.2.2.2.2.2.2.2.2.2.2.2.2.2.1 ((Int.toNat v.2.2 * 1) + 0)))) (ke (.inl ())) (af (decide (0 ≤ v.2.2) && decide (v.2.2 < ((cc.2.2.2.2.2.2.2.2.2.2.2.2.2.2.2.2.2.2.2.2.2.2.2.2.2.2.2.2.2.2.2.2.2.2.2.1 : Nat) : Int))) (af (aq [.int .i64] cc.2.2.2.2.2.2.2.2.2.2.2.2.2.2.2.2.2.2.2.2.2.2.2.2.2.2.2.2.2.2.2.2.2.2.1 (Int.toNat v.2.2 * 1)) (af (decide (0 ≤ (ac cc.2.2.2.2.2.2.2.2.2.2.2.2.2.2.2.2.2.2.2.2.2.2.2.2.2.2.2.2.2.2.2.2.2.2.1 ((Int.toNat v.2.2 * 1) + 0))) && decide ((ac cc.2.2.2.2.2.2.2.2.2.2.2.2.2.2.2.2.2.2.2.2.2.2.2.2.2.2.2.2.2.2.2.2.2.2.1 ((Int.toNat v.2.2 * 1) + 0)) < ((cc.2.1 : Nat) : Int))) (af (aq lC cc.1 (Int.toNat (ac cc.2.2.2.2.2.2.2.2.2.2.2.2.2.2.2.2.2.2.2.2.2.2.2.2.2.2.2.2.2.2.2.2.2.2.1 ((Int.toNat v.2.2 * 1) + 0)) * 3)) (af (decide (2 * (v.2.1 + 1) * 24 ≤ 2 ^ 48)) (kn ((v.1 ++ [.int .i64 (ac cc.1 ((Int.toNat (ac cc.2.2.2.2.2.2.2.2.2.2.2.2.2.2.2.2.2.2.2.2.2.2.2.2.2.2.2.2.2.2.2.2.2.2.1 ((Int.toNat v.2.2 * 1) + 0)) * 3) + 0)), .int .i64 (ac cc.1 ((Int.toNat (ac cc.2.2.2.2.2.2.2.2.2.2.2.2.2.2.2.2.2.2.2.2.2.2.2.2.2.2.2.2.2.2.2.2.2.2.1 ((Int.toNat v.2.2 * 1) + 0)) * 3) + 1)), .int .i64 (ac cc.1 ((Int.toNat (ac cc.2.2.2.2.2.2.2.2.2.2.2.2.2.2.2.2.2.2.2.2.2.2.2.2.2.2.2.2.2.2.2.2.2.2.1 ((Int.toNat v.2.2 * 1) + 0)) * 3) + 2))]), (v.2.1 + 1), (IntKind.wrap .i64 (v.2.2 + 1)))))))))))))) (af (decide (0 ≤ v.2.2) && decide (v.2.2 < ((cc.2.2.2.2.2.2.2.2.2.2.2.2.2.2.2.2.2.2.2.2.2.2.2.2.2.2.2.2.2.2.2.2.2.2.2.1 : Nat) : Int))) (af (aq [.int .i64] cc.2.2.2.2.2.2.2.2.2.2.2.2.2.2.2.2.2.2.2.2.2.2.2.2.2.2.2.2.2.2.2.2.2.2.1 (Int.toNat v.2.2 * 1)) (af (decide (0 ≤ (ac cc.2.2.2.2.2.2.2.2.2.2.2.2.2.2.2.2.2.2.2.2.2.2.2.2.2.2.2.2.2.2.2.2.2.2.1 ((Int.toNat v.2.2 * 1) + 0))) && decide ((ac cc.2.2.2.2.2.2.2.2.2.2.2.2.2.2.2.2.2.2.2.2.2.2.2.2.2.2.2.2.2.2.2.2.2.2.1 ((Int.toNat v.2.2 * 1) + 0)) < ((cc.2.1 : Nat) : Int))) (af (aq lC cc.1 (Int.toNat (ac cc.2.2.2.2.2.2.2.2.2.2.2.2.2.2.2.2.2.2.2.2.2.2.2.2.2.2.2.2.2.2.2.2.2.2.1 ((Int.toNat v.2.2 * 1) + 0)) * 3)) (af (decide (2 * (v.2.1 + 1) * 24 ≤ 2 ^ 48)) (kn ((v.1 ++ [.int .i64 (ac cc.1 ((Int.toNat (ac cc.2.2.2.2.2.2.2.2.2.2.2.2.2.2.2.2.2.2.2.2.2.2.2.2.2.2.2.2.2.2.2.2.2.2.1 ((Int.toNat v.2.2 * 1) + 0)) * 3) + 0)), .int .i64 (ac cc.1 ((Int.toNat (ac cc.2.2.2.2.2.2.2.2.2.2.2.2.2.2.2.2.2.2.2.2.2.2.2.2.2.2.2.2.2.2.2.2.2.2.1 ((Int.toNat v.2.2 * 1) + 0)) * 3) + 1)), .int .i64 (ac cc.1 ((Int.toNat (ac cc.2.2.2.2.2.2.2.2.2.2.2.2.2.2.2.2.2.2.2.2.2.2.2.2.2.2.2.2.2.2.2.2.2.2.1 ((Int.toNat v.2.2 * 1) + 0)) * 3) + 2))]), (v.2.1 + 1), (IntKind.wrap .i64 (v.2.2 + 1)))))))))))))))) (ke (.inr (v.1, v.2.1))))
def cR (cc : aM) (v : LA_ × Nat × Int) : Option ((LA_ × Nat × Int) ⊕ ((Unit) ⊕ (LA_ × Nat))) := bH cc v (fun v => some (Sum.inl v)) fun e => some (Sum.inr e)
def kO (cc : aM) (v : LA_ × Nat × Int) : Option ((Unit) ⊕ (LA_ × Nat)) := dA (cR cc) v
def q9 (cc : aM) (v : LA_ × Nat × Int) : List ah := [.I cc.s16.s16.s4, .I v.2.2, .C cc.1, .N cc.2.1, .I cc.2.2.1, .I cc.2.2.2.1, .I cc.s4.1, .I cc.s4.2.1, .I cc.s4.2.2.1, .I cc.s4.2.2.2.1, .I cc.s8.1, .I cc.s8.2.1, .I cc.s8.2.2.1, .I cc.s8.2.2.2.1, .I cc.s8.s4.1, .I cc.s8.s4.2.1, .I cc.s8.s4.2.2.1, .I cc.s8.s4.2.2.2.1, .I cc.s16.1, .I cc.s16.2.1, .I cc.s16.2.2.1, .I cc.s16.2.2.2.1, .I cc.s16.s4.1, .I cc.s16.s4.2.1, .I cc.s16.s4.2.2.1, .I cc.s16.s4.2.2.2.1, .I cc.s16.s8.1, .I cc.s16.s8.2.1, .I cc.s16.s8.2.2.1, .I cc.s16.s8.2.2.2.1, .I cc.s16.s8.s4.1, .I cc.s16.s8.s4.2.1, .I cc.s16.s8.s4.2.2.1, .I cc.s16.s8.s4.2.2.2.1, .I cc.s16.s16.1, .I cc.s16.s16.2.1, .C cc.s16.s16.2.2.1, .N cc.s16.s16.2.2.2.1, .C v.1, .N v.2.1]
def jh (ls : List ah) : Option ((aM) × (LA_ × Nat × Int)) := match ls with
 | (.I x0 :: .I x1 :: .C x2 :: .N x3 :: .I x4 :: .I x5 :: .I x6 :: .I x7 :: .I x8 :: .I x9 :: .I x10 :: .I x11 :: .I x12 :: .I x13 :: .I x14 :: .I x15 :: .I x16 :: .I x17 :: .I x18 :: .I x19 :: .I x20 :: .I x21 :: .I x22 :: .I x23 :: .I x24 :: .I x25 :: .I x26 :: .I x27 :: .I x28 :: .I x29 :: .I x30 :: .I x31 :: .I x32 :: .I x33 :: .I x34 :: .I x35 :: .C x36 :: .N x37 :: .C x38 :: .N x39 :: []) => some ((x2, x3, x4, x5, x6, x7, x8, x9, x10, x11, x12, x13, x14, x15, x16, x17, x18, x19, x20, x21, x22, x23, x24, x25, x26, x27, x28, x29, x30, x31, x32, x33, x34, x35, x36, x37, x0), (x38, x39, x1))
 | _ => none
def ji (e : (Unit) ⊕ (LA_ × Nat)) : an := ((Sum.elim (fun e => .ret) (fun e => .exit 2)) e)
def jk (cc : aM) (e : (Unit) ⊕ (LA_ × Nat)) : List ah := ((Sum.elim (fun e => []) (fun e => [.I cc.s16.s16.s4, .C cc.1, .N cc.2.1, .I cc.2.2.1, .I cc.2.2.2.1, .I cc.s4.1, .I cc.s4.2.1, .I cc.s4.2.2.1, .I cc.s4.2.2.2.1, .I cc.s8.1, .I cc.s8.2.1, .I cc.s8.2.2.1, .I cc.s8.2.2.2.1, .I cc.s8.s4.1, .I cc.s8.s4.2.1, .I cc.s8.s4.2.2.1, .I cc.s8.s4.2.2.2.1, .I cc.s16.1, .I cc.s16.2.1, .I cc.s16.2.2.1, .I cc.s16.2.2.2.1, .I cc.s16.s4.1, .I cc.s16.s4.2.1, .I cc.s16.s4.2.2.1, .I cc.s16.s4.2.2.2.1, .I cc.s16.s8.1, .I cc.s16.s8.2.1, .I cc.s16.s8.2.2.1, .I cc.s16.s8.2.2.2.1, .I cc.s16.s8.s4.1, .I cc.s16.s8.s4.2.1, .I cc.s16.s8.s4.2.2.1, .I cc.s16.s8.s4.2.2.2.1, .I cc.s16.s16.1, .I cc.s16.s16.2.1, .C cc.s16.s16.2.2.1, .N cc.s16.s16.2.2.2.1, .C e.1, .N e.2])) e)
def eJ (cc : aM) (e : (Unit) ⊕ (LA_ × Nat)) : List ah := ((Sum.elim (fun e => []) (fun e => [.I cc.s16.s16.s4, .C cc.1, .N cc.2.1, .I cc.2.2.1, .I cc.2.2.2.1, .I cc.s4.1, .I cc.s4.2.1, .I cc.s4.2.2.1, .I cc.s4.2.2.2.1, .I cc.s8.1, .I cc.s8.2.1, .I cc.s8.2.2.1, .I cc.s8.2.2.2.1, .I cc.s8.s4.1, .I cc.s8.s4.2.1, .I cc.s8.s4.2.2.1, .I cc.s8.s4.2.2.2.1, .I cc.s16.1, .I cc.s16.2.1, .I cc.s16.2.2.1, .I cc.s16.2.2.2.1, .I cc.s16.s4.1, .I cc.s16.s4.2.1, .I cc.s16.s4.2.2.1, .I cc.s16.s4.2.2.2.1, .I cc.s16.s8.1, .I cc.s16.s8.2.1, .I cc.s16.s8.2.2.1, .I cc.s16.s8.2.2.2.1, .I cc.s16.s8.s4.1, .I cc.s16.s8.s4.2.1, .I cc.s16.s8.s4.2.2.1, .I cc.s16.s8.s4.2.2.2.1, .I cc.s16.s16.1, .I cc.s16.s16.2.1, .C cc.s16.s16.2.2.1, .N cc.s16.s16.2.2.2.1])) e)
def fa (o : an) (ls : List ah) : Option (((Unit) ⊕ (LA_ × Nat)) × List ah) := match o with
 | .ret => (match ls with
  | [] => some ((.inl ()), [])
  | _ => none)
 | .exit 2 => (match ls with
  | (.I x0 :: .C x1 :: .N x2 :: .I x3 :: .I x4 :: .I x5 :: .I x6 :: .I x7 :: .I x8 :: .I x9 :: .I x10 :: .I x11 :: .I x12 :: .I x13 :: .I x14 :: .I x15 :: .I x16 :: .I x17 :: .I x18 :: .I x19 :: .I x20 :: .I x21 :: .I x22 :: .I x23 :: .I x24 :: .I x25 :: .I x26 :: .I x27 :: .I x28 :: .I x29 :: .I x30 :: .I x31 :: .I x32 :: .I x33 :: .I x34 :: .C x35 :: .N x36 :: .C x37 :: .N x38 :: []) => some ((.inr (x37, x38)), [.I x0, .C x1, .N x2, .I x3, .I x4, .I x5, .I x6, .I x7, .I x8, .I x9, .I x10, .I x11, .I x12, .I x13, .I x14, .I x15, .I x16, .I x17, .I x18, .I x19, .I x20, .I x21, .I x22, .I x23, .I x24, .I x25, .I x26, .I x27, .I x28, .I x29, .I x30, .I x31, .I x32, .I x33, .I x34, .C x35, .N x36])
  | _ => none)
 | _ => none
theorem oD : ∀ o ls e cl cc, fa o ls = some (e, cl) → cl = eJ cc e → ls = jk cc e ∧ ji e = o ∧ o ≠ .normal ∧ ∀ v, o = .pan v → sc 0 v = true := by
 intro o ls e cl cc h hc
 unfold fa at h
 split at h
 ·split at h
  ·cases h
   exact ⟨rfl, rfl, by simp, by intro v hv; cases hv <;> rfl⟩
  ·cases h
 ·split at h
  ·cases h
   simp only [eJ, Sum.elim_inl, Sum.elim_inr, List.cons.injEq, ah.I.injEq, ah.N.injEq, ah.C.injEq, and_true] at hc
   obtain ⟨rfl, rfl, rfl, rfl, rfl, rfl, rfl, rfl, rfl, rfl, rfl, rfl, rfl, rfl, rfl, rfl, rfl, rfl, rfl, rfl, rfl, rfl, rfl, rfl, rfl, rfl, rfl, rfl, rfl, rfl, rfl, rfl, rfl, rfl, rfl, rfl, rfl⟩ := hc
   exact ⟨rfl, rfl, by simp, by intro v hv; cases hv <;> rfl⟩
  ·cases h
 ·cases h
def rM (o : an) : ExS := match o with
 | .ret => ⟨1, (none :: none :: some (.pR false) :: (rl none 160 [])), [], fun s => [0], [], []⟩
 | .exit 2 => ⟨4, (some (.vec 0) :: none :: none :: some (.ptr 1 0) :: none :: some (.int .i64) :: none :: none :: some (.vec 3) :: (rl none 154 [])), [(0, .vec 3 false), (1, .cells (rl (.int .u64) 32 [.vec 2]) true none), (2, .vec 1 true), (3, .vec 3 true)], fun s => [0, nameAt s 3 [], nameAt s 3 [.d 32], nameAt s 8 []], [], []⟩
 | _ => ⟨0, [], [], fun _ => [], [], []⟩
theorem ra {R : Type} (cc : aM) (v : LA_ × Nat × Int) (kn : (LA_ × Nat × Int) → Option R) (ke : ((Unit) ⊕ (LA_ × Nat)) → Option R) : bH cc v kn ke = (bH cc v (fun v => some (Sum.inl v)) fun e => some (Sum.inr e)).bind (Sum.elim kn ke) := by
 simp only [bH, bK, ai, Option.bind_assoc, cb, bF, Option.bind_some, Option.bind_none, Sum.elim_inl, Sum.elim_inr]
def jU : LD where
 CC := aM
 V := LA_ × Nat × Int
 E := (Unit) ⊕ (LA_ × Nat)
 n := 1
 K := 4
 M := (some (.vec 0) :: none :: none :: some (.ptr 1 0) :: none :: some (.int .i64) :: none :: none :: some (.vec 3) :: some (.int .i64) :: (rl none 153 []))
 B := [(0, .vec 3 false), (1, .cells (rl (.int .u64) 32 [.vec 2]) true none), (2, .vec 1 true), (3, .vec 3 true)]
 D := []
 pre := [(8, 3)]
 F := fun s => [0, nameAt s 3 [], nameAt s 3 [.d 32], nameAt s 8 []]
 toL := q9
 ofL := jh
 au := fun ls c v h => by
  unfold jh at h
  split at h
  ·cases h; rfl
  ·cases h
 ck := bH
 nat := ra
 sh := rM
 out := ji
 toE := jk
 fp := eJ
 ofE := fa
 da := oD
 post := fun cc e k => ((Sum.elim (fun e => k (.ret) (bd 1 (none :: none :: some (.bool false) :: (rl none 160 [])) [] [])) (fun e => k (.exit 2) (bd 4 (some (.vec 0) :: none :: none :: some (.ptr 1 0) :: none :: some (.int .i64 cc.s16.s16.s4) :: none :: none :: some (.vec 3) :: (rl none 154 [])) [(0, .vec cc.1 cc.2.1 3 false), (1, .cells (v8 cc.2.2.1 cc.2.2.2.1 cc.s4.1 cc.s4.2.1 cc.s4.2.2.1 cc.s4.2.2.2.1 cc.s8.1 cc.s8.2.1 (v8 cc.s8.2.2.1 cc.s8.2.2.2.1 cc.s8.s4.1 cc.s8.s4.2.1 cc.s8.s4.2.2.1 cc.s8.s4.2.2.2.1 cc.s16.1 cc.s16.2.1 (v8 cc.s16.2.2.1 cc.s16.2.2.2.1 cc.s16.s4.1 cc.s16.s4.2.1 cc.s16.s4.2.2.1 cc.s16.s4.2.2.2.1 cc.s16.s8.1 cc.s16.s8.2.1 (v8 cc.s16.s8.2.2.1 cc.s16.s8.2.2.2.1 cc.s16.s8.s4.1 cc.s16.s8.s4.2.1 cc.s16.s8.s4.2.2.1 cc.s16.s8.s4.2.2.2.1 cc.s16.s16.1 cc.s16.s16.2.1 [.vec 2])))) true none), (2, .vec cc.s16.s16.2.2.1 cc.s16.s16.2.2.2.1 1 true), (3, .vec e.1 e.2 3 true)] []))) e)
 cd := fun cc e k => by rcases e with e | e <;> rfl
theorem rb : cF Try.prog 1 jU.la (aK Try.f4 1) :=
 LD.ok (ch := eA) (A := bt) aJ fu mixed (fuel := 60) ⟨by kernel_rfl, fun e => by (rcases e with e | e <;> kernel_rfl), fun cc v => by kernel_rfl, aI (l := []) (by kernel_rfl) trivial⟩
def iV (cs0 : LA_) (n1 : Nat) : Option (Bool) :=
 (cond (decide (((n1 : Nat) : Int) > 60)) (Option.bind (yC) fun r1 => (some true)) (Option.bind (cD cs0 n1) fun r2 => (Option.bind (iS cs0 n1) fun r3 => (cond (r2.2.2.2.2.1 != r3.2) (some false) (cond (r2.2.2.2.2.1 != 0) (cond ((aa r2.1 0) == 0 && ((aa r2.1 1) == 0 && ((aa r2.1 2) == 0 && ((aa r2.1 3) == 0 && ((aa r2.1 4) == 0 && ((aa r2.1 5) == 0 && ((aa r2.1 6) == 0 && ((aa r2.1 7) == 0 && ((aa r2.2.1 0) == 0 && ((aa r2.2.1 1) == 0 && ((aa r2.2.1 2) == 0 && ((aa r2.2.1 3) == 0 && ((aa r2.2.1 4) == 0 && ((aa r2.2.1 5) == 0 && ((aa r2.2.1 6) == 0 && ((aa r2.2.1 7) == 0 && ((aa r2.2.2.1 0) == 0 && ((aa r2.2.2.1 1) == 0 && ((aa r2.2.2.1 2) == 0 && ((aa r2.2.2.1 3) == 0 && ((aa r2.2.2.1 4) == 0 && ((aa r2.2.2.1 5) == 0 && ((aa r2.2.2.1 6) == 0 && ((aa r2.2.2.1 7) == 0 && true)))))))))))))))))))))))) (cond ((aa r2.2.2.2.1 0) == 0 && ((aa r2.2.2.2.1 1) == 0 && ((aa r2.2.2.2.1 2) == 0 && ((aa r2.2.2.2.1 3) == 0 && ((aa r2.2.2.2.1 4) == 0 && ((aa r2.2.2.2.1 5) == 0 && ((aa r2.2.2.2.1 6) == 0 && ((aa r2.2.2.2.1 7) == 0 && true)))))))) (cond (((r2.2.2.2.2.2.2 : Nat) : Int) == 0) (cond (r3.1 == 0) (Option.bind (yC) fun r4 => (some true)) (some false)) (some false)) (some false)) (some false)) (Option.bind (kN (cs0, n1, (aa r2.1 0), (aa r2.1 1), (aa r2.1 2), (aa r2.1 3), (aa r2.1 4), (aa r2.1 5), (aa r2.1 6), (aa r2.1 7), (aa r2.2.1 0), (aa r2.2.1 1), (aa r2.2.1 2), (aa r2.2.1 3), (aa r2.2.1 4), (aa r2.2.1 5), (aa r2.2.1 6), (aa r2.2.1 7), (aa r2.2.2.1 0), (aa r2.2.2.1 1), (aa r2.2.2.1 2), (aa r2.2.2.1 3), (aa r2.2.2.1 4), (aa r2.2.2.1 5), (aa r2.2.2.1 6), (aa r2.2.2.1 7), (aa r2.2.2.2.1 0), (aa r2.2.2.2.1 1), (aa r2.2.2.2.1 2), (aa r2.2.2.2.1 3), (aa r2.2.2.2.1 4), (aa r2.2.2.2.1 5), (aa r2.2.2.2.1 6), (aa r2.2.2.2.1 7), r2.2.2.2.2.2.1, r2.2.2.2.2.2.2, r3.1) 0) (Sum.elim (fun e5 => (some false)) (fun e5 => (Option.bind (kO (cs0, n1, (aa r2.1 0), (aa r2.1 1), (aa r2.1 2), (aa r2.1 3), (aa r2.1 4), (aa r2.1 5), (aa r2.1 6), (aa r2.1 7), (aa r2.2.1 0), (aa r2.2.1 1), (aa r2.2.1 2), (aa r2.2.1 3), (aa r2.2.1 4), (aa r2.2.1 5), (aa r2.2.1 6), (aa r2.2.1 7), (aa r2.2.2.1 0), (aa r2.2.2.1 1), (aa r2.2.2.1 2), (aa r2.2.2.1 3), (aa r2.2.2.1 4), (aa r2.2.2.1 5), (aa r2.2.2.1 6), (aa r2.2.2.1 7), (aa r2.2.2.2.1 0), (aa r2.2.2.2.1 1), (aa r2.2.2.2.1 2), (aa r2.2.2.2.1 3), (aa r2.2.2.2.1 4), (aa r2.2.2.2.1 5), (aa r2.2.2.2.1 6), (aa r2.2.2.2.1 7), r2.2.2.2.2.2.1, r2.2.2.2.2.2.2, r3.1) (([] : LA_), 0, 0)) (Sum.elim (fun e6 => (some false)) (fun e6 => (Option.bind (ay e6.1 e6.2) fun r7 => (Option.bind (dc e6.1 e6.2) fun r8 => (cond (r7.2 == 0) (cond (r7.1 == (IntKind.wrap .i64 (((e6.2 : Nat) : Int) - 1))) (cond (r8.2.2.2.2.1 == 0) (cond ((aa r8.1 0) == (aa r2.1 0) && ((aa r8.1 1) == (aa r2.1 1) && ((aa r8.1 2) == (aa r2.1 2) && ((aa r8.1 3) == (aa r2.1 3) && ((aa r8.1 4) == (aa r2.1 4) && ((aa r8.1 5) == (aa r2.1 5) && ((aa r8.1 6) == (aa r2.1 6) && ((aa r8.1 7) == (aa r2.1 7) && ((aa r8.2.1 0) == (aa r2.2.1 0) && ((aa r8.2.1 1) == (aa r2.2.1 1) && ((aa r8.2.1 2) == (aa r2.2.1 2) && ((aa r8.2.1 3) == (aa r2.2.1 3) && ((aa r8.2.1 4) == (aa r2.2.1 4) && ((aa r8.2.1 5) == (aa r2.2.1 5) && ((aa r8.2.1 6) == (aa r2.2.1 6) && ((aa r8.2.1 7) == (aa r2.2.1 7) && ((aa r8.2.2.1 0) == (aa r2.2.2.1 0) && ((aa r8.2.2.1 1) == (aa r2.2.2.1 1) && ((aa r8.2.2.1 2) == (aa r2.2.2.1 2) && ((aa r8.2.2.1 3) == (aa r2.2.2.1 3) && ((aa r8.2.2.1 4) == (aa r2.2.2.1 4) && ((aa r8.2.2.1 5) == (aa r2.2.2.1 5) && ((aa r8.2.2.1 6) == (aa r2.2.2.1 6) && ((aa r8.2.2.1 7) == (aa r2.2.2.1 7) && true)))))))))))))))))))))))) (cond ((aa r8.2.2.2.1 0) == (aa r2.2.2.2.1 0) && ((aa r8.2.2.2.1 1) == (aa r2.2.2.2.1 1) && ((aa r8.2.2.2.1 2) == (aa r2.2.2.2.1 2) && ((aa r8.2.2.2.1 3) == (aa r2.2.2.2.1 3) && ((aa r8.2.2.2.1 4) == (aa r2.2.2.2.1 4) && ((aa r8.2.2.2.1 5) == (aa r2.2.2.2.1 5) && ((aa r8.2.2.2.1 6) == (aa r2.2.2.2.1 6) && ((aa r8.2.2.2.1 7) == (aa r2.2.2.2.1 7) && true)))))))) (cond (((r8.2.2.2.2.2.2 : Nat) : Int) == ((e6.2 : Nat) : Int)) (cond (decide (r3.1 ≥ 1)) (Option.bind (dU ((n1 : Nat) : Int)) fun r9 => (cond (decide (r3.1 ≤ r9)) (Option.bind (yC) fun r10 => (some true)) (some false))) (some false)) (some false)) (some false)) (some false)) (some false)) (some false)) (some false)))))))))))))))
def lL : FD where
 X := Bool
 k := 1
 pre := []
 F := fun s => [0]
 M := .bool
 B := []
 toL := fun x => [.B x]
 ofL := fun ls => match ls with
  | [.B x0] => some x0
  | _ => none
 au := fun ls x h => by
  split at h
  ·cases h; rfl
  ·cases h
theorem tJ (cs0 : LA_) (n1 : Nat) (x : Bool) (h : iV cs0 n1 = some x) : bc Try.prog 4 1 [.vec 0] [.vec cs0 n1 3 false] lL x :=
 FD.sem (ch := eA) (A := eF [(10, jT.la), (16, jU.la)]) (fn := Try.f4) (c := bq Try.f4) (fuel := 60) aJ fu mixed bG lL Try.func4 (by kernel_rfl) (aI (l := [aK Try.f4 0, aK Try.f4 1]) (by kernel_rfl) ⟨bX (by kernel_rfl) qZ, bX (by kernel_rfl) rb, trivial⟩)
  (by kernel_rfl) (Eq.trans (by kernel_rfl) h)
theorem Sb {N p : Pt} {D : Int} {cs : LA_} {n : Nat} (hN : PtB 240 N) (hD : sm 190 D) (hp : bP p = true) :
  eo (aa N.1 0) (aa N.1 1) (aa N.1 2) (aa N.1 3) (aa N.1 4) (aa N.1 5) (aa N.1 6) (aa N.1 7) (aa N.2.1 0) (aa N.2.1 1) (aa N.2.1 2) (aa N.2.1 3) (aa N.2.1 4) (aa N.2.1 5) (aa N.2.1 6) (aa N.2.1 7) (aa N.2.2 0) (aa N.2.2 1) (aa N.2.2 2) (aa N.2.2 3) (aa N.2.2 4) (aa N.2.2 5) (aa N.2.2 6) (aa N.2.2 7) (aa D 0) (aa D 1) (aa D 2) (aa D 3) (aa D 4) (aa D 5) (aa D 6) (aa D 7) cs n p.1 p.2.1 p.2.2 = some (f8 N D p) := by
 have h := Lv hN hD hp cs n
 unfold mA at h
 exact h
theorem Nr.Lw {l : List Pt} {o : List Nat} {N : Pt} {D : Int} (h : Nr l o N D) (p : Pt) : f8 N D p = true ↔ ae p (bu (pick l o)) < lev l o := by
 have z : Nst (pick l o) (wts (pick l o)).1 (bu (pick l o)) (wts (pick l o)).2 (lev l o) := Nst.of h.own.v.1 h.own.v.2
 exact h.IQ.Lw z.oW z.sq
theorem Nr.Sc {l : List Pt} {o : List Nat} {N : Pt} {D : Int} (h : Nr l o N D) {p : Pt} (hp : p ∈ l) : f8 N D p = false := by
 cases hb : f8 N D p with
 | false => rfl
 | true =>
  have a := (h.Lw p).1 hb
  have b := h.none p hp
  unfold lev at a
  omega
theorem Sd {l : List Pt} {i : Nat} (h : i < l.length) : pat l i ∈ l := by
 unfold pat; rw [List.getD_eq_getElem?_getD, List.getElem?_eq_getElem h]; exact List.getElem_mem h
theorem ND {n : Nat} (h : n ≤ 60) : dU ((n : Nat) : Int) = some ((gY n).length : Int) := by
 have c1 := Hz n
 have c2 := HA n
 have c3 := HB n
 have c4 := Kf n
 have b2 : 2 * ((comb n 2).length : Int) ≤ 3600 := by
  rw [c2]
  rcases Int.le_total 0 ((n : Int) - 1) with q | q
  ·exact Int.le_trans (Int.mul_le_mul (show (n : Int) ≤ 60 by omega) (show (n : Int) - 1 ≤ 60 by omega) q (by decide)) (by decide)
  ·have := Int.mul_nonpos_of_nonneg_of_nonpos (show (0 : Int) ≤ n by omega) q; omega
 have b3 : 6 * ((comb n 3).length : Int) ≤ 216000 := by
  rw [c3, ← c2]
  rcases Int.le_total 0 ((n : Int) - 2) with q | q
  ·exact Int.le_trans (Int.mul_le_mul b2 (show (n : Int) - 2 ≤ 60 by omega) q (by decide)) (by decide)
  ·have := Int.mul_nonpos_of_nonneg_of_nonpos (show (0 : Int) ≤ 2 * ((comb n 2).length : Int) by omega) q; omega
 have b4 : 24 * ((comb n 4).length : Int) ≤ 12960000 := by
  rw [c4, ← c3]
  rcases Int.le_total 0 ((n : Int) - 3) with q | q
  ·exact Int.le_trans (Int.mul_le_mul b3 (show (n : Int) - 3 ≤ 60 by omega) q (by decide)) (by decide)
  ·have := Int.mul_nonpos_of_nonneg_of_nonpos (show (0 : Int) ≤ 6 * ((comb n 3).length : Int) by omega) q; omega
 have w : ∀ {x : Int}, -100 ≤ x → x ≤ 1000000000 → IntKind.wrap .i64 x = x := fun {x} q1 q2 => cf (by omega)
 have t2 : Int.tdiv ((n : Int) * (n - 1)) 2 = ((comb n 2).length : Int) := by rw [← c2]; exact Int.mul_tdiv_cancel_left _ (by decide)
 have t3 : Int.tdiv ((n : Int) * (n - 1) * (n - 2)) 6 = ((comb n 3).length : Int) := by rw [← c3]; exact Int.mul_tdiv_cancel_left _ (by decide)
 have t4 : Int.tdiv ((n : Int) * (n - 1) * (n - 2) * (n - 3)) 24 = ((comb n 4).length : Int) := by rw [← c4]; exact Int.mul_tdiv_cancel_left _ (by decide)
 unfold dU
 rw [w (x := (n : Int) - 1) (by omega) (by omega), w (x := (n : Int) * (n - 1)) (by omega) (by omega), t2, w (x := ((comb n 2).length : Int)) (by omega) (by omega),
  w (x := (n : Int) - 2) (by omega) (by omega), w (x := (n : Int) * (n - 1) * (n - 2)) (by omega) (by omega), t3, w (x := ((comb n 3).length : Int)) (by omega) (by omega),
  w (x := (n : Int) - 3) (by omega) (by omega), w (x := (n : Int) * (n - 1) * (n - 2) * (n - 3)) (by omega) (by omega), t4, w (x := ((comb n 4).length : Int)) (by omega) (by omega),
  w (x := (n : Int) + ((comb n 2).length : Int)) (by omega) (by omega), w (x := (n : Int) + ((comb n 2).length : Int) + ((comb n 3).length : Int)) (by omega) (by omega),
  w (x := (n : Int) + ((comb n 2).length : Int) + ((comb n 3).length : Int) + ((comb n 4).length : Int)) (by omega) (by omega)]
 unfold gY
 simp only [List.length_append, Int.natCast_add, c1]
theorem Se {m : Nat} {ch : List Nat} (h : ch ∈ chs m) : ch.Sublist (List.range m) := by
 have key : ∀ m ≤ 4, ∀ ch ∈ chs m, ch.isSublist (List.range m) = true := by decide
 exact List.isSublist_iff_sublist.1 (key m (HC h).2.2.1 ch h)
theorem Nr.again {l : List Pt} {o ch : List Nat} {N N' : Pt} {D D' : Int} (h : Nr l o N D) (hch : ch ∈ chs (pick l o).length) (hi : ind (pick (pick l o) ch)) (hn : Dz (pick l o) (pick (pick l o) ch))
  (hP : Prim (bu (pick (pick l o) ch)) (wts (pick (pick l o) ch)).2 N' D') : N' = N ∧ D' = D ∧ ch.length = o.length := by
 obtain ⟨c1, c2, c3, c4, c5⟩ := HC hch
 have z : Nst (pick l o) (wts (pick l o)).1 (bu (pick l o)) (wts (pick l o)).2 (lev l o) := Nst.of h.own.v.1 h.own.v.2
 have z' := Nst.of hi hn.1
 have hsub : ∀ p ∈ pick (pick l o) ch, p ∈ pick l o := Qk c5
 have e := Lz z z' z.oW z'.oW hn.2 (fun p hp => Int.le_of_eq (z.lev p (hsub p hp)).symm)
 have hs : (pick (pick l o) ch).Sublist (pick l o) := by
  have := Ql (pick l o)
  generalize pick l o = T at *
  rw [← this]
  conv => lhs; rw [this]
  unfold pick
  refine List.Sublist.map _ ?_
  exact Se hch
 have hl := Qm h.own.v.1 z z' z.oW z'.oW hs e
 rw [mr, mr] at hl
 obtain ⟨e1, e2⟩ := h.IQ.only hP z.oW z'.oW e
 exact ⟨e1.symm, e2.symm, hl⟩
abbrev b36 (l : List Pt) (N : Pt) (D : Int) (o : List Nat) (st : Int) : LA_ × Nat × Int × Int × Int × Int × Int × Int × Int × Int × Int × Int × Int × Int × Int × Int × Int × Int × Int × Int × Int × Int × Int × Int × Int × Int × Int × Int × Int × Int × Int × Int × Int × Int × LA_ × Nat × Int :=
 (pcs l, l.length, aa N.1 0, aa N.1 1, aa N.1 2, aa N.1 3, aa N.1 4, aa N.1 5, aa N.1 6, aa N.1 7, aa N.2.1 0, aa N.2.1 1, aa N.2.1 2, aa N.2.1 3, aa N.2.1 4, aa N.2.1 5, aa N.2.1 6, aa N.2.1 7, aa N.2.2 0, aa N.2.2 1, aa N.2.2 2, aa N.2.2 3, aa N.2.2 4, aa N.2.2 5, aa N.2.2 6, aa N.2.2 7, aa D 0, aa D 1, aa D 2, aa D 3, aa D 4, aa D 5, aa D 6, aa D 7, cj o, o.length, st)
theorem O5 {l : List Pt} {o : List Nat} {N : Pt} {D : Int} (hok : bf l = true) (hl : l.length ≤ 1000) (h : Nr l o N D) (st : Int) :
  kN (b36 l N D o st) 0 = some (.inr ()) := by
 have key : ∀ (n i : Nat), l.length - i = n → i ≤ l.length → iter (dM (b36 l N D o st)) (n + 1) (i : Int) = some (.inr ()) := by
  intro n
  induction n with
  | zero =>
   intro i hn hi
   have he : i = l.length := by omega
   subst he
   refine fB 0 ?_
   simp only [dM, bU, decide_eq_false (show ¬ ((l.length : Int) < ((l.length : Nat) : Int)) by omega), cond_false]
  | succ n ih =>
   intro i hn hi
   have hk : i < l.length := by omega
   have wr : IntKind.wrap .i64 ((i : Int) + 1) = ((i + 1 : Nat) : Int) := by rw [cf (by omega)]; omega
   have hp := Sb (cs := cj o) (n := o.length) h.sN h.sD (fC hok hk)
   rw [h.Sc (Sd hk)] at hp
   refine dm ?_ (ih (i + 1) (by omega) (by omega))
   simp only [dM, bU, decLt hk, fD, cond_true, Bool.and_self, az, gH, pro hk, pg0 hk, pg1 hk, pg2 hk, hp, Option.bind_some, cond_false, wr]
 exact jc (by unfold se; omega) (key l.length 0 (by omega) (by omega))
theorem Qn {l : List Pt} {o : List Nat} {N : Pt} {D : Int} (hb : ∀ x ∈ o, x < l.length) (hr : cW o) (h5 : o.length ≤ 100) (st : Int) :
  kO (b36 l N D o st) ([], 0, 0) = some (.inr (pcs (pick l o), o.length)) := by
 have key : ∀ (n i : Nat), o.length - i = n → i ≤ o.length → iter (cR (b36 l N D o st)) (n + 1) (pcs (pick l (o.take i)), i, (i : Int)) = some (.inr (pcs (pick l o), o.length)) := by
  intro n
  induction n with
  | zero =>
   intro i hn hi
   have he : i = o.length := by omega
   subst he
   refine fB 0 ?_
   simp only [cR, bH, decide_eq_false (show ¬ ((o.length : Int) < ((o.length : Nat) : Int)) by omega), cond_false, List.take_length]
  | succ n ih =>
   intro i hn hi
   have h : i < o.length := by omega
   have wr : IntKind.wrap .i64 ((i : Int) + 1) = ((i + 1 : Nat) : Int) := by rw [cf (by omega)]; omega
   have hk := IP hb h
   have d2 : decide (2 * (i + 1) * 24 ≤ 2 ^ 48) = true := decide_eq_true (by omega)
   have n0 : decide (((o.getD i 0 : Nat) : Int) < 0) = false := decide_eq_false (by omega)
   have n1 : decide (((o.getD i 0 : Nat) : Int) ≥ ((l.length : Nat) : Int)) = false := decide_eq_false (by omega)
   refine dm ?_ (ih (i + 1) (by omega) (by omega))
   by_cases hi0 : i = 0
   ·subst hi0
    have g0 : decide (((0 : Nat) : Int) > 0) = false := rfl
    simp only [cR, bH, decLt h, fD, cond_true, cond_false, Bool.and_self, az, gH, IO h, nig h, n0, n1, g0, decLt hk, pro hk, pg0 hk, pg1 hk, pg2 hk, d2, wr, take_succ h, FV, zk]
    rfl
   ·have g0 : decide (((i : Nat) : Int) > 0) = true := decide_eq_true (by omega)
    have wm : IntKind.wrap .i64 ((i : Int) - 1) = ((i - 1 : Nat) : Int) := by rw [cf (by omega)]; omega
    have h' : i - 1 < o.length := by omega
    have lt : o.getD (i - 1) 0 < o.getD i 0 := by
     rw [List.getD_eq_getElem?_getD, List.getD_eq_getElem?_getD, List.getElem?_eq_getElem h, List.getElem?_eq_getElem h']
     exact List.pairwise_iff_getElem.1 hr (i - 1) i h' h (by omega)
    have n2 : decide (((o.getD (i - 1) 0 : Nat) : Int) ≥ ((o.getD i 0 : Nat) : Int)) = false := decide_eq_false (by omega)
    simp only [cR, bH, decLt h, decLt h', fD, cond_true, cond_false, Bool.and_self, az, gH, IO h, nig h, IO h', nig h', n0, n1, n2, g0, wm, decLt hk, pro hk, pg0 hk, pg1 hk, pg2 hk, d2, wr, take_succ h, FV, zk]
    rfl
 exact jc (by unfold se; omega) (key o.length 0 (by omega) (by omega))
theorem Qo (l : List Pt) : iV (pcs l) l.length = some true := by
 unfold iV
 by_cases hl : l.length > 60
 ·rw [decide_eq_true (show ((l.length : Nat) : Int) > 60 by omega)]; rfl
 rw [decide_eq_false (show ¬ ((l.length : Nat) : Int) > 60 by omega), cond_false]
 by_cases h0 : f9 l = 0
 ·obtain ⟨hok, h1⟩ : bf l = true ∧ 1 ≤ l.length := by
   rcases L8 l with h | h | h | h
   ·rw [h] at h0; cases h0
   ·rw [h] at h0; cases h0
   ·rw [h] at h0; cases h0
   ·exact ⟨h.2.1, h.2.2.1⟩
  obtain ⟨o, N, D, hN, e⟩ := Sf hok h1 (by omega)
  obtain ⟨o', N', D', st, hW, e'⟩ := MD hok h1 (by omega)
  have hst : iS (pcs l) l.length = some (((st : Nat) : Int), 0) := by unfold iS; rw [e']; rfl
  have h4 := hN.own.n4
  have hp4 : (pick l o).length ≤ 4 := by rw [mr]; exact h4
  have hp1 : 1 ≤ (pick l o).length := by rw [mr]; exact hN.own.n1
  have hpo := MB hok hN.own.b
  obtain ⟨ch, hch, N2, D2, e2, hi2, hn2, hP2, _, _⟩ := Lx hpo hp1 hp4
  obtain ⟨a1, a2, a3⟩ := hN.again hch hi2 hn2 hP2
  subst a1 a2
  have hrk : ay (pcs (pick l o)) o.length = some ((o.length : Int) - 1, 0) := by
   have q := zj (l := pick l o) (by omega)
   rw [hpo, cond_true, decide_eq_false (by omega), cond_false, (FT hp1 hp4).2 hN.own.v.1, mr] at q
   exact q
  rw [mr] at e2
  have wr : IntKind.wrap .i64 (((o.length : Nat) : Int) - 1) = ((o.length : Nat) : Int) - 1 := cf (by omega)
  have z0 : ((0 : Int) != 0) = false := rfl
  have z1 : ((0 : Int) == 0) = true := rfl
  have k1 : decide (((st : Nat) : Int) ≥ 1) = true := decide_eq_true (by have := hW.s1; omega)
  have k2 : decide (((st : Nat) : Int) ≤ ((gY l.length).length : Int)) = true := decide_eq_true (by have := hW.sU; omega)
  rw [e, Option.bind_some, hst, Option.bind_some]
  simp only [z0, cond_false]
  have p1 := O5 hok (by omega) hN ((st : Nat) : Int)
  have p2 := Qn (N := N2) (D := D2) hN.own.b hN.own.r (by omega) ((st : Nat) : Int)
  simp only [b36] at p1 p2
  rw [p1]
  simp only [Option.bind_some, Sum.elim_inr]
  rw [p2]
  simp only [Option.bind_some, Sum.elim_inr, hrk, e2, z1, cond_true, wr, beq_self_eq_true, Bool.and_self, Bool.and_true, a3, k1, k2, ND (show l.length ≤ 60 by omega), yC]
 ·have e := NE (show l.length < 4611686018427387904 by omega) h0
  have e' := HF (show l.length < 4611686018427387904 by omega) h0
  have hst : iS (pcs l) l.length = some (0, f9 l) := by unfold iS; rw [e']; rfl
  have z0 : (f9 l != f9 l) = false := by simp
  have z1 : (f9 l != 0) = true := by simpa using h0
  rw [e, Option.bind_some, hst, Option.bind_some]
  simp only [z0, z1, cond_false, cond_true, fc, yC, Option.bind_some]
  rfl
end Go.Ev
