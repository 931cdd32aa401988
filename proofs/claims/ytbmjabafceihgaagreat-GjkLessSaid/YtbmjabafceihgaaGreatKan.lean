import Derived.Test.YtbmjabafceihgaaGreatKam
set_option linter.unusedVariables false
set_option linter.unusedSimpArgs false
set_option maxRecDepth 100000
noncomputable section
namespace Go.Ev
open Go.Proofs
abbrev jg := LA_ × Nat × Int × Int × Int × LA_ × Nat × Int × Int × Int
abbrev jh := LA_ × Nat × LA_ × Nat × Int × Int
abbrev ji := LA_ × Nat × LA_ × Nat × Int
def lr : CH := (CH.add 20 vO CH.none)
theorem kI : aE Tryz.prog lr := (CH.aj Cr CH.aC)
def jY {R : Type} (cc : jh) (v : Int) (kn : (Int) → Option R) (ke : ((Int) ⊕ (Unit)) → Option R) : Option R :=
 (cond (decide (v < 3)) (let l3 := ([.int .i64 7, .int .i64 3, .int .i64 2] : LA_); (ag (decide (0 ≤ v) && decide (v < ((3 : Nat) : Int)) && an [.int .i64] l3 (Int.toNat v * 1)) (cond (cc.2.2.2.2.1 == (ac l3 ((Int.toNat v * 1) + 0))) (ke (.inl (ac l3 ((Int.toNat v * 1) + 0)))) (cond (cc.2.2.2.2.2 == (ac l3 ((Int.toNat v * 1) + 0))) (ke (.inl (ac l3 ((Int.toNat v * 1) + 0)))) (kn (IntKind.wrap .i64 (v + 1))))))) (ke (.inr ())))
def fH (cc : jh) (v : Int) : Option ((Int) ⊕ ((Int) ⊕ (Unit))) := jY cc v (fun v => some (Sum.inl v)) fun e => some (Sum.inr e)
def Cs (cc : jh) (v : Int) : Option ((Int) ⊕ (Unit)) := dA (fH cc) v
def Gd (cc : jh) (v : Int) : List ai := [.I cc.s4.1, .I cc.s4.2, .I v, .C cc.1, .N cc.2.1, .C cc.2.2.1, .N cc.2.2.2.1]
def wx (ls : List ai) : Option ((jh) × (Int)) := match ls with
 | [.I x0, .I x1, .I x2, .C x3, .N x4, .C x5, .N x6] => some ((x3, x4, x5, x6, x0, x1), x2)
 | _ => none
def wy (e : (Int) ⊕ (Unit)) : am := ((Sum.elim (fun e => .ret) (fun e => .exit 0)) e)
def wz (cc : jh) (e : (Int) ⊕ (Unit)) : List ai := ((Sum.elim (fun e => [.I e]) (fun e => [.C cc.1, .N cc.2.1, .C cc.2.2.1, .N cc.2.2.2.1])) e)
def ov (cc : jh) (e : (Int) ⊕ (Unit)) : List ai := ((Sum.elim (fun e => []) (fun e => [.C cc.1, .N cc.2.1, .C cc.2.2.1, .N cc.2.2.2.1])) e)
def pC (o : am) (ls : List ai) : Option (((Int) ⊕ (Unit)) × List ai) := match o with
 | .ret => (match ls with
  | [.I x0] => some ((.inl x0), [])
  | _ => none)
 | .exit 0 => (match ls with
  | [.C x0, .N x1, .C x2, .N x3] => some ((.inr ()), [.C x0, .N x1, .C x2, .N x3])
  | _ => none)
 | _ => none
theorem CF : ∀ o ls e cl cc, pC o ls = some (e, cl) → cl = ov cc e → ls = wz cc e ∧ wy e = o ∧ o ≠ .normal ∧ ∀ v, o = .pan v → sc 0 v = true := by
 intro o ls e cl cc h hc
 unfold pC at h
 split at h
 ·split at h
  ·cases h
   exact ⟨rfl, rfl, by simp, by intro v hv; cases hv <;> rfl⟩
  ·cases h
 ·split at h
  ·cases h
   simp only [ov, Sum.elim_inl, Sum.elim_inr, List.cons.injEq, ai.N.injEq, ai.C.injEq, and_true] at hc
   obtain ⟨rfl, rfl, rfl, rfl⟩ := hc
   exact ⟨rfl, rfl, by simp, by intro v hv; cases hv <;> rfl⟩
  ·cases h
 ·cases h
def HN (o : am) : ExS := match o with
 | .ret => ⟨2, (none :: none :: none :: none :: some (.aO) :: some (.int .i64) :: (rl none 73 [])), [], fun s => [0, 1], [], []⟩
 | .exit 0 => ⟨2, (some (.vec 0) :: some (.vec 1) :: (rl none 77 [])), [(0, .vec 3 false), (1, .vec 3 false)], fun s => [0, 1], [], []⟩
 | _ => ⟨0, [], [], fun _ => [], [], []⟩
theorem Ge {R : Type} (cc : jh) (v : Int) (kn : (Int) → Option R) (ke : ((Int) ⊕ (Unit)) → Option R) : jY cc v kn ke = (jY cc v (fun v => some (Sum.inl v)) fun e => some (Sum.inr e)).bind (Sum.elim kn ke) := by
 simp only [jY, bF, ax, Option.bind_assoc, bY, bB, Option.bind_some, Option.bind_none, Sum.elim_inl, Sum.elim_inr]
def zW : LD where
 CC := jh
 V := Int
 E := (Int) ⊕ (Unit)
 n := 2
 K := 2
 M := (some (.vec 0) :: some (.vec 1) :: none :: none :: none :: none :: some (.int .i64) :: some (.int .i64) :: (rl none 12 (some (.agg [.fG .i64 7, .fG .i64 3, .fG .i64 2]) :: some (.int .i64) :: (rl none 57 []))))
 B := [(0, .vec 3 false), (1, .vec 3 false)]
 D := []
 pre := []
 F := fun s => [0, 1]
 toL := Gd
 ofL := wx
 au := fun ls c v h => by
  unfold wx at h
  split at h
  ·cases h; rfl
  ·cases h
 cj := jY
 nat := Ge
 sh := HN
 out := wy
 toE := wz
 eV := ov
 ofE := pC
 cO := CF
 post := fun cc e k => ((Sum.elim (fun e => k (.ret) (aV 2 (none :: none :: none :: none :: some (.aO) :: some (.int .i64 e) :: (rl none 73 [])) [] [])) (fun e => k (.exit 0) (aV 2 (some (.vec 0) :: some (.vec 1) :: (rl none 77 [])) [(0, .vec cc.1 cc.2.1 3 false), (1, .vec cc.2.2.1 cc.2.2.2.1 3 false)] []))) e)
 cd := fun cc e k => by rcases e with e | e <;> rfl
theorem Gf : cG Tryz.prog 2 zW.la (aK Tryz.f6 0) :=
 LD.ok (ch := lr) (A := bu) aL kI mixed (fuel := 60) ⟨by kernel_rfl, fun e => by (rcases e with e | e <;> kernel_rfl), fun cc v => by kernel_rfl, aJ (l := []) (by kernel_rfl) trivial⟩
def eW {R : Type} (cc : jg) (v : LA_ × Nat × Int) (kn : (LA_ × Nat × Int) → Option R) (ke : ((LA_ × Nat)) → Option R) : Option R :=
 (cond (decide (v.2.2 < cc.2.2.2.2.2.2.2.2.2)) (ag (decide (0 ≤ v.2.2) && decide (v.2.2 < ((cc.2.1 : Nat) : Int))) (ag (an ln cc.1 (Int.toNat v.2.2 * 3)) (ag (decide (2 * (v.2.1 + 1) * 24 ≤ 2 ^ 48)) (kn ((v.1 ++ [.int .i64 (IntKind.wrap .i64 (cc.2.2.1 - (ac cc.1 ((Int.toNat v.2.2 * 3) + 0)))), .int .i64 (IntKind.wrap .i64 (cc.2.2.2.1 - (ac cc.1 ((Int.toNat v.2.2 * 3) + 1)))), .int .i64 (IntKind.wrap .i64 (cc.2.2.2.2.1 - (ac cc.1 ((Int.toNat v.2.2 * 3) + 2))))]), (v.2.1 + 1), (IntKind.wrap .i64 (v.2.2 + 1))))))) (ke (v.1, v.2.1)))
def mh (cc : jg) (v : LA_ × Nat × Int) : Option ((LA_ × Nat × Int) ⊕ ((LA_ × Nat))) := eW cc v (fun v => some (Sum.inl v)) fun e => some (Sum.inr e)
def zX (cc : jg) (v : LA_ × Nat × Int) : Option ((LA_ × Nat)) := dA (mh cc) v
def Fh (cc : jg) (v : LA_ × Nat × Int) : List ai := [.I cc.s4.2.2.2.1, .I cc.s8.1, .I cc.s8.2, .I v.2.2, .C cc.1, .N cc.2.1, .C v.1, .N v.2.1, .I cc.2.2.1, .I cc.2.2.2.1, .I cc.s4.1, .C cc.s4.2.1, .N cc.s4.2.2.1]
def vk (ls : List ai) : Option ((jg) × (LA_ × Nat × Int)) := match ls with
 | [.I x0, .I x1, .I x2, .I x3, .C x4, .N x5, .C x6, .N x7, .I x8, .I x9, .I x10, .C x11, .N x12] => some ((x4, x5, x8, x9, x10, x11, x12, x0, x1, x2), (x6, x7, x3))
 | _ => none
def vl (e : (LA_ × Nat)) : am := ((fun e => .exit 4) e)
def vm (cc : jg) (e : (LA_ × Nat)) : List ai := ((fun e => [.I cc.s4.2.2.2.1, .I cc.s8.1, .C cc.1, .N cc.2.1, .C e.1, .N e.2, .C cc.s4.2.1, .N cc.s4.2.2.1]) e)
def mD (cc : jg) (e : (LA_ × Nat)) : List ai := ((fun e => [.I cc.s4.2.2.2.1, .I cc.s8.1, .C cc.1, .N cc.2.1, .C cc.s4.2.1, .N cc.s4.2.2.1]) e)
def oy (o : am) (ls : List ai) : Option (((LA_ × Nat)) × List ai) := match o with
 | .exit 4 => (match ls with
  | [.I x0, .I x1, .C x2, .N x3, .C x4, .N x5, .C x6, .N x7] => some ((x4, x5), [.I x0, .I x1, .C x2, .N x3, .C x6, .N x7])
  | _ => none)
 | _ => none
theorem AX : ∀ o ls e cl cc, oy o ls = some (e, cl) → cl = mD cc e → ls = vm cc e ∧ vl e = o ∧ o ≠ .normal ∧ ∀ v, o = .pan v → sc 0 v = true := by
 intro o ls e cl cc h hc
 unfold oy at h
 split at h
 ·split at h
  ·cases h
   simp only [mD, List.cons.injEq, ai.I.injEq, ai.N.injEq, ai.C.injEq, and_true] at hc
   obtain ⟨rfl, rfl, rfl, rfl, rfl, rfl⟩ := hc
   exact ⟨rfl, rfl, by simp, by intro v hv; cases hv <;> rfl⟩
  ·cases h
 ·cases h
def Gg (o : am) : ExS := match o with
 | .exit 4 => ⟨3, (none :: some (.vec 1) :: (rl none 8 (some (.vec 2) :: (rl none 29 (some (.vec 0) :: some (.int .i64) :: some (.int .i64) :: (rl none 36 [])))))), [(1, .vec 3 false), (2, .vec 3 true), (0, .vec 3 false)], fun s => [0, 1, nameAt s 10 []], [], []⟩
 | _ => ⟨0, [], [], fun _ => [], [], []⟩
theorem Fi {R : Type} (cc : jg) (v : LA_ × Nat × Int) (kn : (LA_ × Nat × Int) → Option R) (ke : ((LA_ × Nat)) → Option R) : eW cc v kn ke = (eW cc v (fun v => some (Sum.inl v)) fun e => some (Sum.inr e)).bind (Sum.elim kn ke) := by
 simp only [eW, bF, ax, Option.bind_assoc, bY, bB, Option.bind_some, Option.bind_none, Sum.elim_inl, Sum.elim_inr]
def qF : LD where
 CC := jg
 V := LA_ × Nat × Int
 E := (LA_ × Nat)
 n := 2
 K := 4
 M := (none :: some (.vec 1) :: (rl none 8 (some (.vec 2) :: none :: some (.ptr 3 0) :: (rl none 27 (some (.vec 0) :: some (.int .i64) :: some (.int .i64) :: none :: none :: none :: some (.vec 1) :: some (.int .i64) :: some (.int .i64) :: (rl none 30 []))))))
 B := [(1, .vec 3 false), (2, .vec 3 true), (3, .cells [.int .i64, .int .i64, .int .i64] true none), (0, .vec 3 false)]
 D := []
 pre := []
 F := fun s => [0, 1, nameAt s 10 [], nameAt s 12 []]
 toL := Fh
 ofL := vk
 au := fun ls c v h => by
  unfold vk at h
  split at h
  ·cases h; rfl
  ·cases h
 cj := eW
 nat := Fi
 sh := Gg
 out := vl
 toE := vm
 eV := mD
 ofE := oy
 cO := AX
 post := fun cc e k => ((fun e => k (.exit 4) (aV 3 (none :: some (.vec 1) :: (rl none 8 (some (.vec 2) :: (rl none 29 (some (.vec 0) :: some (.int .i64 cc.s4.2.2.2.1) :: some (.int .i64 cc.s8.1) :: (rl none 36 [])))))) [(1, .vec cc.1 cc.2.1 3 false), (2, .vec e.1 e.2 3 true), (0, .vec cc.s4.2.1 cc.s4.2.2.1 3 false)] [])) e)
 cd := fun cc e k => by rfl
theorem vn : cG Tryz.prog 2 qF.la (aK Tryz.f6 2) :=
 LD.ok (ch := lr) (A := bu) aL kI mixed (fuel := 60) ⟨by kernel_rfl, fun e => by kernel_rfl, fun cc v => by kernel_rfl, aJ (l := []) (by kernel_rfl) trivial⟩
def eX {R : Type} (cc : ji) (v : LA_ × Nat × Int) (kn : (LA_ × Nat × Int) → Option R) (ke : ((LA_ × Nat)) → Option R) : Option R :=
 (cond (decide (v.2.2 < cc.2.2.2.2)) (ag (decide (0 ≤ v.2.2) && decide (v.2.2 < ((cc.2.2.2.1 : Nat) : Int))) (ag (an ln cc.2.2.1 (Int.toNat v.2.2 * 3)) (Option.bind (zX (cc.1, cc.2.1, (ac cc.2.2.1 ((Int.toNat v.2.2 * 3) + 0)), (ac cc.2.2.1 ((Int.toNat v.2.2 * 3) + 1)), (ac cc.2.2.1 ((Int.toNat v.2.2 * 3) + 2)), cc.2.2.1, cc.2.2.2.1, cc.2.2.2.2, v.2.2, ((cc.2.1 : Nat) : Int)) (v.1, v.2.1, 0)) fun e5 => (kn (e5.1, e5.2, (IntKind.wrap .i64 (v.2.2 + 1))))))) (ke (v.1, v.2.1)))
def mj (cc : ji) (v : LA_ × Nat × Int) : Option ((LA_ × Nat × Int) ⊕ ((LA_ × Nat))) := eX cc v (fun v => some (Sum.inl v)) fun e => some (Sum.inr e)
def zY (cc : ji) (v : LA_ × Nat × Int) : Option ((LA_ × Nat)) := dA (mj cc) v
def Fj (cc : ji) (v : LA_ × Nat × Int) : List ai := [.I cc.s4, .I v.2.2, .C cc.1, .N cc.2.1, .C v.1, .N v.2.1, .C cc.2.2.1, .N cc.2.2.2.1]
def vo (ls : List ai) : Option ((ji) × (LA_ × Nat × Int)) := match ls with
 | [.I x0, .I x1, .C x2, .N x3, .C x4, .N x5, .C x6, .N x7] => some ((x2, x3, x6, x7, x0), (x4, x5, x1))
 | _ => none
def vp (e : (LA_ × Nat)) : am := ((fun e => .exit 2) e)
def vq (cc : ji) (e : (LA_ × Nat)) : List ai := ((fun e => [.C e.1, .N e.2]) e)
def tQ (cc : ji) (e : (LA_ × Nat)) : List ai := ((fun e => []) e)
def oz (o : am) (ls : List ai) : Option (((LA_ × Nat)) × List ai) := match o with
 | .exit 2 => (match ls with
  | [.C x0, .N x1] => some ((x0, x1), [])
  | _ => none)
 | _ => none
theorem AY : ∀ o ls e cl cc, oz o ls = some (e, cl) → cl = tQ cc e → ls = vq cc e ∧ vp e = o ∧ o ≠ .normal ∧ ∀ v, o = .pan v → sc 0 v = true := by
 intro o ls e cl cc h hc
 unfold oz at h
 split at h
 ·split at h
  ·cases h
   exact ⟨rfl, rfl, by simp, by intro v hv; cases hv <;> rfl⟩
  ·cases h
 ·cases h
def Gh (o : am) : ExS := match o with
 | .exit 2 => ⟨3, (rl none 10 (some (.vec 2) :: (rl none 68 []))), [(2, .vec 3 true)], fun s => [0, 1, nameAt s 10 []], [], []⟩
 | _ => ⟨0, [], [], fun _ => [], [], []⟩
theorem Fk {R : Type} (cc : ji) (v : LA_ × Nat × Int) (kn : (LA_ × Nat × Int) → Option R) (ke : ((LA_ × Nat)) → Option R) : eX cc v kn ke = (eX cc v (fun v => some (Sum.inl v)) fun e => some (Sum.inr e)).bind (Sum.elim kn ke) := by
 simp only [eX, bF, ax, Option.bind_assoc, bY, bB, Option.bind_some, Option.bind_none, Sum.elim_inl, Sum.elim_inr]
def yu : LD where
 CC := ji
 V := LA_ × Nat × Int
 E := (LA_ × Nat)
 n := 2
 K := 3
 M := (none :: some (.vec 1) :: (rl none 8 (some (.vec 2) :: (rl none 29 (some (.vec 0) :: some (.int .i64) :: some (.int .i64) :: (rl none 36 []))))))
 B := [(1, .vec 3 false), (2, .vec 3 true), (0, .vec 3 false)]
 D := []
 pre := [(10, 3)]
 F := fun s => [0, 1, nameAt s 10 []]
 toL := Fj
 ofL := vo
 au := fun ls c v h => by
  unfold vo at h
  split at h
  ·cases h; rfl
  ·cases h
 cj := eX
 nat := Fk
 sh := Gh
 out := vp
 toE := vq
 eV := tQ
 ofE := oz
 cO := AY
 post := fun cc e k => ((fun e => k (.exit 2) (aV 3 (rl none 10 (some (.vec 2) :: (rl none 68 []))) [(2, .vec e.1 e.2 3 true)] [])) e)
 cd := fun cc e k => by rfl
theorem Fl : cG Tryz.prog 2 yu.la (aK Tryz.f6 1) :=
 LD.ok (ch := lr) (A := dW [(15, qF.la)]) aL kI mixed (fuel := 60) ⟨by kernel_rfl, fun e => by kernel_rfl, fun cc v => by kernel_rfl, aJ (l := [aK Tryz.f6 2]) (by kernel_rfl) ⟨bR (by kernel_rfl) vn, trivial⟩⟩
def nB (cs0 : LA_) (n1 : Nat) (cs2 : LA_) (n3 : Nat) : Option (Int × LA_ × Nat) :=
 (Option.bind (jf cs0 n1) fun r1 => (Option.bind (jf cs2 n3) fun r2 => (Option.bind (Cs (cs0, n1, cs2, n3, r1, r2) 0) (Sum.elim (fun e3 => (some (e3, ([] : LA_), 0))) (fun e3 => (cond (decide ((IntKind.wrap .i64 (((n1 : Nat) : Int) * ((n3 : Nat) : Int))) > 256)) (some (3, ([] : LA_), 0)) (Option.bind (zY (cs2, n3, cs0, n1, ((n1 : Nat) : Int)) (([] : LA_), 0, 0)) fun e4 => (Option.bind (jf e4.1 e4.2) fun r5 => (cond (r5 != 0) (some (r5, ([] : LA_), 0)) (some (0, e4.1, e4.2)))))))))))
def qG : FD where
 X := Int × LA_ × Nat
 k := 2
 pre := [(4, 3)]
 F := fun s => [0, 1, nameAt s 0 [.c 0]]
 M := .tup [.vec 2, .int .i64]
 B := [.vec 3 true]
 toL := fun x => [.I x.1, .C x.2.1, .N x.2.2]
 ofL := fun ls => match ls with
  | [.I x0, .C x1, .N x2] => some (x0, x1, x2)
  | _ => none
 au := fun ls x h => by
  split at h
  ·cases h; rfl
  ·cases h
theorem I7 (cs0 : LA_) (n1 : Nat) (cs2 : LA_) (n3 : Nat) (x : Int × LA_ × Nat) (h : nB cs0 n1 cs2 n3 = some x) : aX Tryz.prog 6 2 [.vec 0, .vec 1] [.vec cs0 n1 3 false, .vec cs2 n3 3 false] qG x :=
 FD.sem (ch := lr) (A := dW [(3, zW.la), (15, qF.la), (12, yu.la)]) (fn := Tryz.f6) (c := bq Tryz.f6) (fuel := 60) aL kI mixed bE qG Tryz.func6 (by kernel_rfl) (aJ (l := [aK Tryz.f6 0, aK Tryz.f6 1, aK Tryz.f6 2]) (by kernel_rfl) ⟨bR (by kernel_rfl) Gf, bR (by kernel_rfl) Fl, bR (by kernel_rfl) vn, trivial⟩)
  (by kernel_rfl) (Eq.trans (by kernel_rfl) h)
def vN : HK where
 call := fun args σ k => match args with
  | [x0, x1] => cr σ 3 x0 fun cs0 n1 => cr σ 3 x1 fun cs2 n3 => Option.bind (nB cs0 n1 cs2 n3) fun y => az σ 2 (qG.val y) (qG.aN y) k
  | _ => none
 nat := fun args σ k => by
  repeat' split
  all_goals simp only [aw, ax, Option.bind_assoc, Option.bind_none, az, Option.bind_some]
 pure := false
 pok := fun h => by cases h
theorem Cp : aT Tryz.prog 6 vN := by
 intro args σ r σ' h
 simp only [vN] at h
 split at h
 ·rename_i x0 x1
  obtain ⟨cs0, n1, he0, hf0, h⟩ := bf h
  obtain ⟨cs2, n3, he1, hf1, h⟩ := bf h
  obtain ⟨y, hy, h⟩ := bE_ h
  exact lifted (xs := [x0, x1]) (ls := [.vec cs0 n1 3 false, .vec cs2 n3 3 false]) (cargs := [.vec 0, .vec 1]) (bt.of ⟨⟨rfl, he0, hf0, by decide⟩, ⟨rfl, he1, hf1, by decide⟩, trivial⟩) rfl (I7 cs0 n1 cs2 n3 y hy) rfl rfl rfl rfl h
 ·cases h
def Ae : CH := CH.none
theorem wW : aE Tryz.prog Ae := CH.aC
def dE (a0 : Int) : Option (Bool) :=
 (cond (decide (a0 ≥ (-268435456))) (cond (decide (a0 ≤ 268435456)) (some true) (some false)) (some false))
def gW : FD where
 X := Bool
 k := 0
 pre := []
 F := fun s => []
 M := .bool
 B := []
 toL := fun x => [.B x]
 ofL := fun ls => match ls with
  | [.B x0] => some x0
  | _ => none
 au := fun ls x h => by
  split at h
  ·cases h; rfl
  ·cases h
theorem zi (a0 : Int) (x : Bool) (h : dE a0 = some x) : aX Tryz.prog 32 0 [.int .i64 a0] [] gW x :=
 FD.semA gW wW Tryz.func32 (fuel := 60) (by kernel_rfl) (by kernel_rfl)
  (by kernel_rfl) (Eq.trans (by kernel_rfl) h)
def mN : HK where
 call := fun args σ k => match args with
  | [.int .i64 a0] => Option.bind (dE a0) fun y => az σ 0 (gW.val y) (gW.aN y) k
  | _ => none
 nat := fun args σ k => by
  repeat' split
  all_goals simp only [aw, ax, Option.bind_assoc, Option.bind_none, az, Option.bind_some]
 pure := true
 pok := fun _ args σ r σ' h => by
  split at h
  ·exact bm h (fun y => rfl) (fun y f => rfl)
  ·cases h
theorem Ad : aT Tryz.prog 32 mN := by
 intro args σ r σ' h
 simp only [mN] at h
 split at h
 ·rename_i a0
  obtain ⟨y, hy, h⟩ := bE_ h
  exact lifted (xs := []) (ls := []) (cargs := [.int .i64 a0]) (bt.of trivial) rfl (zi a0 y hy) rfl rfl rfl rfl h
 ·cases h
def xT : CH := (CH.add 32 mN CH.none)
theorem uJ : aE Tryz.prog xT := (CH.aj Ad CH.aC)
def dO (a0 a1 a2 : Int) : Option (Int) :=
 (Option.bind (dE a0) fun r1 => (cond r1 (Option.bind (dE a1) fun r2 => (cond r2 (Option.bind (dE a2) fun r3 => (cond r3 (some 0) (some 7))) (some 7))) (some 7)))
def fU : FD where
 X := Int
 k := 0
 pre := []
 F := fun s => []
 M := .int .i64
 B := []
 toL := fun x => [.I x]
 ofL := fun ls => match ls with
  | [.I x0] => some x0
  | _ => none
 au := fun ls x h => by
  split at h
  ·cases h; rfl
  ·cases h
theorem wV (a0 a1 a2 x : Int) (h : dO a0 a1 a2 = some x) : aX Tryz.prog 23 0 [.agg [.int .i64 a0, .int .i64 a1, .int .i64 a2]] [] fU x :=
 FD.semA fU uJ Tryz.func23 (fuel := 60) (by kernel_rfl) (by kernel_rfl)
  (by kernel_rfl) (Eq.trans (by kernel_rfl) h)
def gV : HK where
 call := fun args σ k => match args with
  | [.agg [.int .i64 a0, .int .i64 a1, .int .i64 a2]] => Option.bind (dO a0 a1 a2) fun y => az σ 0 (fU.val y) (fU.aN y) k
  | _ => none
 nat := fun args σ k => by
  repeat' split
  all_goals simp only [aw, ax, Option.bind_assoc, Option.bind_none, az, Option.bind_some]
 pure := true
 pok := fun _ args σ r σ' h => by
  split at h
  ·exact bm h (fun y => rfl) (fun y f => rfl)
  ·cases h
theorem nZ : aT Tryz.prog 23 gV := by
 intro args σ r σ' h
 simp only [gV] at h
 split at h
 ·rename_i a0 a1 a2
  obtain ⟨y, hy, h⟩ := bE_ h
  exact lifted (xs := []) (ls := []) (cargs := [.agg [.int .i64 a0, .int .i64 a1, .int .i64 a2]]) (bt.of trivial) rfl (wV a0 a1 a2 y hy) rfl rfl rfl rfl h
 ·cases h
def zk : CH := CH.none
theorem vV : aE Tryz.prog zk := CH.aC
def iI (a0 a1 a2 a3 a4 a5 : Int) : Option (Int × Int × Int) :=
 (some ((IntKind.wrap .i64 (a0 - a3)), (IntKind.wrap .i64 (a1 - a4)), (IntKind.wrap .i64 (a2 - a5))))
def gv : FD where
 X := Int × Int × Int
 k := 0
 pre := []
 F := fun s => []
 M := .agg [.int .i64, .int .i64, .int .i64]
 B := []
 toL := fun x => [.I x.1, .I x.2.1, .I x.2.2]
 ofL := fun ls => match ls with
  | [.I x0, .I x1, .I x2] => some (x0, x1, x2)
  | _ => none
 au := fun ls x h => by
  split at h
  ·cases h; rfl
  ·cases h
theorem xV (a0 a1 a2 a3 a4 a5 : Int) (x : Int × Int × Int) (h : iI a0 a1 a2 a3 a4 a5 = some x) : aX Tryz.prog 22 0 [.agg [.int .i64 a0, .int .i64 a1, .int .i64 a2], .agg [.int .i64 a3, .int .i64 a4, .int .i64 a5]] [] gv x :=
 FD.semA gv vV Tryz.func22 (fuel := 60) (by kernel_rfl) (by kernel_rfl)
  (by kernel_rfl) (Eq.trans (by kernel_rfl) h)
def lW : HK where
 call := fun args σ k => match args with
  | [.agg [.int .i64 a0, .int .i64 a1, .int .i64 a2], .agg [.int .i64 a3, .int .i64 a4, .int .i64 a5]] => Option.bind (iI a0 a1 a2 a3 a4 a5) fun y => az σ 0 (gv.val y) (gv.aN y) k
  | _ => none
 nat := fun args σ k => by
  repeat' split
  all_goals simp only [aw, ax, Option.bind_assoc, Option.bind_none, az, Option.bind_some]
 pure := true
 pok := fun _ args σ r σ' h => by
  split at h
  ·exact bm h (fun y => rfl) (fun y f => rfl)
  ·cases h
theorem zm : aT Tryz.prog 22 lW := by
 intro args σ r σ' h
 simp only [lW] at h
 split at h
 ·rename_i a0 a1 a2 a3 a4 a5
  obtain ⟨y, hy, h⟩ := bE_ h
  exact lifted (xs := []) (ls := []) (cargs := [.agg [.int .i64 a0, .int .i64 a1, .int .i64 a2], .agg [.int .i64 a3, .int .i64 a4, .int .i64 a5]]) (bt.of trivial) rfl (xV a0 a1 a2 a3 a4 a5 y hy) rfl rfl rfl rfl h
 ·cases h
def jC : CH := (CH.add 23 gV CH.none)
theorem mo : aE Tryz.prog jC := (CH.aj nZ CH.aC)
def cz {R : Type} (cc : LA_ × Nat) (v : Int) (kn : (Int) → Option R) (ke : ((Unit) ⊕ (Unit)) → Option R) : Option R :=
 (cond (decide (v < ((cc.2 : Nat) : Int))) (ag (decide (0 ≤ v) && decide (v < ((cc.2 : Nat) : Int))) (ag (an ln cc.1 (Int.toNat v * 3)) (Option.bind (dO (ac cc.1 ((Int.toNat v * 3) + 0)) (ac cc.1 ((Int.toNat v * 3) + 1)) (ac cc.1 ((Int.toNat v * 3) + 2))) fun r1 => (cond (r1 != 0) (ke (.inl ())) (kn (IntKind.wrap .i64 (v + 1))))))) (ke (.inr ())))
def dX (cc : LA_ × Nat) (v : Int) : Option ((Int) ⊕ ((Unit) ⊕ (Unit))) := cz cc v (fun v => some (Sum.inl v)) fun e => some (Sum.inr e)
def oT (cc : LA_ × Nat) (v : Int) : Option ((Unit) ⊕ (Unit)) := dA (dX cc) v
def vS (cc : LA_ × Nat) (v : Int) : List ai := [.I v, .C cc.1, .N cc.2]
def mr (ls : List ai) : Option ((LA_ × Nat) × (Int)) := match ls with
 | [.I x0, .C x1, .N x2] => some ((x1, x2), x0)
 | _ => none
def mt (e : (Unit) ⊕ (Unit)) : am := ((Sum.elim (fun e => .ret) (fun e => .exit 0)) e)
def mu (cc : LA_ × Nat) (e : (Unit) ⊕ (Unit)) : List ai := ((Sum.elim (fun e => []) (fun e => [])) e)
def lx (cc : LA_ × Nat) (e : (Unit) ⊕ (Unit)) : List ai := ((Sum.elim (fun e => []) (fun e => [])) e)
def gX (o : am) (ls : List ai) : Option (((Unit) ⊕ (Unit)) × List ai) := match o with
 | .ret => (match ls with
  | [] => some ((.inl ()), [])
  | _ => none)
 | .exit 0 => (match ls with
  | [] => some ((.inr ()), [])
  | _ => none)
 | _ => none
theorem sY : ∀ o ls e cl cc, gX o ls = some (e, cl) → cl = lx cc e → ls = mu cc e ∧ mt e = o ∧ o ≠ .normal ∧ ∀ v, o = .pan v → sc 0 v = true := by
 intro o ls e cl cc h hc
 unfold gX at h
 split at h
 ·split at h
  ·cases h
   exact ⟨rfl, rfl, by simp, by intro v hv; cases hv <;> rfl⟩
  ·cases h
 ·split at h
  ·cases h
   exact ⟨rfl, rfl, by simp, by intro v hv; cases hv <;> rfl⟩
  ·cases h
 ·cases h
def wX (o : am) : ExS := match o with
 | .ret => ⟨1, (none :: none :: some (.qS false) :: (rl none 13 [])), [], fun s => [0], [], []⟩
 | .exit 0 => ⟨1, (rl none 16 []), [], fun s => [0], [], []⟩
 | _ => ⟨0, [], [], fun _ => [], [], []⟩
theorem vT {R : Type} (cc : LA_ × Nat) (v : Int) (kn : (Int) → Option R) (ke : ((Unit) ⊕ (Unit)) → Option R) : cz cc v kn ke = (cz cc v (fun v => some (Sum.inl v)) fun e => some (Sum.inr e)).bind (Sum.elim kn ke) := by
 simp only [cz, bF, ax, Option.bind_assoc, bY, bB, Option.bind_some, Option.bind_none, Sum.elim_inl, Sum.elim_inr]
def n7 : LD where
 CC := LA_ × Nat
 V := Int
 E := (Unit) ⊕ (Unit)
 n := 1
 K := 1
 M := (some (.vec 0) :: none :: none :: some (.int .i64) :: (rl none 12 []))
 B := [(0, .vec 3 false)]
 D := []
 pre := []
 F := fun s => [0]
 toL := vS
 ofL := mr
 au := fun ls c v h => by
  unfold mr at h
  split at h
  ·cases h; rfl
  ·cases h
 cj := cz
 nat := vT
 sh := wX
 out := mt
 toE := mu
 eV := lx
 ofE := gX
 cO := sY
 post := fun cc e k => ((Sum.elim (fun e => k (.ret) (aV 1 (none :: none :: some (.bool false) :: (rl none 13 [])) [] [])) (fun e => k (.exit 0) (aV 1 (rl none 16 []) [] []))) e)
 cd := fun cc e k => by rcases e with e | e <;> rfl
theorem vU : cG Tryz.prog 1 n7.la (aK Tryz.f31 0) :=
 LD.ok (ch := jC) (A := bu) aL mo mixed (fuel := 60) ⟨by kernel_rfl, fun e => by (rcases e with e | e <;> kernel_rfl), fun cc v => by kernel_rfl, aJ (l := []) (by kernel_rfl) trivial⟩
def iH (cs0 : LA_) (n1 : Nat) : Option (Bool) :=
 (Option.bind (oT (cs0, n1) 0) (Sum.elim (fun e1 => (some false)) (fun e1 => (some true))))
def gu : FD where
 X := Bool
 k := 1
 pre := []
 F := fun s => [0]
 M := .bool
 B := []
 toL := fun x => [.B x]
 ofL := fun ls => match ls with
  | [.B x0] => some x0
  | _ => none
 au := fun ls x h => by
  split at h
  ·cases h; rfl
  ·cases h
theorem xU (cs0 : LA_) (n1 : Nat) (x : Bool) (h : iH cs0 n1 = some x) : aX Tryz.prog 31 1 [.vec 0] [.vec cs0 n1 3 false] gu x :=
 FD.sem (ch := jC) (A := dW [(2, n7.la)]) (fn := Tryz.f31) (c := bq Tryz.f31) (fuel := 60) aL mo mixed bE gu Tryz.func31 (by kernel_rfl) (aJ (l := [aK Tryz.f31 0]) (by kernel_rfl) ⟨bR (by kernel_rfl) vU, trivial⟩)
  (by kernel_rfl) (Eq.trans (by kernel_rfl) h)
def lV : HK where
 call := fun args σ k => match args with
  | [x0] => cr σ 3 x0 fun cs0 n1 => Option.bind (iH cs0 n1) fun y => az σ 1 (gu.val y) (gu.aN y) k
  | _ => none
 nat := fun args σ k => by
  repeat' split
  all_goals simp only [aw, ax, Option.bind_assoc, Option.bind_none, az, Option.bind_some]
 pure := false
 pok := fun h => by cases h
theorem zj : aT Tryz.prog 31 lV := by
 intro args σ r σ' h
 simp only [lV] at h
 split at h
 ·rename_i x0
  obtain ⟨cs0, n1, he0, hf0, h⟩ := bf h
  obtain ⟨y, hy, h⟩ := bE_ h
  exact lifted (xs := [x0]) (ls := [.vec cs0 n1 3 false]) (cargs := [.vec 0]) (bt.of ⟨⟨rfl, he0, hf0, by decide⟩, trivial⟩) rfl (xU cs0 n1 y hy) rfl rfl rfl rfl h
 ·cases h
def zn : CH := (CH.add 31 lV CH.none)
theorem vW : aE Tryz.prog zn := (CH.aj zj CH.aC)
def ep (cs0 : LA_) (n1 : Nat) : Option (Int) :=
 (Option.bind (iH cs0 n1) fun r1 => (cond r1 (cond (decide (((n1 : Nat) : Int) > 256)) (some 3) (cond (((n1 : Nat) : Int) == 0) (some 2) (some 0))) (some 7)))
def gw : FD where
 X := Int
 k := 1
 pre := []
 F := fun s => [0]
 M := .int .i64
 B := []
 toL := fun x => [.I x]
 ofL := fun ls => match ls with
  | [.I x0] => some x0
  | _ => none
 au := fun ls x h => by
  split at h
  ·cases h; rfl
  ·cases h
theorem xW (cs0 : LA_) (n1 : Nat) (x : Int) (h : ep cs0 n1 = some x) : aX Tryz.prog 21 1 [.vec 0] [.vec cs0 n1 3 false] gw x :=
 FD.semA gw vW Tryz.func21 (fuel := 60) (by kernel_rfl) (by kernel_rfl)
  (by kernel_rfl) (Eq.trans (by kernel_rfl) h)
def lX : HK where
 call := fun args σ k => match args with
  | [x0] => cr σ 3 x0 fun cs0 n1 => Option.bind (ep cs0 n1) fun y => az σ 1 (gw.val y) (gw.aN y) k
  | _ => none
 nat := fun args σ k => by
  repeat' split
  all_goals simp only [aw, ax, Option.bind_assoc, Option.bind_none, az, Option.bind_some]
 pure := false
 pok := fun h => by cases h
theorem zo : aT Tryz.prog 21 lX := by
 intro args σ r σ' h
 simp only [lX] at h
 split at h
 ·rename_i x0
  obtain ⟨cs0, n1, he0, hf0, h⟩ := bf h
  obtain ⟨y, hy, h⟩ := bE_ h
  exact lifted (xs := [x0]) (ls := [.vec cs0 n1 3 false]) (cargs := [.vec 0]) (bt.of ⟨⟨rfl, he0, hf0, by decide⟩, trivial⟩) rfl (xW cs0 n1 y hy) rfl rfl rfl rfl h
 ·cases h
abbrev cD := LA_ × Nat × LA_ × Nat × Int
def fV : CH := (CH.add 23 gV (CH.add 22 lW (CH.add 21 lX CH.none)))
theorem gY : aE Tryz.prog fV := (CH.aj nZ (CH.aj zm (CH.aj zo CH.aC)))
def cn {R : Type} (cc : cD) (v : LA_ × Nat × Int) (kn : (LA_ × Nat × Int) → Option R) (ke : ((Unit) ⊕ (LA_ × Nat)) → Option R) : Option R :=
 (cond (decide (v.2.2 < ((cc.2.2.2.1 : Nat) : Int))) (ag (decide (0 ≤ cc.2.2.2.2) && decide (cc.2.2.2.2 < ((cc.2.1 : Nat) : Int))) (ag (an ln cc.1 (Int.toNat cc.2.2.2.2 * 3)) (ag (decide (0 ≤ v.2.2) && decide (v.2.2 < ((cc.2.2.2.1 : Nat) : Int))) (ag (an ln cc.2.2.1 (Int.toNat v.2.2 * 3)) (Option.bind (iI (ac cc.1 ((Int.toNat cc.2.2.2.2 * 3) + 0)) (ac cc.1 ((Int.toNat cc.2.2.2.2 * 3) + 1)) (ac cc.1 ((Int.toNat cc.2.2.2.2 * 3) + 2)) (ac cc.2.2.1 ((Int.toNat v.2.2 * 3) + 0)) (ac cc.2.2.1 ((Int.toNat v.2.2 * 3) + 1)) (ac cc.2.2.1 ((Int.toNat v.2.2 * 3) + 2))) fun r3 => (Option.bind (dO r3.1 r3.2.1 r3.2.2) fun r4 => (cond (r4 != 0) (ke (.inl ())) (ag (decide (2 * (v.2.1 + 1) * 24 ≤ 2 ^ 48)) (kn ((v.1 ++ [.int .i64 r3.1, .int .i64 r3.2.1, .int .i64 r3.2.2]), (v.2.1 + 1), (IntKind.wrap .i64 (v.2.2 + 1)))))))))))) (ke (.inr (v.1, v.2.1))))
def dF (cc : cD) (v : LA_ × Nat × Int) : Option ((LA_ × Nat × Int) ⊕ ((Unit) ⊕ (LA_ × Nat))) := cn cc v (fun v => some (Sum.inl v)) fun e => some (Sum.inr e)
def n8 (cc : cD) (v : LA_ × Nat × Int) : Option ((Unit) ⊕ (LA_ × Nat)) := dA (dF cc) v
def uK (cc : cD) (v : LA_ × Nat × Int) : List ai := [.I cc.s4, .I v.2.2, .C cc.1, .N cc.2.1, .C cc.2.2.1, .N cc.2.2.2.1, .C v.1, .N v.2.1]
def ly (ls : List ai) : Option ((cD) × (LA_ × Nat × Int)) := match ls with
 | [.I x0, .I x1, .C x2, .N x3, .C x4, .N x5, .C x6, .N x7] => some ((x2, x3, x4, x5, x0), (x6, x7, x1))
 | _ => none
def lz (e : (Unit) ⊕ (LA_ × Nat)) : am := ((Sum.elim (fun e => .ret) (fun e => .exit 2)) e)
def lA (cc : cD) (e : (Unit) ⊕ (LA_ × Nat)) : List ai := ((Sum.elim (fun e => []) (fun e => [.I cc.s4, .C cc.1, .N cc.2.1, .C cc.2.2.1, .N cc.2.2.2.1, .C e.1, .N e.2])) e)
def ge (cc : cD) (e : (Unit) ⊕ (LA_ × Nat)) : List ai := ((Sum.elim (fun e => []) (fun e => [.I cc.s4, .C cc.1, .N cc.2.1, .C cc.2.2.1, .N cc.2.2.2.1])) e)
def gG (o : am) (ls : List ai) : Option (((Unit) ⊕ (LA_ × Nat)) × List ai) := match o with
 | .ret => (match ls with
  | [] => some ((.inl ()), [])
  | _ => none)
 | .exit 2 => (match ls with
  | [.I x0, .C x1, .N x2, .C x3, .N x4, .C x5, .N x6] => some ((.inr (x5, x6)), [.I x0, .C x1, .N x2, .C x3, .N x4])
  | _ => none)
 | _ => none
theorem sg : ∀ o ls e cl cc, gG o ls = some (e, cl) → cl = ge cc e → ls = lA cc e ∧ lz e = o ∧ o ≠ .normal ∧ ∀ v, o = .pan v → sc 0 v = true := by
 intro o ls e cl cc h hc
 unfold gG at h
 split at h
 ·split at h
  ·cases h
   exact ⟨rfl, rfl, by simp, by intro v hv; cases hv <;> rfl⟩
  ·cases h
 ·split at h
  ·cases h
   simp only [ge, Sum.elim_inl, Sum.elim_inr, List.cons.injEq, ai.I.injEq, ai.N.injEq, ai.C.injEq, and_true] at hc
   obtain ⟨rfl, rfl, rfl, rfl, rfl⟩ := hc
   exact ⟨rfl, rfl, by simp, by intro v hv; cases hv <;> rfl⟩
  ·cases h
 ·cases h
def vX (o : am) : ExS := match o with
 | .ret => ⟨2, (none :: none :: none :: none :: some (.aO) :: some (.fG .i64 7) :: (rl none 63 [])), [], fun s => [0, 1], [], []⟩
 | .exit 2 => ⟨3, (some (.vec 0) :: some (.vec 1) :: (rl none 6 (some (.vec 2) :: some (.int .i64) :: (rl none 59 [])))), [(0, .vec 3 false), (1, .vec 3 false), (2, .vec 3 true)], fun s => [0, 1, nameAt s 8 []], [], []⟩
 | _ => ⟨0, [], [], fun _ => [], [], []⟩
theorem uL {R : Type} (cc : cD) (v : LA_ × Nat × Int) (kn : (LA_ × Nat × Int) → Option R) (ke : ((Unit) ⊕ (LA_ × Nat)) → Option R) : cn cc v kn ke = (cn cc v (fun v => some (Sum.inl v)) fun e => some (Sum.inr e)).bind (Sum.elim kn ke) := by
 simp only [cn, bF, ax, Option.bind_assoc, bY, bB, Option.bind_some, Option.bind_none, Sum.elim_inl, Sum.elim_inr]
def iu : LD where
 CC := cD
 V := LA_ × Nat × Int
 E := (Unit) ⊕ (LA_ × Nat)
 n := 2
 K := 3
 M := (some (.vec 0) :: some (.vec 1) :: (rl none 6 (some (.vec 2) :: some (.int .i64) :: some (.int .i64) :: (rl none 58 []))))
 B := [(0, .vec 3 false), (1, .vec 3 false), (2, .vec 3 true)]
 D := []
 pre := []
 F := fun s => [0, 1, nameAt s 8 []]
 toL := uK
 ofL := ly
 au := fun ls c v h => by
  unfold ly at h
  split at h
  ·cases h; rfl
  ·cases h
 cj := cn
 nat := uL
 sh := vX
 out := lz
 toE := lA
 eV := ge
 ofE := gG
 cO := sg
 post := fun cc e k => ((Sum.elim (fun e => k (.ret) (aV 2 (none :: none :: none :: none :: some (.aO) :: some (.int .i64 7) :: (rl none 63 [])) [] [])) (fun e => k (.exit 2) (aV 3 (some (.vec 0) :: some (.vec 1) :: (rl none 6 (some (.vec 2) :: some (.int .i64 cc.s4) :: (rl none 59 [])))) [(0, .vec cc.1 cc.2.1 3 false), (1, .vec cc.2.2.1 cc.2.2.2.1 3 false), (2, .vec e.1 e.2 3 true)] []))) e)
 cd := fun cc e k => by rcases e with e | e <;> rfl
theorem lB : cG Tryz.prog 2 iu.la (aK Tryz.f7 1) :=
 LD.ok (ch := fV) (A := bu) aL gY mixed (fuel := 60) ⟨by kernel_rfl, fun e => by (rcases e with e | e <;> kernel_rfl), fun cc v => by kernel_rfl, aJ (l := []) (by kernel_rfl) trivial⟩
def bZ {R : Type} (cc : LA_ × Nat × LA_ × Nat) (v : LA_ × Nat × Int) (kn : (LA_ × Nat × Int) → Option R) (ke : ((Unit) ⊕ (LA_ × Nat)) → Option R) : Option R :=
 (cond (decide (v.2.2 < ((cc.2.1 : Nat) : Int))) (Option.bind (n8 (cc.1, cc.2.1, cc.2.2.1, cc.2.2.2, v.2.2) (v.1, v.2.1, 0)) (Sum.elim (fun e5 => (ke (.inl ()))) (fun e5 => (kn (e5.1, e5.2, (IntKind.wrap .i64 (v.2.2 + 1))))))) (ke (.inr (v.1, v.2.1))))
def dG (cc : LA_ × Nat × LA_ × Nat) (v : LA_ × Nat × Int) : Option ((LA_ × Nat × Int) ⊕ ((Unit) ⊕ (LA_ × Nat))) := bZ cc v (fun v => some (Sum.inl v)) fun e => some (Sum.inr e)
def n9 (cc : LA_ × Nat × LA_ × Nat) (v : LA_ × Nat × Int) : Option ((Unit) ⊕ (LA_ × Nat)) := dA (dG cc) v
def uM (cc : LA_ × Nat × LA_ × Nat) (v : LA_ × Nat × Int) : List ai := [.I v.2.2, .C cc.1, .N cc.2.1, .C cc.2.2.1, .N cc.2.2.2, .C v.1, .N v.2.1]
def lC (ls : List ai) : Option ((LA_ × Nat × LA_ × Nat) × (LA_ × Nat × Int)) := match ls with
 | [.I x0, .C x1, .N x2, .C x3, .N x4, .C x5, .N x6] => some ((x1, x2, x3, x4), (x5, x6, x0))
 | _ => none
def lD (e : (Unit) ⊕ (LA_ × Nat)) : am := ((Sum.elim (fun e => .ret) (fun e => .exit 0)) e)
def lE (cc : LA_ × Nat × LA_ × Nat) (e : (Unit) ⊕ (LA_ × Nat)) : List ai := ((Sum.elim (fun e => []) (fun e => [.C e.1, .N e.2])) e)
def kC (cc : LA_ × Nat × LA_ × Nat) (e : (Unit) ⊕ (LA_ × Nat)) : List ai := ((Sum.elim (fun e => []) (fun e => [])) e)
def gH (o : am) (ls : List ai) : Option (((Unit) ⊕ (LA_ × Nat)) × List ai) := match o with
 | .ret => (match ls with
  | [] => some ((.inl ()), [])
  | _ => none)
 | .exit 0 => (match ls with
  | [.C x0, .N x1] => some ((.inr (x0, x1)), [])
  | _ => none)
 | _ => none
theorem sj : ∀ o ls e cl cc, gH o ls = some (e, cl) → cl = kC cc e → ls = lE cc e ∧ lD e = o ∧ o ≠ .normal ∧ ∀ v, o = .pan v → sc 0 v = true := by
 intro o ls e cl cc h hc
 unfold gH at h
 split at h
 ·split at h
  ·cases h
   exact ⟨rfl, rfl, by simp, by intro v hv; cases hv <;> rfl⟩
  ·cases h
 ·split at h
  ·cases h
   exact ⟨rfl, rfl, by simp, by intro v hv; cases hv <;> rfl⟩
  ·cases h
 ·cases h
def vY (o : am) : ExS := match o with
 | .ret => ⟨2, (none :: none :: none :: none :: some (.aO) :: some (.fG .i64 7) :: (rl none 63 [])), [], fun s => [0, 1], [], []⟩
 | .exit 0 => ⟨3, (rl none 8 (some (.vec 2) :: (rl none 60 []))), [(2, .vec 3 true)], fun s => [0, 1, nameAt s 8 []], [], []⟩
 | _ => ⟨0, [], [], fun _ => [], [], []⟩
theorem uN {R : Type} (cc : LA_ × Nat × LA_ × Nat) (v : LA_ × Nat × Int) (kn : (LA_ × Nat × Int) → Option R) (ke : ((Unit) ⊕ (LA_ × Nat)) → Option R) : bZ cc v kn ke = (bZ cc v (fun v => some (Sum.inl v)) fun e => some (Sum.inr e)).bind (Sum.elim kn ke) := by
 simp only [bZ, bF, ax, Option.bind_assoc, bY, bB, Option.bind_some, Option.bind_none, Sum.elim_inl, Sum.elim_inr]
def mO : LD where
 CC := LA_ × Nat × LA_ × Nat
 V := LA_ × Nat × Int
 E := (Unit) ⊕ (LA_ × Nat)
 n := 2
 K := 3
 M := (some (.vec 0) :: some (.vec 1) :: (rl none 6 (some (.vec 2) :: some (.int .i64) :: (rl none 59 []))))
 B := [(0, .vec 3 false), (1, .vec 3 false), (2, .vec 3 true)]
 D := []
 pre := [(8, 3)]
 F := fun s => [0, 1, nameAt s 8 []]
 toL := uM
 ofL := lC
 au := fun ls c v h => by
  unfold lC at h
  split at h
  ·cases h; rfl
  ·cases h
 cj := bZ
 nat := uN
 sh := vY
 out := lD
 toE := lE
 eV := kC
 ofE := gH
 cO := sj
 post := fun cc e k => ((Sum.elim (fun e => k (.ret) (aV 2 (none :: none :: none :: none :: some (.aO) :: some (.int .i64 7) :: (rl none 63 [])) [] [])) (fun e => k (.exit 0) (aV 3 (rl none 8 (some (.vec 2) :: (rl none 60 []))) [(2, .vec e.1 e.2 3 true)] []))) e)
 cd := fun cc e k => by rcases e with e | e <;> rfl
theorem uO : cG Tryz.prog 2 mO.la (aK Tryz.f7 0) :=
 LD.ok (ch := fV) (A := dW [(15, iu.la)]) aL gY mixed (fuel := 60) ⟨by kernel_rfl, fun e => by (rcases e with e | e <;> kernel_rfl), fun cc v => by kernel_rfl, aJ (l := [aK Tryz.f7 1]) (by kernel_rfl) ⟨bR (by kernel_rfl) lB, trivial⟩⟩
def fA (cs0 : LA_) (n1 : Nat) (cs2 : LA_) (n3 : Nat) : Option (Int × LA_ × Nat) :=
 (Option.bind (ep cs0 n1) fun r1 => (Option.bind (ep cs2 n3) fun r2 => (cond (r1 == 7) (some (7, ([] : LA_), 0)) (cond (r2 == 7) (some (7, ([] : LA_), 0)) (cond (r1 == 3) (some (3, ([] : LA_), 0)) (cond (r2 == 3) (some (3, ([] : LA_), 0)) (cond (r1 == 2) (some (2, ([] : LA_), 0)) (cond (r2 == 2) (some (2, ([] : LA_), 0)) (cond (decide ((IntKind.wrap .i64 (((n1 : Nat) : Int) * ((n3 : Nat) : Int))) > 256)) (some (3, ([] : LA_), 0)) (Option.bind (n9 (cs0, n1, cs2, n3) (([] : LA_), 0, 0)) (Sum.elim (fun e3 => (some (7, ([] : LA_), 0))) (fun e3 => (some (0, e3.1, e3.2))))))))))))))
def gy : FD where
 X := Int × LA_ × Nat
 k := 2
 pre := [(4, 3)]
 F := fun s => [0, 1, nameAt s 0 [.c 0]]
 M := .tup [.vec 2, .int .i64]
 B := [.vec 3 true]
 toL := fun x => [.I x.1, .C x.2.1, .N x.2.2]
 ofL := fun ls => match ls with
  | [.I x0, .C x1, .N x2] => some (x0, x1, x2)
  | _ => none
 au := fun ls x h => by
  split at h
  ·cases h; rfl
  ·cases h
theorem xX (cs0 : LA_) (n1 : Nat) (cs2 : LA_) (n3 : Nat) (x : Int × LA_ × Nat) (h : fA cs0 n1 cs2 n3 = some x) : aX Tryz.prog 7 2 [.vec 0, .vec 1] [.vec cs0 n1 3 false, .vec cs2 n3 3 false] gy x :=
 FD.sem (ch := fV) (A := dW [(15, iu.la), (12, mO.la)]) (fn := Tryz.f7) (c := bq Tryz.f7) (fuel := 60) aL gY mixed bE gy Tryz.func7 (by kernel_rfl) (aJ (l := [aK Tryz.f7 0, aK Tryz.f7 1]) (by kernel_rfl) ⟨bR (by kernel_rfl) uO, bR (by kernel_rfl) lB, trivial⟩)
  (by kernel_rfl) (Eq.trans (by kernel_rfl) h)
def lU : HK where
 call := fun args σ k => match args with
  | [x0, x1] => cr σ 3 x0 fun cs0 n1 => cr σ 3 x1 fun cs2 n3 => Option.bind (fA cs0 n1 cs2 n3) fun y => az σ 2 (gy.val y) (gy.aN y) k
  | _ => none
 nat := fun args σ k => by
  repeat' split
  all_goals simp only [aw, ax, Option.bind_assoc, Option.bind_none, az, Option.bind_some]
 pure := false
 pok := fun h => by cases h
theorem zh : aT Tryz.prog 7 lU := by
 intro args σ r σ' h
 simp only [lU] at h
 split at h
 ·rename_i x0 x1
  obtain ⟨cs0, n1, he0, hf0, h⟩ := bf h
  obtain ⟨cs2, n3, he1, hf1, h⟩ := bf h
  obtain ⟨y, hy, h⟩ := bE_ h
  exact lifted (xs := [x0, x1]) (ls := [.vec cs0 n1 3 false, .vec cs2 n3 3 false]) (cargs := [.vec 0, .vec 1]) (bt.of ⟨⟨rfl, he0, hf0, by decide⟩, ⟨rfl, he1, hf1, by decide⟩, trivial⟩) rfl (xX cs0 n1 cs2 n3 y hy) rfl rfl rfl rfl h
 ·cases h
def fJ : CH := CH.none
theorem iQ : aE Tryz.prog fJ := CH.aC
def bO {R : Type} (cc : LA_ × Nat × LA_ × Nat) (v : Int) (kn : (Int) → Option R) (ke : ((Unit) ⊕ (Unit)) → Option R) : Option R :=
 (cond (decide (v < ((cc.2.1 : Nat) : Int))) (ag (decide (0 ≤ v) && decide (v < ((cc.2.1 : Nat) : Int))) (ag (an ln cc.1 (Int.toNat v * 3)) (ag (decide (0 ≤ v) && decide (v < ((cc.2.2.2 : Nat) : Int))) (ag (an ln cc.2.2.1 (Int.toNat v * 3)) (cond (!((ac cc.1 ((Int.toNat v * 3) + 0)) == (ac cc.2.2.1 ((Int.toNat v * 3) + 0)) && ((ac cc.1 ((Int.toNat v * 3) + 1)) == (ac cc.2.2.1 ((Int.toNat v * 3) + 1)) && ((ac cc.1 ((Int.toNat v * 3) + 2)) == (ac cc.2.2.1 ((Int.toNat v * 3) + 2)) && true)))) (ke (.inl ())) (kn (IntKind.wrap .i64 (v + 1)))))))) (ke (.inr ())))
def dD (cc : LA_ × Nat × LA_ × Nat) (v : Int) : Option ((Int) ⊕ ((Unit) ⊕ (Unit))) := bO cc v (fun v => some (Sum.inl v)) fun e => some (Sum.inr e)
def j0 (cc : LA_ × Nat × LA_ × Nat) (v : Int) : Option ((Unit) ⊕ (Unit)) := dA (dD cc) v
def qy (cc : LA_ × Nat × LA_ × Nat) (v : Int) : List ai := [.I v, .C cc.1, .N cc.2.1, .C cc.2.2.1, .N cc.2.2.2]
def iR (ls : List ai) : Option ((LA_ × Nat × LA_ × Nat) × (Int)) := match ls with
 | [.I x0, .C x1, .N x2, .C x3, .N x4] => some ((x1, x2, x3, x4), x0)
 | _ => none
def iS (e : (Unit) ⊕ (Unit)) : am := ((Sum.elim (fun e => .ret) (fun e => .exit 0)) e)
def iT (cc : LA_ × Nat × LA_ × Nat) (e : (Unit) ⊕ (Unit)) : List ai := ((Sum.elim (fun e => []) (fun e => [])) e)
def iv (cc : LA_ × Nat × LA_ × Nat) (e : (Unit) ⊕ (Unit)) : List ai := ((Sum.elim (fun e => []) (fun e => [])) e)
def eS (o : am) (ls : List ai) : Option (((Unit) ⊕ (Unit)) × List ai) := match o with
 | .ret => (match ls with
  | [] => some ((.inl ()), [])
  | _ => none)
 | .exit 0 => (match ls with
  | [] => some ((.inr ()), [])
  | _ => none)
 | _ => none
theorem oE : ∀ o ls e cl cc, eS o ls = some (e, cl) → cl = iv cc e → ls = iT cc e ∧ iS e = o ∧ o ≠ .normal ∧ ∀ v, o = .pan v → sc 0 v = true := by
 intro o ls e cl cc h hc
 unfold eS at h
 split at h
 ·split at h
  ·cases h
   exact ⟨rfl, rfl, by simp, by intro v hv; cases hv <;> rfl⟩
  ·cases h
 ·split at h
  ·cases h
   exact ⟨rfl, rfl, by simp, by intro v hv; cases hv <;> rfl⟩
  ·cases h
 ·cases h
def qT (o : am) : ExS := match o with
 | .ret => ⟨2, (none :: none :: none :: none :: some (.qS false) :: (rl none 21 [])), [], fun s => [0, 1], [], []⟩
 | .exit 0 => ⟨2, (rl none 26 []), [], fun s => [0, 1], [], []⟩
 | _ => ⟨0, [], [], fun _ => [], [], []⟩
theorem qz {R : Type} (cc : LA_ × Nat × LA_ × Nat) (v : Int) (kn : (Int) → Option R) (ke : ((Unit) ⊕ (Unit)) → Option R) : bO cc v kn ke = (bO cc v (fun v => some (Sum.inl v)) fun e => some (Sum.inr e)).bind (Sum.elim kn ke) := by
 simp only [bO, bF, ax, Option.bind_assoc, bY, bB, Option.bind_some, Option.bind_none, Sum.elim_inl, Sum.elim_inr]
def jK : LD where
 CC := LA_ × Nat × LA_ × Nat
 V := Int
 E := (Unit) ⊕ (Unit)
 n := 2
 K := 2
 M := (some (.vec 0) :: some (.vec 1) :: none :: none :: none :: some (.int .i64) :: (rl none 20 []))
 B := [(0, .vec 3 false), (1, .vec 3 false)]
 D := []
 pre := []
 F := fun s => [0, 1]
 toL := qy
 ofL := iR
 au := fun ls c v h => by
  unfold iR at h
  split at h
  ·cases h; rfl
  ·cases h
 cj := bO
 nat := qz
 sh := qT
 out := iS
 toE := iT
 eV := iv
 ofE := eS
 cO := oE
 post := fun cc e k => ((Sum.elim (fun e => k (.ret) (aV 2 (none :: none :: none :: none :: some (.bool false) :: (rl none 21 [])) [] [])) (fun e => k (.exit 0) (aV 2 (rl none 26 []) [] []))) e)
 cd := fun cc e k => by rcases e with e | e <;> rfl
theorem qA : cG Tryz.prog 2 jK.la (aK Tryz.f8 0) :=
 LD.ok (ch := fJ) (A := bu) aL iQ mixed (fuel := 60) ⟨by kernel_rfl, fun e => by (rcases e with e | e <;> kernel_rfl), fun cc v => by kernel_rfl, aJ (l := []) (by kernel_rfl) trivial⟩
def dB (cs0 : LA_) (n1 : Nat) (cs2 : LA_) (n3 : Nat) : Option (Bool) :=
 (cond (((n1 : Nat) : Int) != ((n3 : Nat) : Int)) (some false) (Option.bind (j0 (cs0, n1, cs2, n3) 0) (Sum.elim (fun e1 => (some false)) (fun e1 => (some true)))))
def ej : FD where
 X := Bool
 k := 2
 pre := []
 F := fun s => [0, 1]
 M := .bool
 B := []
 toL := fun x => [.B x]
 ofL := fun ls => match ls with
  | [.B x0] => some x0
  | _ => none
 au := fun ls x h => by
  split at h
  ·cases h; rfl
  ·cases h
theorem sn (cs0 : LA_) (n1 : Nat) (cs2 : LA_) (n3 : Nat) (x : Bool) (h : dB cs0 n1 cs2 n3 = some x) : aX Tryz.prog 8 2 [.vec 0, .vec 1] [.vec cs0 n1 3 false, .vec cs2 n3 3 false] ej x :=
 FD.sem (ch := fJ) (A := dW [(4, jK.la)]) (fn := Tryz.f8) (c := bq Tryz.f8) (fuel := 60) aL iQ mixed bE ej Tryz.func8 (by kernel_rfl) (aJ (l := [aK Tryz.f8 0]) (by kernel_rfl) ⟨bR (by kernel_rfl) qA, trivial⟩)
  (by kernel_rfl) (Eq.trans (by kernel_rfl) h)
def gU : HK where
 call := fun args σ k => match args with
  | [x0, x1] => cr σ 3 x0 fun cs0 n1 => cr σ 3 x1 fun cs2 n3 => Option.bind (dB cs0 n1 cs2 n3) fun y => az σ 2 (ej.val y) (ej.aN y) k
  | _ => none
 nat := fun args σ k => by
  repeat' split
  all_goals simp only [aw, ax, Option.bind_assoc, Option.bind_none, az, Option.bind_some]
 pure := false
 pok := fun h => by cases h
theorem sW : aT Tryz.prog 8 gU := by
 intro args σ r σ' h
 simp only [gU] at h
 split at h
 ·rename_i x0 x1
  obtain ⟨cs0, n1, he0, hf0, h⟩ := bf h
  obtain ⟨cs2, n3, he1, hf1, h⟩ := bf h
  obtain ⟨y, hy, h⟩ := bE_ h
  exact lifted (xs := [x0, x1]) (ls := [.vec cs0 n1 3 false, .vec cs2 n3 3 false]) (cargs := [.vec 0, .vec 1]) (bt.of ⟨⟨rfl, he0, hf0, by decide⟩, ⟨rfl, he1, hf1, by decide⟩, trivial⟩) rfl (sn cs0 n1 cs2 n3 y hy) rfl rfl rfl rfl h
 ·cases h
def bW (l : List Pt) : Int := cond (aD l) (cond (decide (((l.length : Nat) : Int) > 256)) 3 (cond (((l.length : Nat) : Int) == 0) 2 0)) 7
theorem IT {l : List Pt} {i : Nat} (h : i < l.length) : aD (l.take (i + 1)) = (aD (l.take i) && bP (pat l i)) := by
 have : l.take (i + 1) = l.take i ++ [pat l i] := by
  rw [List.take_add_one, List.getElem?_eq_getElem h]; simp [pat, List.getD_eq_getElem?_getD, List.getElem?_eq_getElem h]
 unfold aD
 rw [this, List.all_append]; simp
theorem F6 {l : List Pt} {i : Nat} (h : i < l.length) (hb : bP (pat l i) = false) : aD l = false := by
 cases hc : aD l with
 | false => rfl
 | true => rw [eh hc h] at hb; cases hb
theorem E9 {l : List Pt} (hl : l.length < 1000000000) : jf (pcs l) l.length = some (bW l) := by
 have key : ∃ e, Cq (pcs l, l.length, ((l.length : Nat) : Int)) 0 = some e ∧ (match e with | .inl () => aD l = false | .inr () => aD l = true) := by
  refine gp (step := jX (pcs l, l.length, ((l.length : Nat) : Int))) (fun v => ∃ i : Nat, v = (i : Int) ∧ i ≤ l.length ∧ aD (l.take i) = true) (fun v => ((l.length : Int) - v).toNat) _ ?_
   (Nat.lt_of_le_of_lt (show ((l.length : Int) - 0).toNat ≤ 1000000000 by omega) (by decide)) ⟨0, rfl, by omega, rfl⟩
  rintro v ⟨i, rfl, hi, hok⟩
  by_cases h : i < l.length
  ·have w : IntKind.wrap .i64 ((i : Int) + 1) = ((i + 1 : Nat) : Int) := by rw [bV (by omega)]; omega
   have st : jX (pcs l, l.length, ((l.length : Nat) : Int)) (i : Int) = cond (cond (bP (pat l i)) (0 : Int) 7 != 0) (some (.inr (.inl ()))) (some (.inl ((i + 1 : Nat) : Int))) := by
    have hb' : (bnd (pat l i).1 && bnd (pat l i).2.1 && bnd (pat l i).2.2) = bP (pat l i) := rfl
    simp only [jX, fF, decLt h, fk, cond_true, Bool.and_self, aA, fZ, pro h, pg0 h, pg1 h, pg2 h, NM, Option.bind_some, w, hb']
   cases hb : bP (pat l i) with
   | true =>
    rw [hb] at st
    exact .inl ⟨_, st, ⟨i + 1, rfl, by omega, by rw [IT h, hok, hb]; rfl⟩, by omega⟩
   | false =>
    rw [hb] at st
    exact .inr ⟨.inl (), st, F6 h hb⟩
  ·have hi' : i = l.length := by omega
   subst hi'
   rw [List.take_length] at hok
   exact .inr ⟨.inr (), by simp only [jX, fF, decide_eq_false (show ¬ ((l.length : Int) < ((l.length : Nat) : Int)) by omega), cond_false], hok⟩
 obtain ⟨e, he, h⟩ := key
 unfold jf bW
 rw [he, Option.bind_some]
 rcases e with ⟨⟩ | ⟨⟩
 ·simp only at h; rw [h]; rfl
 ·simp only at h
  rw [h]
  simp only [Sum.elim_inr, cond_true]
  cases decide (((l.length : Nat) : Int) > 256) <;> cases (((l.length : Nat) : Int) == 0) <;> rfl
theorem U6 (x : Int) : dE x = some (bnd x) := by
 have e : ∀ a b : Int, decide (a ≥ b) = decide (b ≤ a) := fun _ _ => rfl
 unfold dE bnd
 rw [e]
 cases decide (-268435456 ≤ x) <;> cases decide (x ≤ 268435456) <;> rfl
theorem NO (x y z : Int) : dO x y z = some (cond (bnd x && bnd y && bnd z) 0 7) := by
 unfold dO
 simp only [U6, Option.bind_some]
 cases bnd x <;> cases bnd y <;> cases bnd z <;> rfl
theorem Qf {l : List Pt} (hl : l.length < 1000000000) : ep (pcs l) l.length = some (bW l) := by
 have key : ∃ e, oT (pcs l, l.length) 0 = some e ∧ (match e with | .inl () => aD l = false | .inr () => aD l = true) := by
  refine gp (step := dX (pcs l, l.length)) (fun v => ∃ i : Nat, v = (i : Int) ∧ i ≤ l.length ∧ aD (l.take i) = true) (fun v => ((l.length : Int) - v).toNat) _ ?_
   (Nat.lt_of_le_of_lt (show ((l.length : Int) - 0).toNat ≤ 1000000000 by omega) (by decide)) ⟨0, rfl, by omega, rfl⟩
  rintro v ⟨i, rfl, hi, hok⟩
  by_cases h : i < l.length
  ·have w : IntKind.wrap .i64 ((i : Int) + 1) = ((i + 1 : Nat) : Int) := by rw [bV (by omega)]; omega
   have st : dX (pcs l, l.length) (i : Int) = cond (cond (bP (pat l i)) (0 : Int) 7 != 0) (some (.inr (.inl ()))) (some (.inl ((i + 1 : Nat) : Int))) := by
    have hb' : (bnd (pat l i).1 && bnd (pat l i).2.1 && bnd (pat l i).2.2) = bP (pat l i) := rfl
    simp only [dX, cz, decLt h, fk, cond_true, Bool.and_self, aA, fZ, pro h, pg0 h, pg1 h, pg2 h, NO, Option.bind_some, w, hb']
   cases hb : bP (pat l i) with
   | true =>
    rw [hb] at st
    exact .inl ⟨_, st, ⟨i + 1, rfl, by omega, by rw [IT h, hok, hb]; rfl⟩, by omega⟩
   | false =>
    rw [hb] at st
    exact .inr ⟨.inl (), st, F6 h hb⟩
  ·have hi' : i = l.length := by omega
   subst hi'
   rw [List.take_length] at hok
   exact .inr ⟨.inr (), by simp only [dX, cz, decide_eq_false (show ¬ ((l.length : Int) < ((l.length : Nat) : Int)) by omega), cond_false], hok⟩
 obtain ⟨e, he, h⟩ := key
 unfold ep iH bW
 rw [he, Option.bind_some]
 rcases e with ⟨⟩ | ⟨⟩
 ·simp only at h; rw [h]; rfl
 ·simp only at h
  rw [h]
  simp only [Sum.elim_inr, cond_true, Option.bind_some]
  cases decide (((l.length : Nat) : Int) > 256) <;> cases (((l.length : Nat) : Int) == 0) <;> rfl
def bX (a b : List Pt) : List Pt := a.flatMap fun p => b.map fun q => aq p q
theorem uw (a b : List Pt) : (bX a b).length = a.length * b.length := by
 unfold bX
 induction a with
 | nil => simp
 | cons p a ih => simp only [List.flatMap_cons, List.length_append, List.length_map, ih, List.length_cons]; rw [Nat.add_one_mul]; omega
theorem ME {p q : Pt} (hp : bP p = true) (hq : bP q = true) : IntKind.wrap .i64 (p.1 - q.1) = (aq p q).1 ∧ IntKind.wrap .i64 (p.2.1 - q.2.1) = (aq p q).2.1 ∧ IntKind.wrap .i64 (p.2.2 - q.2.2) = (aq p q).2.2 := by
 obtain ⟨p1, p2, p3⟩ := xK.1 hp
 obtain ⟨q1, q2, q3⟩ := xK.1 hq
 have := je.1 p1
 have := je.1 p2
 have := je.1 p3
 have := je.1 q1
 have := je.1 q2
 have := je.1 q3
 exact ⟨bV (by omega), bV (by omega), bV (by omega)⟩
theorem map_take {b : List Pt} {i : Nat} {f : Pt → Pt} (h : i < b.length) : (b.take (i + 1)).map f = (b.take i).map f ++ [f (pat b i)] := by
 have : b.take (i + 1) = b.take i ++ [pat b i] := by
  rw [List.take_add_one, List.getElem?_eq_getElem h]; simp [pat, List.getD_eq_getElem?_getD, List.getElem?_eq_getElem h]
 rw [this, List.map_append]; rfl
theorem ux {a b : List Pt} {i : Nat} (h : i < a.length) : bX (a.take (i + 1)) b = bX (a.take i) b ++ b.map fun q => aq (pat a i) q := by
 have : a.take (i + 1) = a.take i ++ [pat a i] := by
  rw [List.take_add_one, List.getElem?_eq_getElem h]; simp [pat, List.getD_eq_getElem?_getD, List.getElem?_eq_getElem h]
 unfold bX
 rw [this, List.flatMap_append]
 simp
theorem Tb {b : List Pt} {p : Pt} (hp : bP p = true) (hb : aD b = true) (hl : b.length ≤ 256) (O : List Pt) (hO : O.length ≤ 1000000) (A : LA_) (n : Nat) (m i : Int) :
  zX (pcs b, b.length, p.1, p.2.1, p.2.2, A, n, m, i, ((b.length : Nat) : Int)) (pcs O, O.length, 0) = some (pcs (O ++ b.map fun q => aq p q), O.length + b.length) := by
 have key : ∀ (k j : Nat), b.length - j = k → j ≤ b.length → iter (mh (pcs b, b.length, p.1, p.2.1, p.2.2, A, n, m, i, ((b.length : Nat) : Int))) (k + 1) (pcs (O ++ (b.take j).map fun q => aq p q), O.length + j, (j : Int)) = some (pcs (O ++ b.map fun q => aq p q), O.length + b.length) := by
  intro k
  induction k with
  | zero =>
   intro j hn hj
   have he : j = b.length := by omega
   subst he
   refine cB 0 ?_
   simp only [mh, eW, decide_eq_false (show ¬ ((b.length : Int) < ((b.length : Nat) : Int)) by omega), cond_false, List.take_length]
  | succ k ih =>
   intro j hn hj
   have h : j < b.length := by omega
   have wr : IntKind.wrap .i64 ((j : Int) + 1) = ((j + 1 : Nat) : Int) := by rw [bV (by omega)]; omega
   obtain ⟨s1, s2, s3⟩ := ME hp (eh hb h)
   have d2 : decide (2 * (O.length + j + 1) * 24 ≤ 2 ^ 48) = true := decide_eq_true (by omega)
   refine bN ?_ (ih (j + 1) (by omega) (by omega))
   simp only [mh, eW, decLt h, fk, cond_true, Bool.and_self, aA, fZ, pro h, pg0 h, pg1 h, pg2 h, s1, s2, s3, d2, wr, map_take h, ← List.append_assoc, AN]
   rfl
 have := key b.length 0 (by omega) (by omega)
 simp only [List.take_zero, List.map_nil, List.append_nil, Nat.add_zero] at this
 exact dI (by unfold me; omega) this
theorem Rq {a b : List Pt} (ha : aD a = true) (hb : aD b = true) (hla : a.length ≤ 256) (hlb : b.length ≤ 256) :
  zY (pcs b, b.length, pcs a, a.length, ((a.length : Nat) : Int)) ([], 0, 0) = some (pcs (bX a b), (bX a b).length) := by
 have key : ∀ (k j : Nat), a.length - j = k → j ≤ a.length → iter (mj (pcs b, b.length, pcs a, a.length, ((a.length : Nat) : Int))) (k + 1) (pcs (bX (a.take j) b), (bX (a.take j) b).length, (j : Int)) = some (pcs (bX a b), (bX a b).length) := by
  intro k
  induction k with
  | zero =>
   intro j hn hj
   have he : j = a.length := by omega
   subst he
   refine cB 0 ?_
   simp only [mj, eX, decide_eq_false (show ¬ ((a.length : Int) < ((a.length : Nat) : Int)) by omega), cond_false, List.take_length]
  | succ k ih =>
   intro j hn hj
   have h : j < a.length := by omega
   have wr : IntKind.wrap .i64 ((j : Int) + 1) = ((j + 1 : Nat) : Int) := by rw [bV (by omega)]; omega
   have hlen : (bX (a.take j) b).length ≤ 1000000 := by
    rw [uw, List.length_take]
    have : min j a.length * b.length ≤ 256 * 256 := Nat.mul_le_mul (by omega) hlb
    omega
   have hin := Tb (eh ha h) hb hlb (bX (a.take j) b) hlen (pcs a) a.length ((a.length : Nat) : Int) (j : Int)
   refine bN ?_ (ih (j + 1) (by omega) (by omega))
   have hl2 : (bX (a.take (j + 1)) b).length = (bX (a.take j) b).length + b.length := by rw [ux h]; simp
   simp only [mj, eX, decLt h, fk, cond_true, Bool.and_self, aA, fZ, pro h, pg0 h, pg1 h, pg2 h, hin, Option.bind_some, wr, hl2]
   rw [ux h]
 have := key a.length 0 (by omega) (by omega)
 exact dI (by unfold me; omega) this
def de (a b : List Pt) : Int × List Pt :=
 cond (bW a == 7 || bW b == 7) (7, []) (cond (bW a == 3 || bW b == 3) (3, []) (cond (bW a == 2 || bW b == 2) (2, []) (cond (decide (a.length * b.length > 256)) (3, []) (cond (aD (bX a b)) (0, bX a b) (7, [])))))
theorem lR (l : List Pt) : bW l = 7 ∨ bW l = 3 ∨ bW l = 2 ∨ (bW l = 0 ∧ aD l = true ∧ 1 ≤ l.length ∧ l.length ≤ 256) := by
 unfold bW
 cases aD l with
 | false => exact .inl rfl
 | true =>
  by_cases h : ((l.length : Nat) : Int) > 256
  ·rw [decide_eq_true h]; exact .inr (.inl rfl)
  ·rw [decide_eq_false h]
   by_cases h0 : l.length = 0
   ·rw [h0]; exact .inr (.inr (.inl rfl))
   ·have : (((l.length : Nat) : Int) == 0) = false := beq_eq_false_iff_ne.2 (by omega)
    rw [this]
    exact .inr (.inr (.inr ⟨rfl, rfl, by omega, by omega⟩))
theorem MG {m n : Nat} (hm : m ≤ 256) (hn : n ≤ 256) : decide (IntKind.wrap .i64 (((m : Nat) : Int) * ((n : Nat) : Int)) > 256) = decide (m * n > 256) := by
 have h : m * n ≤ 256 * 256 := Nat.mul_le_mul hm hn
 have e : ((m : Nat) : Int) * ((n : Nat) : Int) = ((m * n : Nat) : Int) := by simp
 rw [e, bV (by omega)]
 by_cases q : m * n > 256
 ·rw [decide_eq_true q, decide_eq_true (by omega)]
 ·rw [decide_eq_false q, decide_eq_false (by omega)]
theorem MH {a b : List Pt} (hla : a.length < 1000000000) (hlb : b.length < 1000000000) : nB (pcs a) a.length (pcs b) b.length = some ((de a b).1, pcs (de a b).2, (de a b).2.length) := by
 have rd : ∀ x y : Int, Cs (pcs a, a.length, pcs b, b.length, x, y) 0 = some (cond (x == 7 || y == 7) (.inl 7) (cond (x == 3 || y == 3) (.inl 3) (cond (x == 2 || y == 2) (.inl 2) (.inr ())))) := by
  intro x y
  have st : ∀ i e : Int, (i = 0 ∧ e = 7) ∨ (i = 1 ∧ e = 3) ∨ (i = 2 ∧ e = 2) → fH (pcs a, a.length, pcs b, b.length, x, y) i = cond (x == e) (some (.inr (.inl e))) (cond (y == e) (some (.inr (.inl e))) (some (.inl (i + 1)))) := by
   rintro i e (⟨rfl, rfl⟩ | ⟨rfl, rfl⟩ | ⟨rfl, rfl⟩) <;> rfl
  have s0 := st 0 7 (.inl ⟨rfl, rfl⟩)
  have s1 := st 1 3 (.inr (.inl ⟨rfl, rfl⟩))
  have s2 := st 2 2 (.inr (.inr ⟨rfl, rfl⟩))
  have s3 : fH (pcs a, a.length, pcs b, b.length, x, y) 3 = some (.inr (.inr ())) := rfl
  have bn : ∀ k : Nat, k ≤ 4 → k ≤ me := fun k hk => by unfold me; omega
  have two : ∀ {i e : Int}, fH (pcs a, a.length, pcs b, b.length, x, y) i = cond (x == e) (some (.inr (.inl e))) (cond (y == e) (some (.inr (.inl e))) (some (.inl (i + 1)))) → (x == e || y == e) = true → fH (pcs a, a.length, pcs b, b.length, x, y) i = some (.inr (.inl e)) := by
   intro i e h hc
   rw [h]
   cases hx : x == e with
   | true => rfl
   | false => rw [hx, Bool.false_or] at hc; rw [hc]; rfl
  have no : ∀ {i e : Int}, fH (pcs a, a.length, pcs b, b.length, x, y) i = cond (x == e) (some (.inr (.inl e))) (cond (y == e) (some (.inr (.inl e))) (some (.inl (i + 1)))) → (x == e || y == e) = false → fH (pcs a, a.length, pcs b, b.length, x, y) i = some (.inl (i + 1)) := by
   intro i e h hc
   rw [h]
   rw [Bool.or_eq_false_iff] at hc
   rw [hc.1, hc.2]; rfl
  cases c0 : (x == 7 || y == 7) with
  | true => exact dI (bn 1 (by omega)) (cB 0 (two s0 c0))
  | false =>
   cases c1 : (x == 3 || y == 3) with
   | true => exact dI (bn 2 (by omega)) (bN (no s0 c0) (cB 0 (two s1 c1)))
   | false =>
    cases c2 : (x == 2 || y == 2) with
    | true => exact dI (bn 3 (by omega)) (bN (no s0 c0) (bN (no s1 c1) (cB 0 (two s2 c2))))
    | false => exact dI (bn 4 (by omega)) (bN (no s0 c0) (bN (no s1 c1) (bN (no s2 c2) (cB 0 s3))))
 unfold nB
 rw [E9 hla, Option.bind_some, E9 hlb, Option.bind_some]
 rw [rd, Option.bind_some]
 unfold de
 cases c0 : (bW a == 7 || bW b == 7) with
 | true => rfl
 | false =>
  cases c1 : (bW a == 3 || bW b == 3) with
  | true => rfl
  | false =>
   cases c2 : (bW a == 2 || bW b == 2) with
   | true => rfl
   | false =>
    rw [Bool.or_eq_false_iff] at c0 c1 c2
    obtain ⟨-, oa, na, xa⟩ : bW a = 0 ∧ aD a = true ∧ 1 ≤ a.length ∧ a.length ≤ 256 := by
     rcases lR a with h | h | h | h
     ·rw [h] at c0; simp at c0
     ·rw [h] at c1; simp at c1
     ·rw [h] at c2; simp at c2
     ·exact h
    obtain ⟨-, ob, nb, xb⟩ : bW b = 0 ∧ aD b = true ∧ 1 ≤ b.length ∧ b.length ≤ 256 := by
     rcases lR b with h | h | h | h
     ·rw [h] at c0; simp at c0
     ·rw [h] at c1; simp at c1
     ·rw [h] at c2; simp at c2
     ·exact h
    simp only [cond_false, Sum.elim_inr]
    rw [MG xa xb]
    by_cases q : a.length * b.length > 256
    ·rw [decide_eq_true q]; rfl
    ·rw [decide_eq_false q, cond_false, Rq oa ob xa xb, Option.bind_some]
     simp only
     have hd := uw a b
     have hpos : 1 ≤ a.length * b.length := Nat.mul_pos na nb
     rw [E9 (by rw [hd]; omega), Option.bind_some]
     cases hc : aD (bX a b) with
     | true =>
      have : bW (bX a b) = 0 := by
       unfold bW
       rw [hc, cond_true, decide_eq_false (by rw [hd]; omega), cond_false]
       have : (((bX a b).length : Int) == 0) = false := beq_eq_false_iff_ne.2 (by rw [hd]; omega)
       rw [this]; rfl
      rw [this]; rfl
     | false =>
      have : bW (bX a b) = 7 := by unfold bW; rw [hc]; rfl
      rw [this]; rfl
theorem Uv {a b : List Pt} {i : Nat} (ha : aD a = true) (hi : i < a.length) (hb : aD b = true) (hl : b.length ≤ 256) (O : List Pt) (hO : O.length ≤ 1000000) :
  n8 (pcs a, a.length, pcs b, b.length, (i : Int)) (pcs O, O.length, 0) = some (cond (aD (b.map fun q => aq (pat a i) q)) (.inr (pcs (O ++ b.map fun q => aq (pat a i) q), O.length + b.length)) (.inl ())) := by
 have key : ∀ (k j : Nat), b.length - j = k → j ≤ b.length → aD ((b.take j).map fun q => aq (pat a i) q) = true → iter (dF (pcs a, a.length, pcs b, b.length, (i : Int))) (k + 1) (pcs (O ++ (b.take j).map fun q => aq (pat a i) q), O.length + j, (j : Int)) = some (cond (aD (b.map fun q => aq (pat a i) q)) (.inr (pcs (O ++ b.map fun q => aq (pat a i) q), O.length + b.length)) (.inl ())) := by
  intro k
  induction k with
  | zero =>
   intro j hn hj hok
   have he : j = b.length := by omega
   subst he
   refine cB 0 ?_
   rw [List.take_length] at hok
   simp only [dF, cn, decide_eq_false (show ¬ ((b.length : Int) < ((b.length : Nat) : Int)) by omega), cond_false, List.take_length, hok, cond_true]
  | succ k ih =>
   intro j hn hj hok
   have h : j < b.length := by omega
   have wr : IntKind.wrap .i64 ((j : Int) + 1) = ((j + 1 : Nat) : Int) := by rw [bV (by omega)]; omega
   obtain ⟨s1, s2, s3⟩ := ME (eh ha hi) (eh hb h)
   have d2 : decide (2 * (O.length + j + 1) * 24 ≤ 2 ^ 48) = true := decide_eq_true (by omega)
   have hb' : (bnd (aq (pat a i) (pat b j)).1 && bnd (aq (pat a i) (pat b j)).2.1 && bnd (aq (pat a i) (pat b j)).2.2) = bP (aq (pat a i) (pat b j)) := rfl
   have st : dF (pcs a, a.length, pcs b, b.length, (i : Int)) (pcs (O ++ (b.take j).map fun q => aq (pat a i) q), O.length + j, (j : Int)) = cond (cond (bP (aq (pat a i) (pat b j))) (0 : Int) 7 != 0) (some (.inr (.inl ()))) (some (.inl (pcs (O ++ (b.take (j + 1)).map fun q => aq (pat a i) q), O.length + (j + 1), ((j + 1 : Nat) : Int)))) := by
    simp only [dF, cn, decLt h, decLt hi, fk, cond_true, Bool.and_self, aA, fZ, pro h, pg0 h, pg1 h, pg2 h, pro hi, pg0 hi, pg1 hi, pg2 hi, iI, s1, s2, s3, Option.bind_some, NO, hb', d2, wr, map_take h, ← List.append_assoc, AN]
    rfl
   have hall : aD ((b.take (j + 1)).map fun q => aq (pat a i) q) = bP (aq (pat a i) (pat b j)) := by
    rw [map_take h]
    unfold aD at *
    rw [List.all_append, hok]
    simp
   cases hbp : bP (aq (pat a i) (pat b j)) with
   | true =>
    rw [hbp] at st hall
    exact bN st (ih (j + 1) (by omega) (by omega) hall)
   | false =>
    rw [hbp] at st
    have : aD (b.map fun q => aq (pat a i) q) = false := by
     cases hc : aD (b.map fun q => aq (pat a i) q) with
     | false => rfl
     | true =>
      exfalso
      unfold aD at hc
      rw [List.all_eq_true] at hc
      have hm : pat b j ∈ b := by
       unfold pat; rw [List.getD_eq_getElem?_getD, List.getElem?_eq_getElem h]; exact List.getElem_mem h
      have := hc _ (List.mem_map.2 ⟨_, hm, rfl⟩)
      rw [hbp] at this
      cases this
    rw [this]
    exact cB _ st
 have := key b.length 0 (by omega) (by omega) rfl
 simp only [List.take_zero, List.map_nil, List.append_nil, Nat.add_zero] at this
 exact dI (by unfold me; omega) this
theorem Tc {a b : List Pt} (ha : aD a = true) (hb : aD b = true) (hla : a.length ≤ 256) (hlb : b.length ≤ 256) :
  n9 (pcs a, a.length, pcs b, b.length) ([], 0, 0) = some (cond (aD (bX a b)) (.inr (pcs (bX a b), (bX a b).length)) (.inl ())) := by
 have key : ∀ (k j : Nat), a.length - j = k → j ≤ a.length → aD (bX (a.take j) b) = true → iter (dG (pcs a, a.length, pcs b, b.length)) (k + 1) (pcs (bX (a.take j) b), (bX (a.take j) b).length, (j : Int)) = some (cond (aD (bX a b)) (.inr (pcs (bX a b), (bX a b).length)) (.inl ())) := by
  intro k
  induction k with
  | zero =>
   intro j hn hj hok
   have he : j = a.length := by omega
   subst he
   rw [List.take_length] at hok
   refine cB 0 ?_
   simp only [dG, bZ, decide_eq_false (show ¬ ((a.length : Int) < ((a.length : Nat) : Int)) by omega), cond_false, List.take_length, hok, cond_true]
  | succ k ih =>
   intro j hn hj hok
   have h : j < a.length := by omega
   have wr : IntKind.wrap .i64 ((j : Int) + 1) = ((j + 1 : Nat) : Int) := by rw [bV (by omega)]; omega
   have hlen : (bX (a.take j) b).length ≤ 1000000 := by
    rw [uw, List.length_take]
    have : min j a.length * b.length ≤ 256 * 256 := Nat.mul_le_mul (by omega) hlb
    omega
   have hin := Uv ha h hb hlb (bX (a.take j) b) hlen
   have hl2 : (bX (a.take (j + 1)) b).length = (bX (a.take j) b).length + b.length := by rw [ux h]; simp
   have hall : aD (bX (a.take (j + 1)) b) = aD (b.map fun q => aq (pat a j) q) := by
    rw [ux h]
    unfold aD at *
    rw [List.all_append, hok, Bool.true_and]
   cases hc : aD (b.map fun q => aq (pat a j) q) with
   | true =>
    rw [hc] at hin hall
    refine bN ?_ (ih (j + 1) (by omega) (by omega) hall)
    simp only [dG, bZ, decLt h, cond_true, hin, Option.bind_some, Sum.elim_inr, wr, hl2]
    rw [ux h]
   | false =>
    rw [hc] at hin
    have : aD (bX a b) = false := by
     cases hd : aD (bX a b) with
     | false => rfl
     | true =>
      exfalso
      unfold aD at hd hc
      rw [List.all_eq_true] at hd
      have : ((b.map fun q => aq (pat a j) q).all bP) = true := List.all_eq_true.2 fun x hx => hd x (by
       unfold bX
       rw [List.mem_flatMap]
       refine ⟨pat a j, ?_, hx⟩
       unfold pat; rw [List.getD_eq_getElem?_getD, List.getElem?_eq_getElem h]; exact List.getElem_mem h)
      rw [hc] at this
      cases this
    rw [this]
    refine cB _ ?_
    simp only [dG, bZ, decLt h, cond_true, hin, cond_false, Option.bind_some, Sum.elim_inl]
 have := key a.length 0 (by omega) (by omega) rfl
 exact dI (by unfold me; omega) this
theorem Uw {a b : List Pt} (hla : a.length < 1000000000) (hlb : b.length < 1000000000) : fA (pcs a) a.length (pcs b) b.length = some ((de a b).1, pcs (de a b).2, (de a b).2.length) := by
 unfold fA
 rw [Qf hla, Option.bind_some, Qf hlb, Option.bind_some]
 unfold de
 have or_c : ∀ {x y : Bool} {R : Type} {s t : R}, cond x s (cond y s t) = cond (x || y) s t := by intro x y R s t; cases x <;> cases y <;> rfl
 rw [or_c, or_c, or_c]
 cases c0 : (bW a == 7 || bW b == 7) with
 | true => rfl
 | false =>
  cases c1 : (bW a == 3 || bW b == 3) with
  | true => rfl
  | false =>
   cases c2 : (bW a == 2 || bW b == 2) with
   | true => rfl
   | false =>
    rw [Bool.or_eq_false_iff] at c0 c1 c2
    obtain ⟨-, oa, na, xa⟩ : bW a = 0 ∧ aD a = true ∧ 1 ≤ a.length ∧ a.length ≤ 256 := by
     rcases lR a with h | h | h | h
     ·rw [h] at c0; simp at c0
     ·rw [h] at c1; simp at c1
     ·rw [h] at c2; simp at c2
     ·exact h
    obtain ⟨-, ob, nb, xb⟩ : bW b = 0 ∧ aD b = true ∧ 1 ≤ b.length ∧ b.length ≤ 256 := by
     rcases lR b with h | h | h | h
     ·rw [h] at c0; simp at c0
     ·rw [h] at c1; simp at c1
     ·rw [h] at c2; simp at c2
     ·exact h
    simp only [cond_false]
    rw [MG xa xb]
    by_cases q : a.length * b.length > 256
    ·rw [decide_eq_true q]; rfl
    ·rw [decide_eq_false q, cond_false, Tc oa ob xa xb, Option.bind_some]
     cases hc : aD (bX a b) <;> rfl
theorem Nh {l : List Pt} (hl : l.length < 1000000000) : dB (pcs l) l.length (pcs l) l.length = some true := by
 have key : ∀ (k j : Nat), l.length - j = k → j ≤ l.length → iter (dD (pcs l, l.length, pcs l, l.length)) (k + 1) (j : Int) = some (.inr ()) := by
  intro k
  induction k with
  | zero =>
   intro j hn hj
   have he : j = l.length := by omega
   subst he
   refine cB 0 ?_
   simp only [dD, bO, decide_eq_false (show ¬ ((l.length : Int) < ((l.length : Nat) : Int)) by omega), cond_false]
  | succ k ih =>
   intro j hn hj
   have h : j < l.length := by omega
   have wr : IntKind.wrap .i64 ((j : Int) + 1) = ((j + 1 : Nat) : Int) := by rw [bV (by omega)]; omega
   refine bN ?_ (ih (j + 1) (by omega) (by omega))
   simp only [dD, bO, decLt h, fk, cond_true, Bool.and_self, aA, fZ, pro h, pg0 h, pg1 h, pg2 h, wr, beq_self_eq_true, Bool.not_true, cond_false]
 have := key l.length 0 (by omega) (by omega)
 have hL : j0 (pcs l, l.length, pcs l, l.length) 0 = some (.inr ()) := dI (by unfold me; omega) this
 unfold dB
 have : (((l.length : Nat) : Int) != ((l.length : Nat) : Int)) = false := by simp
 rw [this, cond_false, hL]
 rfl
end Go.Ev
namespace Go.Ev
def FD.Pp (d : FD) (T : ay) (rs : List ResultVar) (ch : CH) (fuel : Nat) (gd nt : Nat) (rest : Code) (t3 t2 : Tmp) (o : am) (s : St) (w : Ow) : Option d.X :=
 match owB w with
 | true => match s.df with
  | [⟨g, cap, []⟩] => if g = gd then (match K5 o with
   | some r => bh T ch bu fuel rest (BN nt cap s.mem t3 t2 r) .nil fun o' s2 w' => match owB w' with
    | true => match o', s2.df with
     | .normal, [] => BO T rs [] .ret ⟨s.tm, [], s2.mem⟩ fun s3 => (mSt d.k (d.k + d.B.length) (d.F s3) [some d.M] (eC d.k d.B) [] s3).bind d.ofL
     | .ret, [] => BO T rs [] .ret ⟨s.tm, [], s2.mem⟩ fun s3 => (mSt d.k (d.k + d.B.length) (d.F s3) [some d.M] (eC d.k d.B) [] s3).bind d.ofL
     | _, _ => none
    | false => none
   | none => none) else none
  | [] => BO T rs d.pre o s fun s3 => (mSt d.k (d.k + d.B.length) (d.F s3) [some d.M] (eC d.k d.B) [] s3).bind d.ofL
  | _ => none
 | false => none
section
variable {P : Program} {T : ay} {ch : CH} {A : rR}
theorem FD.UZ (hT : ba P T) (hH : aE P ch) (hm : P.follows .mixedOrders = true) (hN : pA P) (d : FD) {g : FuncId} {fn : Func} {c : Code} {fuel : Nat} {cargs : LA_} {B0 : List (Nat × av)} {x : d.X}
  (hf : P.funcs[g]? = some fn) (hb : fn.body = some c) (hA : ∀ b ∈ bo c, ∀ la, A (en b) = some la → cG P d.k la b)
  (hS : shP (d.k + d.B.length) [some d.M] (eC d.k d.B) = true)
  {gd : FuncId} {fd : Func} {id : Nat} {ops : Array Oper} {o0 o1 : Oper} {rest : Code} {t3 t2 : Tmp} (hk : yt P gd fd id ops o0 o1 rest t3 t2) (hl : bo rest = [])
  (hx : bh T ch A fuel c (bD fn.ntmps cargs ⟨d.k, B0⟩) .nil (d.Pp T fn.results.toList ch fuel gd fd.ntmps rest t3 t2) = some x) :
  oQ P g ∧ dT P g cargs ⟨d.k, B0⟩ (.ret (d.val x)) ⟨d.k + (d.aN x).length, dk d.k (d.aN x)⟩ := by
 rw [kD] at hx
 obtain ⟨⟨o, s, w1⟩, k1, k2⟩ := bE_ hx
 obtain ⟨o2, s2, w2, j1, j2, j3⟩ := jH (k := d.k) hT hH hm fuel c _ _ _ _ hA k1
 simp only [Option.some.injEq, Prod.mk.injEq] at j1
 obtain ⟨rfl, rfl, rfl⟩ := j1
 simp only [FD.Pp] at k2
 split at k2
 rotate_left
 ·cases k2
 rename_i how
 have hAW := j3 (fE how)
 split at k2
 rotate_left
 ·rename_i hdf
  obtain ⟨s4, q1, q2⟩ := ni k2
  have hfin : (o2 = .normal ∨ o2 = .ret) ∧ (cf d.pre s2).df = [] ∧ ∃ v, ic T (cf d.pre s2) fn.results.toList = some v ∧ s4 = ⟨[v], [], (cf d.pre s2).mem⟩ := by
   unfold BP at q1
   cases o2 with
   | normal =>
    simp only at q1
    split at q1
    ·rename_i hd
     obtain ⟨v, hv, rfl⟩ := Option.map_eq_some_iff.1 q1
     exact ⟨.inl rfl, hd, v, hv, rfl⟩
    ·cases q1
   | ret =>
    simp only at q1
    split at q1
    ·rename_i hd
     obtain ⟨v, hv, rfl⟩ := Option.map_eq_some_iff.1 q1
     exact ⟨.inr rfl, hd, v, hv, rfl⟩
    ·cases q1
   | exit i => cases q1
   | goto i => cases q1
   | pan v => cases q1
  obtain ⟨ho, hdf2, v, hres, rfl⟩ := hfin
  refine d.fin ⟨fn, hf, hN g fn hf, by rw [hb]; rfl⟩ hS q2 ?_
  intro w0 ρ w hr hs
  have key : AWP P c (bD fn.ntmps cargs ⟨d.k, B0⟩) fun o1 s1 => o1 = o2 ∧ s1 = cf d.pre s2 := by
   refine dz.uk (s := bD fn.ntmps cargs ⟨d.k, B0⟩) (qj ?_)
   intro hn w0 ρ a w hr
   refine wp_mono (hAW hn w0 ρ a w hr) ?_
   rintro e' a' w' ⟨o3, s3, ⟨h1, h2⟩, hq⟩
   subst h1 h2
   obtain ⟨ρ', r1, r2, r3, r4, r5⟩ := hq
   refine ⟨_, _, ⟨?_, _, lc r4, rfl, rfl⟩, ⟨ρ', r1, r2, r3, r4, r5⟩⟩
   rintro v rfl
   rcases ho with h | h <;> cases h
  have := jv (R := fun v3 σ3 => v3 = v ∧ σ3 = (cf d.pre s2).mem) hT hf hb hk (key.mono fun o1 s1 hh => by
   obtain ⟨rfl, rfl⟩ := hh
   exact .inl ⟨hdf2, ho, v, hres, rfl, rfl⟩) w0 ρ w hr hs
  refine this.mono ?_
  rintro e w' ⟨v3, σ3, ρ', ⟨rfl, rfl⟩, k3, k4, k5⟩
  exact ⟨ρ', k3, k4, k5⟩
 ·cases k2
 rename_i g' cap hdf
 split at k2
 rotate_left
 ·cases k2
 rename_i hgd
 subst hgd
 split at k2
 rotate_left
 ·cases k2
 rename_i r hrec
 rw [kD] at k2
 obtain ⟨⟨o', s', w'⟩, k3, k4⟩ := bE_ k2
 obtain ⟨o3, s3, w3, j4, j5, j6⟩ := jH (k := (BN fd.ntmps cap s2.mem t3 t2 r).mem.next) hT hH hm fuel rest _ _ _ _ (fun b hb => by rw [hl] at hb; cases hb) k3
 simp only [Option.some.injEq, Prod.mk.injEq] at j4
 obtain ⟨rfl, rfl, rfl⟩ := j4
 simp only at k4
 split at k4
 rotate_left
 ·cases k4
 rename_i how3
 have hAR := j6 (fE how3)
 have hend : (o3 = .normal ∨ o3 = .ret) ∧ s3.df = [] ∧ ∃ v, ic T ⟨s2.tm, [], s3.mem⟩ fn.results.toList = some v ∧ (mSt d.k (d.k + d.B.length) (d.F ⟨[v], [], s3.mem⟩) [some d.M] (eC d.k d.B) [] ⟨[v], [], s3.mem⟩).bind d.ofL = some x := by
  split at k4
  ·rename_i hd
   obtain ⟨s4, q1, q2⟩ := ni k4
   simp only [BP, cf] at q1
   obtain ⟨v, hv, rfl⟩ := Option.map_eq_some_iff.1 q1
   exact ⟨.inl rfl, hd, v, hv, q2⟩
  ·rename_i hd
   obtain ⟨s4, q1, q2⟩ := ni k4
   simp only [BP, cf] at q1
   obtain ⟨v, hv, rfl⟩ := Option.map_eq_some_iff.1 q1
   exact ⟨.inr rfl, hd, v, hv, q2⟩
  ·cases k4
 obtain ⟨ho3, hd3, v, hres, q2⟩ := hend
 refine d.fin ⟨fn, hf, hN g fn hf, by rw [hb]; rfl⟩ hS q2 ?_
 intro w0 ρ w hr hs
 have key : AWP P c (bD fn.ntmps cargs ⟨d.k, B0⟩) fun o1 s1 => o1 = o2 ∧ s1 = s2 := dz.uk (s := bD fn.ntmps cargs ⟨d.k, B0⟩) hAW
 have := jv (R := fun v3 σ3 => v3 = v ∧ σ3 = s3.mem) hT hf hb hk (key.mono fun o1 s1 hh => by
  obtain ⟨rfl, rfl⟩ := hh
  refine .inr ⟨cap, r, hdf, ?_, (dz.uk hAR).mono fun o5 s5 h5 => ?_⟩
  ·cases o1 <;> simp only [K5, Option.some.injEq, reduceCtorEq] at hrec
   ·exact .inl ⟨.inl rfl, hrec.symm⟩
   ·exact .inl ⟨.inr rfl, hrec.symm⟩
   ·exact .inr (by rw [hrec])
  ·obtain ⟨rfl, rfl⟩ := h5
   exact ⟨ho3, hd3, v, hres, rfl, rfl⟩) w0 ρ w hr hs
 refine this.mono ?_
 rintro e w' ⟨v3, σ3, ρ', ⟨rfl, rfl⟩, k3, k4, k5⟩
 exact ⟨ρ', k3, k4, k5⟩
end
end Go.Ev
namespace Go.Ev
open Go.Proofs
abbrev AV := (I8 (I8 (I8 (I8 (Int × Int × LA_ × Nat)))))
abbrev vP := Int × Int × Int × Int × Int × Int × LA_ × Nat
def zV : CH := (CH.add 34 AW (CH.add 20 vO CH.none))
theorem Fg : aE Tryz.prog zV := (CH.aj Kz (CH.aj Cr CH.aC))
def tA (cs0 : LA_) (n1 : Nat) : Option (AV) :=
 (Option.bind (jf cs0 n1) fun r1 => (cond (r1 != 0) (some (0, 0, 0, 0, 0, 0, 0, 0, 0, 0, 0, 0, 0, 0, 0, 0, 0, 0, 0, 0, 0, 0, 0, 0, 0, 0, 0, 0, 0, 0, 0, 0, 0, r1, ([] : LA_), 0)) (Option.bind (kH cs0 n1) fun r2 => (some (aZ r2.1 (aZ r2.2.1 (aZ r2.2.2.1 (aZ r2.2.2.2.1 (r2.2.2.2.2.1, 0, r2.2.2.2.2.2.1, r2.2.2.2.2.2.2)))))))))
def fw : FD where
 X := AV
 k := 1
 pre := [(33000002, 1)]
 F := fun s => [0, nameAt s 0 [.c 0, .c 32]]
 M := .tup [.agg (rl (.int .u64) 32 [.vec 1]), .int .i64, .int .i64]
 B := [.vec 1 true]
 toL := fun x => [.I x.1, .I x.2.1, .I x.2.2.1, .I x.2.2.2.1, .I x.s4.1, .I x.s4.2.1, .I x.s4.2.2.1, .I x.s4.2.2.2.1, .I x.s8.1, .I x.s8.2.1, .I x.s8.2.2.1, .I x.s8.2.2.2.1, .I x.s8.s4.1, .I x.s8.s4.2.1, .I x.s8.s4.2.2.1, .I x.s8.s4.2.2.2.1, .I x.s16.1, .I x.s16.2.1, .I x.s16.2.2.1, .I x.s16.2.2.2.1, .I x.s16.s4.1, .I x.s16.s4.2.1, .I x.s16.s4.2.2.1, .I x.s16.s4.2.2.2.1, .I x.s16.s8.1, .I x.s16.s8.2.1, .I x.s16.s8.2.2.1, .I x.s16.s8.2.2.2.1, .I x.s16.s8.s4.1, .I x.s16.s8.s4.2.1, .I x.s16.s8.s4.2.2.1, .I x.s16.s8.s4.2.2.2.1, .I x.s16.s16.1, .I x.s16.s16.2.1, .C x.s16.s16.2.2.1, .N x.s16.s16.2.2.2]
 ofL := fun ls => match ls with
  | (.I x0 :: .I x1 :: .I x2 :: .I x3 :: .I x4 :: .I x5 :: .I x6 :: .I x7 :: .I x8 :: .I x9 :: .I x10 :: .I x11 :: .I x12 :: .I x13 :: .I x14 :: .I x15 :: .I x16 :: .I x17 :: .I x18 :: .I x19 :: .I x20 :: .I x21 :: .I x22 :: .I x23 :: .I x24 :: .I x25 :: .I x26 :: .I x27 :: .I x28 :: .I x29 :: .I x30 :: .I x31 :: .I x32 :: .I x33 :: .C x34 :: .N x35 :: []) => some (x0, x1, x2, x3, x4, x5, x6, x7, x8, x9, x10, x11, x12, x13, x14, x15, x16, x17, x18, x19, x20, x21, x22, x23, x24, x25, x26, x27, x28, x29, x30, x31, x32, x33, x34, x35)
  | _ => none
 au := fun ls x h => by
  split at h
  ·cases h; rfl
  ·cases h
theorem HJ : yt Tryz.prog 33 Tryz.f33 0 (NZ (Oa (bq Tryz.f33))) (I4 (bq Tryz.f33) 0) (I4 (bq Tryz.f33) 1) (QA (bq Tryz.f33)) 4 3 :=
 ⟨Tryz.func33, ⟨_, Tryz.func33, bE 33 _ Tryz.func33, by kernel_rfl⟩, by kernel_rfl, by kernel_rfl, by kernel_rfl, by kernel_rfl, by kernel_rfl, by kernel_rfl, by kernel_rfl, by kernel_rfl, by kernel_rfl, (by decide)⟩
theorem HL (cs0 : LA_) (n1 : Nat) (x : AV) (h : tA cs0 n1 = some x) : aX Tryz.prog 24 1 [.vec 0] [.vec cs0 n1 3 false] fw x :=
 FD.UZ (ch := zV) (A := bu) (fn := Tryz.f24) (c := bq Tryz.f24) (fuel := 60) aL Fg mixed bE fw Tryz.func24 (by kernel_rfl) (aJ (l := []) (by kernel_rfl) trivial)
  (by kernel_rfl) HJ (by kernel_rfl) (Eq.trans (by kernel_rfl) h)
def jz (cs0 : LA_) (n1 : Nat) : Option (vP) := Option.bind (tA cs0 n1) fun (x0, x1, x2, x3, x4, x5, x6, x7, x8, x9, x10, x11, x12, x13, x14, x15, x16, x17, x18, x19, x20, x21, x22, x23, x24, x25, x26, x27, x28, x29, x30, x31, x32, x33, x34, x35) => ag (ok8 x0 x1 x2 x3 x4 x5 x6 x7 && ok8 x8 x9 x10 x11 x12 x13 x14 x15 && ok8 x16 x17 x18 x19 x20 x21 x22 x23 && ok8 x24 x25 x26 x27 x28 x29 x30 x31) (some ((num x0 x1 x2 x3 x4 x5 x6 x7), (num x8 x9 x10 x11 x12 x13 x14 x15), (num x16 x17 x18 x19 x20 x21 x22 x23), (num x24 x25 x26 x27 x28 x29 x30 x31), x32, x33, x34, x35))
def uD : FD := ⟨vP, fw.k, fw.pre, fw.F, fw.M, fw.B, fun y => fw.toL (aZ y.1 (aZ y.2.1 (aZ y.2.2.1 (aZ y.2.2.2.1 (y.s4.1, y.s4.2.1, y.s4.2.2.1, y.s4.2.2.2))))), fun _ => none, fun _ _ h => by cases h⟩
theorem I5 (cs0 : LA_) (n1 : Nat) {y : vP} (h : jz cs0 n1 = some y) : tA cs0 n1 = some (aZ y.1 (aZ y.2.1 (aZ y.2.2.1 (aZ y.2.2.2.1 (y.s4.1, y.s4.2.1, y.s4.2.2.1, y.s4.2.2.2))))) := by
 unfold jz at h
 obtain ⟨⟨x0, x1, x2, x3, x4, x5, x6, x7, x8, x9, x10, x11, x12, x13, x14, x15, x16, x17, x18, x19, x20, x21, x22, x23, x24, x25, x26, x27, x28, x29, x30, x31, x32, x33, x34, x35⟩, h1, h2⟩ := bE_ h
 obtain ⟨h3, h4⟩ := aM h2
 simp only [Bool.and_eq_true, and_assoc] at h3
 simp only [Option.some.injEq] at h4
 subst h4
 obtain ⟨o0, o1, o2, o3⟩ := h3
 have q0 := aR o0
 have q1 := aR o1
 have q2 := aR o2
 have q3 := aR o3
 rw [h1]
 simp only [aZ, q0, q1, q2, q3]
theorem HM (cs0 : LA_) (n1 : Nat) (y : vP) (h : jz cs0 n1 = some y) : aX Tryz.prog 24 1 [.vec 0] [.vec cs0 n1 3 false] uD y := HL cs0 n1 _ (I5 cs0 n1 h)
def y9 : HK where
 call := fun args σ k => match args with
  | [x0] => cr σ 3 x0 fun cs0 n1 => Option.bind (jz cs0 n1) fun y => az σ 1 (uD.val y) (uD.aN y) k
  | _ => none
 nat := fun args σ k => by
  repeat' split
  all_goals simp only [aw, ax, Option.bind_assoc, Option.bind_none, az, Option.bind_some]
 pure := false
 pok := fun h => by cases h
theorem I6 : aT Tryz.prog 24 y9 := by
 intro args σ r σ' h
 simp only [y9] at h
 split at h
 ·rename_i x0
  obtain ⟨cs0, n1, he0, hf0, h⟩ := bf h
  obtain ⟨y, hy, h⟩ := bE_ h
  exact lifted (xs := [x0]) (ls := [.vec cs0 n1 3 false]) (cargs := [.vec 0]) (bt.of ⟨⟨rfl, he0, hf0, by decide⟩, trivial⟩) rfl (HM cs0 n1 y hy) rfl rfl rfl rfl h
 ·cases h
abbrev Df := (I8 (I8 (I8 (I8 (Int × LA_ × Nat)))))
abbrev yw := Int × Int × Int × Int × Int × LA_ × Nat
def KC : CH := (CH.add 25 nC (CH.add 24 y9 CH.none))
theorem Gj : aE Tryz.prog KC := (CH.aj vr (CH.aj I6 CH.aC))
def qJ (cs0 : LA_) (n1 : Nat) : Option (Df) :=
 (Option.bind (jz cs0 n1) fun r1 => (cond (r1.2.2.2.2.2.1 == 0) (cond (decide (((n1 : Nat) : Int) ≤ 4)) (Option.bind (dM cs0 n1) fun r2 => (some (aZ r2.1 (aZ r2.2.1 (aZ r2.2.2.1 (aZ r2.2.2.2.1 (r2.2.2.2.2.1, r2.2.2.2.2.2.1, r2.2.2.2.2.2.2))))))) (some (aZ r1.1 (aZ r1.2.1 (aZ r1.2.2.1 (aZ r1.2.2.2.1 (r1.2.2.2.2.2.1, r1.2.2.2.2.2.2.1, r1.2.2.2.2.2.2.2))))))) (some (aZ r1.1 (aZ r1.2.1 (aZ r1.2.2.1 (aZ r1.2.2.2.1 (r1.2.2.2.2.2.1, r1.2.2.2.2.2.2.1, r1.2.2.2.2.2.2.2))))))))
def f9 : FD where
 X := Df
 k := 1
 pre := []
 F := fun s => [0, nameAt s 0 [.c 0, .c 32]]
 M := .tup [.agg (rl (.int .u64) 32 [.vec 1]), .int .i64]
 B := [.vec 1 true]
 toL := fun x => [.I x.1, .I x.2.1, .I x.2.2.1, .I x.2.2.2.1, .I x.s4.1, .I x.s4.2.1, .I x.s4.2.2.1, .I x.s4.2.2.2.1, .I x.s8.1, .I x.s8.2.1, .I x.s8.2.2.1, .I x.s8.2.2.2.1, .I x.s8.s4.1, .I x.s8.s4.2.1, .I x.s8.s4.2.2.1, .I x.s8.s4.2.2.2.1, .I x.s16.1, .I x.s16.2.1, .I x.s16.2.2.1, .I x.s16.2.2.2.1, .I x.s16.s4.1, .I x.s16.s4.2.1, .I x.s16.s4.2.2.1, .I x.s16.s4.2.2.2.1, .I x.s16.s8.1, .I x.s16.s8.2.1, .I x.s16.s8.2.2.1, .I x.s16.s8.2.2.2.1, .I x.s16.s8.s4.1, .I x.s16.s8.s4.2.1, .I x.s16.s8.s4.2.2.1, .I x.s16.s8.s4.2.2.2.1, .I x.s16.s16.1, .C x.s16.s16.2.1, .N x.s16.s16.2.2]
 ofL := fun ls => match ls with
  | (.I x0 :: .I x1 :: .I x2 :: .I x3 :: .I x4 :: .I x5 :: .I x6 :: .I x7 :: .I x8 :: .I x9 :: .I x10 :: .I x11 :: .I x12 :: .I x13 :: .I x14 :: .I x15 :: .I x16 :: .I x17 :: .I x18 :: .I x19 :: .I x20 :: .I x21 :: .I x22 :: .I x23 :: .I x24 :: .I x25 :: .I x26 :: .I x27 :: .I x28 :: .I x29 :: .I x30 :: .I x31 :: .I x32 :: .C x33 :: .N x34 :: []) => some (x0, x1, x2, x3, x4, x5, x6, x7, x8, x9, x10, x11, x12, x13, x14, x15, x16, x17, x18, x19, x20, x21, x22, x23, x24, x25, x26, x27, x28, x29, x30, x31, x32, x33, x34)
  | _ => none
 au := fun ls x h => by
  split at h
  ·cases h; rfl
  ·cases h
theorem Jb (cs0 : LA_) (n1 : Nat) (x : Df) (h : qJ cs0 n1 = some x) : aX Tryz.prog 12 1 [.vec 0] [.vec cs0 n1 3 false] f9 x :=
 FD.semA f9 Gj Tryz.func12 (fuel := 60) (by kernel_rfl) (by kernel_rfl)
  (by kernel_rfl) (Eq.trans (by kernel_rfl) h)
def cM (cs0 : LA_) (n1 : Nat) : Option (yw) := Option.bind (qJ cs0 n1) fun (x0, x1, x2, x3, x4, x5, x6, x7, x8, x9, x10, x11, x12, x13, x14, x15, x16, x17, x18, x19, x20, x21, x22, x23, x24, x25, x26, x27, x28, x29, x30, x31, x32, x33, x34) => ag (ok8 x0 x1 x2 x3 x4 x5 x6 x7 && ok8 x8 x9 x10 x11 x12 x13 x14 x15 && ok8 x16 x17 x18 x19 x20 x21 x22 x23 && ok8 x24 x25 x26 x27 x28 x29 x30 x31) (some ((num x0 x1 x2 x3 x4 x5 x6 x7), (num x8 x9 x10 x11 x12 x13 x14 x15), (num x16 x17 x18 x19 x20 x21 x22 x23), (num x24 x25 x26 x27 x28 x29 x30 x31), x32, x33, x34))
def wA : FD := ⟨yw, f9.k, f9.pre, f9.F, f9.M, f9.B, fun y => f9.toL (aZ y.1 (aZ y.2.1 (aZ y.2.2.1 (aZ y.2.2.2.1 (y.s4.1, y.s4.2.1, y.s4.2.2))))), fun _ => none, fun _ _ h => by cases h⟩
theorem KD (cs0 : LA_) (n1 : Nat) {y : yw} (h : cM cs0 n1 = some y) : qJ cs0 n1 = some (aZ y.1 (aZ y.2.1 (aZ y.2.2.1 (aZ y.2.2.2.1 (y.s4.1, y.s4.2.1, y.s4.2.2))))) := by
 unfold cM at h
 obtain ⟨⟨x0, x1, x2, x3, x4, x5, x6, x7, x8, x9, x10, x11, x12, x13, x14, x15, x16, x17, x18, x19, x20, x21, x22, x23, x24, x25, x26, x27, x28, x29, x30, x31, x32, x33, x34⟩, h1, h2⟩ := bE_ h
 obtain ⟨h3, h4⟩ := aM h2
 simp only [Bool.and_eq_true, and_assoc] at h3
 simp only [Option.some.injEq] at h4
 subst h4
 obtain ⟨o0, o1, o2, o3⟩ := h3
 have q0 := aR o0
 have q1 := aR o1
 have q2 := aR o2
 have q3 := aR o3
 rw [h1]
 simp only [aZ, q0, q1, q2, q3]
theorem Jc (cs0 : LA_) (n1 : Nat) (y : yw) (h : cM cs0 n1 = some y) : aX Tryz.prog 12 1 [.vec 0] [.vec cs0 n1 3 false] wA y := Jb cs0 n1 _ (KD cs0 n1 h)
def qC : HK where
 call := fun args σ k => match args with
  | [x0] => cr σ 3 x0 fun cs0 n1 => Option.bind (cM cs0 n1) fun y => az σ 1 (wA.val y) (wA.aN y) k
  | _ => none
 nat := fun args σ k => by
  repeat' split
  all_goals simp only [aw, ax, Option.bind_assoc, Option.bind_none, az, Option.bind_some]
 pure := false
 pok := fun h => by cases h
theorem uA : aT Tryz.prog 12 qC := by
 intro args σ r σ' h
 simp only [qC] at h
 split at h
 ·rename_i x0
  obtain ⟨cs0, n1, he0, hf0, h⟩ := bf h
  obtain ⟨y, hy, h⟩ := bE_ h
  exact lifted (xs := [x0]) (ls := [.vec cs0 n1 3 false]) (cargs := [.vec 0]) (bt.of ⟨⟨rfl, he0, hf0, by decide⟩, trivial⟩) rfl (Jc cs0 n1 y hy) rfl rfl rfl rfl h
 ·cases h
abbrev AU := (I8 (I8 (I8 (I8 (Int × LA_ × Nat)))))
abbrev vM := Int × Int × Int × Int × Int × LA_ × Nat
def I1 : CH := (CH.add 12 qC (CH.add 6 vN CH.none))
theorem Ff : aE Tryz.prog I1 := (CH.aj uA (CH.aj Cp CH.aC))
def oR (cs0 : LA_) (n1 : Nat) (cs2 : LA_) (n3 : Nat) : Option (AU) :=
 (Option.bind (nB cs0 n1 cs2 n3) fun r1 => (cond (r1.1 != 0) (some (0, 0, 0, 0, 0, 0, 0, 0, 0, 0, 0, 0, 0, 0, 0, 0, 0, 0, 0, 0, 0, 0, 0, 0, 0, 0, 0, 0, 0, 0, 0, 0, r1.1, ([] : LA_), 0)) (Option.bind (cM r1.2.1 r1.2.2) fun r2 => (some (aZ r2.1 (aZ r2.2.1 (aZ r2.2.2.1 (aZ r2.2.2.2.1 (r2.2.2.2.2.1, r2.2.2.2.2.2.1, r2.2.2.2.2.2.2)))))))))
def fv : FD where
 X := AU
 k := 2
 pre := [(33000004, 1)]
 F := fun s => [0, 1, nameAt s 0 [.c 0, .c 32]]
 M := .tup [.agg (rl (.int .u64) 32 [.vec 2]), .int .i64]
 B := [.vec 1 true]
 toL := fun x => [.I x.1, .I x.2.1, .I x.2.2.1, .I x.2.2.2.1, .I x.s4.1, .I x.s4.2.1, .I x.s4.2.2.1, .I x.s4.2.2.2.1, .I x.s8.1, .I x.s8.2.1, .I x.s8.2.2.1, .I x.s8.2.2.2.1, .I x.s8.s4.1, .I x.s8.s4.2.1, .I x.s8.s4.2.2.1, .I x.s8.s4.2.2.2.1, .I x.s16.1, .I x.s16.2.1, .I x.s16.2.2.1, .I x.s16.2.2.2.1, .I x.s16.s4.1, .I x.s16.s4.2.1, .I x.s16.s4.2.2.1, .I x.s16.s4.2.2.2.1, .I x.s16.s8.1, .I x.s16.s8.2.1, .I x.s16.s8.2.2.1, .I x.s16.s8.2.2.2.1, .I x.s16.s8.s4.1, .I x.s16.s8.s4.2.1, .I x.s16.s8.s4.2.2.1, .I x.s16.s8.s4.2.2.2.1, .I x.s16.s16.1, .C x.s16.s16.2.1, .N x.s16.s16.2.2]
 ofL := fun ls => match ls with
  | (.I x0 :: .I x1 :: .I x2 :: .I x3 :: .I x4 :: .I x5 :: .I x6 :: .I x7 :: .I x8 :: .I x9 :: .I x10 :: .I x11 :: .I x12 :: .I x13 :: .I x14 :: .I x15 :: .I x16 :: .I x17 :: .I x18 :: .I x19 :: .I x20 :: .I x21 :: .I x22 :: .I x23 :: .I x24 :: .I x25 :: .I x26 :: .I x27 :: .I x28 :: .I x29 :: .I x30 :: .I x31 :: .I x32 :: .C x33 :: .N x34 :: []) => some (x0, x1, x2, x3, x4, x5, x6, x7, x8, x9, x10, x11, x12, x13, x14, x15, x16, x17, x18, x19, x20, x21, x22, x23, x24, x25, x26, x27, x28, x29, x30, x31, x32, x33, x34)
  | _ => none
 au := fun ls x h => by
  split at h
  ·cases h; rfl
  ·cases h
theorem HG (cs0 : LA_) (n1 : Nat) (cs2 : LA_) (n3 : Nat) (x : AU) (h : oR cs0 n1 cs2 n3 = some x) : aX Tryz.prog 9 2 [.vec 0, .vec 1] [.vec cs0 n1 3 false, .vec cs2 n3 3 false] fv x :=
 FD.semA fv Ff Tryz.func9 (fuel := 60) (by kernel_rfl) (by kernel_rfl)
  (by kernel_rfl) (Eq.trans (by kernel_rfl) h)
def eT (cs0 : LA_) (n1 : Nat) (cs2 : LA_) (n3 : Nat) : Option (vM) := Option.bind (oR cs0 n1 cs2 n3) fun (x0, x1, x2, x3, x4, x5, x6, x7, x8, x9, x10, x11, x12, x13, x14, x15, x16, x17, x18, x19, x20, x21, x22, x23, x24, x25, x26, x27, x28, x29, x30, x31, x32, x33, x34) => ag (ok8 x0 x1 x2 x3 x4 x5 x6 x7 && ok8 x8 x9 x10 x11 x12 x13 x14 x15 && ok8 x16 x17 x18 x19 x20 x21 x22 x23 && ok8 x24 x25 x26 x27 x28 x29 x30 x31) (some ((num x0 x1 x2 x3 x4 x5 x6 x7), (num x8 x9 x10 x11 x12 x13 x14 x15), (num x16 x17 x18 x19 x20 x21 x22 x23), (num x24 x25 x26 x27 x28 x29 x30 x31), x32, x33, x34))
def uB : FD := ⟨vM, fv.k, fv.pre, fv.F, fv.M, fv.B, fun y => fv.toL (aZ y.1 (aZ y.2.1 (aZ y.2.2.1 (aZ y.2.2.2.1 (y.s4.1, y.s4.2.1, y.s4.2.2))))), fun _ => none, fun _ _ h => by cases h⟩
theorem I2 (cs0 : LA_) (n1 : Nat) (cs2 : LA_) (n3 : Nat) {y : vM} (h : eT cs0 n1 cs2 n3 = some y) : oR cs0 n1 cs2 n3 = some (aZ y.1 (aZ y.2.1 (aZ y.2.2.1 (aZ y.2.2.2.1 (y.s4.1, y.s4.2.1, y.s4.2.2))))) := by
 unfold eT at h
 obtain ⟨⟨x0, x1, x2, x3, x4, x5, x6, x7, x8, x9, x10, x11, x12, x13, x14, x15, x16, x17, x18, x19, x20, x21, x22, x23, x24, x25, x26, x27, x28, x29, x30, x31, x32, x33, x34⟩, h1, h2⟩ := bE_ h
 obtain ⟨h3, h4⟩ := aM h2
 simp only [Bool.and_eq_true, and_assoc] at h3
 simp only [Option.some.injEq] at h4
 subst h4
 obtain ⟨o0, o1, o2, o3⟩ := h3
 have q0 := aR o0
 have q1 := aR o1
 have q2 := aR o2
 have q3 := aR o3
 rw [h1]
 simp only [aZ, q0, q1, q2, q3]
theorem HH (cs0 : LA_) (n1 : Nat) (cs2 : LA_) (n3 : Nat) (y : vM) (h : eT cs0 n1 cs2 n3 = some y) : aX Tryz.prog 9 2 [.vec 0, .vec 1] [.vec cs0 n1 3 false, .vec cs2 n3 3 false] uB y := HG cs0 n1 cs2 n3 _ (I2 cs0 n1 cs2 n3 h)
def tz : HK where
 call := fun args σ k => match args with
  | [x0, x1] => cr σ 3 x0 fun cs0 n1 => cr σ 3 x1 fun cs2 n3 => Option.bind (eT cs0 n1 cs2 n3) fun y => az σ 2 (uB.val y) (uB.aN y) k
  | _ => none
 nat := fun args σ k => by
  repeat' split
  all_goals simp only [aw, ax, Option.bind_assoc, Option.bind_none, az, Option.bind_some]
 pure := false
 pok := fun h => by cases h
theorem zT : aT Tryz.prog 9 tz := by
 intro args σ r σ' h
 simp only [tz] at h
 split at h
 ·rename_i x0 x1
  obtain ⟨cs0, n1, he0, hf0, h⟩ := bf h
  obtain ⟨cs2, n3, he1, hf1, h⟩ := bf h
  obtain ⟨y, hy, h⟩ := bE_ h
  exact lifted (xs := [x0, x1]) (ls := [.vec cs0 n1 3 false, .vec cs2 n3 3 false]) (cargs := [.vec 0, .vec 1]) (bt.of ⟨⟨rfl, he0, hf0, by decide⟩, ⟨rfl, he1, hf1, by decide⟩, trivial⟩) rfl (HH cs0 n1 cs2 n3 y hy) rfl rfl rfl rfl h
 ·cases h
def I9 : CH := (CH.add 9 tz CH.none)
theorem Fm : aE Tryz.prog I9 := (CH.aj zT CH.aC)
def fR (cs0 : LA_) (n1 : Nat) (cs2 : LA_) (n3 : Nat) : Option (Bool × Int) :=
 (Option.bind (eT cs0 n1 cs2 n3) fun r1 => (cond (r1.2.2.2.2.1 == 0) (cond ((aa r1.1 0) == 0 && ((aa r1.1 1) == 0 && ((aa r1.1 2) == 0 && ((aa r1.1 3) == 0 && ((aa r1.1 4) == 0 && ((aa r1.1 5) == 0 && ((aa r1.1 6) == 0 && ((aa r1.1 7) == 0 && ((aa r1.2.1 0) == 0 && ((aa r1.2.1 1) == 0 && ((aa r1.2.1 2) == 0 && ((aa r1.2.1 3) == 0 && ((aa r1.2.1 4) == 0 && ((aa r1.2.1 5) == 0 && ((aa r1.2.1 6) == 0 && ((aa r1.2.1 7) == 0 && ((aa r1.2.2.1 0) == 0 && ((aa r1.2.2.1 1) == 0 && ((aa r1.2.2.1 2) == 0 && ((aa r1.2.2.1 3) == 0 && ((aa r1.2.2.1 4) == 0 && ((aa r1.2.2.1 5) == 0 && ((aa r1.2.2.1 6) == 0 && ((aa r1.2.2.1 7) == 0 && true)))))))))))))))))))))))) (some (true, r1.2.2.2.2.1)) (some (false, r1.2.2.2.2.1))) (some (false, r1.2.2.2.2.1))))
def pi : FD where
 X := Bool × Int
 k := 2
 pre := []
 F := fun s => [0, 1]
 M := .tup [.bool, .int .i64]
 B := []
 toL := fun x => [.B x.1, .I x.2]
 ofL := fun ls => match ls with
  | [.B x0, .I x1] => some (x0, x1)
  | _ => none
 au := fun ls x h => by
  split at h
  ·cases h; rfl
  ·cases h
theorem HO (cs0 : LA_) (n1 : Nat) (cs2 : LA_) (n3 : Nat) (x : Bool × Int) (h : fR cs0 n1 cs2 n3 = some x) : aX Tryz.prog 10 2 [.vec 0, .vec 1] [.vec cs0 n1 3 false, .vec cs2 n3 3 false] pi x :=
 FD.semA pi Fm Tryz.func10 (fuel := 60) (by kernel_rfl) (by kernel_rfl)
  (by kernel_rfl) (Eq.trans (by kernel_rfl) h)
def tB : HK where
 call := fun args σ k => match args with
  | [x0, x1] => cr σ 3 x0 fun cs0 n1 => cr σ 3 x1 fun cs2 n3 => Option.bind (fR cs0 n1 cs2 n3) fun y => az σ 2 (pi.val y) (pi.aN y) k
  | _ => none
 nat := fun args σ k => by
  repeat' split
  all_goals simp only [aw, ax, Option.bind_assoc, Option.bind_none, az, Option.bind_some]
 pure := false
 pok := fun h => by cases h
theorem zZ : aT Tryz.prog 10 tB := by
 intro args σ r σ' h
 simp only [tB] at h
 split at h
 ·rename_i x0 x1
  obtain ⟨cs0, n1, he0, hf0, h⟩ := bf h
  obtain ⟨cs2, n3, he1, hf1, h⟩ := bf h
  obtain ⟨y, hy, h⟩ := bE_ h
  exact lifted (xs := [x0, x1]) (ls := [.vec cs0 n1 3 false, .vec cs2 n3 3 false]) (cargs := [.vec 0, .vec 1]) (bt.of ⟨⟨rfl, he0, hf0, by decide⟩, ⟨rfl, he1, hf1, by decide⟩, trivial⟩) rfl (HO cs0 n1 cs2 n3 y hy) rfl rfl rfl rfl h
 ·cases h
def jZ : CH := CH.none
theorem mH : aE Tryz.prog jZ := CH.aC
def ew {R : Type} (cc : Int × Int) (v : LA_ × Nat × Int) (kn : (LA_ × Nat × Int) → Option R) (ke : ((LA_ × Nat)) → Option R) : Option R :=
 (cond (decide (v.2.2 < 8)) (ag (decide (2 * (v.2.1 + 1) * 24 ≤ 2 ^ 48)) (kn ((v.1 ++ [.int .i64 (IntKind.wrap .i64 (cc.1 + (IntKind.wrap .i64 ((Int.tmod v.2.2 2) * cc.2)))), .int .i64 (IntKind.wrap .i64 (cc.1 + (IntKind.wrap .i64 ((Int.tmod (IntKind.wrap .i64 (Int.tdiv v.2.2 2)) 2) * cc.2)))), .int .i64 (IntKind.wrap .i64 (cc.1 + (IntKind.wrap .i64 ((IntKind.wrap .i64 (Int.tdiv v.2.2 4)) * cc.2))))]), (v.2.1 + 1), (IntKind.wrap .i64 (v.2.2 + 1))))) (ke (v.1, v.2.1)))
def zf (cc : Int × Int) (v : LA_ × Nat × Int) : Option ((LA_ × Nat × Int) ⊕ ((LA_ × Nat))) := ew cc v (fun v => some (Sum.inl v)) fun e => some (Sum.inr e)
def Ac (cc : Int × Int) (v : LA_ × Nat × Int) : Option ((LA_ × Nat)) := dA (zf cc) v
def wS (cc : Int × Int) (v : LA_ × Nat × Int) : List ai := [.I cc.1, .I cc.2, .I v.2.2, .C v.1, .N v.2.1]
def mI (ls : List ai) : Option ((Int × Int) × (LA_ × Nat × Int)) := match ls with
 | [.I x0, .I x1, .I x2, .C x3, .N x4] => some ((x0, x1), (x3, x4, x2))
 | _ => none
def mJ (e : (LA_ × Nat)) : am := ((fun e => .exit 0) e)
def mK (cc : Int × Int) (e : (LA_ × Nat)) : List ai := ((fun e => [.C e.1, .N e.2]) e)
def mn (cc : Int × Int) (e : (LA_ × Nat)) : List ai := ((fun e => []) e)
def ir (o : am) (ls : List ai) : Option (((LA_ × Nat)) × List ai) := match o with
 | .exit 0 => (match ls with
  | [.C x0, .N x1] => some ((x0, x1), [])
  | _ => none)
 | _ => none
theorem tS : ∀ o ls e cl cc, ir o ls = some (e, cl) → cl = mn cc e → ls = mK cc e ∧ mJ e = o ∧ o ≠ .normal ∧ ∀ v, o = .pan v → sc 0 v = true := by
 intro o ls e cl cc h hc
 unfold ir at h
 split at h
 ·split at h
  ·cases h
   exact ⟨rfl, rfl, by simp, by intro v hv; cases hv <;> rfl⟩
  ·cases h
 ·cases h
def xS (o : am) : ExS := match o with
 | .exit 0 => ⟨1, (rl none 5 (some (.vec 0) :: (rl none 33 []))), [(0, .vec 3 true)], fun s => [nameAt s 5 []], [], []⟩
 | _ => ⟨0, [], [], fun _ => [], [], []⟩
theorem wT {R : Type} (cc : Int × Int) (v : LA_ × Nat × Int) (kn : (LA_ × Nat × Int) → Option R) (ke : ((LA_ × Nat)) → Option R) : ew cc v kn ke = (ew cc v (fun v => some (Sum.inl v)) fun e => some (Sum.inr e)).bind (Sum.elim kn ke) := by
 simp only [ew, bF, ax, Option.bind_assoc, bY, bB, Option.bind_some, Option.bind_none, Sum.elim_inl, Sum.elim_inr]
def oS : LD where
 CC := Int × Int
 V := LA_ × Nat × Int
 E := (LA_ × Nat)
 n := 0
 K := 1
 M := (some (.int .i64) :: none :: none :: none :: none :: some (.vec 0) :: some (.int .i64) :: some (.int .i64) :: (rl none 31 []))
 B := [(0, .vec 3 true)]
 D := []
 pre := [(5, 3)]
 F := fun s => [nameAt s 5 []]
 toL := wS
 ofL := mI
 au := fun ls c v h => by
  unfold mI at h
  split at h
  ·cases h; rfl
  ·cases h
 cj := ew
 nat := wT
 sh := xS
 out := mJ
 toE := mK
 eV := mn
 ofE := ir
 cO := tS
 post := fun cc e k => ((fun e => k (.exit 0) (aV 1 (rl none 5 (some (.vec 0) :: (rl none 33 []))) [(0, .vec e.1 e.2 3 true)] [])) e)
 cd := fun cc e k => by rfl
theorem wU : cG Tryz.prog 0 oS.la (aK Tryz.f18 0) :=
 LD.ok (ch := jZ) (A := bu) aL mH mixed (fuel := 60) ⟨by kernel_rfl, fun e => by kernel_rfl, fun cc v => by kernel_rfl, aJ (l := []) (by kernel_rfl) trivial⟩
def gc (a0 a1 : Int) : Option (LA_ × Nat) :=
 (Option.bind (Ac (a0, (IntKind.wrap .i64 (a1 - a0))) (([] : LA_), 0, 0)) fun e1 => (some (e1.1, e1.2)))
def gT : FD where
 X := LA_ × Nat
 k := 0
 pre := [(4, 3)]
 F := fun s => [nameAt s 0 []]
 M := .vec 0
 B := [.vec 3 true]
 toL := fun x => [.C x.1, .N x.2]
 ofL := fun ls => match ls with
  | [.C x0, .N x1] => some (x0, x1)
  | _ => none
 au := fun ls x h => by
  split at h
  ·cases h; rfl
  ·cases h
theorem zg (a0 a1 : Int) (x : LA_ × Nat) (h : gc a0 a1 = some x) : aX Tryz.prog 18 0 [.int .i64 a0, .int .i64 a1] [] gT x :=
 FD.sem (ch := jZ) (A := dW [(4, oS.la)]) (fn := Tryz.f18) (c := bq Tryz.f18) (fuel := 60) aL mH mixed bE gT Tryz.func18 (by kernel_rfl) (aJ (l := [aK Tryz.f18 0]) (by kernel_rfl) ⟨bR (by kernel_rfl) wU, trivial⟩)
  (by kernel_rfl) (Eq.trans (by kernel_rfl) h)
def mG : HK where
 call := fun args σ k => match args with
  | [.int .i64 a0, .int .i64 a1] => Option.bind (gc a0 a1) fun y => az σ 0 (gT.val y) (gT.aN y) k
  | _ => none
 nat := fun args σ k => by
  repeat' split
  all_goals simp only [aw, ax, Option.bind_assoc, Option.bind_none, az, Option.bind_some]
 pure := false
 pok := fun h => by cases h
theorem Ab : aT Tryz.prog 18 mG := by
 intro args σ r σ' h
 simp only [mG] at h
 split at h
 ·rename_i a0 a1
  obtain ⟨y, hy, h⟩ := bE_ h
  exact lifted (xs := []) (ls := []) (cargs := [.int .i64 a0, .int .i64 a1]) (bt.of trivial) rfl (zg a0 a1 y hy) rfl rfl rfl rfl h
 ·cases h
def xQ : CH := (CH.add 18 mG (CH.add 12 qC (CH.add 10 tB (CH.add 19 Jk CH.none))))
theorem uH : aE Tryz.prog xQ := (CH.aj Ab (CH.aj uA (CH.aj zZ (CH.aj EI CH.aC))))
def kL : Option (Bool) :=
 (Option.bind (cM ([.int .i64 2, .int .i64 (-9), .int .i64 0, .int .i64 2, .int .i64 9, .int .i64 0, .int .i64 5, .int .i64 0, .int .i64 0, .int .i64 9, .int .i64 1, .int .i64 1] : LA_) 4) fun r1 => (Option.bind (gc 0 2) fun r2 => (Option.bind (fR r2.1 r2.2 ([.int .i64 1, .int .i64 1, .int .i64 1] : LA_) 1) fun r3 => (cond r3.1 (Option.bind (gc 0 2) fun r4 => (Option.bind (fR r4.1 r4.2 ([.int .i64 3, .int .i64 3, .int .i64 3] : LA_) 1) fun r5 => (cond r5.1 (Option.bind (cM ([] : LA_) 0) fun r6 => (cond (r1.2.2.2.2.1 == 0) (Option.bind (cOf 2) fun r7 => (cond ((aa r1.1 0) == (aa r7 0) && ((aa r1.1 1) == (aa r7 1) && ((aa r1.1 2) == (aa r7 2) && ((aa r1.1 3) == (aa r7 3) && ((aa r1.1 4) == (aa r7 4) && ((aa r1.1 5) == (aa r7 5) && ((aa r1.1 6) == (aa r7 6) && ((aa r1.1 7) == (aa r7 7) && ((aa r1.2.1 0) == 0 && ((aa r1.2.1 1) == 0 && ((aa r1.2.1 2) == 0 && ((aa r1.2.1 3) == 0 && ((aa r1.2.1 4) == 0 && ((aa r1.2.1 5) == 0 && ((aa r1.2.1 6) == 0 && ((aa r1.2.1 7) == 0 && ((aa r1.2.2.1 0) == 0 && ((aa r1.2.2.1 1) == 0 && ((aa r1.2.2.1 2) == 0 && ((aa r1.2.2.1 3) == 0 && ((aa r1.2.2.1 4) == 0 && ((aa r1.2.2.1 5) == 0 && ((aa r1.2.2.1 6) == 0 && ((aa r1.2.2.1 7) == 0 && true)))))))))))))))))))))))) (Option.bind (cOf 1) fun r8 => (cond ((aa r1.2.2.2.1 0) == (aa r8 0) && ((aa r1.2.2.2.1 1) == (aa r8 1) && ((aa r1.2.2.2.1 2) == (aa r8 2) && ((aa r1.2.2.2.1 3) == (aa r8 3) && ((aa r1.2.2.2.1 4) == (aa r8 4) && ((aa r1.2.2.2.1 5) == (aa r8 5) && ((aa r1.2.2.2.1 6) == (aa r8 6) && ((aa r1.2.2.2.1 7) == (aa r8 7) && true)))))))) (cond (r3.2 == 0) (some false) (some false)) (some false))) (some false))) (some false))) (Option.bind (cM ([] : LA_) 0) fun r9 => (cond (r1.2.2.2.2.1 == 0) (Option.bind (cOf 2) fun r10 => (cond ((aa r1.1 0) == (aa r10 0) && ((aa r1.1 1) == (aa r10 1) && ((aa r1.1 2) == (aa r10 2) && ((aa r1.1 3) == (aa r10 3) && ((aa r1.1 4) == (aa r10 4) && ((aa r1.1 5) == (aa r10 5) && ((aa r1.1 6) == (aa r10 6) && ((aa r1.1 7) == (aa r10 7) && ((aa r1.2.1 0) == 0 && ((aa r1.2.1 1) == 0 && ((aa r1.2.1 2) == 0 && ((aa r1.2.1 3) == 0 && ((aa r1.2.1 4) == 0 && ((aa r1.2.1 5) == 0 && ((aa r1.2.1 6) == 0 && ((aa r1.2.1 7) == 0 && ((aa r1.2.2.1 0) == 0 && ((aa r1.2.2.1 1) == 0 && ((aa r1.2.2.1 2) == 0 && ((aa r1.2.2.1 3) == 0 && ((aa r1.2.2.1 4) == 0 && ((aa r1.2.2.1 5) == 0 && ((aa r1.2.2.1 6) == 0 && ((aa r1.2.2.1 7) == 0 && true)))))))))))))))))))))))) (Option.bind (cOf 1) fun r11 => (cond ((aa r1.2.2.2.1 0) == (aa r11 0) && ((aa r1.2.2.2.1 1) == (aa r11 1) && ((aa r1.2.2.2.1 2) == (aa r11 2) && ((aa r1.2.2.2.1 3) == (aa r11 3) && ((aa r1.2.2.2.1 4) == (aa r11 4) && ((aa r1.2.2.2.1 5) == (aa r11 5) && ((aa r1.2.2.2.1 6) == (aa r11 6) && ((aa r1.2.2.2.1 7) == (aa r11 7) && true)))))))) (cond (r3.2 == 0) (cond (r5.2 == 0) (cond (r9.2.2.2.2.1 == 2) (some true) (some false)) (some false)) (some false)) (some false))) (some false))) (some false)))))) (Option.bind (gc 0 2) fun r12 => (Option.bind (fR r12.1 r12.2 ([.int .i64 3, .int .i64 3, .int .i64 3] : LA_) 1) fun r13 => (cond r13.1 (Option.bind (cM ([] : LA_) 0) fun r14 => (cond (r1.2.2.2.2.1 == 0) (Option.bind (cOf 2) fun r15 => (cond ((aa r1.1 0) == (aa r15 0) && ((aa r1.1 1) == (aa r15 1) && ((aa r1.1 2) == (aa r15 2) && ((aa r1.1 3) == (aa r15 3) && ((aa r1.1 4) == (aa r15 4) && ((aa r1.1 5) == (aa r15 5) && ((aa r1.1 6) == (aa r15 6) && ((aa r1.1 7) == (aa r15 7) && ((aa r1.2.1 0) == 0 && ((aa r1.2.1 1) == 0 && ((aa r1.2.1 2) == 0 && ((aa r1.2.1 3) == 0 && ((aa r1.2.1 4) == 0 && ((aa r1.2.1 5) == 0 && ((aa r1.2.1 6) == 0 && ((aa r1.2.1 7) == 0 && ((aa r1.2.2.1 0) == 0 && ((aa r1.2.2.1 1) == 0 && ((aa r1.2.2.1 2) == 0 && ((aa r1.2.2.1 3) == 0 && ((aa r1.2.2.1 4) == 0 && ((aa r1.2.2.1 5) == 0 && ((aa r1.2.2.1 6) == 0 && ((aa r1.2.2.1 7) == 0 && true)))))))))))))))))))))))) (Option.bind (cOf 1) fun r16 => (cond ((aa r1.2.2.2.1 0) == (aa r16 0) && ((aa r1.2.2.2.1 1) == (aa r16 1) && ((aa r1.2.2.2.1 2) == (aa r16 2) && ((aa r1.2.2.2.1 3) == (aa r16 3) && ((aa r1.2.2.2.1 4) == (aa r16 4) && ((aa r1.2.2.2.1 5) == (aa r16 5) && ((aa r1.2.2.2.1 6) == (aa r16 6) && ((aa r1.2.2.2.1 7) == (aa r16 7) && true)))))))) (some false) (some false))) (some false))) (some false))) (Option.bind (cM ([] : LA_) 0) fun r17 => (cond (r1.2.2.2.2.1 == 0) (Option.bind (cOf 2) fun r18 => (cond ((aa r1.1 0) == (aa r18 0) && ((aa r1.1 1) == (aa r18 1) && ((aa r1.1 2) == (aa r18 2) && ((aa r1.1 3) == (aa r18 3) && ((aa r1.1 4) == (aa r18 4) && ((aa r1.1 5) == (aa r18 5) && ((aa r1.1 6) == (aa r18 6) && ((aa r1.1 7) == (aa r18 7) && ((aa r1.2.1 0) == 0 && ((aa r1.2.1 1) == 0 && ((aa r1.2.1 2) == 0 && ((aa r1.2.1 3) == 0 && ((aa r1.2.1 4) == 0 && ((aa r1.2.1 5) == 0 && ((aa r1.2.1 6) == 0 && ((aa r1.2.1 7) == 0 && ((aa r1.2.2.1 0) == 0 && ((aa r1.2.2.1 1) == 0 && ((aa r1.2.2.1 2) == 0 && ((aa r1.2.2.1 3) == 0 && ((aa r1.2.2.1 4) == 0 && ((aa r1.2.2.1 5) == 0 && ((aa r1.2.2.1 6) == 0 && ((aa r1.2.2.1 7) == 0 && true)))))))))))))))))))))))) (Option.bind (cOf 1) fun r19 => (cond ((aa r1.2.2.2.1 0) == (aa r19 0) && ((aa r1.2.2.2.1 1) == (aa r19 1) && ((aa r1.2.2.2.1 2) == (aa r19 2) && ((aa r1.2.2.2.1 3) == (aa r19 3) && ((aa r1.2.2.2.1 4) == (aa r19 4) && ((aa r1.2.2.2.1 5) == (aa r19 5) && ((aa r1.2.2.2.1 6) == (aa r19 6) && ((aa r1.2.2.2.1 7) == (aa r19 7) && true)))))))) (some false) (some false))) (some false))) (some false))))))))))
def fT : FD where
 X := Bool
 k := 0
 pre := []
 F := fun s => []
 M := .bool
 B := []
 toL := fun x => [.B x]
 ofL := fun ls => match ls with
  | [.B x0] => some x0
  | _ => none
 au := fun ls x h => by
  split at h
  ·cases h; rfl
  ·cases h
theorem wR (x : Bool) (h : kL = some x) : aX Tryz.prog 5 0 [] [] fT x :=
 FD.semA fT uH Tryz.func5 (fuel := 60) (by kernel_rfl) (by kernel_rfl)
  (by kernel_rfl) (Eq.trans (by kernel_rfl) h)
def kM : HK where
 call := fun args σ k => match args with
  | [] => Option.bind (kL) fun y => az σ 0 (fT.val y) (fT.aN y) k
  | _ => none
 nat := fun args σ k => by
  repeat' split
  all_goals simp only [aw, ax, Option.bind_assoc, Option.bind_none, az, Option.bind_some]
 pure := true
 pok := fun _ args σ r σ' h => by
  split at h
  ·exact bm h (fun y => rfl) (fun y f => rfl)
  ·cases h
theorem xR : aT Tryz.prog 5 kM := by
 intro args σ r σ' h
 simp only [kM] at h
 split at h
 ·skip
  obtain ⟨y, hy, h⟩ := bE_ h
  exact lifted (xs := []) (ls := []) (cargs := []) (bt.of trivial) rfl (wR y hy) rfl rfl rfl rfl h
 ·cases h
theorem Tf : kL = some true := by kernel_rfl
def qR : Option Unit := some ()
def Jl : HK where
 call := fun args σ k => match args with
  | [] => Option.bind qR fun r => k (.ret (.bool true)) σ
  | _ => none
 nat := fun args σ k => by
  repeat' split
  all_goals simp only [Option.bind_assoc, Option.bind_none, Option.bind_some]
 pure := true
 pok := fun _ args σ r σ' h => by
  split at h
  ·obtain ⟨q, h1, h2⟩ := bE_ h
   simp only [Option.some.injEq, Prod.mk.injEq] at h2
   obtain ⟨rfl, rfl⟩ := h2
   exact ⟨rfl, ⟨_, rfl⟩, fun σ2 => by simp only [h1, Option.bind_some]⟩
  ·cases h
theorem Oc : aT Tryz.prog 5 Jl := xR.cS fun args σ x h => by
 simp only [Jl] at h
 split at h
 ·obtain ⟨r, h1, h2⟩ := bE_ h
  simp only [kM, Tf, Option.bind_some]
  exact h2
 ·cases h
def lw : CH := (CH.add 12 qC (CH.add 10 tB (CH.add 9 tz (CH.add 8 gU (CH.add 7 lU (CH.add 6 vN (CH.add 5 Jl CH.none)))))))
def vR : CH := wB Tryz.prog jM [11] 60 lw 5
theorem sf : aE Tryz.prog lw := (CH.aj uA (CH.aj zZ (CH.aj zT (CH.aj sW (CH.aj zh (CH.aj Cp (CH.aj Oc CH.aC)))))))
theorem sX : aE Tryz.prog vR := jn aL mixed bE sf 5
def jB (cs0 : LA_) (n1 : Nat) (cs2 : LA_) (n3 : Nat) : Option (Bool) :=
 (cond (decide (((n1 : Nat) : Int) > 300)) (Option.bind (qR) fun r1 => (some true)) (cond (decide (((n3 : Nat) : Int) > 300)) (Option.bind (qR) fun r2 => (some true)) (Option.bind (nB cs0 n1 cs2 n3) fun r3 => (Option.bind (fA cs0 n1 cs2 n3) fun r4 => (Option.bind (dB r3.2.1 r3.2.2 r4.2.1 r4.2.2) fun r5 => (cond r5 (cond (r3.1 != r4.1) (some false) (cond (decide (((r3.2.2 : Nat) : Int) > 40)) (Option.bind (qR) fun r6 => (some true)) (Option.bind (eT cs0 n1 cs2 n3) fun r7 => (Option.bind (fR cs0 n1 cs2 n3) fun r8 => (cond r8.1 (cond (r4.1 != 0) (cond ((aa r7.1 0) == 0 && ((aa r7.1 1) == 0 && ((aa r7.1 2) == 0 && ((aa r7.1 3) == 0 && ((aa r7.1 4) == 0 && ((aa r7.1 5) == 0 && ((aa r7.1 6) == 0 && ((aa r7.1 7) == 0 && ((aa r7.2.1 0) == 0 && ((aa r7.2.1 1) == 0 && ((aa r7.2.1 2) == 0 && ((aa r7.2.1 3) == 0 && ((aa r7.2.1 4) == 0 && ((aa r7.2.1 5) == 0 && ((aa r7.2.1 6) == 0 && ((aa r7.2.1 7) == 0 && ((aa r7.2.2.1 0) == 0 && ((aa r7.2.2.1 1) == 0 && ((aa r7.2.2.1 2) == 0 && ((aa r7.2.2.1 3) == 0 && ((aa r7.2.2.1 4) == 0 && ((aa r7.2.2.1 5) == 0 && ((aa r7.2.2.1 6) == 0 && ((aa r7.2.2.1 7) == 0 && true)))))))))))))))))))))))) (cond ((aa r7.2.2.2.1 0) == 0 && ((aa r7.2.2.2.1 1) == 0 && ((aa r7.2.2.2.1 2) == 0 && ((aa r7.2.2.2.1 3) == 0 && ((aa r7.2.2.2.1 4) == 0 && ((aa r7.2.2.2.1 5) == 0 && ((aa r7.2.2.2.1 6) == 0 && ((aa r7.2.2.2.1 7) == 0 && true)))))))) (some false) (some false)) (some false)) (Option.bind (cM r3.2.1 r3.2.2) fun r9 => (cond ((aa r7.1 0) == (aa r9.1 0) && ((aa r7.1 1) == (aa r9.1 1) && ((aa r7.1 2) == (aa r9.1 2) && ((aa r7.1 3) == (aa r9.1 3) && ((aa r7.1 4) == (aa r9.1 4) && ((aa r7.1 5) == (aa r9.1 5) && ((aa r7.1 6) == (aa r9.1 6) && ((aa r7.1 7) == (aa r9.1 7) && ((aa r7.2.1 0) == (aa r9.2.1 0) && ((aa r7.2.1 1) == (aa r9.2.1 1) && ((aa r7.2.1 2) == (aa r9.2.1 2) && ((aa r7.2.1 3) == (aa r9.2.1 3) && ((aa r7.2.1 4) == (aa r9.2.1 4) && ((aa r7.2.1 5) == (aa r9.2.1 5) && ((aa r7.2.1 6) == (aa r9.2.1 6) && ((aa r7.2.1 7) == (aa r9.2.1 7) && ((aa r7.2.2.1 0) == (aa r9.2.2.1 0) && ((aa r7.2.2.1 1) == (aa r9.2.2.1 1) && ((aa r7.2.2.1 2) == (aa r9.2.2.1 2) && ((aa r7.2.2.1 3) == (aa r9.2.2.1 3) && ((aa r7.2.2.1 4) == (aa r9.2.2.1 4) && ((aa r7.2.2.1 5) == (aa r9.2.2.1 5) && ((aa r7.2.2.1 6) == (aa r9.2.2.1 6) && ((aa r7.2.2.1 7) == (aa r9.2.2.1 7) && true)))))))))))))))))))))))) (cond ((aa r7.2.2.2.1 0) == (aa r9.2.2.2.1 0) && ((aa r7.2.2.2.1 1) == (aa r9.2.2.2.1 1) && ((aa r7.2.2.2.1 2) == (aa r9.2.2.2.1 2) && ((aa r7.2.2.2.1 3) == (aa r9.2.2.2.1 3) && ((aa r7.2.2.2.1 4) == (aa r9.2.2.2.1 4) && ((aa r7.2.2.2.1 5) == (aa r9.2.2.2.1 5) && ((aa r7.2.2.2.1 6) == (aa r9.2.2.2.1 6) && ((aa r7.2.2.2.1 7) == (aa r9.2.2.2.1 7) && true)))))))) (cond (r7.2.2.2.2.1 == 0) (cond (r8.2 == 0) (cond (r9.2.2.2.2.1 == 0) (cond ((aa r7.1 0) == 0 && ((aa r7.1 1) == 0 && ((aa r7.1 2) == 0 && ((aa r7.1 3) == 0 && ((aa r7.1 4) == 0 && ((aa r7.1 5) == 0 && ((aa r7.1 6) == 0 && ((aa r7.1 7) == 0 && ((aa r7.2.1 0) == 0 && ((aa r7.2.1 1) == 0 && ((aa r7.2.1 2) == 0 && ((aa r7.2.1 3) == 0 && ((aa r7.2.1 4) == 0 && ((aa r7.2.1 5) == 0 && ((aa r7.2.1 6) == 0 && ((aa r7.2.1 7) == 0 && ((aa r7.2.2.1 0) == 0 && ((aa r7.2.2.1 1) == 0 && ((aa r7.2.2.1 2) == 0 && ((aa r7.2.2.1 3) == 0 && ((aa r7.2.2.1 4) == 0 && ((aa r7.2.2.1 5) == 0 && ((aa r7.2.2.1 6) == 0 && ((aa r7.2.2.1 7) == 0 && true)))))))))))))))))))))))) (Option.bind (qR) fun r10 => (some true)) (some false)) (some false)) (some false)) (some false)) (some false)) (some false)))) (cond (r4.1 != 0) (cond ((aa r7.1 0) == 0 && ((aa r7.1 1) == 0 && ((aa r7.1 2) == 0 && ((aa r7.1 3) == 0 && ((aa r7.1 4) == 0 && ((aa r7.1 5) == 0 && ((aa r7.1 6) == 0 && ((aa r7.1 7) == 0 && ((aa r7.2.1 0) == 0 && ((aa r7.2.1 1) == 0 && ((aa r7.2.1 2) == 0 && ((aa r7.2.1 3) == 0 && ((aa r7.2.1 4) == 0 && ((aa r7.2.1 5) == 0 && ((aa r7.2.1 6) == 0 && ((aa r7.2.1 7) == 0 && ((aa r7.2.2.1 0) == 0 && ((aa r7.2.2.1 1) == 0 && ((aa r7.2.2.1 2) == 0 && ((aa r7.2.2.1 3) == 0 && ((aa r7.2.2.1 4) == 0 && ((aa r7.2.2.1 5) == 0 && ((aa r7.2.2.1 6) == 0 && ((aa r7.2.2.1 7) == 0 && true)))))))))))))))))))))))) (cond ((aa r7.2.2.2.1 0) == 0 && ((aa r7.2.2.2.1 1) == 0 && ((aa r7.2.2.2.1 2) == 0 && ((aa r7.2.2.2.1 3) == 0 && ((aa r7.2.2.2.1 4) == 0 && ((aa r7.2.2.2.1 5) == 0 && ((aa r7.2.2.2.1 6) == 0 && ((aa r7.2.2.2.1 7) == 0 && true)))))))) (cond (r7.2.2.2.2.1 == r4.1) (cond (r8.2 == r4.1) (Option.bind (qR) fun r11 => (some true)) (some false)) (some false)) (some false)) (some false)) (Option.bind (cM r3.2.1 r3.2.2) fun r12 => (cond ((aa r7.1 0) == (aa r12.1 0) && ((aa r7.1 1) == (aa r12.1 1) && ((aa r7.1 2) == (aa r12.1 2) && ((aa r7.1 3) == (aa r12.1 3) && ((aa r7.1 4) == (aa r12.1 4) && ((aa r7.1 5) == (aa r12.1 5) && ((aa r7.1 6) == (aa r12.1 6) && ((aa r7.1 7) == (aa r12.1 7) && ((aa r7.2.1 0) == (aa r12.2.1 0) && ((aa r7.2.1 1) == (aa r12.2.1 1) && ((aa r7.2.1 2) == (aa r12.2.1 2) && ((aa r7.2.1 3) == (aa r12.2.1 3) && ((aa r7.2.1 4) == (aa r12.2.1 4) && ((aa r7.2.1 5) == (aa r12.2.1 5) && ((aa r7.2.1 6) == (aa r12.2.1 6) && ((aa r7.2.1 7) == (aa r12.2.1 7) && ((aa r7.2.2.1 0) == (aa r12.2.2.1 0) && ((aa r7.2.2.1 1) == (aa r12.2.2.1 1) && ((aa r7.2.2.1 2) == (aa r12.2.2.1 2) && ((aa r7.2.2.1 3) == (aa r12.2.2.1 3) && ((aa r7.2.2.1 4) == (aa r12.2.2.1 4) && ((aa r7.2.2.1 5) == (aa r12.2.2.1 5) && ((aa r7.2.2.1 6) == (aa r12.2.2.1 6) && ((aa r7.2.2.1 7) == (aa r12.2.2.1 7) && true)))))))))))))))))))))))) (cond ((aa r7.2.2.2.1 0) == (aa r12.2.2.2.1 0) && ((aa r7.2.2.2.1 1) == (aa r12.2.2.2.1 1) && ((aa r7.2.2.2.1 2) == (aa r12.2.2.2.1 2) && ((aa r7.2.2.2.1 3) == (aa r12.2.2.2.1 3) && ((aa r7.2.2.2.1 4) == (aa r12.2.2.2.1 4) && ((aa r7.2.2.2.1 5) == (aa r12.2.2.2.1 5) && ((aa r7.2.2.2.1 6) == (aa r12.2.2.2.1 6) && ((aa r7.2.2.2.1 7) == (aa r12.2.2.2.1 7) && true)))))))) (cond (r7.2.2.2.2.1 == 0) (cond (r8.2 == 0) (cond (r12.2.2.2.2.1 == 0) (cond ((aa r7.1 0) == 0 && ((aa r7.1 1) == 0 && ((aa r7.1 2) == 0 && ((aa r7.1 3) == 0 && ((aa r7.1 4) == 0 && ((aa r7.1 5) == 0 && ((aa r7.1 6) == 0 && ((aa r7.1 7) == 0 && ((aa r7.2.1 0) == 0 && ((aa r7.2.1 1) == 0 && ((aa r7.2.1 2) == 0 && ((aa r7.2.1 3) == 0 && ((aa r7.2.1 4) == 0 && ((aa r7.2.1 5) == 0 && ((aa r7.2.1 6) == 0 && ((aa r7.2.1 7) == 0 && ((aa r7.2.2.1 0) == 0 && ((aa r7.2.2.1 1) == 0 && ((aa r7.2.2.1 2) == 0 && ((aa r7.2.2.1 3) == 0 && ((aa r7.2.2.1 4) == 0 && ((aa r7.2.2.1 5) == 0 && ((aa r7.2.2.1 6) == 0 && ((aa r7.2.2.1 7) == 0 && true)))))))))))))))))))))))) (some false) (Option.bind (qR) fun r13 => (some true))) (some false)) (some false)) (some false)) (some false)) (some false))))))))) (some false)))))))
def mL : FD where
 X := Bool
 k := 2
 pre := []
 F := fun s => [0, 1]
 M := .bool
 B := []
 toL := fun x => [.B x]
 ofL := fun ls => match ls with
  | [.B x0] => some x0
  | _ => none
 au := fun ls x h => by
  split at h
  ·cases h; rfl
  ·cases h
theorem uI (cs0 : LA_) (n1 : Nat) (cs2 : LA_) (n3 : Nat) (x : Bool) (h : jB cs0 n1 cs2 n3 = some x) : aX Tryz.prog 3 2 [.vec 0, .vec 1] [.vec cs0 n1 3 false, .vec cs2 n3 3 false] mL x :=
 FD.semA mL sX Tryz.func3 (fuel := 60) (by kernel_rfl) (by kernel_rfl)
  (by kernel_rfl) (Eq.trans (by kernel_rfl) h)
end Go.Ev
