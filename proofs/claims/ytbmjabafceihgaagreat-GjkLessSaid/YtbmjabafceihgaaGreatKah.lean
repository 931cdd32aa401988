import Derived.Test.YtbmjabafceihgaaGreatKag
set_option linter.unusedVariables false
set_option linter.unusedSimpArgs false
set_option maxRecDepth 100000
noncomputable section
namespace Go.Ev
open Go.Proofs
abbrev zG := (I8 (Int × Int × Int × Int × Int × Int × Int × Int))
abbrev eU := LA_ × LA_ × Int × LA_ × Nat
def rJ : CH := (CH.add 120 zB (CH.add 119 zC (CH.add 118 vb (CH.add 65 rr (CH.add 59 nO (CH.add 58 jE CH.none))))))
theorem uc : aE Tryz.prog rJ := (CH.aj Jq (CH.aj Jr (CH.aj GP (CH.aj yF (CH.aj po (CH.aj ki CH.aC))))))
def fL {R : Type} (cc : Nat × Nat) (v : eU) (kn : (eU) → Option R) (ke : ((LA_ × LA_)) → Option R) : Option R :=
 (cond (decide (v.2.2.1 ≥ 0)) (ag (an di v.2.1 0) (ag (an di v.2.2.2.1 0) (Option.bind (iC (ac v.2.1 0) (ac v.2.1 1) (ac v.2.1 2) (ac v.2.1 3) (ac v.2.1 4) (ac v.2.1 5) (ac v.2.1 6) (ac v.2.1 7) (ac v.2.2.2.1 0) (ac v.2.2.2.1 1) (ac v.2.2.2.1 2) (ac v.2.2.2.1 3) (ac v.2.2.2.1 4) (ac v.2.2.2.1 5) (ac v.2.2.2.1 6) (ac v.2.2.2.1 7)) fun r4 => (cond (decide (r4 ≥ 0)) (ag (an di v.2.1 0) (ag (an di v.2.2.2.1 0) (Option.bind (hU (ac v.2.2.2.1 0) (ac v.2.2.2.1 1) (ac v.2.2.2.1 2) (ac v.2.2.2.1 3) (ac v.2.2.2.1 4) (ac v.2.2.2.1 5) (ac v.2.2.2.1 6) (ac v.2.2.2.1 7)) fun r5 => (Option.bind (dK (ac v.2.1 0) (ac v.2.1 1) (ac v.2.1 2) (ac v.2.1 3) (ac v.2.1 4) (ac v.2.1 5) (ac v.2.1 6) (ac v.2.1 7) r5.1 r5.2.1 r5.2.2.1 r5.2.2.2.1 r5.2.2.2.2.1 r5.2.2.2.2.2.1 r5.2.2.2.2.2.2.1 r5.2.2.2.2.2.2.2 1) fun r6 => (ag (decide (0 + 8 ≤ List.length v.2.1)) (ag (decide (0 ≤ (IntKind.wrap .i64 (Int.tdiv v.2.2.1 64))) && decide ((IntKind.wrap .i64 (Int.tdiv v.2.2.1 64)) < ((8 : Nat) : Int))) (ag (an [.int .u64] v.1 (0 + (Int.toNat (IntKind.wrap .i64 (Int.tdiv v.2.2.1 64)) * 1))) (ag (!decide ((Int.tmod v.2.2.1 64) < 0)) (ag (decide (0 ≤ (IntKind.wrap .i64 (Int.tdiv v.2.2.1 64))) && decide ((IntKind.wrap .i64 (Int.tdiv v.2.2.1 64)) < ((8 : Nat) : Int))) (ag (decide ((0 + (Int.toNat (IntKind.wrap .i64 (Int.tdiv v.2.2.1 64)) * 1)) + 1 ≤ List.length v.1)) (ag (an di v.2.2.2.1 0) (Option.bind (lL (ac v.2.2.2.1 0) (ac v.2.2.2.1 1) (ac v.2.2.2.1 2) (ac v.2.2.2.1 3) (ac v.2.2.2.1 4) (ac v.2.2.2.1 5) (ac v.2.2.2.1 6) (ac v.2.2.2.1 7)) fun r7 => (ag (decide (0 + 8 ≤ List.length v.2.2.2.1)) (ag (an di (spliced v.2.2.2.1 0 (af r7.1 r7.2.1 r7.2.2.1 r7.2.2.2.1 r7.2.2.2.2.1 r7.2.2.2.2.2.1 r7.2.2.2.2.2.2.1 r7.2.2.2.2.2.2.2)) 0) (kn ((spliced v.1 (0 + (Int.toNat (IntKind.wrap .i64 (Int.tdiv v.2.2.1 64)) * 1)) [.int .u64 (ior .u64 (ac v.1 ((0 + (Int.toNat (IntKind.wrap .i64 (Int.tdiv v.2.2.1 64)) * 1)) + 0)) (iW .u64 1 (Int.tmod v.2.2.1 64)))]), (spliced v.2.1 0 (af r6.1 r6.2.1 r6.2.2.1 r6.2.2.2.1 r6.2.2.2.2.1 r6.2.2.2.2.2.1 r6.2.2.2.2.2.2.1 r6.2.2.2.2.2.2.2)), (IntKind.wrap .i64 (v.2.2.1 - 1)), ([.int .u64 (ac (spliced v.2.2.2.1 0 (af r7.1 r7.2.1 r7.2.2.1 r7.2.2.2.1 r7.2.2.2.2.1 r7.2.2.2.2.2.1 r7.2.2.2.2.2.2.1 r7.2.2.2.2.2.2.2)) 0), .int .u64 (ac (spliced v.2.2.2.1 0 (af r7.1 r7.2.1 r7.2.2.1 r7.2.2.2.1 r7.2.2.2.2.1 r7.2.2.2.2.2.1 r7.2.2.2.2.2.2.1 r7.2.2.2.2.2.2.2)) 1), .int .u64 (ac (spliced v.2.2.2.1 0 (af r7.1 r7.2.1 r7.2.2.1 r7.2.2.2.1 r7.2.2.2.2.1 r7.2.2.2.2.2.1 r7.2.2.2.2.2.2.1 r7.2.2.2.2.2.2.2)) 2), .int .u64 (ac (spliced v.2.2.2.1 0 (af r7.1 r7.2.1 r7.2.2.1 r7.2.2.2.1 r7.2.2.2.2.1 r7.2.2.2.2.2.1 r7.2.2.2.2.2.2.1 r7.2.2.2.2.2.2.2)) 3), .int .u64 (ac (spliced v.2.2.2.1 0 (af r7.1 r7.2.1 r7.2.2.1 r7.2.2.2.1 r7.2.2.2.2.1 r7.2.2.2.2.2.1 r7.2.2.2.2.2.2.1 r7.2.2.2.2.2.2.2)) 4), .int .u64 (ac (spliced v.2.2.2.1 0 (af r7.1 r7.2.1 r7.2.2.1 r7.2.2.2.1 r7.2.2.2.2.1 r7.2.2.2.2.2.1 r7.2.2.2.2.2.2.1 r7.2.2.2.2.2.2.2)) 5), .int .u64 (ac (spliced v.2.2.2.1 0 (af r7.1 r7.2.1 r7.2.2.1 r7.2.2.2.1 r7.2.2.2.2.1 r7.2.2.2.2.2.1 r7.2.2.2.2.2.2.1 r7.2.2.2.2.2.2.2)) 6), .int .u64 (ac (spliced v.2.2.2.1 0 (af r7.1 r7.2.1 r7.2.2.1 r7.2.2.2.1 r7.2.2.2.2.1 r7.2.2.2.2.2.1 r7.2.2.2.2.2.2.1 r7.2.2.2.2.2.2.2)) 7)] : LA_), 1)))))))))))))))) (ag (an di v.2.2.2.1 0) (Option.bind (lL (ac v.2.2.2.1 0) (ac v.2.2.2.1 1) (ac v.2.2.2.1 2) (ac v.2.2.2.1 3) (ac v.2.2.2.1 4) (ac v.2.2.2.1 5) (ac v.2.2.2.1 6) (ac v.2.2.2.1 7)) fun r8 => (ag (decide (0 + 8 ≤ List.length v.2.2.2.1)) (ag (an di (spliced v.2.2.2.1 0 (af r8.1 r8.2.1 r8.2.2.1 r8.2.2.2.1 r8.2.2.2.2.1 r8.2.2.2.2.2.1 r8.2.2.2.2.2.2.1 r8.2.2.2.2.2.2.2)) 0) (kn (v.1, v.2.1, (IntKind.wrap .i64 (v.2.2.1 - 1)), ([.int .u64 (ac (spliced v.2.2.2.1 0 (af r8.1 r8.2.1 r8.2.2.1 r8.2.2.2.1 r8.2.2.2.2.1 r8.2.2.2.2.2.1 r8.2.2.2.2.2.2.1 r8.2.2.2.2.2.2.2)) 0), .int .u64 (ac (spliced v.2.2.2.1 0 (af r8.1 r8.2.1 r8.2.2.1 r8.2.2.2.1 r8.2.2.2.2.1 r8.2.2.2.2.2.1 r8.2.2.2.2.2.2.1 r8.2.2.2.2.2.2.2)) 1), .int .u64 (ac (spliced v.2.2.2.1 0 (af r8.1 r8.2.1 r8.2.2.1 r8.2.2.2.1 r8.2.2.2.2.1 r8.2.2.2.2.2.1 r8.2.2.2.2.2.2.1 r8.2.2.2.2.2.2.2)) 2), .int .u64 (ac (spliced v.2.2.2.1 0 (af r8.1 r8.2.1 r8.2.2.1 r8.2.2.2.1 r8.2.2.2.2.1 r8.2.2.2.2.2.1 r8.2.2.2.2.2.2.1 r8.2.2.2.2.2.2.2)) 3), .int .u64 (ac (spliced v.2.2.2.1 0 (af r8.1 r8.2.1 r8.2.2.1 r8.2.2.2.1 r8.2.2.2.2.1 r8.2.2.2.2.2.1 r8.2.2.2.2.2.2.1 r8.2.2.2.2.2.2.2)) 4), .int .u64 (ac (spliced v.2.2.2.1 0 (af r8.1 r8.2.1 r8.2.2.1 r8.2.2.2.1 r8.2.2.2.2.1 r8.2.2.2.2.2.1 r8.2.2.2.2.2.2.1 r8.2.2.2.2.2.2.2)) 5), .int .u64 (ac (spliced v.2.2.2.1 0 (af r8.1 r8.2.1 r8.2.2.1 r8.2.2.2.1 r8.2.2.2.2.1 r8.2.2.2.2.2.1 r8.2.2.2.2.2.2.1 r8.2.2.2.2.2.2.2)) 6), .int .u64 (ac (spliced v.2.2.2.1 0 (af r8.1 r8.2.1 r8.2.2.1 r8.2.2.2.1 r8.2.2.2.2.1 r8.2.2.2.2.2.1 r8.2.2.2.2.2.2.1 r8.2.2.2.2.2.2.2)) 7)] : LA_), 1)))))))))) (ke (v.1, v.2.1)))
def pR (cc : Nat × Nat) (v : eU) : Option ((eU) ⊕ ((LA_ × LA_))) := fL cc v (fun v => some (Sum.inl v)) fun e => some (Sum.inr e)
def yI (cc : Nat × Nat) (v : eU) : Option ((LA_ × LA_)) := dA (pR cc) v
def DT (cc : Nat × Nat) (v : eU) : List ai := [.I v.2.2.1, .C v.1, .N cc.1, .C v.2.1, .N cc.2, .C v.2.2.2.1, .N v.s4]
def ud (ls : List ai) : Option ((Nat × Nat) × (eU)) := match ls with
 | [.I x0, .C x1, .N x2, .C x3, .N x4, .C x5, .N x6] => some ((x2, x4), (x1, x3, x0, x5, x6))
 | _ => none
def ue (e : (LA_ × LA_)) : am := ((fun e => .exit 0) e)
def uf (cc : Nat × Nat) (e : (LA_ × LA_)) : List ai := ((fun e => [.C e.1, .N cc.1, .C e.2, .N cc.2]) e)
def mc (cc : Nat × Nat) (e : (LA_ × LA_)) : List ai := ((fun e => [.N cc.1, .N cc.2]) e)
def m8 (o : am) (ls : List ai) : Option (((LA_ × LA_)) × List ai) := match o with
 | .exit 0 => (match ls with
  | [.C x0, .N x1, .C x2, .N x3] => some ((x0, x2), [.N x1, .N x3])
  | _ => none)
 | _ => none
theorem Ax : ∀ o ls e cl cc, m8 o ls = some (e, cl) → cl = mc cc e → ls = uf cc e ∧ ue e = o ∧ o ≠ .normal ∧ ∀ v, o = .pan v → sc 0 v = true := by
 intro o ls e cl cc h hc
 unfold m8 at h
 split at h
 ·split at h
  ·cases h
   simp only [mc, List.cons.injEq, ai.N.injEq, and_true] at hc
   obtain ⟨rfl, rfl⟩ := hc
   exact ⟨rfl, rfl, by simp, by intro v hv; cases hv <;> rfl⟩
  ·cases h
 ·cases h
def FP (o : am) : ExS := match o with
 | .exit 0 => ⟨2, (none :: none :: none :: none :: some (.ptr 0 0) :: some (.ptr 1 0) :: (rl none 41 [])), [(0, .vec 8 true), (1, .vec 8 true)], fun s => [nameAt s 4 [], nameAt s 5 []], [], []⟩
 | _ => ⟨0, [], [], fun _ => [], [], []⟩
theorem DU {R : Type} (cc : Nat × Nat) (v : eU) (kn : (eU) → Option R) (ke : ((LA_ × LA_)) → Option R) : fL cc v kn ke = (fL cc v (fun v => some (Sum.inl v)) fun e => some (Sum.inr e)).bind (Sum.elim kn ke) := by
 simp only [fL, bF, ax, Option.bind_assoc, bY, bB, Option.bind_some, Option.bind_none, Sum.elim_inl, Sum.elim_inr]
def xr : LD where
 CC := Nat × Nat
 V := eU
 E := (LA_ × LA_)
 n := 0
 K := 3
 M := (none :: none :: none :: none :: some (.ptr 0 0) :: some (.ptr 1 0) :: some (.int .i64) :: some (.ptr 2 0) :: (rl none 39 []))
 B := [(0, .vec 8 true), (1, .vec 8 true), (2, .vec 8 true)]
 D := []
 pre := []
 F := fun s => [nameAt s 4 [], nameAt s 5 [], nameAt s 7 []]
 toL := DT
 ofL := ud
 au := fun ls c v h => by
  unfold ud at h
  split at h
  ·cases h; rfl
  ·cases h
 cj := fL
 nat := DU
 sh := FP
 out := ue
 toE := uf
 eV := mc
 ofE := m8
 cO := Ax
 post := fun cc e k => ((fun e => k (.exit 0) (aV 2 (none :: none :: none :: none :: some (.ptr 0 0) :: some (.ptr 1 0) :: (rl none 41 [])) [(0, .vec e.1 cc.1 8 true), (1, .vec e.2 cc.2 8 true)] [])) e)
 cd := fun cc e k => by rfl
theorem DV : cG Tryz.prog 0 xr.la (aK Tryz.f107 0) :=
 LD.ok (ch := rJ) (A := bu) aL uc mixed (fuel := 60) ⟨by kernel_rfl, fun e => by kernel_rfl, fun cc v => by kernel_rfl, aJ (l := []) (by kernel_rfl) trivial⟩
def mY (a0 a1 a2 a3 a4 a5 a6 a7 a8 a9 a10 a11 a12 a13 a14 a15 : Int) : Option (zG) :=
 (Option.bind (iY a0 a1 a2 a3 a4 a5 a6 a7) fun r1 => (Option.bind (iY a8 a9 a10 a11 a12 a13 a14 a15) fun r2 => (cond (decide ((IntKind.wrap .i64 (r1 - r2)) < 0)) (some (0, 0, 0, 0, 0, 0, 0, 0, a0, a1, a2, a3, a4, a5, a6, a7)) (Option.bind (pa a8 a9 a10 a11 a12 a13 a14 a15 (IntKind.wrap .i64 (r1 - r2))) fun r3 => (Option.bind (yI (1, 1) ((af 0 0 0 0 0 0 0 0), (af a0 a1 a2 a3 a4 a5 a6 a7), (IntKind.wrap .i64 (r1 - r2)), (af r3.1 r3.2.1 r3.2.2.1 r3.2.2.2.1 r3.2.2.2.2.1 r3.2.2.2.2.2.1 r3.2.2.2.2.2.2.1 r3.2.2.2.2.2.2.2), 1)) fun e4 => (ag (an di e4.1 0) (ag (an di e4.2 0) (ag (decide (0 + 8 ≤ List.length e4.1)) (ag (decide (0 + 8 ≤ List.length e4.2)) (ag (an di (spliced e4.1 0 (af (ac e4.1 0) (ac e4.1 1) (ac e4.1 2) (ac e4.1 3) (ac e4.1 4) (ac e4.1 5) (ac e4.1 6) (ac e4.1 7))) 0) (ag (an di (spliced e4.2 0 (af (ac e4.2 0) (ac e4.2 1) (ac e4.2 2) (ac e4.2 3) (ac e4.2 4) (ac e4.2 5) (ac e4.2 6) (ac e4.2 7))) 0) (some ((ac (spliced e4.1 0 (af (ac e4.1 0) (ac e4.1 1) (ac e4.1 2) (ac e4.1 3) (ac e4.1 4) (ac e4.1 5) (ac e4.1 6) (ac e4.1 7))) 0), (ac (spliced e4.1 0 (af (ac e4.1 0) (ac e4.1 1) (ac e4.1 2) (ac e4.1 3) (ac e4.1 4) (ac e4.1 5) (ac e4.1 6) (ac e4.1 7))) 1), (ac (spliced e4.1 0 (af (ac e4.1 0) (ac e4.1 1) (ac e4.1 2) (ac e4.1 3) (ac e4.1 4) (ac e4.1 5) (ac e4.1 6) (ac e4.1 7))) 2), (ac (spliced e4.1 0 (af (ac e4.1 0) (ac e4.1 1) (ac e4.1 2) (ac e4.1 3) (ac e4.1 4) (ac e4.1 5) (ac e4.1 6) (ac e4.1 7))) 3), (ac (spliced e4.1 0 (af (ac e4.1 0) (ac e4.1 1) (ac e4.1 2) (ac e4.1 3) (ac e4.1 4) (ac e4.1 5) (ac e4.1 6) (ac e4.1 7))) 4), (ac (spliced e4.1 0 (af (ac e4.1 0) (ac e4.1 1) (ac e4.1 2) (ac e4.1 3) (ac e4.1 4) (ac e4.1 5) (ac e4.1 6) (ac e4.1 7))) 5), (ac (spliced e4.1 0 (af (ac e4.1 0) (ac e4.1 1) (ac e4.1 2) (ac e4.1 3) (ac e4.1 4) (ac e4.1 5) (ac e4.1 6) (ac e4.1 7))) 6), (ac (spliced e4.1 0 (af (ac e4.1 0) (ac e4.1 1) (ac e4.1 2) (ac e4.1 3) (ac e4.1 4) (ac e4.1 5) (ac e4.1 6) (ac e4.1 7))) 7), (ac (spliced e4.2 0 (af (ac e4.2 0) (ac e4.2 1) (ac e4.2 2) (ac e4.2 3) (ac e4.2 4) (ac e4.2 5) (ac e4.2 6) (ac e4.2 7))) 0), (ac (spliced e4.2 0 (af (ac e4.2 0) (ac e4.2 1) (ac e4.2 2) (ac e4.2 3) (ac e4.2 4) (ac e4.2 5) (ac e4.2 6) (ac e4.2 7))) 1), (ac (spliced e4.2 0 (af (ac e4.2 0) (ac e4.2 1) (ac e4.2 2) (ac e4.2 3) (ac e4.2 4) (ac e4.2 5) (ac e4.2 6) (ac e4.2 7))) 2), (ac (spliced e4.2 0 (af (ac e4.2 0) (ac e4.2 1) (ac e4.2 2) (ac e4.2 3) (ac e4.2 4) (ac e4.2 5) (ac e4.2 6) (ac e4.2 7))) 3), (ac (spliced e4.2 0 (af (ac e4.2 0) (ac e4.2 1) (ac e4.2 2) (ac e4.2 3) (ac e4.2 4) (ac e4.2 5) (ac e4.2 6) (ac e4.2 7))) 4), (ac (spliced e4.2 0 (af (ac e4.2 0) (ac e4.2 1) (ac e4.2 2) (ac e4.2 3) (ac e4.2 4) (ac e4.2 5) (ac e4.2 6) (ac e4.2 7))) 5), (ac (spliced e4.2 0 (af (ac e4.2 0) (ac e4.2 1) (ac e4.2 2) (ac e4.2 3) (ac e4.2 4) (ac e4.2 5) (ac e4.2 6) (ac e4.2 7))) 6), (ac (spliced e4.2 0 (af (ac e4.2 0) (ac e4.2 1) (ac e4.2 2) (ac e4.2 3) (ac e4.2 4) (ac e4.2 5) (ac e4.2 6) (ac e4.2 7))) 7))))))))))))))
def nR : FD where
 X := zG
 k := 0
 pre := []
 F := fun s => []
 M := .tup [.agg (rl (.int .u64) 8 []), .agg (rl (.int .u64) 8 [])]
 B := []
 toL := fun x => [.I x.1, .I x.2.1, .I x.2.2.1, .I x.2.2.2.1, .I x.s4.1, .I x.s4.2.1, .I x.s4.2.2.1, .I x.s4.2.2.2.1, .I x.s8.1, .I x.s8.2.1, .I x.s8.2.2.1, .I x.s8.2.2.2.1, .I x.s8.s4.1, .I x.s8.s4.2.1, .I x.s8.s4.2.2.1, .I x.s8.s4.2.2.2]
 ofL := fun ls => match ls with
  | [.I x0, .I x1, .I x2, .I x3, .I x4, .I x5, .I x6, .I x7, .I x8, .I x9, .I x10, .I x11, .I x12, .I x13, .I x14, .I x15] => some (x0, x1, x2, x3, x4, x5, x6, x7, x8, x9, x10, x11, x12, x13, x14, x15)
  | _ => none
 au := fun ls x h => by
  split at h
  ·cases h; rfl
  ·cases h
theorem GY (a0 a1 a2 a3 a4 a5 a6 a7 a8 a9 a10 a11 a12 a13 a14 a15 : Int) (x : zG) (h : mY a0 a1 a2 a3 a4 a5 a6 a7 a8 a9 a10 a11 a12 a13 a14 a15 = some x) : aX Tryz.prog 107 0 [.agg (af a0 a1 a2 a3 a4 a5 a6 a7), .agg (af a8 a9 a10 a11 a12 a13 a14 a15)] [] nR x :=
 FD.sem (ch := rJ) (A := dW [(6, xr.la)]) (fn := Tryz.f107) (c := bq Tryz.f107) (fuel := 60) aL uc mixed bE nR Tryz.func107 (by kernel_rfl) (aJ (l := [aK Tryz.f107 0]) (by kernel_rfl) ⟨bR (by kernel_rfl) DV, trivial⟩)
  (by kernel_rfl) (Eq.trans (by kernel_rfl) h)
def xj : HK where
 call := fun args σ k => match args with
  | [.agg [.int .u64 a0, .int .u64 a1, .int .u64 a2, .int .u64 a3, .int .u64 a4, .int .u64 a5, .int .u64 a6, .int .u64 a7], .agg [.int .u64 a8, .int .u64 a9, .int .u64 a10, .int .u64 a11, .int .u64 a12, .int .u64 a13, .int .u64 a14, .int .u64 a15]] => Option.bind (mY a0 a1 a2 a3 a4 a5 a6 a7 a8 a9 a10 a11 a12 a13 a14 a15) fun y => az σ 0 (nR.val y) (nR.aN y) k
  | _ => none
 nat := fun args σ k => by
  repeat' split
  all_goals simp only [aw, Option.bind_assoc, Option.bind_none, az, Option.bind_some]
 pure := true
 pok := fun _ args σ r σ' h => by
  split at h
  ·exact bm h (fun y => rfl) (fun y f => rfl)
  ·cases h
theorem HZ : aT Tryz.prog 107 xj := by
 intro args σ r σ' h
 simp only [xj] at h
 split at h
 ·rename_i a0 a1 a2 a3 a4 a5 a6 a7 a8 a9 a10 a11 a12 a13 a14 a15
  obtain ⟨y, hy, h⟩ := bE_ h
  exact lifted (xs := []) (ls := []) (cargs := [.agg (af a0 a1 a2 a3 a4 a5 a6 a7), .agg (af a8 a9 a10 a11 a12 a13 a14 a15)]) (bt.of trivial) rfl (GY a0 a1 a2 a3 a4 a5 a6 a7 a8 a9 a10 a11 a12 a13 a14 a15 y hy) rfl rfl rfl rfl h
 ·cases h
def GZ : CH := (CH.add 109 m7 (CH.add 60 cU CH.none))
theorem Da : aE Tryz.prog GZ := (CH.aj rB (CH.aj cY CH.aC))
def bp (a0 a1 a2 a3 a4 a5 a6 a7 : Int) (q8 : Bool) : Option (Int × Int × Int × Int × Int × Int × Int × Int) :=
 (cond q8 (Option.bind (fe a0 a1 a2 a3 a4 a5 a6 a7) fun r1 => (cond (!(r1.1 == 0 && (r1.2.1 == 0 && (r1.2.2.1 == 0 && (r1.2.2.2.1 == 0 && (r1.2.2.2.2.1 == 0 && (r1.2.2.2.2.2.1 == 0 && (r1.2.2.2.2.2.2.1 == 0 && (r1.2.2.2.2.2.2.2 == 0 && true))))))))) (Option.bind (ak r1.1 r1.2.1 r1.2.2.1 r1.2.2.2.1 r1.2.2.2.2.1 r1.2.2.2.2.2.1 r1.2.2.2.2.2.2.1 r1.2.2.2.2.2.2.2) fun r2 => (cond r2 (cond q8 (some (r1.1, r1.2.1, r1.2.2.1, r1.2.2.2.1, r1.2.2.2.2.1, r1.2.2.2.2.2.1, r1.2.2.2.2.2.2.1, r1.2.2.2.2.2.2.2)) none) (cond q8 none (some (r1.1, r1.2.1, r1.2.2.1, r1.2.2.2.1, r1.2.2.2.2.1, r1.2.2.2.2.2.1, r1.2.2.2.2.2.2.1, r1.2.2.2.2.2.2.2))))) (some (r1.1, r1.2.1, r1.2.2.1, r1.2.2.2.1, r1.2.2.2.2.1, r1.2.2.2.2.2.1, r1.2.2.2.2.2.2.1, r1.2.2.2.2.2.2.2)))) (cond (!(a0 == 0 && (a1 == 0 && (a2 == 0 && (a3 == 0 && (a4 == 0 && (a5 == 0 && (a6 == 0 && (a7 == 0 && true))))))))) (Option.bind (ak a0 a1 a2 a3 a4 a5 a6 a7) fun r3 => (cond r3 (cond q8 (some (a0, a1, a2, a3, a4, a5, a6, a7)) none) (cond q8 none (some (a0, a1, a2, a3, a4, a5, a6, a7))))) (some (a0, a1, a2, a3, a4, a5, a6, a7))))
def mC : FD where
 X := Int × Int × Int × Int × Int × Int × Int × Int
 k := 0
 pre := []
 F := fun s => []
 M := .agg (rl (.int .u64) 8 [])
 B := []
 toL := fun x => [.I x.1, .I x.2.1, .I x.2.2.1, .I x.2.2.2.1, .I x.s4.1, .I x.s4.2.1, .I x.s4.2.2.1, .I x.s4.2.2.2]
 ofL := fun ls => match ls with
  | [.I x0, .I x1, .I x2, .I x3, .I x4, .I x5, .I x6, .I x7] => some (x0, x1, x2, x3, x4, x5, x6, x7)
  | _ => none
 au := fun ls x h => by
  split at h
  ·cases h; rfl
  ·cases h
theorem FS (a0 a1 a2 a3 a4 a5 a6 a7 : Int) (q8 : Bool) (x : Int × Int × Int × Int × Int × Int × Int × Int) (h : bp a0 a1 a2 a3 a4 a5 a6 a7 q8 = some x) : aX Tryz.prog 87 0 [.agg (af a0 a1 a2 a3 a4 a5 a6 a7), .bool q8] [] mC x :=
 FD.semA mC Da Tryz.func87 (fuel := 60) (by kernel_rfl) (by kernel_rfl)
  (by kernel_rfl) (Eq.trans (by kernel_rfl) h)
def uZ : HK where
 call := fun args σ k => match args with
  | [.agg [.int .u64 a0, .int .u64 a1, .int .u64 a2, .int .u64 a3, .int .u64 a4, .int .u64 a5, .int .u64 a6, .int .u64 a7], .bool q8] => Option.bind (bp a0 a1 a2 a3 a4 a5 a6 a7 q8) fun y => az σ 0 (mC.val y) (mC.aN y) k
  | _ => none
 nat := fun args σ k => by
  repeat' split
  all_goals simp only [aw, Option.bind_assoc, Option.bind_none, az, Option.bind_some]
 pure := true
 pok := fun _ args σ r σ' h => by
  split at h
  ·exact bm h (fun y => rfl) (fun y f => rfl)
  ·cases h
theorem GN : aT Tryz.prog 87 uZ := by
 intro args σ r σ' h
 simp only [uZ] at h
 split at h
 ·rename_i a0 a1 a2 a3 a4 a5 a6 a7 q8
  obtain ⟨y, hy, h⟩ := bE_ h
  exact lifted (xs := []) (ls := []) (cargs := [.agg (af a0 a1 a2 a3 a4 a5 a6 a7), .bool q8]) (bt.of trivial) rfl (FS a0 a1 a2 a3 a4 a5 a6 a7 q8 y hy) rfl rfl rfl rfl h
 ·cases h
abbrev DK := (I8 (I8 Bool))
def Cv : CH := (CH.add 107 xj (CH.add 87 uZ (CH.add 84 tD (CH.add 60 cU (CH.add 59 nO (CH.add 58 jE (CH.add 56 tE CH.none)))))))
theorem GM : aE Tryz.prog Cv := (CH.aj HZ (CH.aj GN (CH.aj Ap (CH.aj cY (CH.aj po (CH.aj ki (CH.aj Aq CH.aC)))))))
def k6 (a0 a1 a2 a3 a4 a5 a6 a7 a8 a9 a10 a11 a12 a13 a14 a15 : Int) : Option (DK) :=
 (Option.bind (lK a8 a9 a10 a11 a12 a13 a14 a15) fun r1 => (cond (r1 == 0) (some (0, 0, 0, 0, 0, 0, 0, 0, 0, 0, 0, 0, 0, 0, 0, 0, false)) (Option.bind (dL a0 a1 a2 a3 a4 a5 a6 a7) fun r2 => (Option.bind (dL a8 a9 a10 a11 a12 a13 a14 a15) fun r3 => (Option.bind (mY r2.1 r2.2.1 r2.2.2.1 r2.2.2.2.1 r2.2.2.2.2.1 r2.2.2.2.2.2.1 r2.2.2.2.2.2.2.1 r2.2.2.2.2.2.2.2 r3.1 r3.2.1 r3.2.2.1 r3.2.2.2.1 r3.2.2.2.2.1 r3.2.2.2.2.2.1 r3.2.2.2.2.2.2.1 r3.2.2.2.2.2.2.2) fun r4 => (Option.bind (ak a0 a1 a2 a3 a4 a5 a6 a7) fun r5 => (cond r5 (Option.bind (ak a8 a9 a10 a11 a12 a13 a14 a15) fun r6 => (cond r6 (Option.bind (bp r4.1 r4.2.1 r4.2.2.1 r4.2.2.2.1 r4.2.2.2.2.1 r4.2.2.2.2.2.1 r4.2.2.2.2.2.2.1 r4.2.2.2.2.2.2.2.1 false) fun r7 => (Option.bind (ak a8 a9 a10 a11 a12 a13 a14 a15) fun r8 => (cond r8 (Option.bind (bp r4.2.2.2.2.2.2.2.2.1 r4.2.2.2.2.2.2.2.2.2.1 r4.2.2.2.2.2.2.2.2.2.2.1 r4.2.2.2.2.2.2.2.2.2.2.2.1 r4.2.2.2.2.2.2.2.2.2.2.2.2.1 r4.2.2.2.2.2.2.2.2.2.2.2.2.2.1 r4.2.2.2.2.2.2.2.2.2.2.2.2.2.2.1 r4.2.2.2.2.2.2.2.2.2.2.2.2.2.2.2 true) fun r9 => (some (r7.1, r7.2.1, r7.2.2.1, r7.2.2.2.1, r7.2.2.2.2.1, r7.2.2.2.2.2.1, r7.2.2.2.2.2.2.1, r7.2.2.2.2.2.2.2, r9.1, r9.2.1, r9.2.2.1, r9.2.2.2.1, r9.2.2.2.2.1, r9.2.2.2.2.2.1, r9.2.2.2.2.2.2.1, r9.2.2.2.2.2.2.2, true))) (Option.bind (bp r4.2.2.2.2.2.2.2.2.1 r4.2.2.2.2.2.2.2.2.2.1 r4.2.2.2.2.2.2.2.2.2.2.1 r4.2.2.2.2.2.2.2.2.2.2.2.1 r4.2.2.2.2.2.2.2.2.2.2.2.2.1 r4.2.2.2.2.2.2.2.2.2.2.2.2.2.1 r4.2.2.2.2.2.2.2.2.2.2.2.2.2.2.1 r4.2.2.2.2.2.2.2.2.2.2.2.2.2.2.2 false) fun r10 => (some (r7.1, r7.2.1, r7.2.2.1, r7.2.2.2.1, r7.2.2.2.2.1, r7.2.2.2.2.2.1, r7.2.2.2.2.2.2.1, r7.2.2.2.2.2.2.2, r10.1, r10.2.1, r10.2.2.1, r10.2.2.2.1, r10.2.2.2.2.1, r10.2.2.2.2.2.1, r10.2.2.2.2.2.2.1, r10.2.2.2.2.2.2.2, true)))))) (cond (!(r4.2.2.2.2.2.2.2.2.1 == 0 && (r4.2.2.2.2.2.2.2.2.2.1 == 0 && (r4.2.2.2.2.2.2.2.2.2.2.1 == 0 && (r4.2.2.2.2.2.2.2.2.2.2.2.1 == 0 && (r4.2.2.2.2.2.2.2.2.2.2.2.2.1 == 0 && (r4.2.2.2.2.2.2.2.2.2.2.2.2.2.1 == 0 && (r4.2.2.2.2.2.2.2.2.2.2.2.2.2.2.1 == 0 && (r4.2.2.2.2.2.2.2.2.2.2.2.2.2.2.2 == 0 && true))))))))) (Option.bind (dK r4.1 r4.2.1 r4.2.2.1 r4.2.2.2.1 r4.2.2.2.2.1 r4.2.2.2.2.2.1 r4.2.2.2.2.2.2.1 r4.2.2.2.2.2.2.2.1 0 0 0 0 0 0 0 0 1) fun r11 => (Option.bind (dL a8 a9 a10 a11 a12 a13 a14 a15) fun r12 => (Option.bind (hU r4.2.2.2.2.2.2.2.2.1 r4.2.2.2.2.2.2.2.2.2.1 r4.2.2.2.2.2.2.2.2.2.2.1 r4.2.2.2.2.2.2.2.2.2.2.2.1 r4.2.2.2.2.2.2.2.2.2.2.2.2.1 r4.2.2.2.2.2.2.2.2.2.2.2.2.2.1 r4.2.2.2.2.2.2.2.2.2.2.2.2.2.2.1 r4.2.2.2.2.2.2.2.2.2.2.2.2.2.2.2) fun r13 => (Option.bind (dK r12.1 r12.2.1 r12.2.2.1 r12.2.2.2.1 r12.2.2.2.2.1 r12.2.2.2.2.2.1 r12.2.2.2.2.2.2.1 r12.2.2.2.2.2.2.2 r13.1 r13.2.1 r13.2.2.1 r13.2.2.2.1 r13.2.2.2.2.1 r13.2.2.2.2.2.1 r13.2.2.2.2.2.2.1 r13.2.2.2.2.2.2.2 1) fun r14 => (Option.bind (bp r11.1 r11.2.1 r11.2.2.1 r11.2.2.2.1 r11.2.2.2.2.1 r11.2.2.2.2.2.1 r11.2.2.2.2.2.2.1 r11.2.2.2.2.2.2.2 true) fun r15 => (Option.bind (ak a8 a9 a10 a11 a12 a13 a14 a15) fun r16 => (cond r16 (Option.bind (bp r14.1 r14.2.1 r14.2.2.1 r14.2.2.2.1 r14.2.2.2.2.1 r14.2.2.2.2.2.1 r14.2.2.2.2.2.2.1 r14.2.2.2.2.2.2.2 true) fun r17 => (some (r15.1, r15.2.1, r15.2.2.1, r15.2.2.2.1, r15.2.2.2.2.1, r15.2.2.2.2.2.1, r15.2.2.2.2.2.2.1, r15.2.2.2.2.2.2.2, r17.1, r17.2.1, r17.2.2.1, r17.2.2.2.1, r17.2.2.2.2.1, r17.2.2.2.2.2.1, r17.2.2.2.2.2.2.1, r17.2.2.2.2.2.2.2, true))) (Option.bind (bp r14.1 r14.2.1 r14.2.2.1 r14.2.2.2.1 r14.2.2.2.2.1 r14.2.2.2.2.2.1 r14.2.2.2.2.2.2.1 r14.2.2.2.2.2.2.2 false) fun r18 => (some (r15.1, r15.2.1, r15.2.2.1, r15.2.2.2.1, r15.2.2.2.2.1, r15.2.2.2.2.2.1, r15.2.2.2.2.2.2.1, r15.2.2.2.2.2.2.2, r18.1, r18.2.1, r18.2.2.1, r18.2.2.2.1, r18.2.2.2.2.1, r18.2.2.2.2.2.1, r18.2.2.2.2.2.2.1, r18.2.2.2.2.2.2.2, true)))))))))) (Option.bind (bp r4.1 r4.2.1 r4.2.2.1 r4.2.2.2.1 r4.2.2.2.2.1 r4.2.2.2.2.2.1 r4.2.2.2.2.2.2.1 r4.2.2.2.2.2.2.2.1 true) fun r19 => (Option.bind (ak a8 a9 a10 a11 a12 a13 a14 a15) fun r20 => (cond r20 (Option.bind (bp r4.2.2.2.2.2.2.2.2.1 r4.2.2.2.2.2.2.2.2.2.1 r4.2.2.2.2.2.2.2.2.2.2.1 r4.2.2.2.2.2.2.2.2.2.2.2.1 r4.2.2.2.2.2.2.2.2.2.2.2.2.1 r4.2.2.2.2.2.2.2.2.2.2.2.2.2.1 r4.2.2.2.2.2.2.2.2.2.2.2.2.2.2.1 r4.2.2.2.2.2.2.2.2.2.2.2.2.2.2.2 true) fun r21 => (some (r19.1, r19.2.1, r19.2.2.1, r19.2.2.2.1, r19.2.2.2.2.1, r19.2.2.2.2.2.1, r19.2.2.2.2.2.2.1, r19.2.2.2.2.2.2.2, r21.1, r21.2.1, r21.2.2.1, r21.2.2.2.1, r21.2.2.2.2.1, r21.2.2.2.2.2.1, r21.2.2.2.2.2.2.1, r21.2.2.2.2.2.2.2, true))) (Option.bind (bp r4.2.2.2.2.2.2.2.2.1 r4.2.2.2.2.2.2.2.2.2.1 r4.2.2.2.2.2.2.2.2.2.2.1 r4.2.2.2.2.2.2.2.2.2.2.2.1 r4.2.2.2.2.2.2.2.2.2.2.2.2.1 r4.2.2.2.2.2.2.2.2.2.2.2.2.2.1 r4.2.2.2.2.2.2.2.2.2.2.2.2.2.2.1 r4.2.2.2.2.2.2.2.2.2.2.2.2.2.2.2 false) fun r22 => (some (r19.1, r19.2.1, r19.2.2.1, r19.2.2.2.1, r19.2.2.2.2.1, r19.2.2.2.2.2.1, r19.2.2.2.2.2.2.1, r19.2.2.2.2.2.2.2, r22.1, r22.2.1, r22.2.2.1, r22.2.2.2.1, r22.2.2.2.2.1, r22.2.2.2.2.2.1, r22.2.2.2.2.2.2.1, r22.2.2.2.2.2.2.2, true))))))))) (Option.bind (ak a8 a9 a10 a11 a12 a13 a14 a15) fun r23 => (cond r23 (cond (!(r4.2.2.2.2.2.2.2.2.1 == 0 && (r4.2.2.2.2.2.2.2.2.2.1 == 0 && (r4.2.2.2.2.2.2.2.2.2.2.1 == 0 && (r4.2.2.2.2.2.2.2.2.2.2.2.1 == 0 && (r4.2.2.2.2.2.2.2.2.2.2.2.2.1 == 0 && (r4.2.2.2.2.2.2.2.2.2.2.2.2.2.1 == 0 && (r4.2.2.2.2.2.2.2.2.2.2.2.2.2.2.1 == 0 && (r4.2.2.2.2.2.2.2.2.2.2.2.2.2.2.2 == 0 && true))))))))) (Option.bind (dK r4.1 r4.2.1 r4.2.2.1 r4.2.2.2.1 r4.2.2.2.2.1 r4.2.2.2.2.2.1 r4.2.2.2.2.2.2.1 r4.2.2.2.2.2.2.2.1 0 0 0 0 0 0 0 0 1) fun r24 => (Option.bind (dL a8 a9 a10 a11 a12 a13 a14 a15) fun r25 => (Option.bind (hU r4.2.2.2.2.2.2.2.2.1 r4.2.2.2.2.2.2.2.2.2.1 r4.2.2.2.2.2.2.2.2.2.2.1 r4.2.2.2.2.2.2.2.2.2.2.2.1 r4.2.2.2.2.2.2.2.2.2.2.2.2.1 r4.2.2.2.2.2.2.2.2.2.2.2.2.2.1 r4.2.2.2.2.2.2.2.2.2.2.2.2.2.2.1 r4.2.2.2.2.2.2.2.2.2.2.2.2.2.2.2) fun r26 => (Option.bind (dK r25.1 r25.2.1 r25.2.2.1 r25.2.2.2.1 r25.2.2.2.2.1 r25.2.2.2.2.2.1 r25.2.2.2.2.2.2.1 r25.2.2.2.2.2.2.2 r26.1 r26.2.1 r26.2.2.1 r26.2.2.2.1 r26.2.2.2.2.1 r26.2.2.2.2.2.1 r26.2.2.2.2.2.2.1 r26.2.2.2.2.2.2.2 1) fun r27 => (Option.bind (bp r24.1 r24.2.1 r24.2.2.1 r24.2.2.2.1 r24.2.2.2.2.1 r24.2.2.2.2.2.1 r24.2.2.2.2.2.2.1 r24.2.2.2.2.2.2.2 true) fun r28 => (Option.bind (ak a8 a9 a10 a11 a12 a13 a14 a15) fun r29 => (cond r29 (Option.bind (bp r27.1 r27.2.1 r27.2.2.1 r27.2.2.2.1 r27.2.2.2.2.1 r27.2.2.2.2.2.1 r27.2.2.2.2.2.2.1 r27.2.2.2.2.2.2.2 true) fun r30 => (some (r28.1, r28.2.1, r28.2.2.1, r28.2.2.2.1, r28.2.2.2.2.1, r28.2.2.2.2.2.1, r28.2.2.2.2.2.2.1, r28.2.2.2.2.2.2.2, r30.1, r30.2.1, r30.2.2.1, r30.2.2.2.1, r30.2.2.2.2.1, r30.2.2.2.2.2.1, r30.2.2.2.2.2.2.1, r30.2.2.2.2.2.2.2, true))) (Option.bind (bp r27.1 r27.2.1 r27.2.2.1 r27.2.2.2.1 r27.2.2.2.2.1 r27.2.2.2.2.2.1 r27.2.2.2.2.2.2.1 r27.2.2.2.2.2.2.2 false) fun r31 => (some (r28.1, r28.2.1, r28.2.2.1, r28.2.2.2.1, r28.2.2.2.2.1, r28.2.2.2.2.2.1, r28.2.2.2.2.2.2.1, r28.2.2.2.2.2.2.2, r31.1, r31.2.1, r31.2.2.1, r31.2.2.2.1, r31.2.2.2.2.1, r31.2.2.2.2.2.1, r31.2.2.2.2.2.2.1, r31.2.2.2.2.2.2.2, true)))))))))) (Option.bind (bp r4.1 r4.2.1 r4.2.2.1 r4.2.2.2.1 r4.2.2.2.2.1 r4.2.2.2.2.2.1 r4.2.2.2.2.2.2.1 r4.2.2.2.2.2.2.2.1 true) fun r32 => (Option.bind (ak a8 a9 a10 a11 a12 a13 a14 a15) fun r33 => (cond r33 (Option.bind (bp r4.2.2.2.2.2.2.2.2.1 r4.2.2.2.2.2.2.2.2.2.1 r4.2.2.2.2.2.2.2.2.2.2.1 r4.2.2.2.2.2.2.2.2.2.2.2.1 r4.2.2.2.2.2.2.2.2.2.2.2.2.1 r4.2.2.2.2.2.2.2.2.2.2.2.2.2.1 r4.2.2.2.2.2.2.2.2.2.2.2.2.2.2.1 r4.2.2.2.2.2.2.2.2.2.2.2.2.2.2.2 true) fun r34 => (some (r32.1, r32.2.1, r32.2.2.1, r32.2.2.2.1, r32.2.2.2.2.1, r32.2.2.2.2.2.1, r32.2.2.2.2.2.2.1, r32.2.2.2.2.2.2.2, r34.1, r34.2.1, r34.2.2.1, r34.2.2.2.1, r34.2.2.2.2.1, r34.2.2.2.2.2.1, r34.2.2.2.2.2.2.1, r34.2.2.2.2.2.2.2, true))) (Option.bind (bp r4.2.2.2.2.2.2.2.2.1 r4.2.2.2.2.2.2.2.2.2.1 r4.2.2.2.2.2.2.2.2.2.2.1 r4.2.2.2.2.2.2.2.2.2.2.2.1 r4.2.2.2.2.2.2.2.2.2.2.2.2.1 r4.2.2.2.2.2.2.2.2.2.2.2.2.2.1 r4.2.2.2.2.2.2.2.2.2.2.2.2.2.2.1 r4.2.2.2.2.2.2.2.2.2.2.2.2.2.2.2 false) fun r35 => (some (r32.1, r32.2.1, r32.2.2.1, r32.2.2.2.1, r32.2.2.2.2.1, r32.2.2.2.2.2.1, r32.2.2.2.2.2.2.1, r32.2.2.2.2.2.2.2, r35.1, r35.2.1, r35.2.2.1, r35.2.2.2.1, r35.2.2.2.2.1, r35.2.2.2.2.2.1, r35.2.2.2.2.2.2.1, r35.2.2.2.2.2.2.2, true))))))) (Option.bind (bp r4.1 r4.2.1 r4.2.2.1 r4.2.2.2.1 r4.2.2.2.2.1 r4.2.2.2.2.2.1 r4.2.2.2.2.2.2.1 r4.2.2.2.2.2.2.2.1 false) fun r36 => (Option.bind (ak a8 a9 a10 a11 a12 a13 a14 a15) fun r37 => (cond r37 (Option.bind (bp r4.2.2.2.2.2.2.2.2.1 r4.2.2.2.2.2.2.2.2.2.1 r4.2.2.2.2.2.2.2.2.2.2.1 r4.2.2.2.2.2.2.2.2.2.2.2.1 r4.2.2.2.2.2.2.2.2.2.2.2.2.1 r4.2.2.2.2.2.2.2.2.2.2.2.2.2.1 r4.2.2.2.2.2.2.2.2.2.2.2.2.2.2.1 r4.2.2.2.2.2.2.2.2.2.2.2.2.2.2.2 true) fun r38 => (some (r36.1, r36.2.1, r36.2.2.1, r36.2.2.2.1, r36.2.2.2.2.1, r36.2.2.2.2.2.1, r36.2.2.2.2.2.2.1, r36.2.2.2.2.2.2.2, r38.1, r38.2.1, r38.2.2.1, r38.2.2.2.1, r38.2.2.2.2.1, r38.2.2.2.2.2.1, r38.2.2.2.2.2.2.1, r38.2.2.2.2.2.2.2, true))) (Option.bind (bp r4.2.2.2.2.2.2.2.2.1 r4.2.2.2.2.2.2.2.2.2.1 r4.2.2.2.2.2.2.2.2.2.2.1 r4.2.2.2.2.2.2.2.2.2.2.2.1 r4.2.2.2.2.2.2.2.2.2.2.2.2.1 r4.2.2.2.2.2.2.2.2.2.2.2.2.2.1 r4.2.2.2.2.2.2.2.2.2.2.2.2.2.2.1 r4.2.2.2.2.2.2.2.2.2.2.2.2.2.2.2 false) fun r39 => (some (r36.1, r36.2.1, r36.2.2.1, r36.2.2.2.1, r36.2.2.2.2.1, r36.2.2.2.2.2.1, r36.2.2.2.2.2.2.1, r36.2.2.2.2.2.2.2, r39.1, r39.2.1, r39.2.2.1, r39.2.2.2.1, r39.2.2.2.2.1, r39.2.2.2.2.2.1, r39.2.2.2.2.2.2.1, r39.2.2.2.2.2.2.2, true)))))))))))))))
def ry : FD where
 X := DK
 k := 0
 pre := []
 F := fun s => []
 M := .tup [.agg (rl (.int .u64) 8 []), .agg (rl (.int .u64) 8 []), .bool]
 B := []
 toL := fun x => [.I x.1, .I x.2.1, .I x.2.2.1, .I x.2.2.2.1, .I x.s4.1, .I x.s4.2.1, .I x.s4.2.2.1, .I x.s4.2.2.2.1, .I x.s8.1, .I x.s8.2.1, .I x.s8.2.2.1, .I x.s8.2.2.2.1, .I x.s8.s4.1, .I x.s8.s4.2.1, .I x.s8.s4.2.2.1, .I x.s8.s4.2.2.2.1, .B x.s16]
 ofL := fun ls => match ls with
  | [.I x0, .I x1, .I x2, .I x3, .I x4, .I x5, .I x6, .I x7, .I x8, .I x9, .I x10, .I x11, .I x12, .I x13, .I x14, .I x15, .B x16] => some (x0, x1, x2, x3, x4, x5, x6, x7, x8, x9, x10, x11, x12, x13, x14, x15, x16)
  | _ => none
 au := fun ls x h => by
  split at h
  ·cases h; rfl
  ·cases h
theorem Jo : yt Tryz.prog 106 Tryz.f106 0 (NZ (Oa (bq Tryz.f106))) (I4 (bq Tryz.f106) 0) (I4 (bq Tryz.f106) 1) (QA (bq Tryz.f106)) 4 3 :=
 ⟨Tryz.func106, ⟨_, Tryz.func106, bE 106 _ Tryz.func106, by kernel_rfl⟩, by kernel_rfl, by kernel_rfl, by kernel_rfl, by kernel_rfl, by kernel_rfl, by kernel_rfl, by kernel_rfl, by kernel_rfl, by kernel_rfl, (by decide)⟩
theorem Jp (a0 a1 a2 a3 a4 a5 a6 a7 a8 a9 a10 a11 a12 a13 a14 a15 : Int) (x : DK) (h : k6 a0 a1 a2 a3 a4 a5 a6 a7 a8 a9 a10 a11 a12 a13 a14 a15 = some x) : aX Tryz.prog 79 0 [.agg (af a0 a1 a2 a3 a4 a5 a6 a7), .agg (af a8 a9 a10 a11 a12 a13 a14 a15)] [] ry x :=
 FD.TB (ch := Cv) (A := bu) (fn := Tryz.f79) (c := bq Tryz.f79) (fuel := 60) aL GM mixed bE ry Tryz.func79 (by kernel_rfl) (aJ (l := []) (by kernel_rfl) trivial)
  (by kernel_rfl) Jo (by kernel_rfl) (Eq.trans (by kernel_rfl) h)
def Bw : HK where
 call := fun args σ k => match args with
  | [.agg [.int .u64 a0, .int .u64 a1, .int .u64 a2, .int .u64 a3, .int .u64 a4, .int .u64 a5, .int .u64 a6, .int .u64 a7], .agg [.int .u64 a8, .int .u64 a9, .int .u64 a10, .int .u64 a11, .int .u64 a12, .int .u64 a13, .int .u64 a14, .int .u64 a15]] => Option.bind (k6 a0 a1 a2 a3 a4 a5 a6 a7 a8 a9 a10 a11 a12 a13 a14 a15) fun y => az σ 0 (ry.val y) (ry.aN y) k
  | _ => none
 nat := fun args σ k => by
  repeat' split
  all_goals simp only [aw, Option.bind_assoc, Option.bind_none, az, Option.bind_some]
 pure := true
 pok := fun _ args σ r σ' h => by
  split at h
  ·exact bm h (fun y => rfl) (fun y f => rfl)
  ·cases h
theorem KO : aT Tryz.prog 79 Bw := by
 intro args σ r σ' h
 simp only [Bw] at h
 split at h
 ·rename_i a0 a1 a2 a3 a4 a5 a6 a7 a8 a9 a10 a11 a12 a13 a14 a15
  obtain ⟨y, hy, h⟩ := bE_ h
  exact lifted (xs := []) (ls := []) (cargs := [.agg (af a0 a1 a2 a3 a4 a5 a6 a7), .agg (af a8 a9 a10 a11 a12 a13 a14 a15)]) (bt.of trivial) rfl (Jp a0 a1 a2 a3 a4 a5 a6 a7 a8 a9 a10 a11 a12 a13 a14 a15 y hy) rfl rfl rfl rfl h
 ·cases h
end Go.Ev
