import Derived.Test.YtbmjabafceihgaaKah
set_option linter.unusedVariables false
set_option linter.unusedSimpArgs false
set_option maxRecDepth 100000
noncomputable section
namespace Go.Ev
open Go.Proofs
def wO : CH := CH.none
theorem BV : aE Try.prog wO := CH.aB
def jv (a0 a1 a2 : Int) : Option (Int) :=
 (cond (decide (a0 < (-268435456))) (some 7) (cond (decide (a0 > 268435456)) (some 7) (cond (decide (a1 < (-268435456))) (some 7) (cond (decide (a1 > 268435456)) (some 7) (cond (decide (a2 < (-268435456))) (some 7) (cond (decide (a2 > 268435456)) (some 7) (some 0)))))))
def mE : FD where
 X := Int
 k := 0
 pre := []
 F := fun s => []
 M := .int .i64
 B := []
 toL := fun x => [.I x]
 ofL := fun ls => match ls with
  | [.I x0] => some x0
  | _ => none
 au := fun ls x h => by
  split at h
  ·cases h; rfl
  ·cases h
theorem E5 (a0 a1 a2 x : Int) (h : jv a0 a1 a2 = some x) : bc Try.prog 14 0 [.agg [.int .i64 a0, .int .i64 a1, .int .i64 a2]] [] mE x :=
 FD.sem (ch := wO) (A := bt) (fn := Try.f14) (c := bq Try.f14) (fuel := 60) aJ BV mixed bG mE Try.func14 (by kernel_rfl) (aI (l := [aK Try.f14 0]) (by kernel_rfl) ⟨(eh (by kernel_rfl)), trivial⟩)
  (by kernel_rfl) (Eq.trans (by kernel_rfl) h)
def pE : HK where
 call := fun args σ k => match args with
  | [.agg [.int .i64 a0, .int .i64 a1, .int .i64 a2]] => Option.bind (jv a0 a1 a2) fun y => aA σ 0 (mE.val y) (mE.aL y) k
  | _ => none
 nat := fun args σ k => by
  repeat' split
  all_goals simp only [aw, ai, Option.bind_assoc, Option.bind_none, aA, Option.bind_some]
 pure := true
 pok := fun _ args σ r σ' h => by
  split at h
  ·exact bp h (fun y => rfl) (fun y f => rfl)
  ·cases h
theorem wI : aW Try.prog 14 pE := by
 intro args σ r σ' h
 simp only [pE] at h
 split at h
 ·rename_i a0 a1 a2
  obtain ⟨y, hy, h⟩ := bE_ h
  exact lifted (xs := []) (ls := []) (cargs := [.agg [.int .i64 a0, .int .i64 a1, .int .i64 a2]]) (bv.of trivial) rfl (E5 a0 a1 a2 y hy) rfl rfl rfl rfl h
 ·cases h
end Go.Ev
namespace Go.Ev
open Go.Proofs
abbrev li8 (x : Int) (r : LA_) : LA_ := .int .u64 (aa x 0) :: .int .u64 (aa x 1) :: .int .u64 (aa x 2) :: .int .u64 (aa x 3) :: .int .u64 (aa x 4) :: .int .u64 (aa x 5) :: .int .u64 (aa x 6) :: .int .u64 (aa x 7) :: r
abbrev aX {R : Type} (x : Int) (r : R) : Int × Int × Int × Int × Int × Int × Int × Int × R := (aa x 0, aa x 1, aa x 2, aa x 3, aa x 4, aa x 5, aa x 6, aa x 7, r)
end Go.Ev
namespace Go.Ev
open Go.Proofs
abbrev E9 := (I8 (I8 (Int × Int × Int × Int × Int × Int × Int × Int)))
def Kn : CH := (CH.add 19 Ic CH.none)
theorem Gr : aE Try.prog Kn := (CH.aj Dc CH.aB)
def jS (a0 a1 a2 : Int) : Option (E9) :=
 (Option.bind (cOf a0) fun r1 => (Option.bind (cOf a1) fun r2 => (Option.bind (cOf a2) fun r3 => (some ((aa r1 0), (aa r1 1), (aa r1 2), (aa r1 3), (aa r1 4), (aa r1 5), (aa r1 6), (aa r1 7), (aa r2 0), (aa r2 1), (aa r2 2), (aa r2 3), (aa r2 4), (aa r2 5), (aa r2 6), (aa r2 7), (aa r3 0), (aa r3 1), (aa r3 2), (aa r3 3), (aa r3 4), (aa r3 5), (aa r3 6), (aa r3 7))))))
def sr : FD where
 X := E9
 k := 0
 pre := []
 F := fun s => []
 M := .agg (rl (.int .u64) 24 [])
 B := []
 toL := fun x => [.I x.1, .I x.2.1, .I x.2.2.1, .I x.2.2.2.1, .I x.s4.1, .I x.s4.2.1, .I x.s4.2.2.1, .I x.s4.2.2.2.1, .I x.s8.1, .I x.s8.2.1, .I x.s8.2.2.1, .I x.s8.2.2.2.1, .I x.s8.s4.1, .I x.s8.s4.2.1, .I x.s8.s4.2.2.1, .I x.s8.s4.2.2.2.1, .I x.s16.1, .I x.s16.2.1, .I x.s16.2.2.1, .I x.s16.2.2.2.1, .I x.s16.s4.1, .I x.s16.s4.2.1, .I x.s16.s4.2.2.1, .I x.s16.s4.2.2.2]
 ofL := fun ls => match ls with
  | [.I x0, .I x1, .I x2, .I x3, .I x4, .I x5, .I x6, .I x7, .I x8, .I x9, .I x10, .I x11, .I x12, .I x13, .I x14, .I x15, .I x16, .I x17, .I x18, .I x19, .I x20, .I x21, .I x22, .I x23] => some (x0, x1, x2, x3, x4, x5, x6, x7, x8, x9, x10, x11, x12, x13, x14, x15, x16, x17, x18, x19, x20, x21, x22, x23)
  | _ => none
 au := fun ls x h => by
  split at h
  ·cases h; rfl
  ·cases h
theorem JJ (a0 a1 a2 : Int) (x : E9) (h : jS a0 a1 a2 = some x) : bc Try.prog 34 0 [.agg [.int .i64 a0, .int .i64 a1, .int .i64 a2]] [] sr x :=
 FD.semA sr Gr Try.func34 (fuel := 60) (by kernel_rfl) (by kernel_rfl)
  (by kernel_rfl) (Eq.trans (by kernel_rfl) h)
def sL : HK where
 call := fun args σ k => match args with
  | [.agg [.int .i64 a0, .int .i64 a1, .int .i64 a2]] => Option.bind (jS a0 a1 a2) fun y => aA σ 0 (sr.val y) (sr.aL y) k
  | _ => none
 nat := fun args σ k => by
  repeat' split
  all_goals simp only [aw, ai, Option.bind_assoc, Option.bind_none, aA, Option.bind_some]
 pure := true
 pok := fun _ args σ r σ' h => by
  split at h
  ·exact bp h (fun y => rfl) (fun y f => rfl)
  ·cases h
theorem vz : aW Try.prog 34 sL := by
 intro args σ r σ' h
 simp only [sL] at h
 split at h
 ·rename_i a0 a1 a2
  obtain ⟨y, hy, h⟩ := bE_ h
  exact lifted (xs := []) (ls := []) (cargs := [.agg [.int .i64 a0, .int .i64 a1, .int .i64 a2]]) (bv.of trivial) rfl (JJ a0 a1 a2 y hy) rfl rfl rfl rfl h
 ·cases h
abbrev xB := (I8 Bool)
def vy : CH := (CH.add 34 sL (CH.add 36 J1 (CH.add 35 Gm CH.none)))
def wN : CH := vm Try.prog jm [33] 60 vy 2
theorem Bo : aE Try.prog vy := (CH.aj vz (CH.aj Kl (CH.aj E3 CH.aB)))
theorem BU : aE Try.prog wN := iF aJ mixed bG Bo 2
def gN (a0 a1 a2 a3 a4 a5 a6 a7 a8 a9 a10 a11 a12 a13 a14 a15 a16 a17 a18 a19 a20 a21 a22 a23 a24 a25 a26 : Int) : Option (xB) :=
 (Option.bind (jS a24 a25 a26) fun r1 => (Option.bind (vA a0 a1 a2 a3 a4 a5 a6 a7 r1.1 r1.2.1 r1.2.2.1 r1.2.2.2.1 r1.2.2.2.2.1 r1.2.2.2.2.2.1 r1.2.2.2.2.2.2.1 r1.2.2.2.2.2.2.2.1) fun r2 => (cond r2.2 (Option.bind (vB 0 0 0 0 0 0 0 0 (aa r2.1 0) (aa r2.1 1) (aa r2.1 2) (aa r2.1 3) (aa r2.1 4) (aa r2.1 5) (aa r2.1 6) (aa r2.1 7)) fun r3 => (cond r3.2 (Option.bind (vA a8 a9 a10 a11 a12 a13 a14 a15 r1.2.2.2.2.2.2.2.2.1 r1.2.2.2.2.2.2.2.2.2.1 r1.2.2.2.2.2.2.2.2.2.2.1 r1.2.2.2.2.2.2.2.2.2.2.2.1 r1.2.2.2.2.2.2.2.2.2.2.2.2.1 r1.2.2.2.2.2.2.2.2.2.2.2.2.2.1 r1.2.2.2.2.2.2.2.2.2.2.2.2.2.2.1 r1.2.2.2.2.2.2.2.2.2.2.2.2.2.2.2.1) fun r4 => (cond r4.2 (Option.bind (vB (aa r3.1 0) (aa r3.1 1) (aa r3.1 2) (aa r3.1 3) (aa r3.1 4) (aa r3.1 5) (aa r3.1 6) (aa r3.1 7) (aa r4.1 0) (aa r4.1 1) (aa r4.1 2) (aa r4.1 3) (aa r4.1 4) (aa r4.1 5) (aa r4.1 6) (aa r4.1 7)) fun r5 => (cond r5.2 (Option.bind (vA a16 a17 a18 a19 a20 a21 a22 a23 r1.2.2.2.2.2.2.2.2.2.2.2.2.2.2.2.2.1 r1.2.2.2.2.2.2.2.2.2.2.2.2.2.2.2.2.2.1 r1.2.2.2.2.2.2.2.2.2.2.2.2.2.2.2.2.2.2.1 r1.2.2.2.2.2.2.2.2.2.2.2.2.2.2.2.2.2.2.2.1 r1.2.2.2.2.2.2.2.2.2.2.2.2.2.2.2.2.2.2.2.2.1 r1.2.2.2.2.2.2.2.2.2.2.2.2.2.2.2.2.2.2.2.2.2.1 r1.2.2.2.2.2.2.2.2.2.2.2.2.2.2.2.2.2.2.2.2.2.2.1 r1.2.2.2.2.2.2.2.2.2.2.2.2.2.2.2.2.2.2.2.2.2.2.2) fun r6 => (cond r6.2 (Option.bind (vB (aa r5.1 0) (aa r5.1 1) (aa r5.1 2) (aa r5.1 3) (aa r5.1 4) (aa r5.1 5) (aa r5.1 6) (aa r5.1 7) (aa r6.1 0) (aa r6.1 1) (aa r6.1 2) (aa r6.1 3) (aa r6.1 4) (aa r6.1 5) (aa r6.1 6) (aa r6.1 7)) fun r7 => (cond r7.2 (some (aX r7.1 true)) (some (0, 0, 0, 0, 0, 0, 0, 0, false)))) (some (0, 0, 0, 0, 0, 0, 0, 0, false)))) (some (0, 0, 0, 0, 0, 0, 0, 0, false)))) (some (0, 0, 0, 0, 0, 0, 0, 0, false)))) (some (0, 0, 0, 0, 0, 0, 0, 0, false)))) (some (0, 0, 0, 0, 0, 0, 0, 0, false)))))
def mD : FD where
 X := xB
 k := 0
 pre := []
 F := fun s => []
 M := .tup [.agg (rl (.int .u64) 8 []), .bool]
 B := []
 toL := fun x => [.I x.1, .I x.2.1, .I x.2.2.1, .I x.2.2.2.1, .I x.s4.1, .I x.s4.2.1, .I x.s4.2.2.1, .I x.s4.2.2.2.1, .B x.s8]
 ofL := fun ls => match ls with
  | [.I x0, .I x1, .I x2, .I x3, .I x4, .I x5, .I x6, .I x7, .B x8] => some (x0, x1, x2, x3, x4, x5, x6, x7, x8)
  | _ => none
 au := fun ls x h => by
  split at h
  ·cases h; rfl
  ·cases h
theorem E4 (a0 a1 a2 a3 a4 a5 a6 a7 a8 a9 a10 a11 a12 a13 a14 a15 a16 a17 a18 a19 a20 a21 a22 a23 a24 a25 a26 : Int) (x : xB) (h : gN a0 a1 a2 a3 a4 a5 a6 a7 a8 a9 a10 a11 a12 a13 a14 a15 a16 a17 a18 a19 a20 a21 a22 a23 a24 a25 a26 = some x) : bc Try.prog 20 0 [.agg (v8 a0 a1 a2 a3 a4 a5 a6 a7 (v8 a8 a9 a10 a11 a12 a13 a14 a15 (v8 a16 a17 a18 a19 a20 a21 a22 a23 []))), .agg [.int .i64 a24, .int .i64 a25, .int .i64 a26]] [] mD x :=
 FD.SF (il := fun _ => false) (ch := wN) (A := bt) (fn := Try.f20) (c := bq Try.f20) (fuel := 60) aJ BU mixed bG mD Try.func20 (by kernel_rfl) (aI (l := []) (by kernel_rfl) trivial)
  (by kernel_rfl) (Eq.trans (by kernel_rfl) h)
def lF : HK where
 call := fun args σ k => match args with
  | [.agg [.int .u64 a0, .int .u64 a1, .int .u64 a2, .int .u64 a3, .int .u64 a4, .int .u64 a5, .int .u64 a6, .int .u64 a7, .int .u64 a8, .int .u64 a9, .int .u64 a10, .int .u64 a11, .int .u64 a12, .int .u64 a13, .int .u64 a14, .int .u64 a15, .int .u64 a16, .int .u64 a17, .int .u64 a18, .int .u64 a19, .int .u64 a20, .int .u64 a21, .int .u64 a22, .int .u64 a23], .agg [.int .i64 a24, .int .i64 a25, .int .i64 a26]] => Option.bind (gN a0 a1 a2 a3 a4 a5 a6 a7 a8 a9 a10 a11 a12 a13 a14 a15 a16 a17 a18 a19 a20 a21 a22 a23 a24 a25 a26) fun y => aA σ 0 (mD.val y) (mD.aL y) k
  | _ => none
 nat := fun args σ k => by
  repeat' split
  all_goals simp only [aw, ai, Option.bind_assoc, Option.bind_none, aA, Option.bind_some]
 pure := true
 pok := fun _ args σ r σ' h => by
  split at h
  ·exact bp h (fun y => rfl) (fun y f => rfl)
  ·cases h
theorem pM : aW Try.prog 20 lF := by
 intro args σ r σ' h
 simp only [lF] at h
 split at h
 ·rename_i a0 a1 a2 a3 a4 a5 a6 a7 a8 a9 a10 a11 a12 a13 a14 a15 a16 a17 a18 a19 a20 a21 a22 a23 a24 a25 a26
  obtain ⟨y, hy, h⟩ := bE_ h
  exact lifted (xs := []) (ls := []) (cargs := [.agg (v8 a0 a1 a2 a3 a4 a5 a6 a7 (v8 a8 a9 a10 a11 a12 a13 a14 a15 (v8 a16 a17 a18 a19 a20 a21 a22 a23 []))), .agg [.int .i64 a24, .int .i64 a25, .int .i64 a26]]) (bv.of trivial) rfl (E4 a0 a1 a2 a3 a4 a5 a6 a7 a8 a9 a10 a11 a12 a13 a14 a15 a16 a17 a18 a19 a20 a21 a22 a23 a24 a25 a26 y hy) rfl rfl rfl rfl h
 ·cases h
abbrev BY := Int × Int × Int × Int × Int × Int × Int × Int
def JH : CH := (CH.add 34 sL (CH.add 20 lF CH.none))
theorem E8 : aE Try.prog JH := (CH.aj vz (CH.aj pM CH.aB))
def pP (a0 a1 a2 a3 a4 a5 : Int) : Option (BY) :=
 (Option.bind (jS a0 a1 a2) fun r1 => (Option.bind (gN r1.1 r1.2.1 r1.2.2.1 r1.2.2.2.1 r1.2.2.2.2.1 r1.2.2.2.2.2.1 r1.2.2.2.2.2.2.1 r1.2.2.2.2.2.2.2.1 r1.2.2.2.2.2.2.2.2.1 r1.2.2.2.2.2.2.2.2.2.1 r1.2.2.2.2.2.2.2.2.2.2.1 r1.2.2.2.2.2.2.2.2.2.2.2.1 r1.2.2.2.2.2.2.2.2.2.2.2.2.1 r1.2.2.2.2.2.2.2.2.2.2.2.2.2.1 r1.2.2.2.2.2.2.2.2.2.2.2.2.2.2.1 r1.2.2.2.2.2.2.2.2.2.2.2.2.2.2.2.1 r1.2.2.2.2.2.2.2.2.2.2.2.2.2.2.2.2.1 r1.2.2.2.2.2.2.2.2.2.2.2.2.2.2.2.2.2.1 r1.2.2.2.2.2.2.2.2.2.2.2.2.2.2.2.2.2.2.1 r1.2.2.2.2.2.2.2.2.2.2.2.2.2.2.2.2.2.2.2.1 r1.2.2.2.2.2.2.2.2.2.2.2.2.2.2.2.2.2.2.2.2.1 r1.2.2.2.2.2.2.2.2.2.2.2.2.2.2.2.2.2.2.2.2.2.1 r1.2.2.2.2.2.2.2.2.2.2.2.2.2.2.2.2.2.2.2.2.2.2.1 r1.2.2.2.2.2.2.2.2.2.2.2.2.2.2.2.2.2.2.2.2.2.2.2 a3 a4 a5) fun r2 => (cond r2.2.2.2.2.2.2.2.2 (some (r2.1, r2.2.1, r2.2.2.1, r2.2.2.2.1, r2.2.2.2.2.1, r2.2.2.2.2.2.1, r2.2.2.2.2.2.2.1, r2.2.2.2.2.2.2.2.1)) (some (r2.1, r2.2.1, r2.2.2.1, r2.2.2.2.1, r2.2.2.2.2.1, r2.2.2.2.2.2.1, r2.2.2.2.2.2.2.1, r2.2.2.2.2.2.2.2.1)))))
def pQ : FD where
 X := BY
 k := 0
 pre := []
 F := fun s => []
 M := .agg (rl (.int .u64) 8 [])
 B := []
 toL := fun x => [.I x.1, .I x.2.1, .I x.2.2.1, .I x.2.2.2.1, .I x.s4.1, .I x.s4.2.1, .I x.s4.2.2.1, .I x.s4.2.2.2]
 ofL := fun ls => match ls with
  | [.I x0, .I x1, .I x2, .I x3, .I x4, .I x5, .I x6, .I x7] => some (x0, x1, x2, x3, x4, x5, x6, x7)
  | _ => none
 au := fun ls x h => by
  split at h
  ·cases h; rfl
  ·cases h
theorem Ia (a0 a1 a2 a3 a4 a5 : Int) (x : BY) (h : pP a0 a1 a2 a3 a4 a5 = some x) : bc Try.prog 68 0 [.agg [.int .i64 a0, .int .i64 a1, .int .i64 a2], .agg [.int .i64 a3, .int .i64 a4, .int .i64 a5]] [] pQ x :=
 FD.semA pQ E8 Try.func68 (fuel := 60) (by kernel_rfl) (by kernel_rfl)
  (by kernel_rfl) (Eq.trans (by kernel_rfl) h)
def zF : HK where
 call := fun args σ k => match args with
  | [.agg [.int .i64 a0, .int .i64 a1, .int .i64 a2], .agg [.int .i64 a3, .int .i64 a4, .int .i64 a5]] => Option.bind (pP a0 a1 a2 a3 a4 a5) fun y => aA σ 0 (pQ.val y) (pQ.aL y) k
  | _ => none
 nat := fun args σ k => by
  repeat' split
  all_goals simp only [aw, ai, Option.bind_assoc, Option.bind_none, aA, Option.bind_some]
 pure := true
 pok := fun _ args σ r σ' h => by
  split at h
  ·exact bp h (fun y => rfl) (fun y f => rfl)
  ·cases h
theorem JI : aW Try.prog 68 zF := by
 intro args σ r σ' h
 simp only [zF] at h
 split at h
 ·rename_i a0 a1 a2 a3 a4 a5
  obtain ⟨y, hy, h⟩ := bE_ h
  exact lifted (xs := []) (ls := []) (cargs := [.agg [.int .i64 a0, .int .i64 a1, .int .i64 a2], .agg [.int .i64 a3, .int .i64 a4, .int .i64 a5]]) (bv.of trivial) rfl (Ia a0 a1 a2 a3 a4 a5 y hy) rfl rfl rfl rfl h
 ·cases h
abbrev zG := Int × Int × Int × Int × Int × Int × Int × Int
def Ib : CH := (CH.add 83 J2 CH.none)
theorem DW : aE Try.prog Ib := (CH.aj Km CH.aB)
def iT (a0 a1 a2 a3 a4 a5 a6 a7 a8 a9 a10 a11 a12 a13 a14 a15 : Int) : Option (zG) :=
 (Option.bind (BZ a0 a1 a2 a3 a4 a5 a6 a7 a8 a9 a10 a11 a12 a13 a14 a15) fun r1 => (cond r1.2 (some ((aa r1.1 0), (aa r1.1 1), (aa r1.1 2), (aa r1.1 3), (aa r1.1 4), (aa r1.1 5), (aa r1.1 6), (aa r1.1 7))) (some ((aa r1.1 0), (aa r1.1 1), (aa r1.1 2), (aa r1.1 3), (aa r1.1 4), (aa r1.1 5), (aa r1.1 6), (aa r1.1 7)))))
def nZ : FD where
 X := zG
 k := 0
 pre := []
 F := fun s => []
 M := .agg (rl (.int .u64) 8 [])
 B := []
 toL := fun x => [.I x.1, .I x.2.1, .I x.2.2.1, .I x.2.2.2.1, .I x.s4.1, .I x.s4.2.1, .I x.s4.2.2.1, .I x.s4.2.2.2]
 ofL := fun ls => match ls with
  | [.I x0, .I x1, .I x2, .I x3, .I x4, .I x5, .I x6, .I x7] => some (x0, x1, x2, x3, x4, x5, x6, x7)
  | _ => none
 au := fun ls x h => by
  split at h
  ·cases h; rfl
  ·cases h
theorem Gq (a0 a1 a2 a3 a4 a5 a6 a7 a8 a9 a10 a11 a12 a13 a14 a15 : Int) (x : zG) (h : iT a0 a1 a2 a3 a4 a5 a6 a7 a8 a9 a10 a11 a12 a13 a14 a15 = some x) : bc Try.prog 79 0 [.agg (v8 a0 a1 a2 a3 a4 a5 a6 a7 []), .agg (v8 a8 a9 a10 a11 a12 a13 a14 a15 [])] [] nZ x :=
 FD.semA nZ DW Try.func79 (fuel := 60) (by kernel_rfl) (by kernel_rfl)
  (by kernel_rfl) (Eq.trans (by kernel_rfl) h)
def xD : HK where
 call := fun args σ k => match args with
  | [.agg [.int .u64 a0, .int .u64 a1, .int .u64 a2, .int .u64 a3, .int .u64 a4, .int .u64 a5, .int .u64 a6, .int .u64 a7], .agg [.int .u64 a8, .int .u64 a9, .int .u64 a10, .int .u64 a11, .int .u64 a12, .int .u64 a13, .int .u64 a14, .int .u64 a15]] => Option.bind (iT a0 a1 a2 a3 a4 a5 a6 a7 a8 a9 a10 a11 a12 a13 a14 a15) fun y => aA σ 0 (nZ.val y) (nZ.aL y) k
  | _ => none
 nat := fun args σ k => by
  repeat' split
  all_goals simp only [aw, ai, Option.bind_assoc, Option.bind_none, aA, Option.bind_some]
 pure := true
 pok := fun _ args σ r σ' h => by
  split at h
  ·exact bp h (fun y => rfl) (fun y f => rfl)
  ·cases h
theorem H8 : aW Try.prog 79 xD := by
 intro args σ r σ' h
 simp only [xD] at h
 split at h
 ·rename_i a0 a1 a2 a3 a4 a5 a6 a7 a8 a9 a10 a11 a12 a13 a14 a15
  obtain ⟨y, hy, h⟩ := bE_ h
  exact lifted (xs := []) (ls := []) (cargs := [.agg (v8 a0 a1 a2 a3 a4 a5 a6 a7 []), .agg (v8 a8 a9 a10 a11 a12 a13 a14 a15 [])]) (bv.of trivial) rfl (Gq a0 a1 a2 a3 a4 a5 a6 a7 a8 a9 a10 a11 a12 a13 a14 a15 y hy) rfl rfl rfl rfl h
 ·cases h
abbrev xE := Int × Int × Int × Int × Int × Int × Int × Int
def Gs : CH := (CH.add 35 Gm CH.none)
theorem B2 : aE Try.prog Gs := (CH.aj E3 CH.aB)
def dR (a0 a1 a2 a3 a4 a5 a6 a7 a8 a9 a10 a11 a12 a13 a14 a15 : Int) : Option (xE) :=
 (Option.bind (vA a0 a1 a2 a3 a4 a5 a6 a7 a8 a9 a10 a11 a12 a13 a14 a15) fun r1 => (cond r1.2 (some ((aa r1.1 0), (aa r1.1 1), (aa r1.1 2), (aa r1.1 3), (aa r1.1 4), (aa r1.1 5), (aa r1.1 6), (aa r1.1 7))) (some ((aa r1.1 0), (aa r1.1 1), (aa r1.1 2), (aa r1.1 3), (aa r1.1 4), (aa r1.1 5), (aa r1.1 6), (aa r1.1 7)))))
def mG : FD where
 X := xE
 k := 0
 pre := []
 F := fun s => []
 M := .agg (rl (.int .u64) 8 [])
 B := []
 toL := fun x => [.I x.1, .I x.2.1, .I x.2.2.1, .I x.2.2.2.1, .I x.s4.1, .I x.s4.2.1, .I x.s4.2.2.1, .I x.s4.2.2.2]
 ofL := fun ls => match ls with
  | [.I x0, .I x1, .I x2, .I x3, .I x4, .I x5, .I x6, .I x7] => some (x0, x1, x2, x3, x4, x5, x6, x7)
  | _ => none
 au := fun ls x h => by
  split at h
  ·cases h; rfl
  ·cases h
theorem Fa (a0 a1 a2 a3 a4 a5 a6 a7 a8 a9 a10 a11 a12 a13 a14 a15 : Int) (x : xE) (h : dR a0 a1 a2 a3 a4 a5 a6 a7 a8 a9 a10 a11 a12 a13 a14 a15 = some x) : bc Try.prog 80 0 [.agg (v8 a0 a1 a2 a3 a4 a5 a6 a7 []), .agg (v8 a8 a9 a10 a11 a12 a13 a14 a15 [])] [] mG x :=
 FD.semA mG B2 Try.func80 (fuel := 60) (by kernel_rfl) (by kernel_rfl)
  (by kernel_rfl) (Eq.trans (by kernel_rfl) h)
def vC : HK where
 call := fun args σ k => match args with
  | [.agg [.int .u64 a0, .int .u64 a1, .int .u64 a2, .int .u64 a3, .int .u64 a4, .int .u64 a5, .int .u64 a6, .int .u64 a7], .agg [.int .u64 a8, .int .u64 a9, .int .u64 a10, .int .u64 a11, .int .u64 a12, .int .u64 a13, .int .u64 a14, .int .u64 a15]] => Option.bind (dR a0 a1 a2 a3 a4 a5 a6 a7 a8 a9 a10 a11 a12 a13 a14 a15) fun y => aA σ 0 (mG.val y) (mG.aL y) k
  | _ => none
 nat := fun args σ k => by
  repeat' split
  all_goals simp only [aw, ai, Option.bind_assoc, Option.bind_none, aA, Option.bind_some]
 pure := true
 pok := fun _ args σ r σ' h => by
  split at h
  ·exact bp h (fun y => rfl) (fun y f => rfl)
  ·cases h
theorem Gp : aW Try.prog 80 vC := by
 intro args σ r σ' h
 simp only [vC] at h
 split at h
 ·rename_i a0 a1 a2 a3 a4 a5 a6 a7 a8 a9 a10 a11 a12 a13 a14 a15
  obtain ⟨y, hy, h⟩ := bE_ h
  exact lifted (xs := []) (ls := []) (cargs := [.agg (v8 a0 a1 a2 a3 a4 a5 a6 a7 []), .agg (v8 a8 a9 a10 a11 a12 a13 a14 a15 [])]) (bv.of trivial) rfl (Fa a0 a1 a2 a3 a4 a5 a6 a7 a8 a9 a10 a11 a12 a13 a14 a15 y hy) rfl rfl rfl rfl h
 ·cases h
abbrev xC := (I8 (I8 (Int × Int × Int × Int × Int × Int × Int × Int)))
def Gn : CH := (CH.add 80 vC (CH.add 79 xD (CH.add 34 sL CH.none)))
theorem BW : aE Try.prog Gn := (CH.aj Gp (CH.aj H8 (CH.aj vz CH.aB)))
def fN (a0 a1 a2 a3 a4 a5 : Int) : Option (xC) :=
 (Option.bind (jS a0 a1 a2) fun r1 => (Option.bind (jS a3 a4 a5) fun r2 => (Option.bind (dR r1.2.2.2.2.2.2.2.2.1 r1.2.2.2.2.2.2.2.2.2.1 r1.2.2.2.2.2.2.2.2.2.2.1 r1.2.2.2.2.2.2.2.2.2.2.2.1 r1.2.2.2.2.2.2.2.2.2.2.2.2.1 r1.2.2.2.2.2.2.2.2.2.2.2.2.2.1 r1.2.2.2.2.2.2.2.2.2.2.2.2.2.2.1 r1.2.2.2.2.2.2.2.2.2.2.2.2.2.2.2.1 r2.2.2.2.2.2.2.2.2.2.2.2.2.2.2.2.2.1 r2.2.2.2.2.2.2.2.2.2.2.2.2.2.2.2.2.2.1 r2.2.2.2.2.2.2.2.2.2.2.2.2.2.2.2.2.2.2.1 r2.2.2.2.2.2.2.2.2.2.2.2.2.2.2.2.2.2.2.2.1 r2.2.2.2.2.2.2.2.2.2.2.2.2.2.2.2.2.2.2.2.2.1 r2.2.2.2.2.2.2.2.2.2.2.2.2.2.2.2.2.2.2.2.2.2.1 r2.2.2.2.2.2.2.2.2.2.2.2.2.2.2.2.2.2.2.2.2.2.2.1 r2.2.2.2.2.2.2.2.2.2.2.2.2.2.2.2.2.2.2.2.2.2.2.2) fun r3 => (Option.bind (dR r1.2.2.2.2.2.2.2.2.2.2.2.2.2.2.2.2.1 r1.2.2.2.2.2.2.2.2.2.2.2.2.2.2.2.2.2.1 r1.2.2.2.2.2.2.2.2.2.2.2.2.2.2.2.2.2.2.1 r1.2.2.2.2.2.2.2.2.2.2.2.2.2.2.2.2.2.2.2.1 r1.2.2.2.2.2.2.2.2.2.2.2.2.2.2.2.2.2.2.2.2.1 r1.2.2.2.2.2.2.2.2.2.2.2.2.2.2.2.2.2.2.2.2.2.1 r1.2.2.2.2.2.2.2.2.2.2.2.2.2.2.2.2.2.2.2.2.2.2.1 r1.2.2.2.2.2.2.2.2.2.2.2.2.2.2.2.2.2.2.2.2.2.2.2 r2.2.2.2.2.2.2.2.2.1 r2.2.2.2.2.2.2.2.2.2.1 r2.2.2.2.2.2.2.2.2.2.2.1 r2.2.2.2.2.2.2.2.2.2.2.2.1 r2.2.2.2.2.2.2.2.2.2.2.2.2.1 r2.2.2.2.2.2.2.2.2.2.2.2.2.2.1 r2.2.2.2.2.2.2.2.2.2.2.2.2.2.2.1 r2.2.2.2.2.2.2.2.2.2.2.2.2.2.2.2.1) fun r4 => (Option.bind (iT r3.1 r3.2.1 r3.2.2.1 r3.2.2.2.1 r3.2.2.2.2.1 r3.2.2.2.2.2.1 r3.2.2.2.2.2.2.1 r3.2.2.2.2.2.2.2 r4.1 r4.2.1 r4.2.2.1 r4.2.2.2.1 r4.2.2.2.2.1 r4.2.2.2.2.2.1 r4.2.2.2.2.2.2.1 r4.2.2.2.2.2.2.2) fun r5 => (Option.bind (dR r1.2.2.2.2.2.2.2.2.2.2.2.2.2.2.2.2.1 r1.2.2.2.2.2.2.2.2.2.2.2.2.2.2.2.2.2.1 r1.2.2.2.2.2.2.2.2.2.2.2.2.2.2.2.2.2.2.1 r1.2.2.2.2.2.2.2.2.2.2.2.2.2.2.2.2.2.2.2.1 r1.2.2.2.2.2.2.2.2.2.2.2.2.2.2.2.2.2.2.2.2.1 r1.2.2.2.2.2.2.2.2.2.2.2.2.2.2.2.2.2.2.2.2.2.1 r1.2.2.2.2.2.2.2.2.2.2.2.2.2.2.2.2.2.2.2.2.2.2.1 r1.2.2.2.2.2.2.2.2.2.2.2.2.2.2.2.2.2.2.2.2.2.2.2 r2.1 r2.2.1 r2.2.2.1 r2.2.2.2.1 r2.2.2.2.2.1 r2.2.2.2.2.2.1 r2.2.2.2.2.2.2.1 r2.2.2.2.2.2.2.2.1) fun r6 => (Option.bind (dR r1.1 r1.2.1 r1.2.2.1 r1.2.2.2.1 r1.2.2.2.2.1 r1.2.2.2.2.2.1 r1.2.2.2.2.2.2.1 r1.2.2.2.2.2.2.2.1 r2.2.2.2.2.2.2.2.2.2.2.2.2.2.2.2.2.1 r2.2.2.2.2.2.2.2.2.2.2.2.2.2.2.2.2.2.1 r2.2.2.2.2.2.2.2.2.2.2.2.2.2.2.2.2.2.2.1 r2.2.2.2.2.2.2.2.2.2.2.2.2.2.2.2.2.2.2.2.1 r2.2.2.2.2.2.2.2.2.2.2.2.2.2.2.2.2.2.2.2.2.1 r2.2.2.2.2.2.2.2.2.2.2.2.2.2.2.2.2.2.2.2.2.2.1 r2.2.2.2.2.2.2.2.2.2.2.2.2.2.2.2.2.2.2.2.2.2.2.1 r2.2.2.2.2.2.2.2.2.2.2.2.2.2.2.2.2.2.2.2.2.2.2.2) fun r7 => (Option.bind (iT r6.1 r6.2.1 r6.2.2.1 r6.2.2.2.1 r6.2.2.2.2.1 r6.2.2.2.2.2.1 r6.2.2.2.2.2.2.1 r6.2.2.2.2.2.2.2 r7.1 r7.2.1 r7.2.2.1 r7.2.2.2.1 r7.2.2.2.2.1 r7.2.2.2.2.2.1 r7.2.2.2.2.2.2.1 r7.2.2.2.2.2.2.2) fun r8 => (Option.bind (dR r1.1 r1.2.1 r1.2.2.1 r1.2.2.2.1 r1.2.2.2.2.1 r1.2.2.2.2.2.1 r1.2.2.2.2.2.2.1 r1.2.2.2.2.2.2.2.1 r2.2.2.2.2.2.2.2.2.1 r2.2.2.2.2.2.2.2.2.2.1 r2.2.2.2.2.2.2.2.2.2.2.1 r2.2.2.2.2.2.2.2.2.2.2.2.1 r2.2.2.2.2.2.2.2.2.2.2.2.2.1 r2.2.2.2.2.2.2.2.2.2.2.2.2.2.1 r2.2.2.2.2.2.2.2.2.2.2.2.2.2.2.1 r2.2.2.2.2.2.2.2.2.2.2.2.2.2.2.2.1) fun r9 => (Option.bind (dR r1.2.2.2.2.2.2.2.2.1 r1.2.2.2.2.2.2.2.2.2.1 r1.2.2.2.2.2.2.2.2.2.2.1 r1.2.2.2.2.2.2.2.2.2.2.2.1 r1.2.2.2.2.2.2.2.2.2.2.2.2.1 r1.2.2.2.2.2.2.2.2.2.2.2.2.2.1 r1.2.2.2.2.2.2.2.2.2.2.2.2.2.2.1 r1.2.2.2.2.2.2.2.2.2.2.2.2.2.2.2.1 r2.1 r2.2.1 r2.2.2.1 r2.2.2.2.1 r2.2.2.2.2.1 r2.2.2.2.2.2.1 r2.2.2.2.2.2.2.1 r2.2.2.2.2.2.2.2.1) fun r10 => (Option.bind (iT r9.1 r9.2.1 r9.2.2.1 r9.2.2.2.1 r9.2.2.2.2.1 r9.2.2.2.2.2.1 r9.2.2.2.2.2.2.1 r9.2.2.2.2.2.2.2 r10.1 r10.2.1 r10.2.2.1 r10.2.2.2.1 r10.2.2.2.2.1 r10.2.2.2.2.2.1 r10.2.2.2.2.2.2.1 r10.2.2.2.2.2.2.2) fun r11 => (some (r5.1, r5.2.1, r5.2.2.1, r5.2.2.2.1, r5.2.2.2.2.1, r5.2.2.2.2.2.1, r5.2.2.2.2.2.2.1, r5.2.2.2.2.2.2.2, r8.1, r8.2.1, r8.2.2.1, r8.2.2.2.1, r8.2.2.2.2.1, r8.2.2.2.2.2.1, r8.2.2.2.2.2.2.1, r8.2.2.2.2.2.2.2, r11.1, r11.2.1, r11.2.2.1, r11.2.2.2.1, r11.2.2.2.2.1, r11.2.2.2.2.2.1, r11.2.2.2.2.2.2.1, r11.2.2.2.2.2.2.2)))))))))))))
def mF : FD where
 X := xC
 k := 0
 pre := []
 F := fun s => []
 M := .agg (rl (.int .u64) 24 [])
 B := []
 toL := fun x => [.I x.1, .I x.2.1, .I x.2.2.1, .I x.2.2.2.1, .I x.s4.1, .I x.s4.2.1, .I x.s4.2.2.1, .I x.s4.2.2.2.1, .I x.s8.1, .I x.s8.2.1, .I x.s8.2.2.1, .I x.s8.2.2.2.1, .I x.s8.s4.1, .I x.s8.s4.2.1, .I x.s8.s4.2.2.1, .I x.s8.s4.2.2.2.1, .I x.s16.1, .I x.s16.2.1, .I x.s16.2.2.1, .I x.s16.2.2.2.1, .I x.s16.s4.1, .I x.s16.s4.2.1, .I x.s16.s4.2.2.1, .I x.s16.s4.2.2.2]
 ofL := fun ls => match ls with
  | [.I x0, .I x1, .I x2, .I x3, .I x4, .I x5, .I x6, .I x7, .I x8, .I x9, .I x10, .I x11, .I x12, .I x13, .I x14, .I x15, .I x16, .I x17, .I x18, .I x19, .I x20, .I x21, .I x22, .I x23] => some (x0, x1, x2, x3, x4, x5, x6, x7, x8, x9, x10, x11, x12, x13, x14, x15, x16, x17, x18, x19, x20, x21, x22, x23)
  | _ => none
 au := fun ls x h => by
  split at h
  ·cases h; rfl
  ·cases h
theorem E6 (a0 a1 a2 a3 a4 a5 : Int) (x : xC) (h : fN a0 a1 a2 a3 a4 a5 = some x) : bc Try.prog 61 0 [.agg [.int .i64 a0, .int .i64 a1, .int .i64 a2], .agg [.int .i64 a3, .int .i64 a4, .int .i64 a5]] [] mF x :=
 FD.semA mF BW Try.func61 (fuel := 60) (by kernel_rfl) (by kernel_rfl)
  (by kernel_rfl) (Eq.trans (by kernel_rfl) h)
def pN : HK where
 call := fun args σ k => match args with
  | [.agg [.int .i64 a0, .int .i64 a1, .int .i64 a2], .agg [.int .i64 a3, .int .i64 a4, .int .i64 a5]] => Option.bind (fN a0 a1 a2 a3 a4 a5) fun y => aA σ 0 (mF.val y) (mF.aL y) k
  | _ => none
 nat := fun args σ k => by
  repeat' split
  all_goals simp only [aw, ai, Option.bind_assoc, Option.bind_none, aA, Option.bind_some]
 pure := true
 pok := fun _ args σ r σ' h => by
  split at h
  ·exact bp h (fun y => rfl) (fun y f => rfl)
  ·cases h
theorem wP : aW Try.prog 61 pN := by
 intro args σ r σ' h
 simp only [pN] at h
 split at h
 ·rename_i a0 a1 a2 a3 a4 a5
  obtain ⟨y, hy, h⟩ := bE_ h
  exact lifted (xs := []) (ls := []) (cargs := [.agg [.int .i64 a0, .int .i64 a1, .int .i64 a2], .agg [.int .i64 a3, .int .i64 a4, .int .i64 a5]]) (bv.of trivial) rfl (E6 a0 a1 a2 a3 a4 a5 y hy) rfl rfl rfl rfl h
 ·cases h
abbrev BX := Int × Int × Int × Int × Int × Int × Int × Int
def JF : CH := (CH.add 61 pN (CH.add 20 lF CH.none))
theorem E7 : aE Try.prog JF := (CH.aj wP (CH.aj pM CH.aB))
def j8 (a0 a1 a2 a3 a4 a5 a6 a7 a8 : Int) : Option (BX) :=
 (Option.bind (fN a3 a4 a5 a6 a7 a8) fun r1 => (Option.bind (gN r1.1 r1.2.1 r1.2.2.1 r1.2.2.2.1 r1.2.2.2.2.1 r1.2.2.2.2.2.1 r1.2.2.2.2.2.2.1 r1.2.2.2.2.2.2.2.1 r1.2.2.2.2.2.2.2.2.1 r1.2.2.2.2.2.2.2.2.2.1 r1.2.2.2.2.2.2.2.2.2.2.1 r1.2.2.2.2.2.2.2.2.2.2.2.1 r1.2.2.2.2.2.2.2.2.2.2.2.2.1 r1.2.2.2.2.2.2.2.2.2.2.2.2.2.1 r1.2.2.2.2.2.2.2.2.2.2.2.2.2.2.1 r1.2.2.2.2.2.2.2.2.2.2.2.2.2.2.2.1 r1.2.2.2.2.2.2.2.2.2.2.2.2.2.2.2.2.1 r1.2.2.2.2.2.2.2.2.2.2.2.2.2.2.2.2.2.1 r1.2.2.2.2.2.2.2.2.2.2.2.2.2.2.2.2.2.2.1 r1.2.2.2.2.2.2.2.2.2.2.2.2.2.2.2.2.2.2.2.1 r1.2.2.2.2.2.2.2.2.2.2.2.2.2.2.2.2.2.2.2.2.1 r1.2.2.2.2.2.2.2.2.2.2.2.2.2.2.2.2.2.2.2.2.2.1 r1.2.2.2.2.2.2.2.2.2.2.2.2.2.2.2.2.2.2.2.2.2.2.1 r1.2.2.2.2.2.2.2.2.2.2.2.2.2.2.2.2.2.2.2.2.2.2.2 a0 a1 a2) fun r2 => (cond r2.2.2.2.2.2.2.2.2 (some (r2.1, r2.2.1, r2.2.2.1, r2.2.2.2.1, r2.2.2.2.2.1, r2.2.2.2.2.2.1, r2.2.2.2.2.2.2.1, r2.2.2.2.2.2.2.2.1)) (some (r2.1, r2.2.1, r2.2.2.1, r2.2.2.2.1, r2.2.2.2.2.1, r2.2.2.2.2.2.1, r2.2.2.2.2.2.2.1, r2.2.2.2.2.2.2.2.1)))))
def pO : FD where
 X := BX
 k := 0
 pre := []
 F := fun s => []
 M := .agg (rl (.int .u64) 8 [])
 B := []
 toL := fun x => [.I x.1, .I x.2.1, .I x.2.2.1, .I x.2.2.2.1, .I x.s4.1, .I x.s4.2.1, .I x.s4.2.2.1, .I x.s4.2.2.2]
 ofL := fun ls => match ls with
  | [.I x0, .I x1, .I x2, .I x3, .I x4, .I x5, .I x6, .I x7] => some (x0, x1, x2, x3, x4, x5, x6, x7)
  | _ => none
 au := fun ls x h => by
  split at h
  ·cases h; rfl
  ·cases h
theorem H9 (a0 a1 a2 a3 a4 a5 a6 a7 a8 : Int) (x : BX) (h : j8 a0 a1 a2 a3 a4 a5 a6 a7 a8 = some x) : bc Try.prog 63 0 [.agg [.int .i64 a0, .int .i64 a1, .int .i64 a2], .agg [.int .i64 a3, .int .i64 a4, .int .i64 a5], .agg [.int .i64 a6, .int .i64 a7, .int .i64 a8]] [] pO x :=
 FD.semA pO E7 Try.func63 (fuel := 60) (by kernel_rfl) (by kernel_rfl)
  (by kernel_rfl) (Eq.trans (by kernel_rfl) h)
def zE : HK where
 call := fun args σ k => match args with
  | [.agg [.int .i64 a0, .int .i64 a1, .int .i64 a2], .agg [.int .i64 a3, .int .i64 a4, .int .i64 a5], .agg [.int .i64 a6, .int .i64 a7, .int .i64 a8]] => Option.bind (j8 a0 a1 a2 a3 a4 a5 a6 a7 a8) fun y => aA σ 0 (pO.val y) (pO.aL y) k
  | _ => none
 nat := fun args σ k => by
  repeat' split
  all_goals simp only [aw, ai, Option.bind_assoc, Option.bind_none, aA, Option.bind_some]
 pure := true
 pok := fun _ args σ r σ' h => by
  split at h
  ·exact bp h (fun y => rfl) (fun y f => rfl)
  ·cases h
theorem JG : aW Try.prog 63 zE := by
 intro args σ r σ' h
 simp only [zE] at h
 split at h
 ·rename_i a0 a1 a2 a3 a4 a5 a6 a7 a8
  obtain ⟨y, hy, h⟩ := bE_ h
  exact lifted (xs := []) (ls := []) (cargs := [.agg [.int .i64 a0, .int .i64 a1, .int .i64 a2], .agg [.int .i64 a3, .int .i64 a4, .int .i64 a5], .agg [.int .i64 a6, .int .i64 a7, .int .i64 a8]]) (bv.of trivial) rfl (H9 a0 a1 a2 a3 a4 a5 a6 a7 a8 y hy) rfl rfl rfl rfl h
 ·cases h
def sm (k : Nat) (z : Int) : Prop := -((2 ^ k : Nat) : Int) ≤ z ∧ z ≤ ((2 ^ k : Nat) : Int)
theorem aV {a b : Nat} {z : Int} (h : sm a z) (hab : a ≤ b) : sm b z := by
 have := Nat.pow_le_pow_right (n := 2) (by decide) hab
 unfold sm at *
 omega
theorem cK {a b : Nat} {x y : Int} (hx : sm a x) (hy : sm b y) : sm (a + b) (x * y) := by
 unfold sm at *
 have h : (x * y).natAbs ≤ 2 ^ (a + b) := by
  rw [Int.natAbs_mul, Nat.pow_add]
  exact Nat.mul_le_mul (by omega) (by omega)
 omega
theorem kT {a : Nat} {x y : Int} (hx : sm a x) (hy : sm a y) : sm (a + 1) (x + y) := by
 unfold sm at *
 rw [Nat.pow_succ]
 omega
theorem gv {a : Nat} {x y : Int} (hx : sm a x) (hy : sm a y) : sm (a + 1) (x - y) := by
 unfold sm at *
 rw [Nat.pow_succ]
 omega
theorem OU {a : Nat} {x : Int} (hx : sm a x) : sm a (-x) := by
 unfold sm at *
 omega
theorem mV {a : Nat} : sm a 0 := by
 have := Nat.two_pow_pos a
 unfold sm
 omega
theorem Sk {m : Nat} (hm : m = 255) {x : Int} (h : sm (m + m) x) : fit x := by
 unfold sm at h
 rw [Nat.pow_add, hm] at h
 unfold fit
 omega
theorem be {a : Nat} {x : Int} (h : sm a x) (ha : a ≤ 510) : fit x := Sk (m := 255) rfl (aV h ha)
theorem C6 {x : Int} : aZ x = true ↔ -9223372036854775808 ≤ x ∧ x < 9223372036854775808 := by simp [aZ]
theorem jQ {x : Int} (h : aZ x = true) : sm 63 x := by
 have := C6.1 h
 unfold sm; omega
theorem ic {x : Int} (h : aZ x = true) : fit x := be (jQ h) (by decide)
theorem F4 {z : Int} (h : fit z) : gf z = (z, true) := by unfold gf; rw [bV.2 h]; rfl
theorem Dy {x : Int} (h : aZ x = true) : cOf x = some x := by unfold cOf; rw [h]; rfl
theorem Mx {x : Int} (hx : fit x) : pU (aa x 0) (aa x 1) (aa x 2) (aa x 3) (aa x 4) (aa x 5) (aa x 6) (aa x 7) = some (sgn x) := by
 unfold pU; rw [bz, aG hx]; rfl
theorem LE {x y : Int} (hx : fit x) (hy : fit y) (h : fit (x + y)) : vB (aa x 0) (aa x 1) (aa x 2) (aa x 3) (aa x 4) (aa x 5) (aa x 6) (aa x 7) (aa y 0) (aa y 1) (aa y 2) (aa y 3) (aa y 4) (aa y 5) (aa y 6) (aa y 7) = some (x + y, true) := by
 unfold vB; rw [bz, bz, aG hx, aG hy, F4 h]; rfl
theorem TB {x y : Int} (hx : fit x) (hy : fit y) (h : fit (x - y)) : BZ (aa x 0) (aa x 1) (aa x 2) (aa x 3) (aa x 4) (aa x 5) (aa x 6) (aa x 7) (aa y 0) (aa y 1) (aa y 2) (aa y 3) (aa y 4) (aa y 5) (aa y 6) (aa y 7) = some (x - y, true) := by
 unfold BZ; rw [bz, bz, aG hx, aG hy, F4 h]; rfl
theorem HI {x y : Int} (hx : fit x) (hy : fit y) (h : fit (x * y)) : vA (aa x 0) (aa x 1) (aa x 2) (aa x 3) (aa x 4) (aa x 5) (aa x 6) (aa x 7) (aa y 0) (aa y 1) (aa y 2) (aa y 3) (aa y 4) (aa y 5) (aa y 6) (aa y 7) = some (x * y, true) := by
 unfold vA; rw [bz, bz, aG hx, aG hy, F4 h]; rfl
theorem TC {y : Int} (hy : fit y) : vB 0 0 0 0 0 0 0 0 (aa y 0) (aa y 1) (aa y 2) (aa y 3) (aa y 4) (aa y 5) (aa y 6) (aa y 7) = some (y, true) := by
 have h := LE yd hy (by rw [Int.zero_add]; exact hy)
 simp only [fc, Int.zero_add] at h
 exact h
abbrev T24 := (I8 (I8 (Int × Int × Int × Int × Int × Int × Int × Int)))
def t24 (x y z : Int) : T24 := (aa x 0, aa x 1, aa x 2, aa x 3, aa x 4, aa x 5, aa x 6, aa x 7, aa y 0, aa y 1, aa y 2, aa y 3, aa y 4, aa y 5, aa y 6, aa y 7, aa z 0, aa z 1, aa z 2, aa z 3, aa z 4, aa z 5, aa z 6, aa z 7)
theorem Kg {x y z : Int} (hx : aZ x = true) (hy : aZ y = true) (hz : aZ z = true) : jS x y z = some (t24 x y z) := by
 simp only [jS, Dy hx, Dy hy, Dy hz, Option.bind_some, t24]
theorem IV {x y z a b c : Int} (hx : fit x) (hy : fit y) (hz : fit z) (ha : aZ a = true) (hb : aZ b = true) (hc : aZ c = true) (h1 : fit (x * a)) (h2 : fit (y * b)) (h3 : fit (z * c)) (h4 : fit (x * a + y * b)) (h5 : fit (x * a + y * b + z * c)) :
  gN (aa x 0) (aa x 1) (aa x 2) (aa x 3) (aa x 4) (aa x 5) (aa x 6) (aa x 7) (aa y 0) (aa y 1) (aa y 2) (aa y 3) (aa y 4) (aa y 5) (aa y 6) (aa y 7) (aa z 0) (aa z 1) (aa z 2) (aa z 3) (aa z 4) (aa z 5) (aa z 6) (aa z 7) a b c = some (t9 (x * a + y * b + z * c) true) := by
 unfold gN
 rw [Kg ha hb hc, Option.bind_some]
 simp only [t24, HI hx (ic ha) h1, HI hy (ic hb) h2, HI hz (ic hc) h3, Option.bind_some, cond_true, TC h1, LE h1 h2 h4, LE h4 h3 h5, t9]
theorem Ud {x y z a b c : Int} (hx : aZ x = true) (hy : aZ y = true) (hz : aZ z = true) (ha : aZ a = true) (hb : aZ b = true) (hc : aZ c = true) :
  pP x y z a b c = some (t8 (x * a + y * b + z * c)) := by
 have s1 := cK (jQ hx) (jQ ha)
 have s2 := cK (jQ hy) (jQ hb)
 have s3 := cK (jQ hz) (jQ hc)
 have s4 := kT s1 s2
 have s5 := kT s4 (aV s3 (show 63 + 63 ≤ 63 + 63 + 1 by decide))
 have h := IV (ic hx) (ic hy) (ic hz) ha hb hc (be s1 (by decide)) (be s2 (by decide)) (be s3 (by decide)) (be s4 (by decide)) (be s5 (by decide))
 unfold pP
 rw [Kg hx hy hz, Option.bind_some]
 simp only [t24, h, Option.bind_some, t9, cond_true, t8]
theorem sj {x y : Int} (hx : fit x) (hy : fit y) (h : fit (x * y)) : dR (aa x 0) (aa x 1) (aa x 2) (aa x 3) (aa x 4) (aa x 5) (aa x 6) (aa x 7) (aa y 0) (aa y 1) (aa y 2) (aa y 3) (aa y 4) (aa y 5) (aa y 6) (aa y 7) = some (t8 (x * y)) := by
 simp only [dR, HI hx hy h, Option.bind_some, cond_true, t8]
theorem IW {x y : Int} (hx : fit x) (hy : fit y) (h : fit (x - y)) : iT (aa x 0) (aa x 1) (aa x 2) (aa x 3) (aa x 4) (aa x 5) (aa x 6) (aa x 7) (aa y 0) (aa y 1) (aa y 2) (aa y 3) (aa y 4) (aa y 5) (aa y 6) (aa y 7) = some (t8 (x - y)) := by
 simp only [iT, TB hx hy h, Option.bind_some, cond_true, t8]
theorem MK {x y z a b c : Int} (hx : aZ x = true) (hy : aZ y = true) (hz : aZ z = true) (ha : aZ a = true) (hb : aZ b = true) (hc : aZ c = true) :
  fN x y z a b c = some (t24 (y * c - z * b) (z * a - x * c) (x * b - y * a)) := by
 have hp : ∀ {u v : Int}, aZ u = true → aZ v = true → fit (u * v) := fun hu hv => be (cK (jQ hu) (jQ hv)) (by decide)
 have hs : ∀ {u v s t : Int}, aZ u = true → aZ v = true → aZ s = true → aZ t = true → fit (u * v - s * t) := fun hu hv hs ht => be (gv (cK (jQ hu) (jQ hv)) (cK (jQ hs) (jQ ht))) (by decide)
 unfold fN
 rw [Kg hx hy hz, Option.bind_some, Kg ha hb hc, Option.bind_some]
 simp only [t24, sj (ic hy) (ic hc) (hp hy hc), sj (ic hz) (ic hb) (hp hz hb), sj (ic hz) (ic ha) (hp hz ha), sj (ic hx) (ic hc) (hp hx hc), sj (ic hx) (ic hb) (hp hx hb), sj (ic hy) (ic ha) (hp hy ha), Option.bind_some, t8,
  IW (hp hy hc) (hp hz hb) (hs hy hc hz hb), IW (hp hz ha) (hp hx hc) (hs hz ha hx hc), IW (hp hx hb) (hp hy ha) (hs hx hb hy ha)]
def TD (a b c x y z u v w : Int) : Int := (y * w - z * v) * a + (z * u - x * w) * b + (x * v - y * u) * c
theorem Ue {a b c x y z u v w : Int} (ha : aZ a = true) (hb : aZ b = true) (hc : aZ c = true) (hx : aZ x = true) (hy : aZ y = true) (hz : aZ z = true) (hu : aZ u = true) (hv : aZ v = true) (hw : aZ w = true) :
  j8 a b c x y z u v w = some (t8 (TD a b c x y z u v w)) := by
 have hs : ∀ {u v s t : Int}, aZ u = true → aZ v = true → aZ s = true → aZ t = true → sm 127 (u * v - s * t) := fun hu hv hs ht => gv (cK (jQ hu) (jQ hv)) (cK (jQ hs) (jQ ht))
 have c1 := hs hy hw hz hv
 have c2 := hs hz hu hx hw
 have c3 := hs hx hv hy hu
 have d1 := cK c1 (jQ ha)
 have d2 := cK c2 (jQ hb)
 have d3 := cK c3 (jQ hc)
 have d4 := kT d1 d2
 have d5 := kT d4 (aV d3 (show 127 + 63 ≤ 127 + 63 + 1 by decide))
 have h := IV (be c1 (by decide)) (be c2 (by decide)) (be c3 (by decide)) ha hb hc (be d1 (by decide)) (be d2 (by decide)) (be d3 (by decide)) (be d4 (by decide)) (be d5 (by decide))
 unfold j8
 rw [MK hx hy hz hu hv hw, Option.bind_some]
 simp only [t24, h, Option.bind_some, t9, cond_true, t8, TD]
def bnd (x : Int) : Bool := decide (-268435456 ≤ x) && decide (x ≤ 268435456)
theorem uY {x : Int} : bnd x = true ↔ -268435456 ≤ x ∧ x ≤ 268435456 := by simp [bnd]
theorem MG (x y z : Int) : jv x y z = some (cond (bnd x && bnd y && bnd z) 0 7) := by
 have e1 : ∀ t : Int, decide (t < (-268435456)) = !decide (-268435456 ≤ t) := fun t => by rw [← decide_not]; congr 1; simp
 have e2 : ∀ t : Int, decide (t > 268435456) = !decide (t ≤ 268435456) := fun t => by rw [← decide_not]; congr 1; simp
 unfold jv bnd
 simp only [e1, e2]
 cases decide (-268435456 ≤ x) <;> cases decide (x ≤ 268435456) <;> cases decide (-268435456 ≤ y) <;> cases decide (y ≤ 268435456) <;> cases decide (-268435456 ≤ z) <;> cases decide (z ≤ 268435456) <;> rfl
def oE : CH := (CH.add 14 pE CH.none)
theorem ri : aE Try.prog oE := (CH.aj wI CH.aB)
def dH {R : Type} (cc : LA_ × Nat × Int) (v : Int) (kn : (Int) → Option R) (ke : ((Unit) ⊕ (Unit)) → Option R) : Option R :=
 (cond (decide (v < cc.2.2)) (af (decide (0 ≤ v) && decide (v < ((cc.2.1 : Nat) : Int))) (af (aq lC cc.1 (Int.toNat v * 3)) (Option.bind (jv (ac cc.1 ((Int.toNat v * 3) + 0)) (ac cc.1 ((Int.toNat v * 3) + 1)) (ac cc.1 ((Int.toNat v * 3) + 2))) fun r1 => (cond (r1 != 0) (ke (.inl ())) (kn (IntKind.wrap .i64 (v + 1))))))) (ke (.inr ())))
def jn (cc : LA_ × Nat × Int) (v : Int) : Option ((Int) ⊕ ((Unit) ⊕ (Unit))) := dH cc v (fun v => some (Sum.inl v)) fun e => some (Sum.inr e)
def vI (cc : LA_ × Nat × Int) (v : Int) : Option ((Unit) ⊕ (Unit)) := dA (jn cc) v
def Bp (cc : LA_ × Nat × Int) (v : Int) : List ah := [.I cc.2.2, .I v, .C cc.1, .N cc.2.1]
def rk (ls : List ah) : Option ((LA_ × Nat × Int) × (Int)) := match ls with
 | [.I x0, .I x1, .C x2, .N x3] => some ((x2, x3, x0), x1)
 | _ => none
def rm (e : (Unit) ⊕ (Unit)) : an := ((Sum.elim (fun e => .ret) (fun e => .exit 0)) e)
def rp (cc : LA_ × Nat × Int) (e : (Unit) ⊕ (Unit)) : List ah := ((Sum.elim (fun e => []) (fun e => [])) e)
def pS (cc : LA_ × Nat × Int) (e : (Unit) ⊕ (Unit)) : List ah := ((Sum.elim (fun e => []) (fun e => [])) e)
def lc (o : an) (ls : List ah) : Option (((Unit) ⊕ (Unit)) × List ah) := match o with
 | .ret => (match ls with
  | [] => some ((.inl ()), [])
  | _ => none)
 | .exit 0 => (match ls with
  | [] => some ((.inr ()), [])
  | _ => none)
 | _ => none
theorem xH : ∀ o ls e cl cc, lc o ls = some (e, cl) → cl = pS cc e → ls = rp cc e ∧ rm e = o ∧ o ≠ .normal ∧ ∀ v, o = .pan v → sc 0 v = true := by
 intro o ls e cl cc h hc
 unfold lc at h
 split at h
 ·split at h
  ·cases h
   exact ⟨rfl, rfl, by simp, by intro v hv; cases hv <;> rfl⟩
  ·cases h
 ·split at h
  ·cases h
   exact ⟨rfl, rfl, by simp, by intro v hv; cases hv <;> rfl⟩
  ·cases h
 ·cases h
def B3 (o : an) : ExS := match o with
 | .ret => ⟨1, (none :: none :: some (.pR false) :: (rl none 12 [])), [], fun s => [0], [], []⟩
 | .exit 0 => ⟨1, (rl none 15 []), [], fun s => [0], [], []⟩
 | _ => ⟨0, [], [], fun _ => [], [], []⟩
theorem Bq {R : Type} (cc : LA_ × Nat × Int) (v : Int) (kn : (Int) → Option R) (ke : ((Unit) ⊕ (Unit)) → Option R) : dH cc v kn ke = (dH cc v (fun v => some (Sum.inl v)) fun e => some (Sum.inr e)).bind (Sum.elim kn ke) := by
 simp only [dH, bK, ai, Option.bind_assoc, cb, bF, Option.bind_some, Option.bind_none, Sum.elim_inl, Sum.elim_inr]
def un : LD where
 CC := LA_ × Nat × Int
 V := Int
 E := (Unit) ⊕ (Unit)
 n := 1
 K := 1
 M := (rl none 5 (some (.vec 0) :: some (.int .i64) :: some (.int .i64) :: (rl none 7 [])))
 B := [(0, .vec 3 false)]
 D := []
 pre := []
 F := fun s => [0]
 toL := Bp
 ofL := rk
 au := fun ls c v h => by
  unfold rk at h
  split at h
  ·cases h; rfl
  ·cases h
 ck := dH
 nat := Bq
 sh := B3
 out := rm
 toE := rp
 fp := pS
 ofE := lc
 da := xH
 post := fun cc e k => ((Sum.elim (fun e => k (.ret) (bd 1 (none :: none :: some (.bool false) :: (rl none 12 [])) [] [])) (fun e => k (.exit 0) (bd 1 (rl none 15 []) [] []))) e)
 cd := fun cc e k => by rcases e with e | e <;> rfl
theorem Br : cF Try.prog 1 un.la (aK Try.f41 0) :=
 LD.ok (ch := oE) (A := bt) aJ ri mixed (fuel := 60) ⟨by kernel_rfl, fun e => by (rcases e with e | e <;> kernel_rfl), fun cc v => by kernel_rfl, aI (l := []) (by kernel_rfl) trivial⟩
def kP (cs0 : LA_) (n1 : Nat) : Option (Bool) :=
 (Option.bind (vI (cs0, n1, ((n1 : Nat) : Int)) 0) (Sum.elim (fun e1 => (some false)) (fun e1 => (some true))))
def lw : FD where
 X := Bool
 k := 1
 pre := []
 F := fun s => [0]
 M := .bool
 B := []
 toL := fun x => [.B x]
 ofL := fun ls => match ls with
  | [.B x0] => some x0
  | _ => none
 au := fun ls x h => by
  split at h
  ·cases h; rfl
  ·cases h
theorem DX (cs0 : LA_) (n1 : Nat) (x : Bool) (h : kP cs0 n1 = some x) : bc Try.prog 41 1 [.vec 0] [.vec cs0 n1 3 false] lw x :=
 FD.sem (ch := oE) (A := eF [(2, un.la)]) (fn := Try.f41) (c := bq Try.f41) (fuel := 60) aJ ri mixed bG lw Try.func41 (by kernel_rfl) (aI (l := [aK Try.f41 0]) (by kernel_rfl) ⟨bX (by kernel_rfl) Br, trivial⟩)
  (by kernel_rfl) (Eq.trans (by kernel_rfl) h)
def tK : HK where
 call := fun args σ k => match args with
  | [x0] => cM σ 3 x0 fun cs0 n1 => Option.bind (kP cs0 n1) fun y => aA σ 1 (lw.val y) (lw.aL y) k
  | _ => none
 nat := fun args σ k => by
  repeat' split
  all_goals simp only [aw, ai, Option.bind_assoc, Option.bind_none, aA, Option.bind_some]
 pure := false
 pok := fun h => by cases h
theorem Fb : aW Try.prog 41 tK := by
 intro args σ r σ' h
 simp only [tK] at h
 split at h
 ·rename_i x0
  obtain ⟨cs0, n1, he0, hf0, h⟩ := bA h
  obtain ⟨y, hy, h⟩ := bE_ h
  exact lifted (xs := [x0]) (ls := [.vec cs0 n1 3 false]) (cargs := [.vec 0]) (bv.of ⟨⟨rfl, he0, hf0, by decide⟩, trivial⟩) rfl (DX cs0 n1 y hy) rfl rfl rfl rfl h
 ·cases h
def Fc : CH := CH.none
theorem Bs : aE Try.prog Fc := CH.aB
def ce (a0 a1 a2 a3 a4 a5 : Int) : Option (Int × Int × Int) :=
 (some ((IntKind.wrap .i64 (a0 - a3)), (IntKind.wrap .i64 (a1 - a4)), (IntKind.wrap .i64 (a2 - a5))))
def lx : FD where
 X := Int × Int × Int
 k := 0
 pre := []
 F := fun s => []
 M := .agg [.int .i64, .int .i64, .int .i64]
 B := []
 toL := fun x => [.I x.1, .I x.2.1, .I x.2.2]
 ofL := fun ls => match ls with
  | [.I x0, .I x1, .I x2] => some (x0, x1, x2)
  | _ => none
 au := fun ls x h => by
  split at h
  ·cases h; rfl
  ·cases h
theorem DY (a0 a1 a2 a3 a4 a5 : Int) (x : Int × Int × Int) (h : ce a0 a1 a2 a3 a4 a5 = some x) : bc Try.prog 62 0 [.agg [.int .i64 a0, .int .i64 a1, .int .i64 a2], .agg [.int .i64 a3, .int .i64 a4, .int .i64 a5]] [] lx x :=
 FD.semA lx Bs Try.func62 (fuel := 60) (by kernel_rfl) (by kernel_rfl)
  (by kernel_rfl) (Eq.trans (by kernel_rfl) h)
def tL : HK where
 call := fun args σ k => match args with
  | [.agg [.int .i64 a0, .int .i64 a1, .int .i64 a2], .agg [.int .i64 a3, .int .i64 a4, .int .i64 a5]] => Option.bind (ce a0 a1 a2 a3 a4 a5) fun y => aA σ 0 (lx.val y) (lx.aL y) k
  | _ => none
 nat := fun args σ k => by
  repeat' split
  all_goals simp only [aw, ai, Option.bind_assoc, Option.bind_none, aA, Option.bind_some]
 pure := true
 pok := fun _ args σ r σ' h => by
  split at h
  ·exact bp h (fun y => rfl) (fun y f => rfl)
  ·cases h
theorem Fd : aW Try.prog 62 tL := by
 intro args σ r σ' h
 simp only [tL] at h
 split at h
 ·rename_i a0 a1 a2 a3 a4 a5
  obtain ⟨y, hy, h⟩ := bE_ h
  exact lifted (xs := []) (ls := []) (cargs := [.agg [.int .i64 a0, .int .i64 a1, .int .i64 a2], .agg [.int .i64 a3, .int .i64 a4, .int .i64 a5]]) (bv.of trivial) rfl (DY a0 a1 a2 a3 a4 a5 y hy) rfl rfl rfl rfl h
 ·cases h
def vL : CH := (CH.add 63 zE (CH.add 62 tL (CH.add 61 pN (CH.add 28 B5 CH.none))))
theorem sP : aE Try.prog vL := (CH.aj JG (CH.aj Fd (CH.aj wP (CH.aj B6 CH.aB))))
def bY (cs0 : LA_) (n1 : Nat) (a2 a3 a4 : Int) : Option (Bool) :=
 (cond (((n1 : Nat) : Int) == 0) (some true) (cond (((n1 : Nat) : Int) == 1) (af (decide (0 ≤ 0) && decide (0 < ((n1 : Nat) : Int))) (af (aq lC cs0 (Int.toNat 0 * 3)) (cond (!(a2 == (ac cs0 ((Int.toNat 0 * 3) + 0)) && (a3 == (ac cs0 ((Int.toNat 0 * 3) + 1)) && (a4 == (ac cs0 ((Int.toNat 0 * 3) + 2)) && true)))) (some true) (some false)))) (cond (((n1 : Nat) : Int) == 2) (af (decide (0 ≤ 1) && decide (1 < ((n1 : Nat) : Int))) (af (aq lC cs0 (Int.toNat 1 * 3)) (af (decide (0 ≤ 0) && decide (0 < ((n1 : Nat) : Int))) (af (aq lC cs0 (Int.toNat 0 * 3)) (Option.bind (ce (ac cs0 ((Int.toNat 1 * 3) + 0)) (ac cs0 ((Int.toNat 1 * 3) + 1)) (ac cs0 ((Int.toNat 1 * 3) + 2)) (ac cs0 ((Int.toNat 0 * 3) + 0)) (ac cs0 ((Int.toNat 0 * 3) + 1)) (ac cs0 ((Int.toNat 0 * 3) + 2))) fun r1 => (af (decide (0 ≤ 0) && decide (0 < ((n1 : Nat) : Int))) (af (aq lC cs0 (Int.toNat 0 * 3)) (Option.bind (ce a2 a3 a4 (ac cs0 ((Int.toNat 0 * 3) + 0)) (ac cs0 ((Int.toNat 0 * 3) + 1)) (ac cs0 ((Int.toNat 0 * 3) + 2))) fun r2 => (Option.bind (fN r1.1 r1.2.1 r1.2.2 r2.1 r2.2.1 r2.2.2) fun r3 => (cond (!(r3.1 == 0 && (r3.2.1 == 0 && (r3.2.2.1 == 0 && (r3.2.2.2.1 == 0 && (r3.2.2.2.2.1 == 0 && (r3.2.2.2.2.2.1 == 0 && (r3.2.2.2.2.2.2.1 == 0 && (r3.2.2.2.2.2.2.2.1 == 0 && (r3.2.2.2.2.2.2.2.2.1 == 0 && (r3.2.2.2.2.2.2.2.2.2.1 == 0 && (r3.2.2.2.2.2.2.2.2.2.2.1 == 0 && (r3.2.2.2.2.2.2.2.2.2.2.2.1 == 0 && (r3.2.2.2.2.2.2.2.2.2.2.2.2.1 == 0 && (r3.2.2.2.2.2.2.2.2.2.2.2.2.2.1 == 0 && (r3.2.2.2.2.2.2.2.2.2.2.2.2.2.2.1 == 0 && (r3.2.2.2.2.2.2.2.2.2.2.2.2.2.2.2.1 == 0 && (r3.2.2.2.2.2.2.2.2.2.2.2.2.2.2.2.2.1 == 0 && (r3.2.2.2.2.2.2.2.2.2.2.2.2.2.2.2.2.2.1 == 0 && (r3.2.2.2.2.2.2.2.2.2.2.2.2.2.2.2.2.2.2.1 == 0 && (r3.2.2.2.2.2.2.2.2.2.2.2.2.2.2.2.2.2.2.2.1 == 0 && (r3.2.2.2.2.2.2.2.2.2.2.2.2.2.2.2.2.2.2.2.2.1 == 0 && (r3.2.2.2.2.2.2.2.2.2.2.2.2.2.2.2.2.2.2.2.2.2.1 == 0 && (r3.2.2.2.2.2.2.2.2.2.2.2.2.2.2.2.2.2.2.2.2.2.2.1 == 0 && (r3.2.2.2.2.2.2.2.2.2.2.2.2.2.2.2.2.2.2.2.2.2.2.2 == 0 && true))))))))))))))))))))))))) (some true) (some false))))))))))) (cond (((n1 : Nat) : Int) == 3) (af (decide (0 ≤ 1) && decide (1 < ((n1 : Nat) : Int))) (af (aq lC cs0 (Int.toNat 1 * 3)) (af (decide (0 ≤ 0) && decide (0 < ((n1 : Nat) : Int))) (af (aq lC cs0 (Int.toNat 0 * 3)) (Option.bind (ce (ac cs0 ((Int.toNat 1 * 3) + 0)) (ac cs0 ((Int.toNat 1 * 3) + 1)) (ac cs0 ((Int.toNat 1 * 3) + 2)) (ac cs0 ((Int.toNat 0 * 3) + 0)) (ac cs0 ((Int.toNat 0 * 3) + 1)) (ac cs0 ((Int.toNat 0 * 3) + 2))) fun r4 => (af (decide (0 ≤ 2) && decide (2 < ((n1 : Nat) : Int))) (af (aq lC cs0 (Int.toNat 2 * 3)) (af (decide (0 ≤ 0) && decide (0 < ((n1 : Nat) : Int))) (af (aq lC cs0 (Int.toNat 0 * 3)) (Option.bind (ce (ac cs0 ((Int.toNat 2 * 3) + 0)) (ac cs0 ((Int.toNat 2 * 3) + 1)) (ac cs0 ((Int.toNat 2 * 3) + 2)) (ac cs0 ((Int.toNat 0 * 3) + 0)) (ac cs0 ((Int.toNat 0 * 3) + 1)) (ac cs0 ((Int.toNat 0 * 3) + 2))) fun r5 => (af (decide (0 ≤ 0) && decide (0 < ((n1 : Nat) : Int))) (af (aq lC cs0 (Int.toNat 0 * 3)) (Option.bind (ce a2 a3 a4 (ac cs0 ((Int.toNat 0 * 3) + 0)) (ac cs0 ((Int.toNat 0 * 3) + 1)) (ac cs0 ((Int.toNat 0 * 3) + 2))) fun r6 => (Option.bind (j8 r4.1 r4.2.1 r4.2.2 r5.1 r5.2.1 r5.2.2 r6.1 r6.2.1 r6.2.2) fun r7 => (Option.bind (pU r7.1 r7.2.1 r7.2.2.1 r7.2.2.2.1 r7.2.2.2.2.1 r7.2.2.2.2.2.1 r7.2.2.2.2.2.2.1 r7.2.2.2.2.2.2.2) fun r8 => (cond (r8 != 0) (some true) (some false))))))))))))))))) (some false)))))
def fb : FD where
 X := Bool
 k := 2
 pre := []
 F := fun s => [0, 1]
 M := .bool
 B := []
 toL := fun x => [.B x]
 ofL := fun ls => match ls with
  | [.B x0] => some x0
  | _ => none
 au := fun ls x h => by
  split at h
  ·cases h; rfl
  ·cases h
theorem uH (cs0 : LA_) (n1 : Nat) (a2 a3 a4 : Int) (x : Bool) (h : bY cs0 n1 a2 a3 a4 = some x) : bc Try.prog 40 2 [.ptr 0 0, .agg [.int .i64 a2, .int .i64 a3, .int .i64 a4]] [.cells [.vec 1] false none, .vec cs0 n1 3 false] fb x :=
 FD.semA fb sP Try.func40 (fuel := 60) (by kernel_rfl) (by kernel_rfl)
  (by kernel_rfl) (Eq.trans (by kernel_rfl) h)
def jB : HK where
 call := fun args σ k => match args with
  | [.ptr b0 0, .agg [.int .i64 a2, .int .i64 a3, .int .i64 a4]] => match σ.get b0 with | some (.cells [x1] _ _) => (cM σ 3 x1 fun cs0 n1 => Option.bind (bY cs0 n1 a2 a3 a4) fun y => aA σ 2 (fb.val y) (fb.aL y) k) | _ => none
  | _ => none
 nat := fun args σ k => by
  repeat' split
  all_goals simp only [aw, ai, Option.bind_assoc, Option.bind_none, aA, Option.bind_some]
 pure := false
 pok := fun h => by cases h
theorem vJ : aW Try.prog 40 jB := by
 intro args σ r σ' h
 simp only [jB] at h
 split at h
 ·rename_i b0 a2 a3 a4
  split at h
  ·rename_i x1 own0 gr0 hb0
   obtain ⟨cs0, n1, he1, hf1, h⟩ := bA h
   obtain ⟨y, hy, h⟩ := bE_ h
   exact lifted (xs := [.ptr b0 0, x1]) (ls := [.cells [.vec 1] false none, .vec cs0 n1 3 false]) (cargs := [.ptr 0 0, .agg [.int .i64 a2, .int .i64 a3, .int .i64 a4]]) (bv.of ⟨⟨rfl, rfl, by simp, rfl, b0, 0, rfl, by simp [cV, hb0, rI, sub]⟩, ⟨rfl, he1, hf1, by decide⟩, trivial⟩) rfl (uH cs0 n1 a2 a3 a4 y hy) rfl rfl rfl rfl h
  ·cases h
 ·cases h
abbrev dh := LA_ × Nat × LA_ × Nat × Int
def lM : CH := (CH.add 41 tK (CH.add 40 jB CH.none))
theorem oZ : aE Try.prog lM := (CH.aj Fb (CH.aj vJ CH.aB))
def cB {R : Type} (cc : LA_ × Nat × Int) (v : dh) (kn : (dh) → Option R) (ke : ((LA_ × Nat)) → Option R) : Option R :=
 (cond (decide (v.2.2.2.2 < cc.2.2)) (af (decide (0 ≤ v.2.2.2.2) && decide (v.2.2.2.2 < ((cc.2.1 : Nat) : Int))) (af (aq lC cc.1 (Int.toNat v.2.2.2.2 * 3)) (Option.bind (bY v.2.2.1 v.2.2.2.1 (ac cc.1 ((Int.toNat v.2.2.2.2 * 3) + 0)) (ac cc.1 ((Int.toNat v.2.2.2.2 * 3) + 1)) (ac cc.1 ((Int.toNat v.2.2.2.2 * 3) + 2))) fun r2 => (cond r2 (af (decide (2 * (v.2.2.2.1 + 1) * 24 ≤ 2 ^ 48)) (af (decide (2 * (v.2.1 + 1) * 8 ≤ 2 ^ 48)) (kn ((v.1 ++ [.int .i64 v.2.2.2.2]), (v.2.1 + 1), (v.2.2.1 ++ [.int .i64 (ac cc.1 ((Int.toNat v.2.2.2.2 * 3) + 0)), .int .i64 (ac cc.1 ((Int.toNat v.2.2.2.2 * 3) + 1)), .int .i64 (ac cc.1 ((Int.toNat v.2.2.2.2 * 3) + 2))]), (v.2.2.2.1 + 1), (IntKind.wrap .i64 (v.2.2.2.2 + 1)))))) (kn (v.1, v.2.1, v.2.2.1, v.2.2.2.1, (IntKind.wrap .i64 (v.2.2.2.2 + 1)))))))) (ke (v.1, v.2.1)))
def fe (cc : LA_ × Nat × Int) (v : dh) : Option ((dh) ⊕ ((LA_ × Nat))) := cB cc v (fun v => some (Sum.inl v)) fun e => some (Sum.inr e)
def sO (cc : LA_ × Nat × Int) (v : dh) : Option ((LA_ × Nat)) := dA (fe cc) v
def yD (cc : LA_ × Nat × Int) (v : dh) : List ah := [.I cc.2.2, .I v.s4, .C v.1, .N v.2.1, .C v.2.2.1, .N v.2.2.2.1, .C cc.1, .N cc.2.1]
def pa (ls : List ah) : Option ((LA_ × Nat × Int) × (dh)) := match ls with
 | [.I x0, .I x1, .C x2, .N x3, .C x4, .N x5, .C x6, .N x7] => some ((x6, x7, x0), (x2, x3, x4, x5, x1))
 | _ => none
def pb (e : (LA_ × Nat)) : an := ((fun e => .exit 0) e)
def pd (cc : LA_ × Nat × Int) (e : (LA_ × Nat)) : List ah := ((fun e => [.C e.1, .N e.2]) e)
def nJ (cc : LA_ × Nat × Int) (e : (LA_ × Nat)) : List ah := ((fun e => []) e)
def jC (o : an) (ls : List ah) : Option (((LA_ × Nat)) × List ah) := match o with
 | .exit 0 => (match ls with
  | [.C x0, .N x1] => some ((x0, x1), [])
  | _ => none)
 | _ => none
theorem vK : ∀ o ls e cl cc, jC o ls = some (e, cl) → cl = nJ cc e → ls = pd cc e ∧ pb e = o ∧ o ≠ .normal ∧ ∀ v, o = .pan v → sc 0 v = true := by
 intro o ls e cl cc h hc
 unfold jC at h
 split at h
 ·split at h
  ·cases h
   exact ⟨rfl, rfl, by simp, by intro v hv; cases hv <;> rfl⟩
  ·cases h
 ·cases h
def zL (o : an) : ExS := match o with
 | .exit 0 => ⟨2, (none :: none :: some (.vec 1) :: (rl none 35 [])), [(1, .vec 1 true)], fun s => [0, nameAt s 2 []], [], []⟩
 | _ => ⟨0, [], [], fun _ => [], [], []⟩
theorem yE {R : Type} (cc : LA_ × Nat × Int) (v : dh) (kn : (dh) → Option R) (ke : ((LA_ × Nat)) → Option R) : cB cc v kn ke = (cB cc v (fun v => some (Sum.inl v)) fun e => some (Sum.inr e)).bind (Sum.elim kn ke) := by
 simp only [cB, bK, ai, Option.bind_assoc, cb, bF, Option.bind_some, Option.bind_none, Sum.elim_inl, Sum.elim_inr]
def rq : LD where
 CC := LA_ × Nat × Int
 V := dh
 E := (LA_ × Nat)
 n := 1
 K := 4
 M := (none :: none :: some (.vec 1) :: none :: some (.ptr 2 0) :: some (.func 40 [.ptr 2 0] []) :: (rl none 9 (some (.vec 0) :: some (.int .i64) :: some (.int .i64) :: (rl none 20 []))))
 B := [(1, .vec 1 true), (2, .cells [.vec 3] true none), (3, .vec 3 true), (0, .vec 3 false)]
 D := []
 pre := [(2, 1), (1000004, 3)]
 F := fun s => [0, nameAt s 2 [], nameAt s 4 [], nameAt s 4 [.d 0]]
 toL := yD
 ofL := pa
 au := fun ls c v h => by
  unfold pa at h
  split at h
  ·cases h; rfl
  ·cases h
 ck := cB
 nat := yE
 sh := zL
 out := pb
 toE := pd
 fp := nJ
 ofE := jC
 da := vK
 post := fun cc e k => ((fun e => k (.exit 0) (bd 2 (none :: none :: some (.vec 1) :: (rl none 35 [])) [(1, .vec e.1 e.2 1 true)] [])) e)
 cd := fun cc e k => by rfl
theorem yF : cF Try.prog 1 rq.la (aK Try.f24 0) :=
 LD.ok (ch := lM) (A := bt) aJ oZ mixed (fuel := 60) ⟨by kernel_rfl, fun e => by kernel_rfl, fun cc v => by kernel_rfl, aI (l := []) (by kernel_rfl) trivial⟩
def iG (cs0 : LA_) (n1 : Nat) : Option (Int × LA_ × Nat) :=
 (Option.bind (kP cs0 n1) fun r1 => (cond r1 (cond (decide (((n1 : Nat) : Int) > 256)) (some (3, ([] : LA_), 0)) (Option.bind (sO (cs0, n1, ((n1 : Nat) : Int)) (([] : LA_), 0, ([] : LA_), 0, 0)) fun e2 => (some (0, e2.1, e2.2)))) (some (7, ([] : LA_), 0))))
def jo : FD where
 X := Int × LA_ × Nat
 k := 1
 pre := [(2, 1)]
 F := fun s => [0, nameAt s 0 [.c 0]]
 M := .tup [.vec 1, .int .i64]
 B := [.vec 1 true]
 toL := fun x => [.I x.1, .C x.2.1, .N x.2.2]
 ofL := fun ls => match ls with
  | [.I x0, .C x1, .N x2] => some (x0, x1, x2)
  | _ => none
 au := fun ls x h => by
  split at h
  ·cases h; rfl
  ·cases h
theorem Bu (cs0 : LA_) (n1 : Nat) (x : Int × LA_ × Nat) (h : iG cs0 n1 = some x) : bc Try.prog 24 1 [.vec 0] [.vec cs0 n1 3 false] jo x :=
 FD.SF (il := fun _ => false) (ch := lM) (A := eF [(8, rq.la)]) (fn := Try.f24) (c := bq Try.f24) (fuel := 60) aJ oZ mixed bG jo Try.func24 (by kernel_rfl) (aI (l := [aK Try.f24 0]) (by kernel_rfl) ⟨bX (by kernel_rfl) yF, trivial⟩)
  (by kernel_rfl) (Eq.trans (by kernel_rfl) h)
def pT : HK where
 call := fun args σ k => match args with
  | [x0] => cM σ 3 x0 fun cs0 n1 => Option.bind (iG cs0 n1) fun y => aA σ 1 (jo.val y) (jo.aL y) k
  | _ => none
 nat := fun args σ k => by
  repeat' split
  all_goals simp only [aw, ai, Option.bind_assoc, Option.bind_none, aA, Option.bind_some]
 pure := false
 pok := fun h => by cases h
theorem B4 : aW Try.prog 24 pT := by
 intro args σ r σ' h
 simp only [pT] at h
 split at h
 ·rename_i x0
  obtain ⟨cs0, n1, he0, hf0, h⟩ := bA h
  obtain ⟨y, hy, h⟩ := bE_ h
  exact lifted (xs := [x0]) (ls := [.vec cs0 n1 3 false]) (cargs := [.vec 0]) (bv.of ⟨⟨rfl, he0, hf0, by decide⟩, trivial⟩) rfl (Bu cs0 n1 y hy) rfl rfl rfl rfl h
 ·cases h
def Fe : CH := (CH.add 24 pT CH.none)
theorem Bt : aE Try.prog Fe := (CH.aj B4 CH.aB)
def ay (cs0 : LA_) (n1 : Nat) : Option (Int × Int) :=
 (Option.bind (iG cs0 n1) fun r1 => (cond (r1.1 != 0) (some (0, r1.1)) (some ((IntKind.wrap .i64 (((r1.2.2 : Nat) : Int) - 1)), 0))))
def ly : FD where
 X := Int × Int
 k := 1
 pre := []
 F := fun s => [0]
 M := .tup [.int .i64, .int .i64]
 B := []
 toL := fun x => [.I x.1, .I x.2]
 ofL := fun ls => match ls with
  | [.I x0, .I x1] => some (x0, x1)
  | _ => none
 au := fun ls x h => by
  split at h
  ·cases h; rfl
  ·cases h
theorem DZ (cs0 : LA_) (n1 : Nat) (x : Int × Int) (h : ay cs0 n1 = some x) : bc Try.prog 11 1 [.vec 0] [.vec cs0 n1 3 false] ly x :=
 FD.semA ly Bt Try.func11 (fuel := 60) (by kernel_rfl) (by kernel_rfl)
  (by kernel_rfl) (Eq.trans (by kernel_rfl) h)
def gb : HK where
 call := fun args σ k => match args with
  | [x0] => cM σ 3 x0 fun cs0 n1 => Option.bind (ay cs0 n1) fun y => aA σ 1 (ly.val y) (ly.aL y) k
  | _ => none
 nat := fun args σ k => by
  repeat' split
  all_goals simp only [aw, ai, Option.bind_assoc, Option.bind_none, aA, Option.bind_some]
 pure := false
 pok := fun h => by cases h
theorem gP : aW Try.prog 11 gb := by
 intro args σ r σ' h
 simp only [gb] at h
 split at h
 ·rename_i x0
  obtain ⟨cs0, n1, he0, hf0, h⟩ := bA h
  obtain ⟨y, hy, h⟩ := bE_ h
  exact lifted (xs := [x0]) (ls := [.vec cs0 n1 3 false]) (cargs := [.vec 0]) (bv.of ⟨⟨rfl, he0, hf0, by decide⟩, trivial⟩) rfl (DZ cs0 n1 y hy) rfl rfl rfl rfl h
 ·cases h
abbrev Pt := Int × Int × Int
def pcs : List Pt → LA_
 | [] => []
 | p :: l => .int .i64 p.1 :: .int .i64 p.2.1 :: .int .i64 p.2.2 :: pcs l
def pat (l : List Pt) (i : Nat) : Pt := l.getD i (0, 0, 0)
theorem zk : ∀ (a b : List Pt), pcs (a ++ b) = pcs a ++ pcs b
 | [], b => rfl
 | p :: a, b => by simp [pcs, zk a b]
theorem zn : ∀ (l : List Pt) (i : Nat), i < l.length → (pcs l)[i * 3]? = some (.int .i64 (pat l i).1) ∧ (pcs l)[i * 3 + 1]? = some (.int .i64 (pat l i).2.1) ∧ (pcs l)[i * 3 + 2]? = some (.int .i64 (pat l i).2.2)
 | [], i, h => by simp at h
 | p :: l, 0, h => ⟨rfl, rfl, rfl⟩
 | p :: l, i + 1, h => by
  have ih := zn l i (by simpa using h)
  rw [show (i + 1) * 3 = i * 3 + 3 by omega, show i * 3 + 3 + 1 = i * 3 + 1 + 3 by omega, show i * 3 + 3 + 2 = i * 3 + 2 + 3 by omega]
  exact ih
theorem pg0 {l : List Pt} {i : Nat} (h : i < l.length) : ac (pcs l) (i * 3 + 0) = (pat l i).1 := by
 unfold ac; rw [Nat.add_zero, (zn l i h).1]
theorem pg1 {l : List Pt} {i : Nat} (h : i < l.length) : ac (pcs l) (i * 3 + 1) = (pat l i).2.1 := by
 unfold ac; rw [(zn l i h).2.1]
theorem pg2 {l : List Pt} {i : Nat} (h : i < l.length) : ac (pcs l) (i * 3 + 2) = (pat l i).2.2 := by
 unfold ac; rw [(zn l i h).2.2]
theorem pro {l : List Pt} {i : Nat} (h : i < l.length) : aq lC (pcs l) (i * 3) = true := by
 have h1 := zn l i h
 simp [aq, h1.1, h1.2.1, h1.2.2, isK]
theorem decLt {i n : Nat} (h : i < n) : decide ((i : Int) < ((n : Nat) : Int)) = true := decide_eq_true (by omega)
def bP (p : Pt) : Bool := bnd p.1 && bnd p.2.1 && bnd p.2.2
theorem C7 {p : Pt} : bP p = true ↔ bnd p.1 = true ∧ bnd p.2.1 = true ∧ bnd p.2.2 = true := by simp [bP, and_assoc]
def bf (l : List Pt) : Bool := l.all bP
theorem fC {l : List Pt} (h : bf l = true) {i : Nat} (hi : i < l.length) : bP (pat l i) = true := by
 unfold pat
 rw [List.getD_eq_getElem?_getD, List.getElem?_eq_getElem hi]
 exact List.all_eq_true.1 h _ (List.getElem_mem hi)
theorem gH (n : Nat) : ((n : Nat) : Int).toNat = n := Int.toNat_natCast n
theorem TE {l : List Pt} (hl : l.length < 1000000000) : kP (pcs l) l.length = some (bf l) := by
 have key : ∃ e, vI (pcs l, l.length, ((l.length : Nat) : Int)) 0 = some e ∧ (match e with | .inl () => bf l = false | .inr () => bf l = true) := by
  refine gL (step := jn (pcs l, l.length, ((l.length : Nat) : Int))) (fun v => ∃ i : Nat, v = (i : Int) ∧ i ≤ l.length ∧ bf (l.take i) = true) (fun v => ((l.length : Int) - v).toNat) _ ?_
   (Nat.lt_of_le_of_lt (show ((l.length : Int) - 0).toNat ≤ 1000000000 by omega) (by decide)) ⟨0, rfl, by omega, rfl⟩
  rintro v ⟨i, rfl, hi, hok⟩
  by_cases h : i < l.length
  ·have w : IntKind.wrap .i64 ((i : Int) + 1) = ((i + 1 : Nat) : Int) := by rw [cf (by omega)]; omega
   have hsp : bf l = true ↔ bf (l.take (i + 1)) = true ∧ bf (l.drop (i + 1)) = true := by
    rw [← Bool.and_eq_true]
    unfold bf
    rw [← List.all_append, List.take_append_drop]
   have htk : bf (l.take (i + 1)) = bP (pat l i) := by
    have : l.take (i + 1) = l.take i ++ [pat l i] := by
     rw [List.take_add_one, List.getElem?_eq_getElem h]; simp [pat, List.getD_eq_getElem?_getD, List.getElem?_eq_getElem h]
    unfold bf at *
    rw [this, List.all_append, hok]; simp
   simp only [jn, dH, decLt h, fD, cond_true, Bool.and_self, az, gH, pro h, pg0 h, pg1 h, pg2 h, MG, Option.bind_some, w]
   cases hb : bP (pat l i) with
   | true =>
    have hb' : (bnd (pat l i).1 && bnd (pat l i).2.1 && bnd (pat l i).2.2) = true := hb
    rw [hb']
    exact .inl ⟨_, rfl, ⟨i + 1, rfl, by omega, by rw [htk, hb]⟩, by omega⟩
   | false =>
    have hb' : (bnd (pat l i).1 && bnd (pat l i).2.1 && bnd (pat l i).2.2) = false := hb
    rw [hb']
    refine .inr ⟨.inl (), rfl, ?_⟩
    cases hc : bf l with
    | false => rfl
    | true => rw [(htk ▸ (hsp.1 hc).1 : bP (pat l i) = true)] at hb; cases hb
  ·have hi' : i = l.length := by omega
   subst hi'
   rw [List.take_length] at hok
   refine .inr ⟨.inr (), ?_, hok⟩
   simp only [jn, dH, decide_eq_false (show ¬ ((l.length : Int) < ((l.length : Nat) : Int)) by omega), cond_false]
 obtain ⟨e, h1, h2⟩ := key
 unfold kP
 rw [h1, Option.bind_some]
 match e, h2 with
 | .inl (), h2 => rw [h2]; rfl
 | .inr (), h2 => rw [h2]; rfl
def ax (a b : Pt) : Pt := (a.1 - b.1, a.2.1 - b.2.1, a.2.2 - b.2.2)
def crs (a b : Pt) : Pt := (a.2.1 * b.2.2 - a.2.2 * b.2.1, a.2.2 * b.1 - a.1 * b.2.2, a.1 * b.2.1 - a.2.1 * b.1)
def ae (a b : Pt) : Int := a.1 * b.1 + a.2.1 * b.2.1 + a.2.2 * b.2.2
def dP (p : Pt) : Prop := sm 29 p.1 ∧ sm 29 p.2.1 ∧ sm 29 p.2.2
theorem IX {x : Int} (h : bnd x = true) : sm 28 x := by have := uY.1 h; unfold sm; omega
theorem nV {a b : Pt} (ha : bP a = true) (hb : bP b = true) : dP (ax a b) := by
 obtain ⟨h1, h2, h3⟩ := C7.1 ha
 obtain ⟨k1, k2, k3⟩ := C7.1 hb
 exact ⟨gv (IX h1) (IX k1), gv (IX h2) (IX k2), gv (IX h3) (IX k3)⟩
theorem r63 {x : Int} (h : sm 29 x) : aZ x = true := by rw [C6]; unfold sm at h; omega
theorem w29 {a b : Int} (ha : bnd a = true) (hb : bnd b = true) : IntKind.wrap .i64 (a - b) = a - b := by
 have := uY.1 ha
 have := uY.1 hb
 exact cf (by omega)
theorem zo {a b : Pt} (ha : bP a = true) (hb : bP b = true) : ce a.1 a.2.1 a.2.2 b.1 b.2.1 b.2.2 = some (ax a b) := by
 obtain ⟨h1, h2, h3⟩ := C7.1 ha
 obtain ⟨k1, k2, k3⟩ := C7.1 hb
 unfold ce
 rw [w29 h1 k1, w29 h2 k2, w29 h3 k3]; rfl
def cL (a b c : Pt) : Int := ae (crs b c) a
theorem Qt {a b : Pt} (ha : dP a) (hb : dP b) : fN a.1 a.2.1 a.2.2 b.1 b.2.1 b.2.2 = some (t24 (crs a b).1 (crs a b).2.1 (crs a b).2.2) :=
 MK (r63 ha.1) (r63 ha.2.1) (r63 ha.2.2) (r63 hb.1) (r63 hb.2.1) (r63 hb.2.2)
theorem TF {a b c : Pt} (ha : dP a) (hb : dP b) (hc : dP c) : j8 a.1 a.2.1 a.2.2 b.1 b.2.1 b.2.2 c.1 c.2.1 c.2.2 = some (t8 (cL a b c)) :=
 Ue (r63 ha.1) (r63 ha.2.1) (r63 ha.2.2) (r63 hb.1) (r63 hb.2.1) (r63 hb.2.2) (r63 hc.1) (r63 hc.2.1) (r63 hc.2.2)
theorem O7 {a b : Pt} (ha : dP a) (hb : dP b) : sm 59 (crs a b).1 ∧ sm 59 (crs a b).2.1 ∧ sm 59 (crs a b).2.2 :=
 ⟨gv (cK ha.2.1 hb.2.2) (cK ha.2.2 hb.2.1), gv (cK ha.2.2 hb.1) (cK ha.1 hb.2.2), gv (cK ha.1 hb.2.1) (cK ha.2.1 hb.1)⟩
theorem Sl {a b c : Pt} (ha : dP a) (hb : dP b) (hc : dP c) : sm 90 (cL a b c) := by
 have h := O7 hb hc
 exact kT (kT (cK h.1 ha.1) (cK h.2.1 ha.2.1)) (aV (cK h.2.2 ha.2.2) (by decide))
def dG (t : List Pt) (p : Pt) : Bool :=
 match t with
 | [] => true
 | [a] => !decide (p = a)
 | [a, b] => !decide (crs (ax b a) (ax p a) = (0, 0, 0))
 | [a, b, c] => !decide (cL (ax b a) (ax c a) (ax p a) = 0)
 | _ => false
theorem TG {x y z : Int} (hx : fit x) (hy : fit y) (hz : fit z) : (aa x 0 == 0 && (aa x 1 == 0 && (aa x 2 == 0 && (aa x 3 == 0 && (aa x 4 == 0 && (aa x 5 == 0 && (aa x 6 == 0 && (aa x 7 == 0 && (aa y 0 == 0 && (aa y 1 == 0 && (aa y 2 == 0 && (aa y 3 == 0 && (aa y 4 == 0 && (aa y 5 == 0 && (aa y 6 == 0 && (aa y 7 == 0 && (aa z 0 == 0 && (aa z 1 == 0 && (aa z 2 == 0 && (aa z 3 == 0 && (aa z 4 == 0 && (aa z 5 == 0 && (aa z 6 == 0 && (aa z 7 == 0 && true)))))))))))))))))))))))) = decide (x = 0 ∧ y = 0 ∧ z = 0) := by
 have h1 := NH hx
 have h2 := NH hy
 have h3 := NH hz
 simp only [Bool.and_true] at h1 h2 h3 ⊢
 rw [h3]
 simp only [← Bool.and_assoc] at h1 h2 ⊢
 rw [h1]
 by_cases a : x = 0 <;> by_cases b : y = 0 <;> by_cases c : z = 0 <;> simp_all
theorem UA (z : Int) : (sgn z != 0) = !decide (z = 0) := by
 unfold sgn
 by_cases h1 : z < 0 <;> by_cases h2 : z = 0 <;> simp [h1, h2]
theorem Qu {t : List Pt} {p : Pt} (ht : bf t = true) (hp : bP p = true) (hl : t.length ≤ 4) : bY (pcs t) t.length p.1 p.2.1 p.2.2 = some (dG t p) := by
 have hD : ∀ a b : Int, decide (0 ≤ (0 : Int)) = true := fun _ _ => rfl
 match t, hl with
 | [], _ => rfl
 | [a], _ =>
  unfold bY dG
  simp only [pcs, List.length_cons, List.length_nil, Nat.zero_add]
  obtain ⟨x, y, z⟩ := a
  obtain ⟨u, v, w⟩ := p
  show (cond (!(u == x && (v == y && (w == z && true)))) (some true) (some false)) = _
  have e : (u == x && (v == y && (w == z && true))) = decide ((u, v, w) = (x, y, z)) := by
   rw [Bool.eq_iff_iff]; simp
  rw [e]
  cases decide ((u, v, w) = (x, y, z)) <;> rfl
 | [a, b], _ =>
  have ha := fC ht (i := 0) (by simp)
  have hb := fC ht (i := 1) (by simp)
  have ha' : bP a = true := ha
  have hb' : bP b = true := hb
  have hc := O7 (nV hb' ha') (nV hp ha')
  have e : bY (pcs [a, b]) 2 p.1 p.2.1 p.2.2 = Option.bind (ce b.1 b.2.1 b.2.2 a.1 a.2.1 a.2.2) fun r1 => Option.bind (ce p.1 p.2.1 p.2.2 a.1 a.2.1 a.2.2) fun r2 => Option.bind (fN r1.1 r1.2.1 r1.2.2 r2.1 r2.2.1 r2.2.2) fun r3 =>
    cond (!(r3.1 == 0 && (r3.2.1 == 0 && (r3.2.2.1 == 0 && (r3.2.2.2.1 == 0 && (r3.2.2.2.2.1 == 0 && (r3.2.2.2.2.2.1 == 0 && (r3.2.2.2.2.2.2.1 == 0 && (r3.2.2.2.2.2.2.2.1 == 0 && (r3.2.2.2.2.2.2.2.2.1 == 0 && (r3.2.2.2.2.2.2.2.2.2.1 == 0 && (r3.2.2.2.2.2.2.2.2.2.2.1 == 0 && (r3.2.2.2.2.2.2.2.2.2.2.2.1 == 0 && (r3.2.2.2.2.2.2.2.2.2.2.2.2.1 == 0 && (r3.2.2.2.2.2.2.2.2.2.2.2.2.2.1 == 0 && (r3.2.2.2.2.2.2.2.2.2.2.2.2.2.2.1 == 0 && (r3.2.2.2.2.2.2.2.2.2.2.2.2.2.2.2.1 == 0 && (r3.2.2.2.2.2.2.2.2.2.2.2.2.2.2.2.2.1 == 0 && (r3.2.2.2.2.2.2.2.2.2.2.2.2.2.2.2.2.2.1 == 0 && (r3.2.2.2.2.2.2.2.2.2.2.2.2.2.2.2.2.2.2.1 == 0 && (r3.2.2.2.2.2.2.2.2.2.2.2.2.2.2.2.2.2.2.2.1 == 0 && (r3.2.2.2.2.2.2.2.2.2.2.2.2.2.2.2.2.2.2.2.2.1 == 0 && (r3.2.2.2.2.2.2.2.2.2.2.2.2.2.2.2.2.2.2.2.2.2.1 == 0 && (r3.2.2.2.2.2.2.2.2.2.2.2.2.2.2.2.2.2.2.2.2.2.2.1 == 0 && (r3.2.2.2.2.2.2.2.2.2.2.2.2.2.2.2.2.2.2.2.2.2.2.2 == 0 && true))))))))))))))))))))))))) (some true) (some false) := rfl
  show bY (pcs [a, b]) 2 p.1 p.2.1 p.2.2 = _
  rw [e, zo hb' ha', Option.bind_some, zo hp ha', Option.bind_some, Qt (nV hb' ha') (nV hp ha'), Option.bind_some]
  simp only [t24, TG (be hc.1 (by decide)) (be hc.2.1 (by decide)) (be hc.2.2 (by decide)), dG]
  generalize crs (ax b a) (ax p a) = q
  obtain ⟨x, y, z⟩ := q
  have e : decide (x = 0 ∧ y = 0 ∧ z = 0) = decide ((x, y, z) = ((0, 0, 0) : Pt)) := by
   rw [Bool.eq_iff_iff]; simp
  rw [e]
  cases decide ((x, y, z) = ((0, 0, 0) : Pt)) <;> rfl
 | [a, b, c], _ =>
  have ha' : bP a = true := fC ht (i := 0) (by simp)
  have hb' : bP b = true := fC ht (i := 1) (by simp)
  have hc' : bP c = true := fC ht (i := 2) (by simp)
  have hd := Sl (nV hb' ha') (nV hc' ha') (nV hp ha')
  have e : bY (pcs [a, b, c]) 3 p.1 p.2.1 p.2.2 = Option.bind (ce b.1 b.2.1 b.2.2 a.1 a.2.1 a.2.2) fun r1 => Option.bind (ce c.1 c.2.1 c.2.2 a.1 a.2.1 a.2.2) fun r2 => Option.bind (ce p.1 p.2.1 p.2.2 a.1 a.2.1 a.2.2) fun r3 =>
    Option.bind (j8 r1.1 r1.2.1 r1.2.2 r2.1 r2.2.1 r2.2.2 r3.1 r3.2.1 r3.2.2) fun r4 => Option.bind (pU r4.1 r4.2.1 r4.2.2.1 r4.2.2.2.1 r4.2.2.2.2.1 r4.2.2.2.2.2.1 r4.2.2.2.2.2.2.1 r4.2.2.2.2.2.2.2) fun r5 => cond (r5 != 0) (some true) (some false) := rfl
  show bY (pcs [a, b, c]) 3 p.1 p.2.1 p.2.2 = _
  rw [e, zo hb' ha', Option.bind_some, zo hc' ha', Option.bind_some, zo hp ha', Option.bind_some, TF (nV hb' ha') (nV hc' ha') (nV hp ha'), Option.bind_some]
  simp only [t8, Mx (be hd (by decide)), Option.bind_some, UA, dG]
  cases decide (cL (ax b a) (ax c a) (ax p a) = 0) <;> rfl
 | [a, b, c, d], _ => rfl
 | a :: b :: c :: d :: e :: r, h => simp at h
def ics (l : List Int) : LA_ := l.map (.int .i64)
theorem Sn (a b : List Int) : ics (a ++ b) = ics a ++ ics b := by simp [ics]
def ll : List Pt → Int → List Int → List Pt → List Int × List Pt
 | [], _, o, t => (o, t)
 | p :: r, i, o, t => cond (dG t p) (ll r (i + 1) (o ++ [i]) (t ++ [p])) (ll r (i + 1) o t)
def lm (l : List Pt) : List Int := (ll l 0 [] []).1
theorem ML {t : List Pt} {p : Pt} (h : dG t p = true) : t.length ≤ 3 := by
 unfold dG at h
 split at h <;> simp_all
theorem F5 : ∀ (r : List Pt) (i : Int) (o : List Int) (t : List Pt), o.length = t.length → t.length ≤ 4 → (ll r i o t).1.length = (ll r i o t).2.length ∧ (ll r i o t).2.length ≤ 4
 | [], i, o, t, h, h4 => ⟨h, h4⟩
 | p :: r, i, o, t, h, h4 => by
  unfold ll
  cases hb : dG t p with
  | true =>
   have := ML hb
   exact F5 r _ _ _ (by simp [h]) (by simp; omega)
  | false => exact F5 r _ _ _ h h4
theorem ye {l : List Pt} (hok : bf l = true) (hl : l.length ≤ 256) : ∀ (n i : Nat) (o : List Int) (t : List Pt), l.length - i = n → i ≤ l.length → o.length = t.length → t.length ≤ 4 → bf t = true →
  iter (fe (pcs l, l.length, ((l.length : Nat) : Int))) (n + 1) (ics o, o.length, pcs t, t.length, (i : Int)) = some (ics (ll (l.drop i) i o t).1, (ll (l.drop i) i o t).1.length)
 | 0, i, o, t, hn, hi, ho, ht, hk => by
  have he : i = l.length := by omega
  subst he
  refine fB 0 ?_
  rw [List.drop_length]
  simp only [fe, cB, decide_eq_false (show ¬ ((l.length : Int) < ((l.length : Nat) : Int)) by omega), cond_false]
  rfl
 | n + 1, i, o, t, hn, hi, ho, ht, hk => by
  have h : i < l.length := by omega
  have hd : l.drop i = pat l i :: l.drop (i + 1) := by
   rw [List.drop_eq_getElem_cons h]; simp [pat, List.getD_eq_getElem?_getD, List.getElem?_eq_getElem h]
  have w : IntKind.wrap .i64 ((i : Int) + 1) = ((i + 1 : Nat) : Int) := by rw [cf (by omega)]; omega
  have hp := fC hok h
  have hr := Qu hk hp ht
  have d1 : ∀ k : Nat, k ≤ 5 → decide (2 * k * 24 ≤ 2 ^ 48) = true := fun k hk => decide_eq_true (by omega)
  have d2 : ∀ k : Nat, k ≤ 5 → decide (2 * k * 8 ≤ 2 ^ 48) = true := fun k hk => decide_eq_true (by omega)
  cases hb : dG t (pat l i) with
  | true =>
   have h3 := ML hb
   rw [hb] at hr
   refine dm (v' := (ics (o ++ [(i : Int)]), (o ++ [(i : Int)]).length, pcs (t ++ [pat l i]), (t ++ [pat l i]).length, ((i + 1 : Nat) : Int))) ?_ ?_
   ·simp only [fe, cB, decLt h, fD, cond_true, Bool.and_self, az, gH, pro h, pg0 h, pg1 h, pg2 h, hr, Option.bind_some, w, d1 _ (show t.length + 1 ≤ 5 by omega), d2 _ (show o.length + 1 ≤ 5 by omega), Sn, zk, List.length_append, List.length_cons, List.length_nil, Nat.zero_add]
    rfl
   ·have ih := ye hok hl n (i + 1) (o ++ [(i : Int)]) (t ++ [pat l i]) (by omega) (by omega) (by simp [ho]) (by simp; omega) (by unfold bf at *; rw [List.all_append, hk]; simp [hp])
    rw [ih, hd]
    simp only [ll, hb, cond_true]
    rfl
  | false =>
   rw [hb] at hr
   refine dm (v' := (ics o, o.length, pcs t, t.length, ((i + 1 : Nat) : Int))) ?_ ?_
   ·simp only [fe, cB, decLt h, fD, cond_true, cond_false, Bool.and_self, az, gH, pro h, pg0 h, pg1 h, pg2 h, hr, Option.bind_some, w]
   ·have ih := ye hok hl n (i + 1) o t (by omega) (by omega) ho ht hk
    rw [ih, hd]
    simp only [ll, hb, cond_false]
    rfl
theorem Qv {l : List Pt} (hl : l.length < 1000000000) : iG (pcs l) l.length = some (cond (bf l) (cond (decide (l.length > 256)) (3, [], 0) (0, ics (lm l), (lm l).length)) (7, [], 0)) := by
 unfold iG
 rw [TE hl, Option.bind_some]
 cases hok : bf l with
 | false => rfl
 | true =>
  simp only [cond_true]
  by_cases h : l.length > 256
  ·rw [decide_eq_true (show ((l.length : Nat) : Int) > 256 by omega), decide_eq_true h]; rfl
  ·rw [decide_eq_false (show ¬ ((l.length : Nat) : Int) > 256 by omega), decide_eq_false h]
   have := ye hok (by omega) l.length 0 [] [] (by omega) (by omega) rfl (by simp) rfl
   have hf : sO (pcs l, l.length, ((l.length : Nat) : Int)) ([], 0, [], 0, 0) = some (ics (lm l), (lm l).length) := jc (n := l.length + 1) (by unfold se; omega) this
   simp only [cond_false, hf, Option.bind_some]
theorem zj {l : List Pt} (hl : l.length < 1000000000) : ay (pcs l) l.length = some (cond (bf l) (cond (decide (l.length > 256)) (0, 3) (((lm l).length : Int) - 1, 0)) (0, 7)) := by
 have h4 : (lm l).length ≤ 4 := by
  have := F5 l 0 [] [] rfl (by simp)
  unfold lm; omega
 unfold ay
 rw [Qv hl, Option.bind_some]
 cases bf l with
 | false => rfl
 | true =>
  cases decide (l.length > 256) with
  | true => rfl
  | false =>
   simp only [cond_true, cond_false]
   have w : IntKind.wrap .i64 ((((lm l).length : Nat) : Int) - 1) = ((lm l).length : Int) - 1 := cf (by omega)
   have : (0 != (0 : Int)) = false := rfl
   simp only [w, this, cond_false]
end Go.Ev
namespace Go.Ev
def bg : List Int → List Pt → Pt
 | w :: ws, p :: ps => (w * p.1 + (bg ws ps).1, w * p.2.1 + (bg ws ps).2.1, w * p.2.2 + (bg ws ps).2.2)
 | _, _ => (0, 0, 0)
def bQ : List Int → Int
 | [] => 0
 | w :: ws => w + bQ ws
def wt1 (e p : Pt) : Int × Int := (-ae e p, ae e e)
def wt2 (e f p : Pt) : (Int × Int) × Int :=
 let a := ae e e; let b := ae e f; let c := ae f e; let d := ae f f
 let h := -ae e p; let k := -ae f p
 ((h * d - b * k, a * k - h * c), a * d - b * c)
def m3 (a b c d e f g h i : Int) : Int := a * (e * i - f * h) - b * (d * i - f * g) + c * (d * h - e * g)
def wt3 (e f g p : Pt) : (Int × Int × Int) × Int :=
 let a := ae e e; let b := ae e f; let c := ae e g
 let d := ae f e; let k := ae f f; let l := ae f g
 let m := ae g e; let n := ae g f; let o := ae g g
 let x := -ae e p; let y := -ae f p; let z := -ae g p
 ((m3 x b c y k l z n o, m3 a x c d y l m z o, m3 a b x d k y m n z), m3 a b c d k l m n o)
def wts : List Pt → List Int × Int
 | [_] => ([1], 1)
 | [p, q] => let r := wt1 (ax q p) p; ([r.2 - r.1, r.1], r.2)
 | [p, q, s] => let r := wt2 (ax q p) (ax s p) p; ([r.2 - r.1.1 - r.1.2, r.1.1, r.1.2], r.2)
 | [p, q, s, t] => let r := wt3 (ax q p) (ax s p) (ax t p) p; ([r.2 - r.1.1 - r.1.2.1 - r.1.2.2, r.1.1, r.1.2.1, r.1.2.2], r.2)
 | _ => ([], 0)
def bu (l : List Pt) : Pt := bg (wts l).1 l
theorem jX (a b n : Pt) : ae (ax a b) n = ae a n - ae b n := by simp only [ae, ax]; grind
theorem xn (a b : Pt) : ae a b = ae b a := by simp only [ae]; grind
theorem Ty (p q : Pt) : ae q (bu [p, q]) = ae p (bu [p, q]) := by
 obtain ⟨a, b, c⟩ := p
 obtain ⟨x, y, z⟩ := q
 simp only [bu, wts, wt1, bg, ae, ax]
 grind
theorem Uy (e f p : Pt) (w1 w2 d : Int) (v : Pt) : ae v (d * p.1 + w1 * e.1 + w2 * f.1, d * p.2.1 + w1 * e.2.1 + w2 * f.2.1, d * p.2.2 + w1 * e.2.2 + w2 * f.2.2) = d * ae v p + w1 * ae v e + w2 * ae v f := by
 simp only [ae]; grind
theorem n2 (p q s : Pt) : bu [p, q, s] = (let r := wt2 (ax q p) (ax s p) p; (r.2 * p.1 + r.1.1 * (ax q p).1 + r.1.2 * (ax s p).1, r.2 * p.2.1 + r.1.1 * (ax q p).2.1 + r.1.2 * (ax s p).2.1, r.2 * p.2.2 + r.1.1 * (ax q p).2.2 + r.1.2 * (ax s p).2.2)) := by
 simp only [bu, wts, bg]
 generalize wt2 _ _ _ = r
 simp only [ax, Prod.mk.injEq]
 grind
theorem Tz (p q s : Pt) : ae (ax q p) (bu [p, q, s]) = 0 ∧ ae (ax s p) (bu [p, q, s]) = 0 := by
 rw [n2]
 simp only [Uy]
 generalize ax q p = e
 generalize ax s p = f
 simp only [wt2]
 rw [xn f e]
 generalize ae e e = a
 generalize ae e f = b
 generalize ae f f = d
 generalize ae e p = h
 generalize ae f p = k
 grind
theorem Uz (e f g p : Pt) (w1 w2 w3 d : Int) (v : Pt) : ae v (d * p.1 + w1 * e.1 + w2 * f.1 + w3 * g.1, d * p.2.1 + w1 * e.2.1 + w2 * f.2.1 + w3 * g.2.1, d * p.2.2 + w1 * e.2.2 + w2 * f.2.2 + w3 * g.2.2) = d * ae v p + w1 * ae v e + w2 * ae v f + w3 * ae v g := by
 simp only [ae]; grind
theorem n3 (p q s t : Pt) : bu [p, q, s, t] = (let r := wt3 (ax q p) (ax s p) (ax t p) p; (r.2 * p.1 + r.1.1 * (ax q p).1 + r.1.2.1 * (ax s p).1 + r.1.2.2 * (ax t p).1, r.2 * p.2.1 + r.1.1 * (ax q p).2.1 + r.1.2.1 * (ax s p).2.1 + r.1.2.2 * (ax t p).2.1, r.2 * p.2.2 + r.1.1 * (ax q p).2.2 + r.1.2.1 * (ax s p).2.2 + r.1.2.2 * (ax t p).2.2)) := by
 simp only [bu, wts, bg]
 generalize wt3 _ _ _ _ = r
 simp only [ax, Prod.mk.injEq]
 grind
theorem TA (p q s t : Pt) : ae (ax q p) (bu [p, q, s, t]) = 0 ∧ ae (ax s p) (bu [p, q, s, t]) = 0 ∧ ae (ax t p) (bu [p, q, s, t]) = 0 := by
 rw [n3]
 simp only [Uz]
 generalize ax q p = e
 generalize ax s p = f
 generalize ax t p = g
 simp only [wt3, m3]
 rw [xn f e, xn g e, xn g f]
 generalize ae e e = a
 generalize ae e f = b
 generalize ae e g = c
 generalize ae f f = d
 generalize ae f g = i
 generalize ae g g = j
 generalize ae e p = h
 generalize ae f p = k
 generalize ae g p = l
 grind
theorem FS : ∀ l : List Pt, 1 ≤ l.length → l.length ≤ 4 → bQ (wts l).1 = (wts l).2 ∧ (wts l).1.length = l.length
 | [p], _, _ => by simp [wts, bQ]
 | [p, q], _, _ => by simp only [wts, bQ, List.length_cons, List.length_nil]; constructor <;> first | trivial | omega
 | [p, q, r], _, _ => by simp only [wts, bQ, List.length_cons, List.length_nil]; constructor <;> first | trivial | omega
 | [p, q, r, s], _, _ => by simp only [wts, bQ, List.length_cons, List.length_nil]; constructor <;> first | trivial | omega
 | _ :: _ :: _ :: _ :: _ :: _, _, h => by simp at h
theorem xm : ∀ l : List Pt, 1 ≤ l.length → l.length ≤ 4 → ∀ p ∈ l, ae p (bu l) = ae (l.headD (0, 0, 0)) (bu l)
 | [p], _, _ => by intro x hx; simp at hx; subst hx; rfl
 | [p, q], _, _ => by
  intro x hx
  simp only [List.mem_cons, List.not_mem_nil, or_false] at hx
  rcases hx with rfl | rfl
  ·rfl
  ·exact Ty _ _
 | [p, q, r], _, _ => by
  intro x hx
  have := Tz p q r
  simp only [jX] at this
  simp only [List.mem_cons, List.not_mem_nil, or_false] at hx
  simp only [List.headD_cons]
  rcases hx with rfl | rfl | rfl <;> omega
 | [p, q, r, s], _, _ => by
  intro x hx
  have := TA p q r s
  simp only [jX] at this
  simp only [List.mem_cons, List.not_mem_nil, or_false] at hx
  simp only [List.headD_cons]
  rcases hx with rfl | rfl | rfl | rfl <;> omega
 | _ :: _ :: _ :: _ :: _ :: _, _, h => by simp at h
theorem A0 (v : Pt) (s : Int) : ∀ (w : List Int) (l : List Pt), w.length = l.length → (∀ p ∈ l, ae p v = s) → ae (bg w l) v = bQ w * s
 | [], [], _, _ => by simp [bg, bQ, ae]
 | x :: w, p :: l, hl, h => by
  have ih := A0 v s w l (by simpa using hl) fun q hq => h q (by simp [hq])
  have h0 := h p (by simp)
  simp only [bg, bQ, ae] at ih h0 ⊢
  grind
 | [], _ :: _, hl, _ => by simp at hl
 | _ :: _, [], hl, _ => by simp at hl
theorem sH (v : Pt) (s : Int) : ∀ (w : List Int) (l : List Pt), w.length = l.length → (∀ x ∈ w, 0 ≤ x) → (∀ p ∈ l, s ≤ ae p v) → bQ w * s ≤ ae (bg w l) v
 | [], [], _, _, _ => by simp [bg, bQ, ae]
 | x :: w, p :: l, hl, hw, h => by
  have ih := sH v s w l (by simpa using hl) (fun y hy => hw y (by simp [hy])) fun q hq => h q (by simp [hq])
  have h0 := Int.mul_le_mul_of_nonneg_left (h p (by simp)) (hw x (by simp))
  simp only [bg, bQ, ae] at ih h0 ⊢
  rw [Int.add_mul]
  have e : ∀ a b c d e f : Int, (a * p.1 + b) * v.1 + (a * p.2.1 + c) * v.2.1 + (a * p.2.2 + d) * v.2.2 = a * (p.1 * v.1 + p.2.1 * v.2.1 + p.2.2 * v.2.2) + (b * v.1 + c * v.2.1 + d * v.2.2) := by intros; grind
  rw [e _ _ _ _ 0 0]
  omega
 | [], _ :: _, hl, _, _ => by simp at hl
 | _ :: _, [], hl, _, _ => by simp at hl
theorem sq_nonneg (a : Int) : 0 ≤ a * a := by
 rcases Int.le_total 0 a with h | h
 ·exact Int.mul_nonneg h h
 ·exact Int.mul_nonneg_of_nonpos_of_nonpos h h
theorem DE {a : Int} (h : a * a ≤ 0) : a = 0 := by
 have := sq_nonneg a
 have e : a * a = 0 := by omega
 rcases Int.mul_eq_zero.1 e with h | h <;> exact h
theorem Bf {v : Pt} (h : ae v v ≤ 0) : v = (0, 0, 0) := by
 obtain ⟨x, y, z⟩ := v
 simp only [ae] at h
 have hx := sq_nonneg x
 have hy := sq_nonneg y
 have hz := sq_nonneg z
 rw [DE (a := x) (by omega), DE (a := y) (by omega), DE (a := z) (by omega)]
theorem qT (v : Pt) : 0 ≤ ae v v := by
 have hx := sq_nonneg v.1
 have hy := sq_nonneg v.2.1
 have hz := sq_nonneg v.2.2
 simp only [ae]
 omega
theorem Ua {a b c x y z d e : Int} (h1 : e * a = d * x) (h2 : e * b = d * y) (h3 : e * c = d * z) : (a * a + b * b + c * c) * (e * e) = (x * x + y * y + z * z) * (d * d) := by
 have l : (a * a + b * b + c * c) * (e * e) = (e * a) * (e * a) + (e * b) * (e * b) + (e * c) * (e * c) := by grind
 rw [l, h1, h2, h3]
 grind
structure Nst (T : List Pt) (w : List Int) (N : Pt) (d s : Int) : Prop where
 len : w.length = T.length
 sum : N = bg w T
 div : bQ w = d
 pos : ∀ x ∈ w, 0 < x
 oW : 0 < d
 lev : ∀ p ∈ T, ae p N = s
theorem Nst.sq {T : List Pt} {w : List Int} {N : Pt} {d s : Int} (h : Nst T w N d s) : ae N N = d * s := by
 have := A0 N s w T h.len h.lev
 rw [← h.sum, h.div] at this
 exact this
theorem NC {T T' : List Pt} {w w' : List Int} {N N' k : Pt} {d s d' s' : Int} (h : Nst T w N d s) (h' : Nst T' w' N' d' s') (hT : ∀ p ∈ T, s' ≤ ae p N') (hk : s' ≤ ae k N') (hp : ae k N < s) :
  ae N' N' * (d * d) < ae N N * (d' * d') := by
 have h1 := sH N' s' w T h.len (fun x hx => Int.le_of_lt (h.pos x hx)) hT
 rw [← h.sum, h.div] at h1
 have q := h.sq
 have q' := h'.sq
 have dp := h.oW
 have dp' := h'.oW
 rcases Int.lt_or_le (ae N' N' * (d * d)) (ae N N * (d' * d')) with g | g
 ·exact g
 exfalso
 have hdd : 0 < d * d' := Int.mul_pos dp dp'
 have e1 := Int.mul_le_mul_of_nonneg_left h1 (Int.le_of_lt hdd)
 have V : ae (d' * N.1 - d * N'.1, d' * N.2.1 - d * N'.2.1, d' * N.2.2 - d * N'.2.2) (d' * N.1 - d * N'.1, d' * N.2.1 - d * N'.2.1, d' * N.2.2 - d * N'.2.2) =
   ae N N * (d' * d') - 2 * ((d * d') * ae N N') + ae N' N' * (d * d) := by simp only [ae]; grind
 have e2 : ae N' N' * (d * d) = (d * d') * (d * s') := by rw [q']; grind
 have z := Bf (v := (d' * N.1 - d * N'.1, d' * N.2.1 - d * N'.2.1, d' * N.2.2 - d * N'.2.2)) (by rw [V]; omega)
 simp only [Prod.mk.injEq] at z
 obtain ⟨z1, z2, z3⟩ := z
 have ek : d' * ae k N = d * ae k N' := by simp only [ae]; grind
 have es : ae N N * (d' * d') = ae N' N' * (d * d) := by
  have a1 : d' * N.1 = d * N'.1 := by omega
  have a2 : d' * N.2.1 = d * N'.2.1 := by omega
  have a3 : d' * N.2.2 = d * N'.2.2 := by omega
  exact Ua a1 a2 a3
 have ess : d' * s = d * s' := by
  rw [q, q'] at es
  have : (d * d') * (d' * s) = (d * d') * (d * s') := by grind
  exact Int.eq_of_mul_eq_mul_left (by omega) this
 have c1 := Int.mul_lt_mul_of_pos_left hp dp'
 have c2 := Int.mul_le_mul_of_nonneg_left hk (Int.le_of_lt dp)
 omega
def ind : List Pt → Prop
 | [_] => True
 | [p, q] => ax q p ≠ (0, 0, 0)
 | [p, q, r] => crs (ax q p) (ax r p) ≠ (0, 0, 0)
 | [p, q, r, s] => cL (ax q p) (ax r p) (ax s p) ≠ 0
 | _ => False
theorem DA : ∀ {l : List Pt}, ind l → 1 ≤ l.length ∧ l.length ≤ 4
 | [_], _ => by simp
 | [_, _], _ => by simp
 | [_, _, _], _ => by simp
 | [_, _, _, _], _ => by simp
 | [], h => h.elim
 | _ :: _ :: _ :: _ :: _ :: _, h => h.elim
theorem MH {v : Pt} (h : v ≠ (0, 0, 0)) : 0 < ae v v := by
 rcases Int.lt_or_le 0 (ae v v) with g | g
 ·exact g
 ·exact absurd (Bf g) h
theorem Qq (e f : Pt) : ae e e * ae f f - ae e f * ae f e = ae (crs e f) (crs e f) := by
 simp only [ae, crs]; grind
theorem Ub (e f g : Pt) : m3 (ae e e) (ae e f) (ae e g) (ae f e) (ae f f) (ae f g) (ae g e) (ae g f) (ae g g) = cL e f g * cL e f g := by
 simp only [ae, crs, m3, cL]; grind
theorem pz : ∀ {l : List Pt}, ind l → 0 < (wts l).2
 | [_], _ => by simp [wts]
 | [p, q], h => by simpa only [wts, wt1] using MH h
 | [p, q, r], h => by simp only [wts, wt2, Qq]; exact MH h
 | [p, q, r, s], h => by
  simp only [wts, wt3, Ub]
  have := sq_nonneg (cL (ax q p) (ax r p) (ax s p))
  rcases Int.lt_or_le 0 (cL (ax q p) (ax r p) (ax s p) * cL (ax q p) (ax r p) (ax s p)) with g | g
  ·exact g
  ·exact absurd (DE g) h
 | [], h => h.elim
 | _ :: _ :: _ :: _ :: _ :: _, h => h.elim
theorem Nst.of {l : List Pt} (h : ind l) (hw : ∀ x ∈ (wts l).1, 0 < x) : Nst l (wts l).1 (bu l) (wts l).2 (ae (l.headD (0, 0, 0)) (bu l)) := by
 obtain ⟨h1, h2⟩ := DA h
 obtain ⟨a, b⟩ := FS l h1 h2
 exact ⟨b, rfl, a, hw, pz h, xm l h1 h2⟩
theorem DB : ∀ {l t : List Pt}, ind l → t.Sublist l → t ≠ [] → ind t := by
 have s0 : ∀ p : Pt, crs (0, 0, 0) p = (0, 0, 0) ∧ crs p (0, 0, 0) = (0, 0, 0) := by intro p; simp [crs]
 have e2 : ∀ {p q : Pt}, ax q p ≠ (0, 0, 0) → True := fun _ => trivial
 have a3 : ∀ {p q r : Pt}, ind [p, q, r] → ind [p, q] ∧ ind [p, r] ∧ ind [q, r] := by
  intro p q r h
  refine ⟨fun e => h ?_, fun e => h ?_, fun e => h ?_⟩
  ·rw [e]; exact (s0 _).1
  ·rw [e]; exact (s0 _).2
  ·simp only [ax, crs, Prod.mk.injEq] at e ⊢; grind
 have a4 : ∀ {p q r s : Pt}, ind [p, q, r, s] → ind [p, q, r] ∧ ind [p, q, s] ∧ ind [p, r, s] ∧ ind [q, r, s] := by
  intro p q r s h
  refine ⟨fun e => h ?_, fun e => h ?_, fun e => h ?_, fun e => h ?_⟩
  ·have : cL (ax q p) (ax r p) (ax s p) = ae (crs (ax q p) (ax r p)) (ax s p) := by simp only [cL, ae, crs]; grind
   rw [this, e]; simp [ae]
  ·have : cL (ax q p) (ax r p) (ax s p) = -ae (crs (ax q p) (ax s p)) (ax r p) := by simp only [cL, ae, crs]; grind
   rw [this, e]; simp [ae]
  ·have : cL (ax q p) (ax r p) (ax s p) = ae (crs (ax r p) (ax s p)) (ax q p) := rfl
   rw [this, e]; simp [ae]
  ·have : cL (ax q p) (ax r p) (ax s p) = ae (crs (ax r q) (ax s q)) (ax q p) := by simp only [cL, ae, crs, ax]; grind
   rw [this, e]; simp [ae]
 have c2 : ∀ {p q : Pt} {t : List Pt}, ind [p, q] → t.Sublist [p, q] → t ≠ [] → ind t := by
  intro p q t h ht hn
  cases ht with
  | cons _ ht => cases ht with
   | cons _ ht => cases ht; exact absurd rfl hn
   | cons_cons _ ht => cases ht; trivial
  | cons_cons _ ht => cases ht with
   | cons _ ht => cases ht; trivial
   | cons_cons _ ht => cases ht; exact h
 have c3 : ∀ {p q r : Pt} {t : List Pt}, ind [p, q, r] → t.Sublist [p, q, r] → t ≠ [] → ind t := by
  intro p q r t h ht hn
  obtain ⟨h1, h2, h3⟩ := a3 h
  cases ht with
  | cons _ ht => exact c2 h3 ht hn
  | cons_cons _ ht => cases ht with
   | cons _ ht => exact c2 h2 (List.Sublist.cons_cons _ ht) hn
   | cons_cons _ ht => cases ht with
    | cons _ ht => cases ht; exact h1
    | cons_cons _ ht => cases ht; exact h
 intro l t h ht hn
 match l, h with
 | [p], _ =>
  cases ht with
  | cons _ ht => cases ht; exact absurd rfl hn
  | cons_cons _ ht => cases ht; trivial
 | [p, q], h => exact c2 h ht hn
 | [p, q, r], h => exact c3 h ht hn
 | [p, q, r, s], h =>
  obtain ⟨h1, h2, h3, h4⟩ := a4 h
  cases ht with
  | cons _ ht => exact c3 h4 ht hn
  | cons_cons _ ht => cases ht with
   | cons _ ht => exact c3 h3 (List.Sublist.cons_cons _ ht) hn
   | cons_cons _ ht => cases ht with
    | cons _ ht => exact c3 h2 (List.Sublist.cons_cons _ (List.Sublist.cons_cons _ ht)) hn
    | cons_cons _ ht => cases ht with
     | cons _ ht => cases ht; exact h1
     | cons_cons _ ht => cases ht; exact h
def val (T : List Pt) : Prop := ind T ∧ ∀ x ∈ (wts T).1, 0 < x
theorem Sh {S : List Pt} {N Z : Pt} {d s C : Int} (hd : 0 < d) (hN : ae N N = d * s) (hZ : ae Z N = C * s) : ae N N * (C * C) ≤ ae Z Z * (d * d) := by
 have V := qT (d * Z.1 - C * N.1, d * Z.2.1 - C * N.2.1, d * Z.2.2 - C * N.2.2)
 have e : ae (d * Z.1 - C * N.1, d * Z.2.1 - C * N.2.1, d * Z.2.2 - C * N.2.2) (d * Z.1 - C * N.1, d * Z.2.1 - C * N.2.1, d * Z.2.2 - C * N.2.2) = ae Z Z * (d * d) - 2 * ((d * C) * ae Z N) + ae N N * (C * C) := by
  simp only [ae]; grind
 rw [e, hZ, hN] at V
 have e2 : d * s * (C * C) = (d * C) * (C * s) := by grind
 rw [hN]
 omega
theorem Rb : ∀ (l : List (Int × Int)), l ≠ [] → (∀ x ∈ l, 0 < x.2) → ∃ y ∈ l, ∀ x ∈ l, y.1 * x.2 ≤ x.1 * y.2
 | [], h, _ => absurd rfl h
 | [a], _, _ => ⟨a, by simp, fun x hx => by simp at hx; subst hx; exact Int.le_refl _⟩
 | a :: b :: l, _, hp => by
  obtain ⟨y, hy, h⟩ := Rb (b :: l) (by simp) fun x hx => hp x (by simp [hx])
  have hy2 := hp y (by simp [hy])
  have ha2 := hp a (by simp)
  rcases Int.le_total (y.1 * a.2) (a.1 * y.2) with g | g
  ·refine ⟨y, by simp [hy], fun x hx => ?_⟩
   rcases List.mem_cons.1 hx with rfl | hx
   ·exact g
   ·exact h x hx
  ·refine ⟨a, by simp, fun x hx => ?_⟩
   rcases List.mem_cons.1 hx with rfl | hx
   ·exact Int.le_refl _
   ·have hx2 := hp x (by simp [hx])
    have h1 := Int.mul_le_mul_of_nonneg_right (h x hx) (Int.le_of_lt ha2)
    have h2 := Int.mul_le_mul_of_nonneg_right g (Int.le_of_lt hx2)
    have h3 : (a.1 * x.2) * y.2 ≤ (x.1 * a.2) * y.2 := by
     have e1 : a.1 * y.2 * x.2 = (a.1 * x.2) * y.2 := by grind
     have e2 : x.1 * y.2 * a.2 = (x.1 * a.2) * y.2 := by grind
     have e3 : y.1 * x.2 * a.2 = y.1 * a.2 * x.2 := by grind
     omega
    exact Int.le_of_mul_le_mul_right h3 hy2
def mvd (c0 w0 : Int) : List Int → List Int → List Int
 | w :: ws, c :: cs => (c0 * w - w0 * c) :: mvd c0 w0 ws cs
 | _, _ => []
theorem IR (c0 w0 : Int) : ∀ w c, w.length = c.length → (mvd c0 w0 w c).length = c.length
 | [], [], _ => rfl
 | _ :: w, _ :: c, h => by simpa [mvd] using IR c0 w0 w c (by simpa using h)
 | [], _ :: _, h => by simp at h
 | _ :: _, [], h => by simp at h
theorem IS (c0 w0 : Int) : ∀ w c, w.length = c.length → bQ (mvd c0 w0 w c) = c0 * bQ w - w0 * bQ c
 | [], [], _ => by simp [mvd, bQ]
 | _ :: w, _ :: c, h => by
  have := IS c0 w0 w c (by simpa using h)
  simp only [mvd, bQ, this]; grind
 | [], _ :: _, h => by simp at h
 | _ :: _, [], h => by simp at h
theorem F0 (c0 w0 : Int) : ∀ w c S, w.length = S.length → c.length = S.length → bg (mvd c0 w0 w c) S = (c0 * (bg w S).1 - w0 * (bg c S).1, c0 * (bg w S).2.1 - w0 * (bg c S).2.1, c0 * (bg w S).2.2 - w0 * (bg c S).2.2)
 | [], [], [], _, _ => by simp [mvd, bg]
 | _ :: w, _ :: c, p :: S, h, h' => by
  have := F0 c0 w0 w c S (by simpa using h) (by simpa using h')
  simp only [mvd, bg, this, Prod.mk.injEq]; grind
 | [], _, _ :: _, h, _ => by simp at h
 | _ :: _, _, [], h, _ => by simp at h
 | _ :: _, [], _ :: _, _, h => by simp at h
 | [], _ :: _, [], _, h => by simp at h
theorem MI (c0 w0 : Int) : ∀ w c x, x ∈ mvd c0 w0 w c → ∃ p ∈ w.zip c, x = c0 * p.1 - w0 * p.2
 | [], _, x, h => by simp [mvd] at h
 | _ :: _, [], x, h => by simp [mvd] at h
 | a :: w, b :: c, x, h => by
  simp only [mvd, List.mem_cons] at h
  rcases h with rfl | h
  ·exact ⟨(a, b), by simp, rfl⟩
  ·obtain ⟨p, h1, h2⟩ := MI c0 w0 w c x h
   exact ⟨p, by simp [h1], h2⟩
theorem IT (c0 w0 : Int) : ∀ w c p, p ∈ w.zip c → c0 * p.1 - w0 * p.2 ∈ mvd c0 w0 w c
 | [], _, x, h => by simp at h
 | _ :: _, [], x, h => by simp at h
 | a :: w, b :: c, x, h => by
  simp only [List.zip_cons_cons, List.mem_cons] at h
  simp only [mvd, List.mem_cons]
  rcases h with rfl | h
  ·exact .inl rfl
  ·exact .inr (IT c0 w0 w c x h)
theorem LB : ∀ (c : List Int) (S : List Pt), c.length = S.length → (∀ x ∈ c, 0 ≤ x) → ∃ S' c', S'.Sublist S ∧ c'.length = S'.length ∧ (∀ x ∈ c', 0 < x) ∧ bg c' S' = bg c S ∧ bQ c' = bQ c ∧ ((0 : Int) ∈ c → S'.length < S.length)
 | [], [], _, _ => ⟨[], [], List.Sublist.refl _, rfl, by simp, rfl, rfl, by simp⟩
 | a :: c, p :: S, h, hp => by
  obtain ⟨S', c', h1, h2, h3, h4, h5, h6⟩ := LB c S (by simpa using h) fun x hx => hp x (by simp [hx])
  have ha := hp a (by simp)
  rcases Int.lt_or_le 0 a with g | g
  ·refine ⟨p :: S', a :: c', List.Sublist.cons_cons _ h1, by simp [h2], fun x hx => ?_, by simp [bg, h4], by simp [bQ, h5], fun hz => ?_⟩
   ·rcases List.mem_cons.1 hx with rfl | hx
    ·exact g
    ·exact h3 x hx
   ·rcases List.mem_cons.1 hz with e | hz
    ·omega
    ·have := h6 hz; simp; omega
  ·obtain rfl : a = 0 := by omega
   refine ⟨S', c', List.Sublist.cons _ h1, h2, h3, by simp [bg, h4], by simp [bQ, h5], fun _ => ?_⟩
   have := h1.length_le
   simp; omega
 | [], _ :: _, h, _ => by simp at h
 | _ :: _, [], h, _ => by simp at h
theorem LC : ∀ (c : List Int), c ≠ [] → (∀ x ∈ c, 0 < x) → 0 < bQ c
 | [], h, _ => absurd rfl h
 | [a], _, h => by have := h a (by simp); simp [bQ]; omega
 | a :: b :: c, _, h => by
  have := LC (b :: c) (by simp) fun x hx => h x (by simp [hx])
  have := h a (by simp)
  simp only [bQ] at *; omega
theorem Ma : ∀ (n : Nat) (S : List Pt) (c : List Int), S.length = n → ind S → c.length = S.length → (∀ x ∈ c, 0 < x) →
  ∃ T, T.Sublist S ∧ val T ∧ ae (bu T) (bu T) * (bQ c * bQ c) ≤ ae (bg c S) (bg c S) * ((wts T).2 * (wts T).2) := by
 intro n
 induction n using Nat.strongRecOn with
 | _ n ih =>
  intro S c hn hi hc hp
  obtain ⟨l1, l2⟩ := DA hi
  obtain ⟨q1, q2⟩ := FS S l1 l2
  have hd := pz hi
  have lev := xm S l1 l2
  have hN : ae (bu S) (bu S) = (wts S).2 * ae (S.headD (0, 0, 0)) (bu S) := by
   have := A0 (bu S) _ (wts S).1 S q2 lev
   rw [q1] at this
   exact this
  have hZ : ae (bg c S) (bu S) = bQ c * ae (S.headD (0, 0, 0)) (bu S) := A0 _ _ c S hc lev
  have base := Sh (S := S) hd hN hZ
  by_cases hall : ∀ x ∈ (wts S).1, 0 < x
  ·exact ⟨S, List.Sublist.refl _, ⟨hi, hall⟩, base⟩
  ·have hcne : c ≠ [] := by intro e; rw [e] at hc; simp at hc; omega
   have hlw : (wts S).1.length = c.length := by rw [q2, hc]
   have hzne : (wts S).1.zip c ≠ [] := by
    intro e
    have := congrArg List.length e
    simp only [List.length_zip, List.length_nil] at this
    have : c.length ≠ 0 := fun e => hcne (List.length_eq_zero_iff.1 e)
    omega
   obtain ⟨y, hy, hyw⟩ := Rb _ hzne fun x hx => hp _ (List.of_mem_zip hx).2
   have hy2 : 0 < y.2 := hp _ (List.of_mem_zip hy).2
   have hy1 : y.1 ≤ 0 := by
    have : ∃ x ∈ (wts S).1, x ≤ 0 := by
     by_cases hx : ∃ x ∈ (wts S).1, x ≤ 0
     ·exact hx
     ·exact absurd (fun x hm => by
       rcases Int.lt_or_le 0 x with g | g
       ·exact g
       ·exact absurd ⟨x, hm, g⟩ hx) hall
    obtain ⟨x, hx, hx0⟩ := this
    obtain ⟨i, hil, hxi⟩ := List.getElem_of_mem hx
    have hz : (x, c[i]'(by omega)) ∈ (wts S).1.zip c := by
     rw [List.mem_iff_getElem]
     exact ⟨i, by rw [List.length_zip]; omega, by rw [List.getElem_zip, hxi]⟩
    have h1 := hyw _ hz
    have h2 := hp _ (List.of_mem_zip hz).2
    simp only at h1 h2
    have h3 : x * y.2 ≤ 0 := Int.mul_nonpos_of_nonpos_of_nonneg hx0 (Int.le_of_lt hy2)
    rcases Int.lt_or_le 0 y.1 with g | g
    ·have := Int.mul_pos g h2; omega
    ·exact g
   have hpos : ∀ x ∈ mvd y.2 y.1 (wts S).1 c, 0 ≤ x := by
    intro x hx
    obtain ⟨p, p1, rfl⟩ := MI _ _ _ _ _ hx
    have := hyw p p1
    have e : y.2 * p.1 = p.1 * y.2 := Int.mul_comm _ _
    omega
   have hzero : (0 : Int) ∈ mvd y.2 y.1 (wts S).1 c := by
    have := IT y.2 y.1 _ _ _ hy
    have e : y.2 * y.1 - y.1 * y.2 = 0 := by rw [Int.mul_comm]; omega
    rwa [e] at this
   obtain ⟨S', c', h1, h2, h3, h4, h5, h6⟩ := LB (mvd y.2 y.1 (wts S).1 c) S (by rw [IR _ _ _ _ hlw, hc]) hpos
   rw [F0 _ _ _ _ _ q2 hc] at h4
   rw [IS _ _ _ _ hlw, q1] at h5
   have hC := LC c hcne hp
   have hC' : 0 < bQ c' := by
    rw [h5]
    have a1 := Int.mul_pos hy2 hd
    have a2 : y.1 * bQ c ≤ 0 := Int.mul_nonpos_of_nonpos_of_nonneg hy1 (Int.le_of_lt hC)
    omega
   have hne : S' ≠ [] := by
    intro e
    rw [e] at h2
    have : c' = [] := List.length_eq_zero_iff.1 (by simpa using h2)
    rw [this] at hC'
    simp [bQ] at hC'
   obtain ⟨T, t1, t2, t3⟩ := ih S'.length (by rw [← hn]; exact h6 hzero) S' c' rfl (DB hi h1 hne) h2 h3
   refine ⟨T, t1.trans h1, t2, ?_⟩
   have hT := pz t2.1
   rw [h4] at t3
   generalize hs : ae (S.headD (0, 0, 0)) (bu S) = s at hN hZ
   have hNS : bg (wts S).1 S = bu S := rfl
   rw [hNS] at t3
   generalize hZZ : bg c S = Z at *
   generalize hNN : bu S = N at *
   generalize (wts S).2 = d at *
   generalize bQ c = C at *
   generalize bQ c' = C' at *
   generalize bu T = M at *
   generalize (wts T).2 = f at *
   obtain ⟨w0, c0⟩ := y
   simp only at *
   have e1 : ae (c0 * N.1 - w0 * Z.1, c0 * N.2.1 - w0 * Z.2.1, c0 * N.2.2 - w0 * Z.2.2) (c0 * N.1 - w0 * Z.1, c0 * N.2.1 - w0 * Z.2.1, c0 * N.2.2 - w0 * Z.2.2) = c0 * c0 * ae N N - 2 * (c0 * w0 * ae Z N) + w0 * w0 * ae Z Z := by
    simp only [ae]; grind
   rw [e1, hN, hZ] at t3
   have key : (c0 * c0 * (d * s) - 2 * (c0 * w0 * (C * s)) + w0 * w0 * ae Z Z) * (C * C) ≤ ae Z Z * (C' * C') := by
    have b2 : 0 ≤ d * ae Z Z - C * C * s := by
     rw [hN] at base
     have : d * (C * C * s) ≤ d * (d * ae Z Z) := by
      have e1 : d * s * (C * C) = d * (C * C * s) := by grind
      have e2 : ae Z Z * (d * d) = d * (d * ae Z Z) := by grind
      omega
     have := Int.le_of_mul_le_mul_left this hd
     omega
    have b3 : 0 ≤ c0 * c0 * d - 2 * (c0 * w0 * C) := by
     have a1 := Int.mul_pos (Int.mul_pos hy2 hy2) hd
     have a2 : c0 * w0 * C ≤ 0 := Int.mul_nonpos_of_nonpos_of_nonneg (Int.mul_nonpos_of_nonneg_of_nonpos (Int.le_of_lt hy2) hy1) (Int.le_of_lt hC)
     omega
    have b4 := Int.mul_nonneg b3 b2
    have b5 : ae Z Z * (C' * C') - (c0 * c0 * (d * s) - 2 * (c0 * w0 * (C * s)) + w0 * w0 * ae Z Z) * (C * C) = (c0 * c0 * d - 2 * (c0 * w0 * C)) * (d * ae Z Z - C * C * s) := by
     rw [h5]; grind
    omega
   have ff : 0 ≤ f * f := sq_nonneg f
   have cc : 0 ≤ C * C := sq_nonneg C
   have k1 := Int.mul_le_mul_of_nonneg_right t3 cc
   have k2 := Int.mul_le_mul_of_nonneg_right key ff
   have k3 : ae M M * (C * C) * (C' * C') ≤ ae Z Z * (f * f) * (C' * C') := by
    have e1 : ae M M * (C' * C') * (C * C) = ae M M * (C * C) * (C' * C') := by grind
    have e2 : ae Z Z * (C' * C') * (f * f) = ae Z Z * (f * f) * (C' * C') := by grind
    have e3 : ∀ u : Int, u * (f * f) * (C * C) = u * (C * C) * (f * f) := by intro u; grind
    rw [e1, e3] at k1
    rw [e2] at k2
    omega
   exact Int.le_of_mul_le_mul_right k3 (Int.mul_pos hC' hC')
theorem Ly {T : List Pt} {N p : Pt} {s : Int} (hT : ind T) (lev : ∀ q ∈ T, ae q N = s) (hp : ae p N ≠ s) : ind (p :: T) := by
 match T, hT with
 | [q], _ =>
  intro e
  have h1 := lev q (by simp)
  simp only [ax, Prod.mk.injEq] at e
  apply hp
  rw [← h1]
  simp only [ae]
  rw [show p.1 = q.1 by omega, show p.2.1 = q.2.1 by omega, show p.2.2 = q.2.2 by omega]
 | [q, r], h =>
  intro e
  have h1 := lev q (by simp)
  have h2 := lev r (by simp)
  apply h
  have ht : s - ae p N ≠ 0 := by omega
  have k : ∀ a b : Int, (s - ae p N) * (a - b) = 0 → a - b = 0 := fun a b hh => (Int.mul_eq_zero.1 hh).resolve_left ht
  simp only [crs, ax, Prod.mk.injEq] at e ⊢
  obtain ⟨e1, e2, e3⟩ := e
  simp only [ae] at h1 h2 k
  refine ⟨k _ _ ?_, k _ _ ?_, k _ _ ?_⟩ <;> grind
 | [q, r, w], h =>
  intro e
  have h1 := lev q (by simp)
  have h2 := lev r (by simp)
  have h3 := lev w (by simp)
  apply h
  have ht : s - ae p N ≠ 0 := by omega
  have k : ∀ a : Int, (s - ae p N) * a = 0 → a = 0 := fun a hh => (Int.mul_eq_zero.1 hh).resolve_left ht
  have key : ∀ u v x : Pt, ae u N = s - ae p N → ae v N = s - ae p N → ae x N = s - ae p N → cL u v x = 0 →
    crs (ax v u) (ax x u) = (0, 0, 0) := by
   intro u v x hu hv hx hd
   simp only [crs, ax, Prod.mk.injEq]
   refine ⟨k _ ?_, k _ ?_, k _ ?_⟩
   ·have : (s - ae p N) * ((v.2.1 - u.2.1) * (x.2.2 - u.2.2) - (v.2.2 - u.2.2) * (x.2.1 - u.2.1)) =
     ae u N * (v.2.1 * x.2.2 - v.2.2 * x.2.1) + ae v N * (x.2.1 * u.2.2 - x.2.2 * u.2.1) + ae x N * (u.2.1 * v.2.2 - u.2.2 * v.2.1) := by rw [hu, hv, hx]; grind
    rw [this]
    have : ae u N * (v.2.1 * x.2.2 - v.2.2 * x.2.1) + ae v N * (x.2.1 * u.2.2 - x.2.2 * u.2.1) + ae x N * (u.2.1 * v.2.2 - u.2.2 * v.2.1) = cL u v x * N.1 := by
     simp only [cL, ae, crs]; grind
    rw [this, hd, Int.zero_mul]
   ·have : (s - ae p N) * ((v.2.2 - u.2.2) * (x.1 - u.1) - (v.1 - u.1) * (x.2.2 - u.2.2)) =
     ae u N * (v.2.2 * x.1 - v.1 * x.2.2) + ae v N * (x.2.2 * u.1 - x.1 * u.2.2) + ae x N * (u.2.2 * v.1 - u.1 * v.2.2) := by rw [hu, hv, hx]; grind
    rw [this]
    have : ae u N * (v.2.2 * x.1 - v.1 * x.2.2) + ae v N * (x.2.2 * u.1 - x.1 * u.2.2) + ae x N * (u.2.2 * v.1 - u.1 * v.2.2) = cL u v x * N.2.1 := by
     simp only [cL, ae, crs]; grind
    rw [this, hd, Int.zero_mul]
   ·have : (s - ae p N) * ((v.1 - u.1) * (x.2.1 - u.2.1) - (v.2.1 - u.2.1) * (x.1 - u.1)) =
     ae u N * (v.1 * x.2.1 - v.2.1 * x.1) + ae v N * (x.1 * u.2.1 - x.2.1 * u.1) + ae x N * (u.1 * v.2.1 - u.2.1 * v.1) := by rw [hu, hv, hx]; grind
    rw [this]
    have : ae u N * (v.1 * x.2.1 - v.2.1 * x.1) + ae v N * (x.1 * u.2.1 - x.2.1 * u.1) + ae x N * (u.1 * v.2.1 - u.2.1 * v.1) = cL u v x * N.2.2 := by
     simp only [cL, ae, crs]; grind
    rw [this, hd, Int.zero_mul]
  have r := key (ax q p) (ax r p) (ax w p) (by rw [jX, h1]) (by rw [jX, h2]) (by rw [jX, h3]) e
  simp only [crs, ax, Prod.mk.injEq] at r ⊢
  grind
 | [q, r, w, z], h =>
  exfalso
  have h1 := lev q (by simp)
  have h2 := lev r (by simp)
  have h3 := lev w (by simp)
  have h4 := lev z (by simp)
  have k : ∀ a : Int, cL (ax r q) (ax w q) (ax z q) * a = 0 → a = 0 := fun a hh => (Int.mul_eq_zero.1 hh).resolve_left h
  have g1 : ae (ax r q) N = 0 := by rw [jX]; omega
  have g2 : ae (ax w q) N = 0 := by rw [jX]; omega
  have g3 : ae (ax z q) N = 0 := by rw [jX]; omega
  have key : ∀ u v x : Pt, ae u N = 0 → ae v N = 0 → ae x N = 0 → cL u v x * N.1 = 0 ∧ cL u v x * N.2.1 = 0 ∧ cL u v x * N.2.2 = 0 := by
   intro u v x hu hv hx
   have e1 : cL u v x * N.1 = ae u N * (v.2.1 * x.2.2 - v.2.2 * x.2.1) + ae v N * (x.2.1 * u.2.2 - x.2.2 * u.2.1) + ae x N * (u.2.1 * v.2.2 - u.2.2 * v.2.1) := by simp only [cL, ae, crs]; grind
   have e2 : cL u v x * N.2.1 = ae u N * (v.2.2 * x.1 - v.1 * x.2.2) + ae v N * (x.2.2 * u.1 - x.1 * u.2.2) + ae x N * (u.2.2 * v.1 - u.1 * v.2.2) := by simp only [cL, ae, crs]; grind
   have e3 : cL u v x * N.2.2 = ae u N * (v.1 * x.2.1 - v.2.1 * x.1) + ae v N * (x.1 * u.2.1 - x.2.1 * u.1) + ae x N * (u.1 * v.2.1 - u.2.1 * v.1) := by simp only [cL, ae, crs]; grind
   rw [e1, e2, e3, hu, hv, hx]
   simp
  obtain ⟨r1, r2, r3⟩ := key _ _ _ g1 g2 g3
  have n1 := k _ r1
  have n2 := k _ r2
  have n3 := k _ r3
  apply hp
  rw [← h1]
  simp only [ae, n1, n2, n3, Int.mul_zero, Int.add_zero]
theorem Si : ∀ {A B : List Pt} {p : Pt}, ind (p :: (A ++ B)) → ind (A ++ p :: B)
 | [], B, p, h => h
 | [a], [], p, h => by
  intro e; apply h; simp only [ax, Prod.mk.injEq] at e ⊢; omega
 | [a], [b], p, h => by
  intro e; apply h; simp only [crs, ax, Prod.mk.injEq] at e ⊢; grind
 | [a], [b, c], p, h => by
  intro e; apply h; simp only [cL, ae, crs, ax] at e ⊢; grind
 | [a], b :: c :: d :: B, p, h => h.elim
 | [a, b], [], p, h => by
  intro e; apply h; simp only [crs, ax, Prod.mk.injEq] at e ⊢; grind
 | [a, b], [c], p, h => by
  intro e; apply h; simp only [cL, ae, crs, ax] at e ⊢; grind
 | [a, b], c :: d :: B, p, h => h.elim
 | [a, b, c], [], p, h => by
  intro e; apply h; simp only [cL, ae, crs, ax] at e ⊢; grind
 | [a, b, c], d :: B, p, h => h.elim
 | a :: b :: c :: d :: A, B, p, h => h.elim
theorem NG {α : Type} {p : α} : ∀ {T l : List α}, T.Sublist l → p ∈ l → p ∉ T → ∃ A B, T = A ++ B ∧ (A ++ p :: B).Sublist l := by
 intro T l h
 induction h with
 | slnil => intro h; cases h
 | @cons T l a h ih =>
  intro hp hn
  rcases List.mem_cons.1 hp with rfl | hp
  ·exact ⟨[], T, rfl, List.Sublist.cons_cons _ h⟩
  ·obtain ⟨A, B, rfl, h2⟩ := ih hp hn
   exact ⟨A, B, rfl, List.Sublist.cons _ h2⟩
 | @cons_cons T l a h ih =>
  intro hp hn
  simp only [List.mem_cons, not_or] at hn
  rcases List.mem_cons.1 hp with rfl | hp
  ·exact absurd rfl hn.1
  ·obtain ⟨A, B, rfl, h2⟩ := ih hp hn.2
   exact ⟨a :: A, B, rfl, List.Sublist.cons_cons _ h2⟩
def oV {α : Type} : List α → List (List α)
 | [] => [[]]
 | a :: l => oV l ++ (oV l).map (a :: ·)
theorem FU {α : Type} : ∀ {l T : List α}, T.Sublist l → T ∈ oV l := by
 intro l T h
 induction h with
 | slnil => simp [oV]
 | cons a h ih => simp [oV, ih]
 | cons_cons a h ih => simp [oV, ih]
theorem IU {α : Type} : ∀ {l T : List α}, T ∈ oV l → T.Sublist l
 | [], T, h => by simp [oV] at h; subst h; exact List.Sublist.refl _
 | a :: l, T, h => by
  simp only [oV, List.mem_append, List.mem_map] at h
  rcases h with h | ⟨U, h, rfl⟩
  ·exact List.Sublist.cons _ (IU h)
  ·exact List.Sublist.cons_cons _ (IU h)
theorem O6 {α : Type} (V : α → Prop) (q d : α → Int) (hd : ∀ x, V x → 0 < d x) : ∀ (L : List α), (∃ x ∈ L, V x) → ∃ x ∈ L, V x ∧ ∀ y ∈ L, V y → q x * d y ≤ q y * d x
 | [], h => by obtain ⟨x, h, _⟩ := h; cases h
 | a :: L, h => by
  by_cases hL : ∃ x ∈ L, V x
  ·obtain ⟨x, h1, h2, h3⟩ := O6 V q d hd L hL
   by_cases ha : V a
   ·rcases Int.le_total (q x * d a) (q a * d x) with g | g
    ·refine ⟨x, by simp [h1], h2, fun y hy hv => ?_⟩
     rcases List.mem_cons.1 hy with rfl | hy
     ·exact g
     ·exact h3 y hy hv
    ·refine ⟨a, by simp, ha, fun y hy hv => ?_⟩
     rcases List.mem_cons.1 hy with rfl | hy
     ·exact Int.le_refl _
     ·have k1 := Int.mul_le_mul_of_nonneg_right (h3 y hy hv) (Int.le_of_lt (hd a ha))
      have k2 := Int.mul_le_mul_of_nonneg_right g (Int.le_of_lt (hd y hv))
      have e1 : q a * d x * d y = (q a * d y) * d x := by grind
      have e2 : q x * d a * d y = q x * d y * d a := by grind
      have e3 : q y * d x * d a = (q y * d a) * d x := by grind
      exact Int.le_of_mul_le_mul_right (by omega) (hd x h2)
   ·refine ⟨x, by simp [h1], h2, fun y hy hv => ?_⟩
    rcases List.mem_cons.1 hy with rfl | hy
    ·exact absurd hv ha
    ·exact h3 y hy hv
  ·obtain ⟨x, hx, hv⟩ := h
   rcases List.mem_cons.1 hx with rfl | hx
   ·refine ⟨x, by simp, hv, fun y hy hv' => ?_⟩
    rcases List.mem_cons.1 hy with rfl | hy
    ·exact Int.le_refl _
    ·exact absurd ⟨y, hy, hv'⟩ hL
   ·exact absurd ⟨x, hx, hv⟩ hL
theorem F1 : ∀ (c : List Int) (A : List Pt) (c' : List Int) (B : List Pt), c.length = A.length → bg (c ++ c') (A ++ B) = ((bg c A).1 + (bg c' B).1, (bg c A).2.1 + (bg c' B).2.1, (bg c A).2.2 + (bg c' B).2.2)
 | [], [], c', B, _ => by simp [bg]
 | x :: c, p :: A, c', B, h => by
  have := F1 c A c' B (by simpa using h)
  simp only [List.cons_append, bg, this, Prod.mk.injEq]; grind
 | [], _ :: _, _, _, h => by simp at h
 | _ :: _, [], _, _, h => by simp at h
theorem F2 : ∀ (c c' : List Int), bQ (c ++ c') = bQ c + bQ c'
 | [], c' => by simp [bQ]
 | x :: c, c' => by simp only [List.cons_append, bQ, F2 c c']; omega
theorem HG (K : Int) : ∀ (c : List Int) (A : List Pt), bg (c.map (K * ·)) A = (K * (bg c A).1, K * (bg c A).2.1, K * (bg c A).2.2)
 | [], A => by simp [bg]
 | x :: c, [] => by simp [bg]
 | x :: c, p :: A => by
  have := HG K c A
  simp only [List.map_cons, bg, this, Prod.mk.injEq]; grind
theorem HH (K : Int) : ∀ c : List Int, bQ (c.map (K * ·)) = K * bQ c
 | [] => by simp [bQ]
 | x :: c => by simp only [List.map_cons, bQ, HH K c]; grind
def sg (l T : List Pt) : Prop := ∀ p ∈ l, ae (T.headD (0, 0, 0)) (bu T) ≤ ae p (bu T)
theorem L7 {l : List Pt} (hl : l ≠ []) : ∃ T, T.Sublist l ∧ val T ∧ sg l T := by
 obtain ⟨p0, hp0⟩ := List.exists_mem_of_ne_nil l hl
 obtain ⟨T, hTm, hT, hmin⟩ := O6 (fun T => val T) (fun T => ae (bu T) (bu T)) (fun T => (wts T).2 * (wts T).2)
  (fun T h => Int.mul_pos (pz h.1) (pz h.1)) (oV l) ⟨[p0], FU (List.singleton_sublist.2 hp0), trivial, by simp [wts]⟩
 have hTs := IU hTm
 refine ⟨T, hTs, hT, fun p hp => ?_⟩
 rcases Int.lt_or_le (ae p (bu T)) (ae (T.headD (0, 0, 0)) (bu T)) with g | g
 case inr => exact g
 exfalso
 have hN := Nst.of hT.1 hT.2
 obtain ⟨l1, l2⟩ := DA hT.1
 have lev := xm T l1 l2
 have hpn : p ∉ T := fun h => by have := lev p h; omega
 obtain ⟨A, B, rfl, hs⟩ := NG hTs hp hpn
 have hi := Si (Ly hT.1 lev (p := p) (by omega))
 have hsq := hN.sq
 have hlen := hN.len
 have hdp := hN.oW
 have hdv := hN.div
 have hpos := hN.pos
 have hsum := hN.sum
 generalize hw : (wts (A ++ B)).1 = w at *
 generalize hd : (wts (A ++ B)).2 = d at *
 generalize hs' : ae ((A ++ B).headD (0, 0, 0)) (bu (A ++ B)) = s at *
 generalize hNN : bu (A ++ B) = N at *
 let K : Int := d * d * ae p p + (d * s) * (d * s) + 1
 have hK : 0 < K := by
  have a1 := Int.mul_nonneg (sq_nonneg d) (qT p)
  have a2 := sq_nonneg (d * s)
  show 0 < d * d * ae p p + (d * s) * (d * s) + 1
  omega
 let c : List Int := (w.take A.length).map (K * ·) ++ 1 :: (w.drop A.length).map (K * ·)
 have wl : (w.take A.length).length = A.length := by rw [List.length_take, hlen]; simp
 have wl2 : (w.drop A.length).length = B.length := by rw [List.length_drop, hlen]; simp
 have hc : c.length = (A ++ p :: B).length := by simp only [c, List.length_append, List.length_map, List.length_cons, wl, wl2]
 have hcp : ∀ x ∈ c, 0 < x := by
  intro x hx
  simp only [c, List.mem_append, List.mem_cons, List.mem_map] at hx
  rcases hx with ⟨y, hy, rfl⟩ | rfl | ⟨y, hy, rfl⟩
  ·exact Int.mul_pos hK (hpos y (List.mem_of_mem_take hy))
  ·decide
  ·exact Int.mul_pos hK (hpos y (List.mem_of_mem_drop hy))
 have hC : bQ c = K * d + 1 := by
  have e : bQ w = bQ (w.take A.length) + bQ (w.drop A.length) := by rw [← F2, List.take_append_drop]
  simp only [c, F2, bQ, HH]
  rw [← hdv, e]
  grind
 have hZ : bg c (A ++ p :: B) = (K * N.1 + p.1, K * N.2.1 + p.2.1, K * N.2.2 + p.2.2) := by
  have e : N = ((bg (w.take A.length) A).1 + (bg (w.drop A.length) B).1, (bg (w.take A.length) A).2.1 + (bg (w.drop A.length) B).2.1, (bg (w.take A.length) A).2.2 + (bg (w.drop A.length) B).2.2) := by
   rw [← F1 _ _ _ _ wl, List.take_append_drop]; exact hsum
  simp only [c]
  rw [F1 _ _ _ _ (by rw [List.length_map, wl])]
  simp only [bg, HG]
  rw [e]
  simp only [Prod.mk.injEq]
  grind
 obtain ⟨T', t1, t2, t3⟩ := Ma _ (A ++ p :: B) c rfl hi hc hcp
 have hm := hmin T' (FU (t1.trans hs)) t2
 have hdT := pz t2.1
 rw [hZ, hC] at t3
 generalize hM : bu T' = M at *
 generalize hf : (wts T').2 = f at *
 have zz : ae (K * N.1 + p.1, K * N.2.1 + p.2.1, K * N.2.2 + p.2.2) (K * N.1 + p.1, K * N.2.1 + p.2.1, K * N.2.2 + p.2.2) = K * K * ae N N + 2 * (K * ae p N) + ae p p := by
  simp only [ae]; grind
 rw [zz] at t3
 have lt : (K * K * ae N N + 2 * (K * ae p N) + ae p p) * (d * d) < ae N N * ((K * d + 1) * (K * d + 1)) := by
  have e : ae N N * ((K * d + 1) * (K * d + 1)) - (K * K * ae N N + 2 * (K * ae p N) + ae p p) * (d * d) = 2 * (K * (d * d * (s - ae p N))) + d * s - d * d * ae p p := by
   rw [hsq]; grind
  have b1 : K * 1 ≤ K * (d * d * (s - ae p N)) := by
   refine Int.mul_le_mul_of_nonneg_left ?_ (Int.le_of_lt hK)
   have := Int.mul_pos (Int.mul_pos hdp hdp) (show 0 < s - ae p N by omega)
   omega
  have b2 : -((d * s) * (d * s)) ≤ d * s := by
   rcases Int.le_total 0 (d * s) with q | q
   ·have := sq_nonneg (d * s); omega
   ·rcases Int.lt_or_le (d * s) 0 with r | r
    ·have : -(d * s) * 1 ≤ -(d * s) * (-(d * s)) := Int.mul_le_mul_of_nonneg_left (by omega) (by omega)
     have e : -(d * s) * -(d * s) = (d * s) * (d * s) := by grind
     omega
    ·have : d * s = 0 := by omega
     rw [this]; decide
  have a2 := sq_nonneg (d * s)
  have a1 := Int.mul_nonneg (sq_nonneg d) (qT p)
  have hKe : K = d * d * ae p p + (d * s) * (d * s) + 1 := rfl
  omega
 have hff := Int.mul_pos hdT hdT
 have hdd := Int.mul_pos hdp hdp
 have hCC : 0 < (K * d + 1) * (K * d + 1) := by
  have := Int.mul_pos hK hdp
  exact Int.mul_pos (by omega) (by omega)
 generalize (K * d + 1) * (K * d + 1) = CC at *
 generalize K * K * ae N N + 2 * (K * ae p N) + ae p p = ZZ at *
 generalize ae N N = NN at *
 generalize ae M M = MM at *
 have k1 := Int.mul_le_mul_of_nonneg_right t3 (Int.le_of_lt hdd)
 have k2 := Int.mul_le_mul_of_nonneg_right hm (Int.le_of_lt hCC)
 have k3 := Int.mul_lt_mul_of_pos_right lt hff
 have e1 : MM * CC * (d * d) = MM * (d * d) * CC := by grind
 have e2 : ZZ * (f * f) * (d * d) = ZZ * (d * d) * (f * f) := by grind
 have e3 : NN * (f * f) * CC = NN * CC * (f * f) := by grind
 omega
end Go.Ev
