import Derived.Test.YtbmjabafceihgaaGreatKai
set_option linter.unusedVariables false
set_option linter.unusedSimpArgs false
set_option maxRecDepth 100000
noncomputable section
namespace Go.Ev
open Go.Proofs
abbrev zX := Int × Int × Int × Int × Int × Int × Int × Int
def JG : CH := (CH.add 63 JB CH.none)
theorem EN : aB YI JG := (CH.aj Ib CH.ay)
def eu (a0 a1 a2 a3 a4 a5 a6 a7 a8 a9 a10 a11 a12 a13 a14 a15 : Int) : Option (zX) :=
 (Option.bind (xS a0 a1 a2 a3 a4 a5 a6 a7 a8 a9 a10 a11 a12 a13 a14 a15) fun r1 => (cond r1.2 (some ((aa r1.1 0), (aa r1.1 1), (aa r1.1 2), (aa r1.1 3), (aa r1.1 4), (aa r1.1 5), (aa r1.1 6), (aa r1.1 7))) (some ((aa r1.1 0), (aa r1.1 1), (aa r1.1 2), (aa r1.1 3), (aa r1.1 4), (aa r1.1 5), (aa r1.1 6), (aa r1.1 7)))))
def oh : FD where
 X := zX
 k := 0
 pre := []
 F := fun s => []
 M := .agg (rl (.int .u64) 8 [])
 B := []
 toL := fun x => [.I x.1, .I x.2.1, .I x.2.2.1, .I x.2.2.2.1, .I x.s4.1, .I x.s4.2.1, .I x.s4.2.2.1, .I x.s4.2.2.2]
 ofL := fun ls => match ls with
  | [.I x0, .I x1, .I x2, .I x3, .I x4, .I x5, .I x6, .I x7] => some (x0, x1, x2, x3, x4, x5, x6, x7)
  | _ => none
 ar := fun ls x h => by
  split at h
  ·cases h; rfl
  ·cases h
theorem Ii (a0 a1 a2 a3 a4 a5 a6 a7 a8 a9 a10 a11 a12 a13 a14 a15 : Int) (x : zX) (h : eu a0 a1 a2 a3 a4 a5 a6 a7 a8 a9 a10 a11 a12 a13 a14 a15 = some x) : aP YI 117 0 [.agg (v8 a0 a1 a2 a3 a4 a5 a6 a7 []), .agg (v8 a8 a9 a10 a11 a12 a13 a14 a15 [])] [] oh x :=
 FD.semA oh EN Tryz.func117 (fuel := 60) (by kernel_rfl) (by kernel_rfl)
  (by kernel_rfl) (Eq.trans (by kernel_rfl) h)
def xU : HK where
 call := fun args σ k => match args with
  | [.agg [.int .u64 a0, .int .u64 a1, .int .u64 a2, .int .u64 a3, .int .u64 a4, .int .u64 a5, .int .u64 a6, .int .u64 a7], .agg [.int .u64 a8, .int .u64 a9, .int .u64 a10, .int .u64 a11, .int .u64 a12, .int .u64 a13, .int .u64 a14, .int .u64 a15]] => Option.bind (eu a0 a1 a2 a3 a4 a5 a6 a7 a8 a9 a10 a11 a12 a13 a14 a15) fun y => au σ 0 (oh.val y) (oh.aI y) k
  | _ => none
 nat := fun args σ k => by
  repeat' split
  all_goals simp only [ao, ai, Yg, Yf, au, Ye]
 pure := true
 pok := fun _ args σ r σ' h => by
  split at h
  ·exact aZ h (fun y => rfl) (fun y f => rfl)
  ·cases h
theorem JD : aN YI 117 xU := by
 intro args σ r σ' h
 simp only [xU] at h
 split at h
 ·rename_i a0 a1 a2 a3 a4 a5 a6 a7 a8 a9 a10 a11 a12 a13 a14 a15
  obtain ⟨y, hy, h⟩ := bE_ h
  exact aG (xs := []) (ls := []) (cargs := [.agg (v8 a0 a1 a2 a3 a4 a5 a6 a7 []), .agg (v8 a8 a9 a10 a11 a12 a13 a14 a15 [])]) (bg.of trivial) rfl (Ii a0 a1 a2 a3 a4 a5 a6 a7 a8 a9 a10 a11 a12 a13 a14 a15 y hy) rfl rfl rfl rfl h
 ·cases h
abbrev zV := (I8 (I8 (Int × Int × Int × Int × Int × Int × Int × Int)))
def JC : CH := (CH.add 117 xU (CH.add 116 zW (CH.add 62 uC CH.none)))
theorem EJ : aB YI JC := (CH.aj JD (CH.aj KZ (CH.aj xR CH.ay)))
def gn (a0 a1 a2 a3 a4 a5 : Int) : Option (zV) :=
 (Option.bind (kS a0 a1 a2) fun r1 => (Option.bind (kS a3 a4 a5) fun r2 => (Option.bind (eu r1.2.2.2.2.2.2.2.2.1 r1.2.2.2.2.2.2.2.2.2.1 r1.2.2.2.2.2.2.2.2.2.2.1 r1.2.2.2.2.2.2.2.2.2.2.2.1 r1.2.2.2.2.2.2.2.2.2.2.2.2.1 r1.2.2.2.2.2.2.2.2.2.2.2.2.2.1 r1.2.2.2.2.2.2.2.2.2.2.2.2.2.2.1 r1.2.2.2.2.2.2.2.2.2.2.2.2.2.2.2.1 r2.2.2.2.2.2.2.2.2.2.2.2.2.2.2.2.2.1 r2.2.2.2.2.2.2.2.2.2.2.2.2.2.2.2.2.2.1 r2.2.2.2.2.2.2.2.2.2.2.2.2.2.2.2.2.2.2.1 r2.2.2.2.2.2.2.2.2.2.2.2.2.2.2.2.2.2.2.2.1 r2.2.2.2.2.2.2.2.2.2.2.2.2.2.2.2.2.2.2.2.2.1 r2.2.2.2.2.2.2.2.2.2.2.2.2.2.2.2.2.2.2.2.2.2.1 r2.2.2.2.2.2.2.2.2.2.2.2.2.2.2.2.2.2.2.2.2.2.2.1 r2.2.2.2.2.2.2.2.2.2.2.2.2.2.2.2.2.2.2.2.2.2.2.2) fun r3 => (Option.bind (eu r1.2.2.2.2.2.2.2.2.2.2.2.2.2.2.2.2.1 r1.2.2.2.2.2.2.2.2.2.2.2.2.2.2.2.2.2.1 r1.2.2.2.2.2.2.2.2.2.2.2.2.2.2.2.2.2.2.1 r1.2.2.2.2.2.2.2.2.2.2.2.2.2.2.2.2.2.2.2.1 r1.2.2.2.2.2.2.2.2.2.2.2.2.2.2.2.2.2.2.2.2.1 r1.2.2.2.2.2.2.2.2.2.2.2.2.2.2.2.2.2.2.2.2.2.1 r1.2.2.2.2.2.2.2.2.2.2.2.2.2.2.2.2.2.2.2.2.2.2.1 r1.2.2.2.2.2.2.2.2.2.2.2.2.2.2.2.2.2.2.2.2.2.2.2 r2.2.2.2.2.2.2.2.2.1 r2.2.2.2.2.2.2.2.2.2.1 r2.2.2.2.2.2.2.2.2.2.2.1 r2.2.2.2.2.2.2.2.2.2.2.2.1 r2.2.2.2.2.2.2.2.2.2.2.2.2.1 r2.2.2.2.2.2.2.2.2.2.2.2.2.2.1 r2.2.2.2.2.2.2.2.2.2.2.2.2.2.2.1 r2.2.2.2.2.2.2.2.2.2.2.2.2.2.2.2.1) fun r4 => (Option.bind (jI r3.1 r3.2.1 r3.2.2.1 r3.2.2.2.1 r3.2.2.2.2.1 r3.2.2.2.2.2.1 r3.2.2.2.2.2.2.1 r3.2.2.2.2.2.2.2 r4.1 r4.2.1 r4.2.2.1 r4.2.2.2.1 r4.2.2.2.2.1 r4.2.2.2.2.2.1 r4.2.2.2.2.2.2.1 r4.2.2.2.2.2.2.2) fun r5 => (Option.bind (eu r1.2.2.2.2.2.2.2.2.2.2.2.2.2.2.2.2.1 r1.2.2.2.2.2.2.2.2.2.2.2.2.2.2.2.2.2.1 r1.2.2.2.2.2.2.2.2.2.2.2.2.2.2.2.2.2.2.1 r1.2.2.2.2.2.2.2.2.2.2.2.2.2.2.2.2.2.2.2.1 r1.2.2.2.2.2.2.2.2.2.2.2.2.2.2.2.2.2.2.2.2.1 r1.2.2.2.2.2.2.2.2.2.2.2.2.2.2.2.2.2.2.2.2.2.1 r1.2.2.2.2.2.2.2.2.2.2.2.2.2.2.2.2.2.2.2.2.2.2.1 r1.2.2.2.2.2.2.2.2.2.2.2.2.2.2.2.2.2.2.2.2.2.2.2 r2.1 r2.2.1 r2.2.2.1 r2.2.2.2.1 r2.2.2.2.2.1 r2.2.2.2.2.2.1 r2.2.2.2.2.2.2.1 r2.2.2.2.2.2.2.2.1) fun r6 => (Option.bind (eu r1.1 r1.2.1 r1.2.2.1 r1.2.2.2.1 r1.2.2.2.2.1 r1.2.2.2.2.2.1 r1.2.2.2.2.2.2.1 r1.2.2.2.2.2.2.2.1 r2.2.2.2.2.2.2.2.2.2.2.2.2.2.2.2.2.1 r2.2.2.2.2.2.2.2.2.2.2.2.2.2.2.2.2.2.1 r2.2.2.2.2.2.2.2.2.2.2.2.2.2.2.2.2.2.2.1 r2.2.2.2.2.2.2.2.2.2.2.2.2.2.2.2.2.2.2.2.1 r2.2.2.2.2.2.2.2.2.2.2.2.2.2.2.2.2.2.2.2.2.1 r2.2.2.2.2.2.2.2.2.2.2.2.2.2.2.2.2.2.2.2.2.2.1 r2.2.2.2.2.2.2.2.2.2.2.2.2.2.2.2.2.2.2.2.2.2.2.1 r2.2.2.2.2.2.2.2.2.2.2.2.2.2.2.2.2.2.2.2.2.2.2.2) fun r7 => (Option.bind (jI r6.1 r6.2.1 r6.2.2.1 r6.2.2.2.1 r6.2.2.2.2.1 r6.2.2.2.2.2.1 r6.2.2.2.2.2.2.1 r6.2.2.2.2.2.2.2 r7.1 r7.2.1 r7.2.2.1 r7.2.2.2.1 r7.2.2.2.2.1 r7.2.2.2.2.2.1 r7.2.2.2.2.2.2.1 r7.2.2.2.2.2.2.2) fun r8 => (Option.bind (eu r1.1 r1.2.1 r1.2.2.1 r1.2.2.2.1 r1.2.2.2.2.1 r1.2.2.2.2.2.1 r1.2.2.2.2.2.2.1 r1.2.2.2.2.2.2.2.1 r2.2.2.2.2.2.2.2.2.1 r2.2.2.2.2.2.2.2.2.2.1 r2.2.2.2.2.2.2.2.2.2.2.1 r2.2.2.2.2.2.2.2.2.2.2.2.1 r2.2.2.2.2.2.2.2.2.2.2.2.2.1 r2.2.2.2.2.2.2.2.2.2.2.2.2.2.1 r2.2.2.2.2.2.2.2.2.2.2.2.2.2.2.1 r2.2.2.2.2.2.2.2.2.2.2.2.2.2.2.2.1) fun r9 => (Option.bind (eu r1.2.2.2.2.2.2.2.2.1 r1.2.2.2.2.2.2.2.2.2.1 r1.2.2.2.2.2.2.2.2.2.2.1 r1.2.2.2.2.2.2.2.2.2.2.2.1 r1.2.2.2.2.2.2.2.2.2.2.2.2.1 r1.2.2.2.2.2.2.2.2.2.2.2.2.2.1 r1.2.2.2.2.2.2.2.2.2.2.2.2.2.2.1 r1.2.2.2.2.2.2.2.2.2.2.2.2.2.2.2.1 r2.1 r2.2.1 r2.2.2.1 r2.2.2.2.1 r2.2.2.2.2.1 r2.2.2.2.2.2.1 r2.2.2.2.2.2.2.1 r2.2.2.2.2.2.2.2.1) fun r10 => (Option.bind (jI r9.1 r9.2.1 r9.2.2.1 r9.2.2.2.1 r9.2.2.2.2.1 r9.2.2.2.2.2.1 r9.2.2.2.2.2.2.1 r9.2.2.2.2.2.2.2 r10.1 r10.2.1 r10.2.2.1 r10.2.2.2.1 r10.2.2.2.2.1 r10.2.2.2.2.2.1 r10.2.2.2.2.2.2.1 r10.2.2.2.2.2.2.2) fun r11 => (some (r5.1, r5.2.1, r5.2.2.1, r5.2.2.2.1, r5.2.2.2.2.1, r5.2.2.2.2.2.1, r5.2.2.2.2.2.2.1, r5.2.2.2.2.2.2.2, r8.1, r8.2.1, r8.2.2.1, r8.2.2.2.1, r8.2.2.2.2.1, r8.2.2.2.2.2.1, r8.2.2.2.2.2.2.1, r8.2.2.2.2.2.2.2, r11.1, r11.2.1, r11.2.2.1, r11.2.2.2.1, r11.2.2.2.2.1, r11.2.2.2.2.2.1, r11.2.2.2.2.2.2.1, r11.2.2.2.2.2.2.2)))))))))))))
def og : FD where
 X := zV
 k := 0
 pre := []
 F := fun s => []
 M := .agg (rl (.int .u64) 24 [])
 B := []
 toL := fun x => [.I x.1, .I x.2.1, .I x.2.2.1, .I x.2.2.2.1, .I x.s4.1, .I x.s4.2.1, .I x.s4.2.2.1, .I x.s4.2.2.2.1, .I x.s8.1, .I x.s8.2.1, .I x.s8.2.2.1, .I x.s8.2.2.2.1, .I x.s8.s4.1, .I x.s8.s4.2.1, .I x.s8.s4.2.2.1, .I x.s8.s4.2.2.2.1, .I x.s16.1, .I x.s16.2.1, .I x.s16.2.2.1, .I x.s16.2.2.2.1, .I x.s16.s4.1, .I x.s16.s4.2.1, .I x.s16.s4.2.2.1, .I x.s16.s4.2.2.2]
 ofL := fun ls => match ls with
  | [.I x0, .I x1, .I x2, .I x3, .I x4, .I x5, .I x6, .I x7, .I x8, .I x9, .I x10, .I x11, .I x12, .I x13, .I x14, .I x15, .I x16, .I x17, .I x18, .I x19, .I x20, .I x21, .I x22, .I x23] => some (x0, x1, x2, x3, x4, x5, x6, x7, x8, x9, x10, x11, x12, x13, x14, x15, x16, x17, x18, x19, x20, x21, x22, x23)
  | _ => none
 ar := fun ls x h => by
  split at h
  ·cases h; rfl
  ·cases h
theorem Ie (a0 a1 a2 a3 a4 a5 : Int) (x : zV) (h : gn a0 a1 a2 a3 a4 a5 = some x) : aP YI 99 0 [.agg [.int .i64 a0, .int .i64 a1, .int .i64 a2], .agg [.int .i64 a3, .int .i64 a4, .int .i64 a5]] [] og x :=
 FD.semA og EJ Tryz.func99 (fuel := 60) (by kernel_rfl) (by kernel_rfl)
  (by kernel_rfl) (Eq.trans (by kernel_rfl) h)
def rC : HK where
 call := fun args σ k => match args with
  | [.agg [.int .i64 a0, .int .i64 a1, .int .i64 a2], .agg [.int .i64 a3, .int .i64 a4, .int .i64 a5]] => Option.bind (gn a0 a1 a2 a3 a4 a5) fun y => au σ 0 (og.val y) (og.aI y) k
  | _ => none
 nat := fun args σ k => by
  repeat' split
  all_goals simp only [ao, ai, Yg, Yf, au, Ye]
 pure := true
 pok := fun _ args σ r σ' h => by
  split at h
  ·exact aZ h (fun y => rfl) (fun y f => rfl)
  ·cases h
theorem zp : aN YI 99 rC := by
 intro args σ r σ' h
 simp only [rC] at h
 split at h
 ·rename_i a0 a1 a2 a3 a4 a5
  obtain ⟨y, hy, h⟩ := bE_ h
  exact aG (xs := []) (ls := []) (cargs := [.agg [.int .i64 a0, .int .i64 a1, .int .i64 a2], .agg [.int .i64 a3, .int .i64 a4, .int .i64 a5]]) (bg.of trivial) rfl (Ie a0 a1 a2 a3 a4 a5 y hy) rfl rfl rfl rfl h
 ·cases h
abbrev EK := Int × Int × Int × Int × Int × Int × Int × Int
def Mv : CH := (CH.add 99 rC (CH.add 46 mV CH.none))
theorem If : aB YI Mv := (CH.aj zp (CH.aj rB CH.ay))
def lf (a0 a1 a2 a3 a4 a5 a6 a7 a8 : Int) : Option (EK) :=
 (Option.bind (gn a3 a4 a5 a6 a7 a8) fun r1 => (Option.bind (iC r1.1 r1.2.1 r1.2.2.1 r1.2.2.2.1 r1.2.2.2.2.1 r1.2.2.2.2.2.1 r1.2.2.2.2.2.2.1 r1.2.2.2.2.2.2.2.1 r1.2.2.2.2.2.2.2.2.1 r1.2.2.2.2.2.2.2.2.2.1 r1.2.2.2.2.2.2.2.2.2.2.1 r1.2.2.2.2.2.2.2.2.2.2.2.1 r1.2.2.2.2.2.2.2.2.2.2.2.2.1 r1.2.2.2.2.2.2.2.2.2.2.2.2.2.1 r1.2.2.2.2.2.2.2.2.2.2.2.2.2.2.1 r1.2.2.2.2.2.2.2.2.2.2.2.2.2.2.2.1 r1.2.2.2.2.2.2.2.2.2.2.2.2.2.2.2.2.1 r1.2.2.2.2.2.2.2.2.2.2.2.2.2.2.2.2.2.1 r1.2.2.2.2.2.2.2.2.2.2.2.2.2.2.2.2.2.2.1 r1.2.2.2.2.2.2.2.2.2.2.2.2.2.2.2.2.2.2.2.1 r1.2.2.2.2.2.2.2.2.2.2.2.2.2.2.2.2.2.2.2.2.1 r1.2.2.2.2.2.2.2.2.2.2.2.2.2.2.2.2.2.2.2.2.2.1 r1.2.2.2.2.2.2.2.2.2.2.2.2.2.2.2.2.2.2.2.2.2.2.1 r1.2.2.2.2.2.2.2.2.2.2.2.2.2.2.2.2.2.2.2.2.2.2.2 a0 a1 a2) fun r2 => (cond r2.2.2.2.2.2.2.2.2 (some (r2.1, r2.2.1, r2.2.2.1, r2.2.2.2.1, r2.2.2.2.2.1, r2.2.2.2.2.2.1, r2.2.2.2.2.2.2.1, r2.2.2.2.2.2.2.2.1)) (some (r2.1, r2.2.1, r2.2.2.1, r2.2.2.2.1, r2.2.2.2.2.1, r2.2.2.2.2.2.1, r2.2.2.2.2.2.2.1, r2.2.2.2.2.2.2.2.1)))))
def rD : FD where
 X := EK
 k := 0
 pre := []
 F := fun s => []
 M := .agg (rl (.int .u64) 8 [])
 B := []
 toL := fun x => [.I x.1, .I x.2.1, .I x.2.2.1, .I x.2.2.2.1, .I x.s4.1, .I x.s4.2.1, .I x.s4.2.2.1, .I x.s4.2.2.2]
 ofL := fun ls => match ls with
  | [.I x0, .I x1, .I x2, .I x3, .I x4, .I x5, .I x6, .I x7] => some (x0, x1, x2, x3, x4, x5, x6, x7)
  | _ => none
 ar := fun ls x h => by
  split at h
  ·cases h; rfl
  ·cases h
theorem K0 (a0 a1 a2 a3 a4 a5 a6 a7 a8 : Int) (x : EK) (h : lf a0 a1 a2 a3 a4 a5 a6 a7 a8 = some x) : aP YI 101 0 [.agg [.int .i64 a0, .int .i64 a1, .int .i64 a2], .agg [.int .i64 a3, .int .i64 a4, .int .i64 a5], .agg [.int .i64 a6, .int .i64 a7, .int .i64 a8]] [] rD x :=
 FD.semA rD If Tryz.func101 (fuel := 60) (by kernel_rfl) (by kernel_rfl)
  (by kernel_rfl) (Eq.trans (by kernel_rfl) h)
def BP : HK where
 call := fun args σ k => match args with
  | [.agg [.int .i64 a0, .int .i64 a1, .int .i64 a2], .agg [.int .i64 a3, .int .i64 a4, .int .i64 a5], .agg [.int .i64 a6, .int .i64 a7, .int .i64 a8]] => Option.bind (lf a0 a1 a2 a3 a4 a5 a6 a7 a8) fun y => au σ 0 (rD.val y) (rD.aI y) k
  | _ => none
 nat := fun args σ k => by
  repeat' split
  all_goals simp only [ao, ai, Yg, Yf, au, Ye]
 pure := true
 pok := fun _ args σ r σ' h => by
  split at h
  ·exact aZ h (fun y => rfl) (fun y f => rfl)
  ·cases h
theorem Mw : aN YI 101 BP := by
 intro args σ r σ' h
 simp only [BP] at h
 split at h
 ·rename_i a0 a1 a2 a3 a4 a5 a6 a7 a8
  obtain ⟨y, hy, h⟩ := bE_ h
  exact aG (xs := []) (ls := []) (cargs := [.agg [.int .i64 a0, .int .i64 a1, .int .i64 a2], .agg [.int .i64 a3, .int .i64 a4, .int .i64 a5], .agg [.int .i64 a6, .int .i64 a7, .int .i64 a8]]) (bg.of trivial) rfl (K0 a0 a1 a2 a3 a4 a5 a6 a7 a8 y hy) rfl rfl rfl rfl h
 ·cases h
def sm (k : Nat) (z : Int) : Prop := -((2 ^ k : Nat) : Int) ≤ z ∧ z ≤ ((2 ^ k : Nat) : Int)
theorem bd {a b : Nat} {z : Int} (h : sm a z) (hab : a ≤ b) : sm b z := by
 have := Nat.pow_le_pow_right (n := 2) (by decide) hab
 unfold sm at *
 omega
theorem db {a b : Nat} {x y : Int} (hx : sm a x) (hy : sm b y) : sm (a + b) (x * y) := by
 unfold sm at *
 have h : (x * y).natAbs ≤ 2 ^ (a + b) := by
  rw [Int.natAbs_mul, Nat.pow_add]
  exact Nat.mul_le_mul (by omega) (by omega)
 omega
theorem mb {a : Nat} {x y : Int} (hx : sm a x) (hy : sm a y) : sm (a + 1) (x + y) := by
 unfold sm at *
 rw [Nat.pow_succ]
 omega
theorem h9 {a : Nat} {x y : Int} (hx : sm a x) (hy : sm a y) : sm (a + 1) (x - y) := by
 unfold sm at *
 rw [Nat.pow_succ]
 omega
theorem FR {a : Nat} {x : Int} (hx : sm a x) : sm a (-x) := by
 unfold sm at *
 omega
theorem oF {a : Nat} : sm a 0 := by
 have := Nat.two_pow_pos a
 unfold sm
 omega
theorem VM {m : Nat} (hm : m = 255) {x : Int} (h : sm (m + m) x) : fit x := by
 unfold sm at h
 rw [Nat.pow_add, hm] at h
 unfold fit
 omega
theorem aT {a : Nat} {x : Int} (h : sm a x) (ha : a ≤ 510) : fit x := VM (m := 255) rfl (bd h ha)
theorem FS {x : Int} : bf x = true ↔ -9223372036854775808 ≤ x ∧ x < 9223372036854775808 := by simp [bf]
theorem kP {x : Int} (h : bf x = true) : sm 63 x := by
 have := FS.1 h
 unfold sm; omega
theorem iT {x : Int} (h : bf x = true) : fit x := aT (kP h) (by decide)
theorem Jc {z : Int} (h : fit z) : gV z = (z, true) := by unfold gV; rw [ci.2 h]; rfl
theorem Gm {x : Int} (h : bf x = true) : cOf x = some x := by unfold cOf; rw [h]; rfl
theorem PV {x : Int} (hx : fit x) : rI (aa x 0) (aa x 1) (aa x 2) (aa x 3) (aa x 4) (aa x 5) (aa x 6) (aa x 7) = some (sgn x) := by
 unfold rI; rw [bz, aD hx]; rfl
theorem OX {x y : Int} (hx : fit x) (hy : fit y) (h : fit (x + y)) : xT (aa x 0) (aa x 1) (aa x 2) (aa x 3) (aa x 4) (aa x 5) (aa x 6) (aa x 7) (aa y 0) (aa y 1) (aa y 2) (aa y 3) (aa y 4) (aa y 5) (aa y 6) (aa y 7) = some (x + y, true) := by
 unfold xT; rw [bz, bz, aD hx, aD hy, Jc h]; rfl
theorem W8 {x y : Int} (hx : fit x) (hy : fit y) (h : fit (x - y)) : EM (aa x 0) (aa x 1) (aa x 2) (aa x 3) (aa x 4) (aa x 5) (aa x 6) (aa x 7) (aa y 0) (aa y 1) (aa y 2) (aa y 3) (aa y 4) (aa y 5) (aa y 6) (aa y 7) = some (x - y, true) := by
 unfold EM; rw [bz, bz, aD hx, aD hy, Jc h]; rfl
theorem KE {x y : Int} (hx : fit x) (hy : fit y) (h : fit (x * y)) : xS (aa x 0) (aa x 1) (aa x 2) (aa x 3) (aa x 4) (aa x 5) (aa x 6) (aa x 7) (aa y 0) (aa y 1) (aa y 2) (aa y 3) (aa y 4) (aa y 5) (aa y 6) (aa y 7) = some (x * y, true) := by
 unfold xS; rw [bz, bz, aD hx, aD hy, Jc h]; rfl
theorem W9 {y : Int} (hy : fit y) : xT 0 0 0 0 0 0 0 0 (aa y 0) (aa y 1) (aa y 2) (aa y 3) (aa y 4) (aa y 5) (aa y 6) (aa y 7) = some (y, true) := by
 have h := OX As hy (by rw [Int.zero_add]; exact hy)
 simp only [gP, Int.zero_add] at h
 exact h
abbrev T24 := (I8 (I8 (Int × Int × Int × Int × Int × Int × Int × Int)))
def t24 (x y z : Int) : T24 := (aa x 0, aa x 1, aa x 2, aa x 3, aa x 4, aa x 5, aa x 6, aa x 7, aa y 0, aa y 1, aa y 2, aa y 3, aa y 4, aa y 5, aa y 6, aa y 7, aa z 0, aa z 1, aa z 2, aa z 3, aa z 4, aa z 5, aa z 6, aa z 7)
theorem Nc {x y z : Int} (hx : bf x = true) (hy : bf y = true) (hz : bf z = true) : kS x y z = some (t24 x y z) := by
 simp only [kS, Gm hx, Gm hy, Gm hz, Ye, t24]
theorem LE {x y z a b c : Int} (hx : fit x) (hy : fit y) (hz : fit z) (ha : bf a = true) (hb : bf b = true) (hc : bf c = true) (h1 : fit (x * a)) (h2 : fit (y * b)) (h3 : fit (z * c)) (h4 : fit (x * a + y * b)) (h5 : fit (x * a + y * b + z * c)) :
  iC (aa x 0) (aa x 1) (aa x 2) (aa x 3) (aa x 4) (aa x 5) (aa x 6) (aa x 7) (aa y 0) (aa y 1) (aa y 2) (aa y 3) (aa y 4) (aa y 5) (aa y 6) (aa y 7) (aa z 0) (aa z 1) (aa z 2) (aa z 3) (aa z 4) (aa z 5) (aa z 6) (aa z 7) a b c = some (t9 (x * a + y * b + z * c) true) := by
 unfold iC
 rw [Nc ha hb hc, Ye]
 simp only [t24, KE hx (iT ha) h1, KE hy (iT hb) h2, KE hz (iT hc) h3, Ye, cond_true, W9 h1, OX h1 h2 h4, OX h4 h3 h5, t9]
theorem XJ {x y z a b c : Int} (hx : bf x = true) (hy : bf y = true) (hz : bf z = true) (ha : bf a = true) (hb : bf b = true) (hc : bf c = true) :
  rE x y z a b c = some (t8 (x * a + y * b + z * c)) := by
 have s1 := db (kP hx) (kP ha)
 have s2 := db (kP hy) (kP hb)
 have s3 := db (kP hz) (kP hc)
 have s4 := mb s1 s2
 have s5 := mb s4 (bd s3 (show 63 + 63 ≤ 63 + 63 + 1 by decide))
 have h := LE (iT hx) (iT hy) (iT hz) ha hb hc (aT s1 (by decide)) (aT s2 (by decide)) (aT s3 (by decide)) (aT s4 (by decide)) (aT s5 (by decide))
 unfold rE
 rw [Nc hx hy hz, Ye]
 simp only [t24, h, Ye, t9, cond_true, t8]
theorem ug {x y : Int} (hx : fit x) (hy : fit y) (h : fit (x * y)) : eu (aa x 0) (aa x 1) (aa x 2) (aa x 3) (aa x 4) (aa x 5) (aa x 6) (aa x 7) (aa y 0) (aa y 1) (aa y 2) (aa y 3) (aa y 4) (aa y 5) (aa y 6) (aa y 7) = some (t8 (x * y)) := by
 simp only [eu, KE hx hy h, Ye, cond_true, t8]
theorem LF {x y : Int} (hx : fit x) (hy : fit y) (h : fit (x - y)) : jI (aa x 0) (aa x 1) (aa x 2) (aa x 3) (aa x 4) (aa x 5) (aa x 6) (aa x 7) (aa y 0) (aa y 1) (aa y 2) (aa y 3) (aa y 4) (aa y 5) (aa y 6) (aa y 7) = some (t8 (x - y)) := by
 simp only [jI, W8 hx hy h, Ye, cond_true, t8]
theorem P9 {x y z a b c : Int} (hx : bf x = true) (hy : bf y = true) (hz : bf z = true) (ha : bf a = true) (hb : bf b = true) (hc : bf c = true) :
  gn x y z a b c = some (t24 (y * c - z * b) (z * a - x * c) (x * b - y * a)) := by
 have hp : ∀ {u v : Int}, bf u = true → bf v = true → fit (u * v) := fun hu hv => aT (db (kP hu) (kP hv)) (by decide)
 have hs : ∀ {u v s t : Int}, bf u = true → bf v = true → bf s = true → bf t = true → fit (u * v - s * t) := fun hu hv hs ht => aT (h9 (db (kP hu) (kP hv)) (db (kP hs) (kP ht))) (by decide)
 unfold gn
 rw [Nc hx hy hz, Ye, Nc ha hb hc, Ye]
 simp only [t24, ug (iT hy) (iT hc) (hp hy hc), ug (iT hz) (iT hb) (hp hz hb), ug (iT hz) (iT ha) (hp hz ha), ug (iT hx) (iT hc) (hp hx hc), ug (iT hx) (iT hb) (hp hx hb), ug (iT hy) (iT ha) (hp hy ha), Ye, t8,
  LF (hp hy hc) (hp hz hb) (hs hy hc hz hb), LF (hp hz ha) (hp hx hc) (hs hz ha hx hc), LF (hp hx hb) (hp hy ha) (hs hx hb hy ha)]
def Xa (a b c x y z u v w : Int) : Int := (y * w - z * v) * a + (z * u - x * w) * b + (x * v - y * u) * c
theorem XK {a b c x y z u v w : Int} (ha : bf a = true) (hb : bf b = true) (hc : bf c = true) (hx : bf x = true) (hy : bf y = true) (hz : bf z = true) (hu : bf u = true) (hv : bf v = true) (hw : bf w = true) :
  lf a b c x y z u v w = some (t8 (Xa a b c x y z u v w)) := by
 have hs : ∀ {u v s t : Int}, bf u = true → bf v = true → bf s = true → bf t = true → sm 127 (u * v - s * t) := fun hu hv hs ht => h9 (db (kP hu) (kP hv)) (db (kP hs) (kP ht))
 have c1 := hs hy hw hz hv
 have c2 := hs hz hu hx hw
 have c3 := hs hx hv hy hu
 have d1 := db c1 (kP ha)
 have d2 := db c2 (kP hb)
 have d3 := db c3 (kP hc)
 have d4 := mb d1 d2
 have d5 := mb d4 (bd d3 (show 127 + 63 ≤ 127 + 63 + 1 by decide))
 have h := LE (aT c1 (by decide)) (aT c2 (by decide)) (aT c3 (by decide)) ha hb hc (aT d1 (by decide)) (aT d2 (by decide)) (aT d3 (by decide)) (aT d4 (by decide)) (aT d5 (by decide))
 unfold lf
 rw [P9 hx hy hz hu hv hw, Ye]
 simp only [t24, h, Ye, t9, cond_true, t8, Xa]
def bnd (x : Int) : Bool := decide (-268435456 ≤ x) && decide (x ≤ 268435456)
theorem ep {x : Int} : bnd x = true ↔ -268435456 ≤ x ∧ x ≤ 268435456 := by simp [bnd]
theorem xk (x y z : Int) : et x y z = some (cond (bnd x && bnd y && bnd z) 0 7) := by
 have e1 : ∀ t : Int, decide (t < (-268435456)) = !decide (-268435456 ≤ t) := fun t => by rw [← decide_not]; congr 1; simp
 have e2 : ∀ t : Int, decide (t > 268435456) = !decide (t ≤ 268435456) := fun t => by rw [← decide_not]; congr 1; simp
 unfold et bnd
 simp only [e1, e2]
 cases decide (-268435456 ≤ x) <;> cases decide (x ≤ 268435456) <;> cases decide (-268435456 ≤ y) <;> cases decide (y ≤ 268435456) <;> cases decide (-268435456 ≤ z) <;> cases decide (z ≤ 268435456) <;> rfl
def qe : CH := (CH.add 13 iz CH.none)
theorem tn : aB YI qe := (CH.aj jg CH.ay)
def dZ {R : Type} (cc : LA_ × Nat × Int) (v : Int) (kn : (Int) → Option R) (ke : ((Unit) ⊕ (Unit)) → Option R) : Option R :=
 (cond (decide (v < cc.2.2)) (ah (decide (0 ≤ v) && decide (v < ((cc.2.1 : Nat) : Int))) (ah (aw kR cc.1 (Int.toNat v * 3)) (Option.bind (et (ac cc.1 ((Int.toNat v * 3) + 0)) (ac cc.1 ((Int.toNat v * 3) + 1)) (ac cc.1 ((Int.toNat v * 3) + 2))) fun r1 => (cond (r1 != 0) (ke (.inl ())) (kn (IntKind.wrap .i64 (v + 1))))))) (ke (.inr ())))
def kf (cc : LA_ × Nat × Int) (v : Int) : Option ((Int) ⊕ ((Unit) ⊕ (Unit))) := dZ cc v (fun v => some (Sum.inl v)) fun e => some (Sum.inr e)
def yc (cc : LA_ × Nat × Int) (v : Int) : Option ((Unit) ⊕ (Unit)) := dz (kf cc) v
def DM (cc : LA_ × Nat × Int) (v : Int) : List af := [.I cc.2.2, .I v, .C cc.1, .N cc.2.1]
def to (ls : List af) : Option ((LA_ × Nat × Int) × (Int)) := match ls with
 | [.I x0, .I x1, .C x2, .N x3] => some ((x2, x3, x0), x1)
 | _ => none
def tp (e : (Unit) ⊕ (Unit)) : an := ((Sum.elim (fun e => .ret) (fun e => .exit 0)) e)
def tq (cc : LA_ × Nat × Int) (e : (Unit) ⊕ (Unit)) : List af := ((Sum.elim (fun e => []) (fun e => [])) e)
def rG (cc : LA_ × Nat × Int) (e : (Unit) ⊕ (Unit)) : List af := ((Sum.elim (fun e => []) (fun e => [])) e)
def mr (o : an) (ls : List af) : Option (((Unit) ⊕ (Unit)) × List af) := match o with
 | .ret => (match ls with
  | [] => some ((.inl ()), [])
  | _ => none)
 | .exit 0 => (match ls with
  | [] => some ((.inr ()), [])
  | _ => none)
 | _ => none
theorem z5 : ∀ o ls e cl cc, mr o ls = some (e, cl) → cl = rG cc e → ls = tq cc e ∧ tp e = o ∧ o ≠ .normal ∧ ∀ v, o = .pan v → sc 0 v = true := by
 intro o ls e cl cc h hc
 unfold mr at h
 split at h
 ·split at h
  ·cases h
   exact ⟨rfl, rfl, by simp, by intro v hv; cases hv <;> rfl⟩
  ·cases h
 ·split at h
  ·cases h
   exact ⟨rfl, rfl, by simp, by intro v hv; cases hv <;> rfl⟩
  ·cases h
 ·cases h
def EO (o : an) : ExS := match o with
 | .ret => ⟨1, (none :: none :: some (.ri false) :: (rl none 12 [])), [], fun s => [0], [], []⟩
 | .exit 0 => ⟨1, (rl none 15 []), [], fun s => [0], [], []⟩
 | _ => ⟨0, [], [], fun _ => [], [], []⟩
theorem DN {R : Type} (cc : LA_ × Nat × Int) (v : Int) (kn : (Int) → Option R) (ke : ((Unit) ⊕ (Unit)) → Option R) : dZ cc v kn ke = (dZ cc v (fun v => some (Sum.inl v)) fun e => some (Sum.inr e)).bind (Sum.elim kn ke) := by
 simp only [dZ, bH, ai, Yg, bZ, bB, Ye, Yf, YF, YE]
def ww : LD where
 CC := LA_ × Nat × Int
 V := Int
 E := (Unit) ⊕ (Unit)
 n := 1
 K := 1
 M := (rl none 5 (some (.vec 0) :: some (.int .i64) :: some (.int .i64) :: (rl none 7 [])))
 B := [(0, .vec 3 false)]
 D := []
 pre := []
 F := fun s => [0]
 toL := DM
 ofL := to
 ar := fun ls c v h => by
  unfold to at h
  split at h
  ·cases h; rfl
  ·cases h
 ct := dZ
 nat := DN
 sh := EO
 out := tp
 toE := tq
 eY := rG
 ofE := mr
 cQ := z5
 post := fun cc e k => ((Sum.elim (fun e => k (.ret) (bc 1 (none :: none :: some (.bool false) :: (rl none 12 [])) [] [])) (fun e => k (.exit 0) (bc 1 (rl none 15 []) [] []))) e)
 cd := fun cc e k => by rcases e with e | e <;> rfl
theorem DO : cJ YI 1 ww.la (aJ Tryz.f71 0) :=
 LD.ok (ch := qe) (A := bw) aK tn mixed (fuel := 60) ⟨by kernel_rfl, fun e => by (rcases e with e | e <;> kernel_rfl), fun cc v => by kernel_rfl, aH (l := []) (by kernel_rfl) trivial⟩
def lY (cs0 : LA_) (n1 : Nat) : Option (Bool) :=
 (Option.bind (yc (cs0, n1, ((n1 : Nat) : Int)) 0) (Sum.elim (fun e1 => (some false)) (fun e1 => (some true))))
def mJ : FD where
 X := Bool
 k := 1
 pre := []
 F := fun s => [0]
 M := .bool
 B := []
 toL := fun x => [.B x]
 ofL := fun ls => match ls with
  | [.B x0] => some x0
  | _ => none
 ar := fun ls x h => by
  split at h
  ·cases h; rfl
  ·cases h
theorem GR (cs0 : LA_) (n1 : Nat) (x : Bool) (h : lY cs0 n1 = some x) : aP YI 71 1 [.vec 0] [.vec cs0 n1 3 false] mJ x :=
 FD.sem (ch := qe) (A := dL [(2, ww.la)]) (fn := Tryz.f71) (c := br Tryz.f71) (fuel := 60) aK tn mixed bI mJ Tryz.func71 (by kernel_rfl) (aH (l := [aJ Tryz.f71 0]) (by kernel_rfl) ⟨bT (by kernel_rfl) DO, trivial⟩)
  (by kernel_rfl) (Eq.trans (by kernel_rfl) h)
def vE : HK where
 call := fun args σ k => match args with
  | [x0] => cO σ 3 x0 fun cs0 n1 => Option.bind (lY cs0 n1) fun y => au σ 1 (mJ.val y) (mJ.aI y) k
  | _ => none
 nat := fun args σ k => by
  repeat' split
  all_goals simp only [ao, ai, Yg, Yf, au, Ye]
 pure := false
 pok := fun h => by cases h
theorem Ij : aN YI 71 vE := by
 intro args σ r σ' h
 simp only [vE] at h
 split at h
 ·rename_i x0
  obtain ⟨cs0, n1, he0, hf0, h⟩ := bv h
  obtain ⟨y, hy, h⟩ := bE_ h
  exact aG (xs := [x0]) (ls := [.vec cs0 n1 3 false]) (cargs := [.vec 0]) (bg.of ⟨⟨rfl, he0, hf0, by decide⟩, trivial⟩) rfl (GR cs0 n1 y hy) rfl rfl rfl rfl h
 ·cases h
def Ik : CH := CH.none
theorem DP : aB YI Ik := CH.ay
def cz (a0 a1 a2 a3 a4 a5 : Int) : Option (Int × Int × Int) :=
 (some ((IntKind.wrap .i64 (a0 - a3)), (IntKind.wrap .i64 (a1 - a4)), (IntKind.wrap .i64 (a2 - a5))))
def mK : FD where
 X := Int × Int × Int
 k := 0
 pre := []
 F := fun s => []
 M := .agg [.int .i64, .int .i64, .int .i64]
 B := []
 toL := fun x => [.I x.1, .I x.2.1, .I x.2.2]
 ofL := fun ls => match ls with
  | [.I x0, .I x1, .I x2] => some (x0, x1, x2)
  | _ => none
 ar := fun ls x h => by
  split at h
  ·cases h; rfl
  ·cases h
theorem GS (a0 a1 a2 a3 a4 a5 : Int) (x : Int × Int × Int) (h : cz a0 a1 a2 a3 a4 a5 = some x) : aP YI 100 0 [.agg [.int .i64 a0, .int .i64 a1, .int .i64 a2], .agg [.int .i64 a3, .int .i64 a4, .int .i64 a5]] [] mK x :=
 FD.semA mK DP Tryz.func100 (fuel := 60) (by kernel_rfl) (by kernel_rfl)
  (by kernel_rfl) (Eq.trans (by kernel_rfl) h)
def vF : HK where
 call := fun args σ k => match args with
  | [.agg [.int .i64 a0, .int .i64 a1, .int .i64 a2], .agg [.int .i64 a3, .int .i64 a4, .int .i64 a5]] => Option.bind (cz a0 a1 a2 a3 a4 a5) fun y => au σ 0 (mK.val y) (mK.aI y) k
  | _ => none
 nat := fun args σ k => by
  repeat' split
  all_goals simp only [ao, ai, Yg, Yf, au, Ye]
 pure := true
 pok := fun _ args σ r σ' h => by
  split at h
  ·exact aZ h (fun y => rfl) (fun y f => rfl)
  ·cases h
theorem Il : aN YI 100 vF := by
 intro args σ r σ' h
 simp only [vF] at h
 split at h
 ·rename_i a0 a1 a2 a3 a4 a5
  obtain ⟨y, hy, h⟩ := bE_ h
  exact aG (xs := []) (ls := []) (cargs := [.agg [.int .i64 a0, .int .i64 a1, .int .i64 a2], .agg [.int .i64 a3, .int .i64 a4, .int .i64 a5]]) (bg.of trivial) rfl (GS a0 a1 a2 a3 a4 a5 y hy) rfl rfl rfl rfl h
 ·cases h
def yf : CH := (CH.add 101 BP (CH.add 100 vF (CH.add 99 rC (CH.add 56 EQ CH.none))))
theorem uI : aB YI yf := (CH.aj Mw (CH.aj Il (CH.aj zp (CH.aj ER CH.ay))))
def co (cs0 : LA_) (n1 : Nat) (a2 a3 a4 : Int) : Option (Bool) :=
 (cond (((n1 : Nat) : Int) == 0) (some true) (cond (((n1 : Nat) : Int) == 1) (ah (decide (0 ≤ 0) && decide (0 < ((n1 : Nat) : Int))) (ah (aw kR cs0 (Int.toNat 0 * 3)) (cond (!(a2 == (ac cs0 ((Int.toNat 0 * 3) + 0)) && (a3 == (ac cs0 ((Int.toNat 0 * 3) + 1)) && (a4 == (ac cs0 ((Int.toNat 0 * 3) + 2)) && true)))) (some true) (some false)))) (cond (((n1 : Nat) : Int) == 2) (ah (decide (0 ≤ 1) && decide (1 < ((n1 : Nat) : Int))) (ah (aw kR cs0 (Int.toNat 1 * 3)) (ah (decide (0 ≤ 0) && decide (0 < ((n1 : Nat) : Int))) (ah (aw kR cs0 (Int.toNat 0 * 3)) (Option.bind (cz (ac cs0 ((Int.toNat 1 * 3) + 0)) (ac cs0 ((Int.toNat 1 * 3) + 1)) (ac cs0 ((Int.toNat 1 * 3) + 2)) (ac cs0 ((Int.toNat 0 * 3) + 0)) (ac cs0 ((Int.toNat 0 * 3) + 1)) (ac cs0 ((Int.toNat 0 * 3) + 2))) fun r1 => (ah (decide (0 ≤ 0) && decide (0 < ((n1 : Nat) : Int))) (ah (aw kR cs0 (Int.toNat 0 * 3)) (Option.bind (cz a2 a3 a4 (ac cs0 ((Int.toNat 0 * 3) + 0)) (ac cs0 ((Int.toNat 0 * 3) + 1)) (ac cs0 ((Int.toNat 0 * 3) + 2))) fun r2 => (Option.bind (gn r1.1 r1.2.1 r1.2.2 r2.1 r2.2.1 r2.2.2) fun r3 => (cond (!(r3.1 == 0 && (r3.2.1 == 0 && (r3.2.2.1 == 0 && (r3.2.2.2.1 == 0 && (r3.2.2.2.2.1 == 0 && (r3.2.2.2.2.2.1 == 0 && (r3.2.2.2.2.2.2.1 == 0 && (r3.2.2.2.2.2.2.2.1 == 0 && (r3.2.2.2.2.2.2.2.2.1 == 0 && (r3.2.2.2.2.2.2.2.2.2.1 == 0 && (r3.2.2.2.2.2.2.2.2.2.2.1 == 0 && (r3.2.2.2.2.2.2.2.2.2.2.2.1 == 0 && (r3.2.2.2.2.2.2.2.2.2.2.2.2.1 == 0 && (r3.2.2.2.2.2.2.2.2.2.2.2.2.2.1 == 0 && (r3.2.2.2.2.2.2.2.2.2.2.2.2.2.2.1 == 0 && (r3.2.2.2.2.2.2.2.2.2.2.2.2.2.2.2.1 == 0 && (r3.2.2.2.2.2.2.2.2.2.2.2.2.2.2.2.2.1 == 0 && (r3.2.2.2.2.2.2.2.2.2.2.2.2.2.2.2.2.2.1 == 0 && (r3.2.2.2.2.2.2.2.2.2.2.2.2.2.2.2.2.2.2.1 == 0 && (r3.2.2.2.2.2.2.2.2.2.2.2.2.2.2.2.2.2.2.2.1 == 0 && (r3.2.2.2.2.2.2.2.2.2.2.2.2.2.2.2.2.2.2.2.2.1 == 0 && (r3.2.2.2.2.2.2.2.2.2.2.2.2.2.2.2.2.2.2.2.2.2.1 == 0 && (r3.2.2.2.2.2.2.2.2.2.2.2.2.2.2.2.2.2.2.2.2.2.2.1 == 0 && (r3.2.2.2.2.2.2.2.2.2.2.2.2.2.2.2.2.2.2.2.2.2.2.2 == 0 && true))))))))))))))))))))))))) (some true) (some false))))))))))) (cond (((n1 : Nat) : Int) == 3) (ah (decide (0 ≤ 1) && decide (1 < ((n1 : Nat) : Int))) (ah (aw kR cs0 (Int.toNat 1 * 3)) (ah (decide (0 ≤ 0) && decide (0 < ((n1 : Nat) : Int))) (ah (aw kR cs0 (Int.toNat 0 * 3)) (Option.bind (cz (ac cs0 ((Int.toNat 1 * 3) + 0)) (ac cs0 ((Int.toNat 1 * 3) + 1)) (ac cs0 ((Int.toNat 1 * 3) + 2)) (ac cs0 ((Int.toNat 0 * 3) + 0)) (ac cs0 ((Int.toNat 0 * 3) + 1)) (ac cs0 ((Int.toNat 0 * 3) + 2))) fun r4 => (ah (decide (0 ≤ 2) && decide (2 < ((n1 : Nat) : Int))) (ah (aw kR cs0 (Int.toNat 2 * 3)) (ah (decide (0 ≤ 0) && decide (0 < ((n1 : Nat) : Int))) (ah (aw kR cs0 (Int.toNat 0 * 3)) (Option.bind (cz (ac cs0 ((Int.toNat 2 * 3) + 0)) (ac cs0 ((Int.toNat 2 * 3) + 1)) (ac cs0 ((Int.toNat 2 * 3) + 2)) (ac cs0 ((Int.toNat 0 * 3) + 0)) (ac cs0 ((Int.toNat 0 * 3) + 1)) (ac cs0 ((Int.toNat 0 * 3) + 2))) fun r5 => (ah (decide (0 ≤ 0) && decide (0 < ((n1 : Nat) : Int))) (ah (aw kR cs0 (Int.toNat 0 * 3)) (Option.bind (cz a2 a3 a4 (ac cs0 ((Int.toNat 0 * 3) + 0)) (ac cs0 ((Int.toNat 0 * 3) + 1)) (ac cs0 ((Int.toNat 0 * 3) + 2))) fun r6 => (Option.bind (lf r4.1 r4.2.1 r4.2.2 r5.1 r5.2.1 r5.2.2 r6.1 r6.2.1 r6.2.2) fun r7 => (Option.bind (rI r7.1 r7.2.1 r7.2.2.1 r7.2.2.2.1 r7.2.2.2.2.1 r7.2.2.2.2.2.1 r7.2.2.2.2.2.2.1 r7.2.2.2.2.2.2.2) fun r8 => (cond (r8 != 0) (some true) (some false))))))))))))))))) (some false)))))
def fO : FD where
 X := Bool
 k := 2
 pre := []
 F := fun s => [0, 1]
 M := .bool
 B := []
 toL := fun x => [.B x]
 ofL := fun ls => match ls with
  | [.B x0] => some x0
  | _ => none
 ar := fun ls x h => by
  split at h
  ·cases h; rfl
  ·cases h
theorem wN (cs0 : LA_) (n1 : Nat) (a2 a3 a4 : Int) (x : Bool) (h : co cs0 n1 a2 a3 a4 = some x) : aP YI 70 2 [.ptr 0 0, .agg [.int .i64 a2, .int .i64 a3, .int .i64 a4]] [.cells [.vec 1] false none, .vec cs0 n1 3 false] fO x :=
 FD.semA fO uI Tryz.func70 (fuel := 60) (by kernel_rfl) (by kernel_rfl)
  (by kernel_rfl) (Eq.trans (by kernel_rfl) h)
def kA : HK where
 call := fun args σ k => match args with
  | [.ptr b0 0, .agg [.int .i64 a2, .int .i64 a3, .int .i64 a4]] => match σ.get b0 with | some (.cells [x1] _ _) => (cO σ 3 x1 fun cs0 n1 => Option.bind (co cs0 n1 a2 a3 a4) fun y => au σ 2 (fO.val y) (fO.aI y) k) | _ => none
  | _ => none
 nat := fun args σ k => by
  repeat' split
  all_goals simp only [ao, ai, Yg, Yf, au, Ye]
 pure := false
 pok := fun h => by cases h
theorem yd : aN YI 70 kA := by
 intro args σ r σ' h
 simp only [kA] at h
 split at h
 ·rename_i b0 a2 a3 a4
  split at h
  ·rename_i x1 own0 gr0 hb0
   obtain ⟨cs0, n1, he1, hf1, h⟩ := bv h
   obtain ⟨y, hy, h⟩ := bE_ h
   exact aG (xs := [.ptr b0 0, x1]) (ls := [.cells [.vec 1] false none, .vec cs0 n1 3 false]) (cargs := [.ptr 0 0, .agg [.int .i64 a2, .int .i64 a3, .int .i64 a4]]) (bg.of ⟨⟨rfl, rfl, by simp, rfl, b0, 0, rfl, by simp [cF, hb0, mQ, sub]⟩, ⟨rfl, he1, hf1, by decide⟩, trivial⟩) rfl (wN cs0 n1 a2 a3 a4 y hy) rfl rfl rfl rfl h
  ·cases h
 ·cases h
abbrev dC := LA_ × Nat × LA_ × Nat × Int
def nh : CH := (CH.add 71 vE (CH.add 70 kA CH.none))
theorem qI : aB YI nh := (CH.aj Ij (CH.aj yd CH.ay))
def cS {R : Type} (cc : LA_ × Nat × Int) (v : dC) (kn : (dC) → Option R) (ke : ((LA_ × Nat)) → Option R) : Option R :=
 (cond (decide (v.2.2.2.2 < cc.2.2)) (ah (decide (0 ≤ v.2.2.2.2) && decide (v.2.2.2.2 < ((cc.2.1 : Nat) : Int))) (ah (aw kR cc.1 (Int.toNat v.2.2.2.2 * 3)) (Option.bind (co v.2.2.1 v.2.2.2.1 (ac cc.1 ((Int.toNat v.2.2.2.2 * 3) + 0)) (ac cc.1 ((Int.toNat v.2.2.2.2 * 3) + 1)) (ac cc.1 ((Int.toNat v.2.2.2.2 * 3) + 2))) fun r2 => (cond r2 (ah (decide (2 * (v.2.2.2.1 + 1) * 24 ≤ 2 ^ 48)) (ah (decide (2 * (v.2.1 + 1) * 8 ≤ 2 ^ 48)) (kn ((v.1 ++ [.int .i64 v.2.2.2.2]), (v.2.1 + 1), (v.2.2.1 ++ [.int .i64 (ac cc.1 ((Int.toNat v.2.2.2.2 * 3) + 0)), .int .i64 (ac cc.1 ((Int.toNat v.2.2.2.2 * 3) + 1)), .int .i64 (ac cc.1 ((Int.toNat v.2.2.2.2 * 3) + 2))]), (v.2.2.2.1 + 1), (IntKind.wrap .i64 (v.2.2.2.2 + 1)))))) (kn (v.1, v.2.1, v.2.2.1, v.2.2.2.1, (IntKind.wrap .i64 (v.2.2.2.2 + 1)))))))) (ke (v.1, v.2.1)))
def fP (cc : LA_ × Nat × Int) (v : dC) : Option ((dC) ⊕ ((LA_ × Nat))) := cS cc v (fun v => some (Sum.inl v)) fun e => some (Sum.inr e)
def uH (cc : LA_ × Nat × Int) (v : dC) : Option ((LA_ × Nat)) := dz (fP cc) v
def AU (cc : LA_ × Nat × Int) (v : dC) : List af := [.I cc.2.2, .I v.s4, .C v.1, .N v.2.1, .C v.2.2.1, .N v.2.2.2.1, .C cc.1, .N cc.2.1]
def qJ (ls : List af) : Option ((LA_ × Nat × Int) × (dC)) := match ls with
 | [.I x0, .I x1, .C x2, .N x3, .C x4, .N x5, .C x6, .N x7] => some ((x6, x7, x0), (x2, x3, x4, x5, x1))
 | _ => none
def qK (e : (LA_ × Nat)) : an := ((fun e => .exit 0) e)
def qL (cc : LA_ × Nat × Int) (e : (LA_ × Nat)) : List af := ((fun e => [.C e.1, .N e.2]) e)
def pv (cc : LA_ × Nat × Int) (e : (LA_ × Nat)) : List af := ((fun e => []) e)
def kB (o : an) (ls : List af) : Option (((LA_ × Nat)) × List af) := match o with
 | .exit 0 => (match ls with
  | [.C x0, .N x1] => some ((x0, x1), [])
  | _ => none)
 | _ => none
theorem ye : ∀ o ls e cl cc, kB o ls = some (e, cl) → cl = pv cc e → ls = qL cc e ∧ qK e = o ∧ o ≠ .normal ∧ ∀ v, o = .pan v → sc 0 v = true := by
 intro o ls e cl cc h hc
 unfold kB at h
 split at h
 ·split at h
  ·cases h
   exact ⟨rfl, rfl, by simp, by intro v hv; cases hv <;> rfl⟩
  ·cases h
 ·cases h
def BX (o : an) : ExS := match o with
 | .exit 0 => ⟨2, (none :: none :: some (.vec 1) :: (rl none 35 [])), [(1, .vec 1 true)], fun s => [0, ak s 2 []], [], []⟩
 | _ => ⟨0, [], [], fun _ => [], [], []⟩
theorem AV {R : Type} (cc : LA_ × Nat × Int) (v : dC) (kn : (dC) → Option R) (ke : ((LA_ × Nat)) → Option R) : cS cc v kn ke = (cS cc v (fun v => some (Sum.inl v)) fun e => some (Sum.inr e)).bind (Sum.elim kn ke) := by
 simp only [cS, bH, ai, Yg, bZ, bB, Ye, Yf, YF, YE]
def tt : LD where
 CC := LA_ × Nat × Int
 V := dC
 E := (LA_ × Nat)
 n := 1
 K := 4
 M := (none :: none :: some (.vec 1) :: none :: some (.ptr 2 0) :: some (.func 70 [.ptr 2 0] []) :: (rl none 9 (some (.vec 0) :: some (.int .i64) :: some (.int .i64) :: (rl none 20 []))))
 B := [(1, .vec 1 true), (2, .cells [.vec 3] true none), (3, .vec 3 true), (0, .vec 3 false)]
 D := []
 pre := [(2, 1), (1000004, 3)]
 F := fun s => [0, ak s 2 [], ak s 4 [], ak s 4 [.d 0]]
 toL := AU
 ofL := qJ
 ar := fun ls c v h => by
  unfold qJ at h
  split at h
  ·cases h; rfl
  ·cases h
 ct := cS
 nat := AV
 sh := BX
 out := qK
 toE := qL
 eY := pv
 ofE := kB
 cQ := ye
 post := fun cc e k => ((fun e => k (.exit 0) (bc 2 (none :: none :: some (.vec 1) :: (rl none 35 [])) [(1, .vec e.1 e.2 1 true)] [])) e)
 cd := fun cc e k => by rfl
theorem AW : cJ YI 1 tt.la (aJ Tryz.f52 0) :=
 LD.ok (ch := nh) (A := bw) aK qI mixed (fuel := 60) ⟨by kernel_rfl, fun e => by kernel_rfl, fun cc v => by kernel_rfl, aH (l := []) (by kernel_rfl) trivial⟩
def jv (cs0 : LA_) (n1 : Nat) : Option (Int × LA_ × Nat) :=
 (Option.bind (lY cs0 n1) fun r1 => (cond r1 (cond (decide (((n1 : Nat) : Int) > 256)) (some (3, ([] : LA_), 0)) (Option.bind (uH (cs0, n1, ((n1 : Nat) : Int)) (([] : LA_), 0, ([] : LA_), 0, 0)) fun e2 => (some (0, e2.1, e2.2)))) (some (7, ([] : LA_), 0))))
def kg : FD where
 X := Int × LA_ × Nat
 k := 1
 pre := [(2, 1)]
 F := fun s => [0, ak s 0 [.c 0]]
 M := .tup [.vec 1, .int .i64]
 B := [.vec 1 true]
 toL := fun x => [.I x.1, .C x.2.1, .N x.2.2]
 ofL := fun ls => match ls with
  | [.I x0, .C x1, .N x2] => some (x0, x1, x2)
  | _ => none
 ar := fun ls x h => by
  split at h
  ·cases h; rfl
  ·cases h
theorem DR (cs0 : LA_) (n1 : Nat) (x : Int × LA_ × Nat) (h : jv cs0 n1 = some x) : aP YI 52 1 [.vec 0] [.vec cs0 n1 3 false] kg x :=
 FD.V4 (il := fun _ => false) (ch := nh) (A := dL [(8, tt.la)]) (fn := Tryz.f52) (c := br Tryz.f52) (fuel := 60) aK qI mixed bI kg Tryz.func52 (by kernel_rfl) (aH (l := [aJ Tryz.f52 0]) (by kernel_rfl) ⟨bT (by kernel_rfl) AW, trivial⟩)
  (by kernel_rfl) (Eq.trans (by kernel_rfl) h)
def rH : HK where
 call := fun args σ k => match args with
  | [x0] => cO σ 3 x0 fun cs0 n1 => Option.bind (jv cs0 n1) fun y => au σ 1 (kg.val y) (kg.aI y) k
  | _ => none
 nat := fun args σ k => by
  repeat' split
  all_goals simp only [ao, ai, Yg, Yf, au, Ye]
 pure := false
 pok := fun h => by cases h
theorem EP : aN YI 52 rH := by
 intro args σ r σ' h
 simp only [rH] at h
 split at h
 ·rename_i x0
  obtain ⟨cs0, n1, he0, hf0, h⟩ := bv h
  obtain ⟨y, hy, h⟩ := bE_ h
  exact aG (xs := [x0]) (ls := [.vec cs0 n1 3 false]) (cargs := [.vec 0]) (bg.of ⟨⟨rfl, he0, hf0, by decide⟩, trivial⟩) rfl (DR cs0 n1 y hy) rfl rfl rfl rfl h
 ·cases h
def Im : CH := (CH.add 52 rH CH.none)
theorem DQ : aB YI Im := (CH.aj EP CH.ay)
def aC (cs0 : LA_) (n1 : Nat) : Option (Int × Int) :=
 (Option.bind (jv cs0 n1) fun r1 => (cond (r1.1 != 0) (some (0, r1.1)) (some ((IntKind.wrap .i64 (((r1.2.2 : Nat) : Int) - 1)), 0))))
def mL : FD where
 X := Int × Int
 k := 1
 pre := []
 F := fun s => [0]
 M := .tup [.int .i64, .int .i64]
 B := []
 toL := fun x => [.I x.1, .I x.2]
 ofL := fun ls => match ls with
  | [.I x0, .I x1] => some (x0, x1)
  | _ => none
 ar := fun ls x h => by
  split at h
  ·cases h; rfl
  ·cases h
theorem GT (cs0 : LA_) (n1 : Nat) (x : Int × Int) (h : aC cs0 n1 = some x) : aP YI 35 1 [.vec 0] [.vec cs0 n1 3 false] mL x :=
 FD.semA mL DQ Tryz.func35 (fuel := 60) (by kernel_rfl) (by kernel_rfl)
  (by kernel_rfl) (Eq.trans (by kernel_rfl) h)
def jb : HK where
 call := fun args σ k => match args with
  | [x0] => cO σ 3 x0 fun cs0 n1 => Option.bind (aC cs0 n1) fun y => au σ 1 (mL.val y) (mL.aI y) k
  | _ => none
 nat := fun args σ k => by
  repeat' split
  all_goals simp only [ao, ai, Yg, Yf, au, Ye]
 pure := false
 pok := fun h => by cases h
theorem ll : aN YI 35 jb := by
 intro args σ r σ' h
 simp only [jb] at h
 split at h
 ·rename_i x0
  obtain ⟨cs0, n1, he0, hf0, h⟩ := bv h
  obtain ⟨y, hy, h⟩ := bE_ h
  exact aG (xs := [x0]) (ls := [.vec cs0 n1 3 false]) (cargs := [.vec 0]) (bg.of ⟨⟨rfl, he0, hf0, by decide⟩, trivial⟩) rfl (GT cs0 n1 y hy) rfl rfl rfl rfl h
 ·cases h
abbrev Pt := Int × Int × Int
def pcs : List Pt → LA_
 | [] => []
 | p :: l => .int .i64 p.1 :: .int .i64 p.2.1 :: .int .i64 p.2.2 :: pcs l
def pat (l : List Pt) (i : Nat) : Pt := l.getD i (0, 0, 0)
theorem Bv : ∀ (a b : List Pt), pcs (a ++ b) = pcs a ++ pcs b
 | [], b => rfl
 | p :: a, b => by simp [pcs, Bv a b]
theorem Bx : ∀ (l : List Pt) (i : Nat), i < l.length → (pcs l)[i * 3]? = some (.int .i64 (pat l i).1) ∧ (pcs l)[i * 3 + 1]? = some (.int .i64 (pat l i).2.1) ∧ (pcs l)[i * 3 + 2]? = some (.int .i64 (pat l i).2.2)
 | [], i, h => by simp at h
 | p :: l, 0, h => ⟨rfl, rfl, rfl⟩
 | p :: l, i + 1, h => by
  have ih := Bx l i (by simpa using h)
  rw [show (i + 1) * 3 = i * 3 + 3 by omega, show i * 3 + 3 + 1 = i * 3 + 1 + 3 by omega, show i * 3 + 3 + 2 = i * 3 + 2 + 3 by omega]
  exact ih
theorem pg0 {l : List Pt} {i : Nat} (h : i < l.length) : ac (pcs l) (i * 3 + 0) = (pat l i).1 := by
 unfold ac; rw [Nat.add_zero, (Bx l i h).1]
theorem pg1 {l : List Pt} {i : Nat} (h : i < l.length) : ac (pcs l) (i * 3 + 1) = (pat l i).2.1 := by
 unfold ac; rw [(Bx l i h).2.1]
theorem pg2 {l : List Pt} {i : Nat} (h : i < l.length) : ac (pcs l) (i * 3 + 2) = (pat l i).2.2 := by
 unfold ac; rw [(Bx l i h).2.2]
theorem pro {l : List Pt} {i : Nat} (h : i < l.length) : aw kR (pcs l) (i * 3) = true := by
 have h1 := Bx l i h
 simp [aw, h1.1, h1.2.1, h1.2.2, isK]
theorem decLt {i n : Nat} (h : i < n) : decide ((i : Int) < ((n : Nat) : Int)) = true := Yn (by omega)
def bP (p : Pt) : Bool := bnd p.1 && bnd p.2.1 && bnd p.2.2
theorem gE {p : Pt} : bP p = true ↔ bnd p.1 = true ∧ bnd p.2.1 = true ∧ bnd p.2.2 = true := by simp [bP, and_assoc]
def aQ (l : List Pt) : Bool := l.all bP
theorem dO {l : List Pt} (h : aQ l = true) {i : Nat} (hi : i < l.length) : bP (pat l i) = true := by
 unfold pat
 rw [Yq, Yp hi]
 exact List.all_eq_true.1 h _ (List.getElem_mem hi)
theorem fB (n : Nat) : ((n : Nat) : Int).toNat = n := Int.toNat_natCast n
theorem Xb {l : List Pt} (hl : l.length < 1000000000) : lY (pcs l) l.length = some (aQ l) := by
 have key : ∃ e, yc (pcs l, l.length, ((l.length : Nat) : Int)) 0 = some e ∧ (match e with | .inl () => aQ l = false | .inr () => aQ l = true) := by
  refine gF (step := kf (pcs l, l.length, ((l.length : Nat) : Int))) (fun v => ∃ i : Nat, v = (i : Int) ∧ i ≤ l.length ∧ aQ (l.take i) = true) (fun v => ((l.length : Int) - v).toNat) _ ?_
   (Nat.lt_of_le_of_lt (show ((l.length : Int) - 0).toNat ≤ 1000000000 by omega) (by decide)) ⟨0, rfl, by omega, rfl⟩
  rintro v ⟨i, rfl, hi, hok⟩
  by_cases h : i < l.length
  ·have w : IntKind.wrap .i64 ((i : Int) + 1) = ((i + 1 : Nat) : Int) := by rw [bM (by omega)]; omega
   have hsp : aQ l = true ↔ aQ (l.take (i + 1)) = true ∧ aQ (l.drop (i + 1)) = true := by
    rw [← Yi]
    unfold aQ
    rw [← List.all_append, List.take_append_drop]
   have htk : aQ (l.take (i + 1)) = bP (pat l i) := by
    have : l.take (i + 1) = l.take i ++ [pat l i] := by
     rw [List.take_add_one, Yp h]; simp [pat, Yq, Yp h]
    unfold aQ at *
    rw [this, List.all_append, hok]; simp
   simp only [kf, dZ, decLt h, eQ, cond_true, Yl, az, fB, pro h, pg0 h, pg1 h, pg2 h, xk, Ye, w]
   cases hb : bP (pat l i) with
   | true =>
    have hb' : (bnd (pat l i).1 && bnd (pat l i).2.1 && bnd (pat l i).2.2) = true := hb
    rw [hb']
    exact .inl ⟨_, rfl, ⟨i + 1, rfl, by omega, by rw [htk, hb]⟩, by omega⟩
   | false =>
    have hb' : (bnd (pat l i).1 && bnd (pat l i).2.1 && bnd (pat l i).2.2) = false := hb
    rw [hb']
    refine .inr ⟨.inl (), rfl, ?_⟩
    cases hc : aQ l with
    | false => rfl
    | true => rw [(htk ▸ (hsp.1 hc).1 : bP (pat l i) = true)] at hb; cases hb
  ·have hi' : i = l.length := by omega
   subst hi'
   rw [List.take_length] at hok
   refine .inr ⟨.inr (), ?_, hok⟩
   simp only [kf, dZ, Ym (show ¬ ((l.length : Int) < ((l.length : Nat) : Int)) by omega), cond_false]
 obtain ⟨e, h1, h2⟩ := key
 unfold lY
 rw [h1, Ye]
 match e, h2 with
 | .inl (), h2 => rw [h2]; rfl
 | .inr (), h2 => rw [h2]; rfl
def ax (a b : Pt) : Pt := (a.1 - b.1, a.2.1 - b.2.1, a.2.2 - b.2.2)
def crs (a b : Pt) : Pt := (a.2.1 * b.2.2 - a.2.2 * b.2.1, a.2.2 * b.1 - a.1 * b.2.2, a.1 * b.2.1 - a.2.1 * b.1)
def ae (a b : Pt) : Int := a.1 * b.1 + a.2.1 * b.2.1 + a.2.2 * b.2.2
def dP (p : Pt) : Prop := sm 29 p.1 ∧ sm 29 p.2.1 ∧ sm 29 p.2.2
theorem LG {x : Int} (h : bnd x = true) : sm 28 x := by have := ep.1 h; unfold sm; omega
theorem pH {a b : Pt} (ha : bP a = true) (hb : bP b = true) : dP (ax a b) := by
 obtain ⟨h1, h2, h3⟩ := gE.1 ha
 obtain ⟨k1, k2, k3⟩ := gE.1 hb
 exact ⟨h9 (LG h1) (LG k1), h9 (LG h2) (LG k2), h9 (LG h3) (LG k3)⟩
theorem r63 {x : Int} (h : sm 29 x) : bf x = true := by rw [FS]; unfold sm at h; omega
theorem w29 {a b : Int} (ha : bnd a = true) (hb : bnd b = true) : IntKind.wrap .i64 (a - b) = a - b := by
 have := ep.1 ha
 have := ep.1 hb
 exact bM (by omega)
theorem By {a b : Pt} (ha : bP a = true) (hb : bP b = true) : cz a.1 a.2.1 a.2.2 b.1 b.2.1 b.2.2 = some (ax a b) := by
 obtain ⟨h1, h2, h3⟩ := gE.1 ha
 obtain ⟨k1, k2, k3⟩ := gE.1 hb
 unfold cz
 rw [w29 h1 k1, w29 h2 k2, w29 h3 k3]; rfl
def du (a b c : Pt) : Int := ae (crs b c) a
theorem TR {a b : Pt} (ha : dP a) (hb : dP b) : gn a.1 a.2.1 a.2.2 b.1 b.2.1 b.2.2 = some (t24 (crs a b).1 (crs a b).2.1 (crs a b).2.2) :=
 P9 (r63 ha.1) (r63 ha.2.1) (r63 ha.2.2) (r63 hb.1) (r63 hb.2.1) (r63 hb.2.2)
theorem Xc {a b c : Pt} (ha : dP a) (hb : dP b) (hc : dP c) : lf a.1 a.2.1 a.2.2 b.1 b.2.1 b.2.2 c.1 c.2.1 c.2.2 = some (t8 (du a b c)) :=
 XK (r63 ha.1) (r63 ha.2.1) (r63 ha.2.2) (r63 hb.1) (r63 hb.2.1) (r63 hb.2.2) (r63 hc.1) (r63 hc.2.1) (r63 hc.2.2)
theorem Ss {a b : Pt} (ha : dP a) (hb : dP b) : sm 59 (crs a b).1 ∧ sm 59 (crs a b).2.1 ∧ sm 59 (crs a b).2.2 :=
 ⟨h9 (db ha.2.1 hb.2.2) (db ha.2.2 hb.2.1), h9 (db ha.2.2 hb.1) (db ha.1 hb.2.2), h9 (db ha.1 hb.2.1) (db ha.2.1 hb.1)⟩
theorem VN {a b c : Pt} (ha : dP a) (hb : dP b) (hc : dP c) : sm 90 (du a b c) := by
 have h := Ss hb hc
 exact mb (mb (db h.1 ha.1) (db h.2.1 ha.2.1)) (bd (db h.2.2 ha.2.2) (by decide))
def dX (t : List Pt) (p : Pt) : Bool :=
 match t with
 | [] => true
 | [a] => !decide (p = a)
 | [a, b] => !decide (crs (ax b a) (ax p a) = (0, 0, 0))
 | [a, b, c] => !decide (du (ax b a) (ax c a) (ax p a) = 0)
 | _ => false
theorem Xd {x y z : Int} (hx : fit x) (hy : fit y) (hz : fit z) : (aa x 0 == 0 && (aa x 1 == 0 && (aa x 2 == 0 && (aa x 3 == 0 && (aa x 4 == 0 && (aa x 5 == 0 && (aa x 6 == 0 && (aa x 7 == 0 && (aa y 0 == 0 && (aa y 1 == 0 && (aa y 2 == 0 && (aa y 3 == 0 && (aa y 4 == 0 && (aa y 5 == 0 && (aa y 6 == 0 && (aa y 7 == 0 && (aa z 0 == 0 && (aa z 1 == 0 && (aa z 2 == 0 && (aa z 3 == 0 && (aa z 4 == 0 && (aa z 5 == 0 && (aa z 6 == 0 && (aa z 7 == 0 && true)))))))))))))))))))))))) = decide (x = 0 ∧ y = 0 ∧ z = 0) := by
 have h1 := Q5 hx
 have h2 := Q5 hy
 have h3 := Q5 hz
 simp only [Bool.and_true] at h1 h2 h3 ⊢
 rw [h3]
 simp only [← Bool.and_assoc] at h1 h2 ⊢
 rw [h1]
 by_cases a : x = 0 <;> by_cases b : y = 0 <;> by_cases c : z = 0 <;> simp_all
theorem X6 (z : Int) : (sgn z != 0) = !decide (z = 0) := by
 unfold sgn
 by_cases h1 : z < 0 <;> by_cases h2 : z = 0 <;> simp [h1, h2]
theorem TS {t : List Pt} {p : Pt} (ht : aQ t = true) (hp : bP p = true) (hl : t.length ≤ 4) : co (pcs t) t.length p.1 p.2.1 p.2.2 = some (dX t p) := by
 have hD : ∀ a b : Int, decide (0 ≤ (0 : Int)) = true := fun _ _ => rfl
 match t, hl with
 | [], _ => rfl
 | [a], _ =>
  unfold co dX
  simp only [pcs, YC, List.length_nil, Nat.zero_add]
  obtain ⟨x, y, z⟩ := a
  obtain ⟨u, v, w⟩ := p
  show (cond (!(u == x && (v == y && (w == z && true)))) (some true) (some false)) = _
  have e : (u == x && (v == y && (w == z && true))) = decide ((u, v, w) = (x, y, z)) := by
   rw [Bool.eq_iff_iff]; simp
  rw [e]
  cases decide ((u, v, w) = (x, y, z)) <;> rfl
 | [a, b], _ =>
  have ha := dO ht (i := 0) (by simp)
  have hb := dO ht (i := 1) (by simp)
  have ha' : bP a = true := ha
  have hb' : bP b = true := hb
  have hc := Ss (pH hb' ha') (pH hp ha')
  have e : co (pcs [a, b]) 2 p.1 p.2.1 p.2.2 = Option.bind (cz b.1 b.2.1 b.2.2 a.1 a.2.1 a.2.2) fun r1 => Option.bind (cz p.1 p.2.1 p.2.2 a.1 a.2.1 a.2.2) fun r2 => Option.bind (gn r1.1 r1.2.1 r1.2.2 r2.1 r2.2.1 r2.2.2) fun r3 =>
    cond (!(r3.1 == 0 && (r3.2.1 == 0 && (r3.2.2.1 == 0 && (r3.2.2.2.1 == 0 && (r3.2.2.2.2.1 == 0 && (r3.2.2.2.2.2.1 == 0 && (r3.2.2.2.2.2.2.1 == 0 && (r3.2.2.2.2.2.2.2.1 == 0 && (r3.2.2.2.2.2.2.2.2.1 == 0 && (r3.2.2.2.2.2.2.2.2.2.1 == 0 && (r3.2.2.2.2.2.2.2.2.2.2.1 == 0 && (r3.2.2.2.2.2.2.2.2.2.2.2.1 == 0 && (r3.2.2.2.2.2.2.2.2.2.2.2.2.1 == 0 && (r3.2.2.2.2.2.2.2.2.2.2.2.2.2.1 == 0 && (r3.2.2.2.2.2.2.2.2.2.2.2.2.2.2.1 == 0 && (r3.2.2.2.2.2.2.2.2.2.2.2.2.2.2.2.1 == 0 && (r3.2.2.2.2.2.2.2.2.2.2.2.2.2.2.2.2.1 == 0 && (r3.2.2.2.2.2.2.2.2.2.2.2.2.2.2.2.2.2.1 == 0 && (r3.2.2.2.2.2.2.2.2.2.2.2.2.2.2.2.2.2.2.1 == 0 && (r3.2.2.2.2.2.2.2.2.2.2.2.2.2.2.2.2.2.2.2.1 == 0 && (r3.2.2.2.2.2.2.2.2.2.2.2.2.2.2.2.2.2.2.2.2.1 == 0 && (r3.2.2.2.2.2.2.2.2.2.2.2.2.2.2.2.2.2.2.2.2.2.1 == 0 && (r3.2.2.2.2.2.2.2.2.2.2.2.2.2.2.2.2.2.2.2.2.2.2.1 == 0 && (r3.2.2.2.2.2.2.2.2.2.2.2.2.2.2.2.2.2.2.2.2.2.2.2 == 0 && true))))))))))))))))))))))))) (some true) (some false) := rfl
  show co (pcs [a, b]) 2 p.1 p.2.1 p.2.2 = _
  rw [e, By hb' ha', Ye, By hp ha', Ye, TR (pH hb' ha') (pH hp ha'), Ye]
  simp only [t24, Xd (aT hc.1 (by decide)) (aT hc.2.1 (by decide)) (aT hc.2.2 (by decide)), dX]
  generalize crs (ax b a) (ax p a) = q
  obtain ⟨x, y, z⟩ := q
  have e : decide (x = 0 ∧ y = 0 ∧ z = 0) = decide ((x, y, z) = ((0, 0, 0) : Pt)) := by
   rw [Bool.eq_iff_iff]; simp
  rw [e]
  cases decide ((x, y, z) = ((0, 0, 0) : Pt)) <;> rfl
 | [a, b, c], _ =>
  have ha' : bP a = true := dO ht (i := 0) (by simp)
  have hb' : bP b = true := dO ht (i := 1) (by simp)
  have hc' : bP c = true := dO ht (i := 2) (by simp)
  have hd := VN (pH hb' ha') (pH hc' ha') (pH hp ha')
  have e : co (pcs [a, b, c]) 3 p.1 p.2.1 p.2.2 = Option.bind (cz b.1 b.2.1 b.2.2 a.1 a.2.1 a.2.2) fun r1 => Option.bind (cz c.1 c.2.1 c.2.2 a.1 a.2.1 a.2.2) fun r2 => Option.bind (cz p.1 p.2.1 p.2.2 a.1 a.2.1 a.2.2) fun r3 =>
    Option.bind (lf r1.1 r1.2.1 r1.2.2 r2.1 r2.2.1 r2.2.2 r3.1 r3.2.1 r3.2.2) fun r4 => Option.bind (rI r4.1 r4.2.1 r4.2.2.1 r4.2.2.2.1 r4.2.2.2.2.1 r4.2.2.2.2.2.1 r4.2.2.2.2.2.2.1 r4.2.2.2.2.2.2.2) fun r5 => cond (r5 != 0) (some true) (some false) := rfl
  show co (pcs [a, b, c]) 3 p.1 p.2.1 p.2.2 = _
  rw [e, By hb' ha', Ye, By hc' ha', Ye, By hp ha', Ye, Xc (pH hb' ha') (pH hc' ha') (pH hp ha'), Ye]
  simp only [t8, PV (aT hd (by decide)), Ye, X6, dX]
  cases decide (du (ax b a) (ax c a) (ax p a) = 0) <;> rfl
 | [a, b, c, d], _ => rfl
 | a :: b :: c :: d :: e :: r, h => simp at h
def ics (l : List Int) : LA_ := l.map (.int .i64)
theorem VO (a b : List Int) : ics (a ++ b) = ics a ++ ics b := by simp [ics]
def mz : List Pt → Int → List Int → List Pt → List Int × List Pt
 | [], _, o, t => (o, t)
 | p :: r, i, o, t => cond (dX t p) (mz r (i + 1) (o ++ [i]) (t ++ [p])) (mz r (i + 1) o t)
def mA (l : List Pt) : List Int := (mz l 0 [] []).1
theorem Qa {t : List Pt} {p : Pt} (h : dX t p = true) : t.length ≤ 3 := by
 unfold dX at h
 split at h <;> simp_all
theorem Jd : ∀ (r : List Pt) (i : Int) (o : List Int) (t : List Pt), o.length = t.length → t.length ≤ 4 → (mz r i o t).1.length = (mz r i o t).2.length ∧ (mz r i o t).2.length ≤ 4
 | [], i, o, t, h, h4 => ⟨h, h4⟩
 | p :: r, i, o, t, h, h4 => by
  unfold mz
  cases hb : dX t p with
  | true =>
   have := Qa hb
   exact Jd r _ _ _ (by simp [h]) (by simp; omega)
  | false => exact Jd r _ _ _ h h4
theorem Au {l : List Pt} (hok : aQ l = true) (hl : l.length ≤ 256) : ∀ (n i : Nat) (o : List Int) (t : List Pt), l.length - i = n → i ≤ l.length → o.length = t.length → t.length ≤ 4 → aQ t = true →
  iter (fP (pcs l, l.length, ((l.length : Nat) : Int))) (n + 1) (ics o, o.length, pcs t, t.length, (i : Int)) = some (ics (mz (l.drop i) i o t).1, (mz (l.drop i) i o t).1.length)
 | 0, i, o, t, hn, hi, ho, ht, hk => by
  have he : i = l.length := by omega
  subst he
  refine cw 0 ?_
  rw [List.drop_length]
  simp only [fP, cS, Ym (show ¬ ((l.length : Int) < ((l.length : Nat) : Int)) by omega), cond_false]
  rfl
 | n + 1, i, o, t, hn, hi, ho, ht, hk => by
  have h : i < l.length := by omega
  have hd : l.drop i = pat l i :: l.drop (i + 1) := by
   rw [List.drop_eq_getElem_cons h]; simp [pat, Yq, Yp h]
  have w : IntKind.wrap .i64 ((i : Int) + 1) = ((i + 1 : Nat) : Int) := by rw [bM (by omega)]; omega
  have hp := dO hok h
  have hr := TS hk hp ht
  have d1 : ∀ k : Nat, k ≤ 5 → decide (2 * k * 24 ≤ 2 ^ 48) = true := fun k hk => Yn (by omega)
  have d2 : ∀ k : Nat, k ≤ 5 → decide (2 * k * 8 ≤ 2 ^ 48) = true := fun k hk => Yn (by omega)
  cases hb : dX t (pat l i) with
  | true =>
   have h3 := Qa hb
   rw [hb] at hr
   refine bG (v' := (ics (o ++ [(i : Int)]), (o ++ [(i : Int)]).length, pcs (t ++ [pat l i]), (t ++ [pat l i]).length, ((i + 1 : Nat) : Int))) ?_ ?_
   ·simp only [fP, cS, decLt h, eQ, cond_true, Yl, az, fB, pro h, pg0 h, pg1 h, pg2 h, hr, Ye, w, d1 _ (show t.length + 1 ≤ 5 by omega), d2 _ (show o.length + 1 ≤ 5 by omega), VO, Bv, Yw, YC, List.length_nil, Nat.zero_add]
    rfl
   ·have ih := Au hok hl n (i + 1) (o ++ [(i : Int)]) (t ++ [pat l i]) (by omega) (by omega) (by simp [ho]) (by simp; omega) (by unfold aQ at *; rw [List.all_append, hk]; simp [hp])
    rw [ih, hd]
    simp only [mz, hb, cond_true]
    rfl
  | false =>
   rw [hb] at hr
   refine bG (v' := (ics o, o.length, pcs t, t.length, ((i + 1 : Nat) : Int))) ?_ ?_
   ·simp only [fP, cS, decLt h, eQ, cond_true, cond_false, Yl, az, fB, pro h, pg0 h, pg1 h, pg2 h, hr, Ye, w]
   ·have ih := Au hok hl n (i + 1) o t (by omega) (by omega) ho ht hk
    rw [ih, hd]
    simp only [mz, hb, cond_false]
    rfl
theorem TT {l : List Pt} (hl : l.length < 1000000000) : jv (pcs l) l.length = some (cond (aQ l) (cond (decide (l.length > 256)) (3, [], 0) (0, ics (mA l), (mA l).length)) (7, [], 0)) := by
 unfold jv
 rw [Xb hl, Ye]
 cases hok : aQ l with
 | false => rfl
 | true =>
  simp only [cond_true]
  by_cases h : l.length > 256
  ·rw [Yn (show ((l.length : Nat) : Int) > 256 by omega), Yn h]; rfl
  ·rw [Ym (show ¬ ((l.length : Nat) : Int) > 256 by omega), Ym h]
   have := Au hok (by omega) l.length 0 [] [] (by omega) (by omega) rfl (by simp) rfl
   have hf : uH (pcs l, l.length, ((l.length : Nat) : Int)) ([], 0, [], 0, 0) = some (ics (mA l), (mA l).length) := dt (n := l.length + 1) (by unfold kM; omega) this
   simp only [cond_false, hf, Ye]
theorem FT {l : List Pt} (hl : l.length < 1000000000) : aC (pcs l) l.length = some (cond (aQ l) (cond (decide (l.length > 256)) (0, 3) (((mA l).length : Int) - 1, 0)) (0, 7)) := by
 have h4 : (mA l).length ≤ 4 := by
  have := Jd l 0 [] [] rfl (by simp)
  unfold mA; omega
 unfold aC
 rw [TT hl, Ye]
 cases aQ l with
 | false => rfl
 | true =>
  cases decide (l.length > 256) with
  | true => rfl
  | false =>
   simp only [cond_true, cond_false]
   have w : IntKind.wrap .i64 ((((mA l).length : Nat) : Int) - 1) = ((mA l).length : Int) - 1 := bM (by omega)
   have : (0 != (0 : Int)) = false := rfl
   simp only [w, this, cond_false]
end Go.Ev
namespace Go.Ev
def bu : List Int → List Pt → Pt
 | w :: ws, p :: ps => (w * p.1 + (bu ws ps).1, w * p.2.1 + (bu ws ps).2.1, w * p.2.2 + (bu ws ps).2.2)
 | _, _ => (0, 0, 0)
def cC : List Int → Int
 | [] => 0
 | w :: ws => w + cC ws
def wt1 (e p : Pt) : Int × Int := (-ae e p, ae e e)
def wt2 (e f p : Pt) : (Int × Int) × Int :=
 let a := ae e e; let b := ae e f; let c := ae f e; let d := ae f f
 let h := -ae e p; let k := -ae f p
 ((h * d - b * k, a * k - h * c), a * d - b * c)
def m3 (a b c d e f g h i : Int) : Int := a * (e * i - f * h) - b * (d * i - f * g) + c * (d * h - e * g)
def wt3 (e f g p : Pt) : (Int × Int × Int) × Int :=
 let a := ae e e; let b := ae e f; let c := ae e g
 let d := ae f e; let k := ae f f; let l := ae f g
 let m := ae g e; let n := ae g f; let o := ae g g
 let x := -ae e p; let y := -ae f p; let z := -ae g p
 ((m3 x b c y k l z n o, m3 a x c d y l m z o, m3 a b x d k y m n z), m3 a b c d k l m n o)
def wts : List Pt → List Int × Int
 | [_] => ([1], 1)
 | [p, q] => let r := wt1 (ax q p) p; ([r.2 - r.1, r.1], r.2)
 | [p, q, s] => let r := wt2 (ax q p) (ax s p) p; ([r.2 - r.1.1 - r.1.2, r.1.1, r.1.2], r.2)
 | [p, q, s, t] => let r := wt3 (ax q p) (ax s p) (ax t p) p; ([r.2 - r.1.1 - r.1.2.1 - r.1.2.2, r.1.1, r.1.2.1, r.1.2.2], r.2)
 | _ => ([], 0)
def bA (l : List Pt) : Pt := bu (wts l).1 l
theorem kY (a b n : Pt) : ae (ax a b) n = ae a n - ae b n := by simp only [ae, ax]; grind
theorem zO (a b : Pt) : ae a b = ae b a := by simp only [ae]; grind
theorem W5 (p q : Pt) : ae q (bA [p, q]) = ae p (bA [p, q]) := by
 obtain ⟨a, b, c⟩ := p
 obtain ⟨x, y, z⟩ := q
 simp only [bA, wts, wt1, bu, ae, ax]
 grind
theorem X4 (e f p : Pt) (w1 w2 d : Int) (v : Pt) : ae v (d * p.1 + w1 * e.1 + w2 * f.1, d * p.2.1 + w1 * e.2.1 + w2 * f.2.1, d * p.2.2 + w1 * e.2.2 + w2 * f.2.2) = d * ae v p + w1 * ae v e + w2 * ae v f := by
 simp only [ae]; grind
theorem n2 (p q s : Pt) : bA [p, q, s] = (let r := wt2 (ax q p) (ax s p) p; (r.2 * p.1 + r.1.1 * (ax q p).1 + r.1.2 * (ax s p).1, r.2 * p.2.1 + r.1.1 * (ax q p).2.1 + r.1.2 * (ax s p).2.1, r.2 * p.2.2 + r.1.1 * (ax q p).2.2 + r.1.2 * (ax s p).2.2)) := by
 simp only [bA, wts, bu]
 generalize wt2 _ _ _ = r
 simp only [ax, Yj]
 grind
theorem W6 (p q s : Pt) : ae (ax q p) (bA [p, q, s]) = 0 ∧ ae (ax s p) (bA [p, q, s]) = 0 := by
 rw [n2]
 simp only [X4]
 generalize ax q p = e
 generalize ax s p = f
 simp only [wt2]
 rw [zO f e]
 generalize ae e e = a
 generalize ae e f = b
 generalize ae f f = d
 generalize ae e p = h
 generalize ae f p = k
 grind
theorem X5 (e f g p : Pt) (w1 w2 w3 d : Int) (v : Pt) : ae v (d * p.1 + w1 * e.1 + w2 * f.1 + w3 * g.1, d * p.2.1 + w1 * e.2.1 + w2 * f.2.1 + w3 * g.2.1, d * p.2.2 + w1 * e.2.2 + w2 * f.2.2 + w3 * g.2.2) = d * ae v p + w1 * ae v e + w2 * ae v f + w3 * ae v g := by
 simp only [ae]; grind
theorem n3 (p q s t : Pt) : bA [p, q, s, t] = (let r := wt3 (ax q p) (ax s p) (ax t p) p; (r.2 * p.1 + r.1.1 * (ax q p).1 + r.1.2.1 * (ax s p).1 + r.1.2.2 * (ax t p).1, r.2 * p.2.1 + r.1.1 * (ax q p).2.1 + r.1.2.1 * (ax s p).2.1 + r.1.2.2 * (ax t p).2.1, r.2 * p.2.2 + r.1.1 * (ax q p).2.2 + r.1.2.1 * (ax s p).2.2 + r.1.2.2 * (ax t p).2.2)) := by
 simp only [bA, wts, bu]
 generalize wt3 _ _ _ _ = r
 simp only [ax, Yj]
 grind
theorem W7 (p q s t : Pt) : ae (ax q p) (bA [p, q, s, t]) = 0 ∧ ae (ax s p) (bA [p, q, s, t]) = 0 ∧ ae (ax t p) (bA [p, q, s, t]) = 0 := by
 rw [n3]
 simp only [X5]
 generalize ax q p = e
 generalize ax s p = f
 generalize ax t p = g
 simp only [wt3, m3]
 rw [zO f e, zO g e, zO g f]
 generalize ae e e = a
 generalize ae e f = b
 generalize ae e g = c
 generalize ae f f = d
 generalize ae f g = i
 generalize ae g g = j
 generalize ae e p = h
 generalize ae f p = k
 generalize ae g p = l
 grind
theorem I0 : ∀ l : List Pt, 1 ≤ l.length → l.length ≤ 4 → cC (wts l).1 = (wts l).2 ∧ (wts l).1.length = l.length
 | [p], _, _ => by simp [wts, cC]
 | [p, q], _, _ => by simp only [wts, cC, YC, List.length_nil]; constructor <;> first | trivial | omega
 | [p, q, r], _, _ => by simp only [wts, cC, YC, List.length_nil]; constructor <;> first | trivial | omega
 | [p, q, r, s], _, _ => by simp only [wts, cC, YC, List.length_nil]; constructor <;> first | trivial | omega
 | _ :: _ :: _ :: _ :: _ :: _, _, h => by simp at h
theorem zN : ∀ l : List Pt, 1 ≤ l.length → l.length ≤ 4 → ∀ p ∈ l, ae p (bA l) = ae (l.headD (0, 0, 0)) (bA l)
 | [p], _, _ => by intro x hx; simp at hx; subst hx; rfl
 | [p, q], _, _ => by
  intro x hx
  simp only [List.mem_cons, List.not_mem_nil, or_false] at hx
  rcases hx with rfl | rfl
  ·rfl
  ·exact W5 _ _
 | [p, q, r], _, _ => by
  intro x hx
  have := W6 p q r
  simp only [kY] at this
  simp only [List.mem_cons, List.not_mem_nil, or_false] at hx
  simp only [List.headD_cons]
  rcases hx with rfl | rfl | rfl <;> omega
 | [p, q, r, s], _, _ => by
  intro x hx
  have := W7 p q r s
  simp only [kY] at this
  simp only [List.mem_cons, List.not_mem_nil, or_false] at hx
  simp only [List.headD_cons]
  rcases hx with rfl | rfl | rfl | rfl <;> omega
 | _ :: _ :: _ :: _ :: _ :: _, _, h => by simp at h
theorem Da (v : Pt) (s : Int) : ∀ (w : List Int) (l : List Pt), w.length = l.length → (∀ p ∈ l, ae p v = s) → ae (bu w l) v = cC w * s
 | [], [], _, _ => by simp [bu, cC, ae]
 | x :: w, p :: l, hl, h => by
  have ih := Da v s w l (by simpa using hl) fun q hq => h q (by simp [hq])
  have h0 := h p (by simp)
  simp only [bu, cC, ae] at ih h0 ⊢
  grind
 | [], _ :: _, hl, _ => by simp at hl
 | _ :: _, [], hl, _ => by simp at hl
theorem pG (v : Pt) (s : Int) : ∀ (w : List Int) (l : List Pt), w.length = l.length → (∀ x ∈ w, 0 ≤ x) → (∀ p ∈ l, s ≤ ae p v) → cC w * s ≤ ae (bu w l) v
 | [], [], _, _, _ => by simp [bu, cC, ae]
 | x :: w, p :: l, hl, hw, h => by
  have ih := pG v s w l (by simpa using hl) (fun y hy => hw y (by simp [hy])) fun q hq => h q (by simp [hq])
  have h0 := YA (h p (by simp)) (hw x (by simp))
  simp only [bu, cC, ae] at ih h0 ⊢
  rw [Int.add_mul]
  have e : ∀ a b c d e f : Int, (a * p.1 + b) * v.1 + (a * p.2.1 + c) * v.2.1 + (a * p.2.2 + d) * v.2.2 = a * (p.1 * v.1 + p.2.1 * v.2.1 + p.2.2 * v.2.2) + (b * v.1 + c * v.2.1 + d * v.2.2) := by intros; grind
  rw [e _ _ _ _ 0 0]
  omega
 | [], _ :: _, hl, _, _ => by simp at hl
 | _ :: _, [], hl, _, _ => by simp at hl
theorem sq_nonneg (a : Int) : 0 ≤ a * a := by
 rcases Int.le_total 0 a with h | h
 ·exact Int.mul_nonneg h h
 ·exact Int.mul_nonneg_of_nonpos_of_nonpos h h
theorem Gt {a : Int} (h : a * a ≤ 0) : a = 0 := by
 have := sq_nonneg a
 have e : a * a = 0 := by omega
 rcases Int.mul_eq_zero.1 e with h | h <;> exact h
theorem vY {v : Pt} (h : ae v v ≤ 0) : v = (0, 0, 0) := by
 obtain ⟨x, y, z⟩ := v
 simp only [ae] at h
 have hx := sq_nonneg x
 have hy := sq_nonneg y
 have hz := sq_nonneg z
 rw [Gt (a := x) (by omega), Gt (a := y) (by omega), Gt (a := z) (by omega)]
theorem sY (v : Pt) : 0 ≤ ae v v := by
 have hx := sq_nonneg v.1
 have hy := sq_nonneg v.2.1
 have hz := sq_nonneg v.2.2
 simp only [ae]
 omega
theorem XG {a b c x y z d e : Int} (h1 : e * a = d * x) (h2 : e * b = d * y) (h3 : e * c = d * z) : (a * a + b * b + c * c) * (e * e) = (x * x + y * y + z * z) * (d * d) := by
 have l : (a * a + b * b + c * c) * (e * e) = (e * a) * (e * a) + (e * b) * (e * b) + (e * c) * (e * c) := by grind
 rw [l, h1, h2, h3]
 grind
structure Nst (T : List Pt) (w : List Int) (N : Pt) (d s : Int) : Prop where
 len : w.length = T.length
 sum : N = bu w T
 div : cC w = d
 pos : ∀ x ∈ w, 0 < x
 qE : 0 < d
 lev : ∀ p ∈ T, ae p N = s
theorem Nst.sq {T : List Pt} {w : List Int} {N : Pt} {d s : Int} (h : Nst T w N d s) : ae N N = d * s := by
 have := Da N s w T h.len h.lev
 rw [← h.sum, h.div] at this
 exact this
theorem QZ {T T' : List Pt} {w w' : List Int} {N N' k : Pt} {d s d' s' : Int} (h : Nst T w N d s) (h' : Nst T' w' N' d' s') (hT : ∀ p ∈ T, s' ≤ ae p N') (hk : s' ≤ ae k N') (hp : ae k N < s) :
  ae N' N' * (d * d) < ae N N * (d' * d') := by
 have h1 := pG N' s' w T h.len (fun x hx => Int.le_of_lt (h.pos x hx)) hT
 rw [← h.sum, h.div] at h1
 have q := h.sq
 have q' := h'.sq
 have dp := h.qE
 have dp' := h'.qE
 rcases Int.lt_or_le (ae N' N' * (d * d)) (ae N N * (d' * d')) with g | g
 ·exact g
 exfalso
 have hdd : 0 < d * d' := Int.mul_pos dp dp'
 have e1 := YA h1 (Int.le_of_lt hdd)
 have V : ae (d' * N.1 - d * N'.1, d' * N.2.1 - d * N'.2.1, d' * N.2.2 - d * N'.2.2) (d' * N.1 - d * N'.1, d' * N.2.1 - d * N'.2.1, d' * N.2.2 - d * N'.2.2) =
   ae N N * (d' * d') - 2 * ((d * d') * ae N N') + ae N' N' * (d * d) := by simp only [ae]; grind
 have e2 : ae N' N' * (d * d) = (d * d') * (d * s') := by rw [q']; grind
 have z := vY (v := (d' * N.1 - d * N'.1, d' * N.2.1 - d * N'.2.1, d' * N.2.2 - d * N'.2.2)) (by rw [V]; omega)
 simp only [Yj] at z
 obtain ⟨z1, z2, z3⟩ := z
 have ek : d' * ae k N = d * ae k N' := by simp only [ae]; grind
 have es : ae N N * (d' * d') = ae N' N' * (d * d) := by
  have a1 : d' * N.1 = d * N'.1 := by omega
  have a2 : d' * N.2.1 = d * N'.2.1 := by omega
  have a3 : d' * N.2.2 = d * N'.2.2 := by omega
  exact XG a1 a2 a3
 have ess : d' * s = d * s' := by
  rw [q, q'] at es
  have : (d * d') * (d' * s) = (d * d') * (d * s') := by grind
  exact Int.eq_of_mul_eq_mul_left (by omega) this
 have c1 := Int.mul_lt_mul_of_pos_left hp dp'
 have c2 := YA hk (Int.le_of_lt dp)
 omega
def ind : List Pt → Prop
 | [_] => True
 | [p, q] => ax q p ≠ (0, 0, 0)
 | [p, q, r] => crs (ax q p) (ax r p) ≠ (0, 0, 0)
 | [p, q, r, s] => du (ax q p) (ax r p) (ax s p) ≠ 0
 | _ => False
theorem Gn : ∀ {l : List Pt}, ind l → 1 ≤ l.length ∧ l.length ≤ 4
 | [_], _ => by simp
 | [_, _], _ => by simp
 | [_, _, _], _ => by simp
 | [_, _, _, _], _ => by simp
 | [], h => h.elim
 | _ :: _ :: _ :: _ :: _ :: _, h => h.elim
theorem P4 {v : Pt} (h : v ≠ (0, 0, 0)) : 0 < ae v v := by
 rcases Int.lt_or_le 0 (ae v v) with g | g
 ·exact g
 ·exact absurd (vY g) h
theorem TP (e f : Pt) : ae e e * ae f f - ae e f * ae f e = ae (crs e f) (crs e f) := by
 simp only [ae, crs]; grind
theorem XH (e f g : Pt) : m3 (ae e e) (ae e f) (ae e g) (ae f e) (ae f f) (ae f g) (ae g e) (ae g f) (ae g g) = du e f g * du e f g := by
 simp only [ae, crs, m3, du]; grind
theorem qX : ∀ {l : List Pt}, ind l → 0 < (wts l).2
 | [_], _ => by simp [wts]
 | [p, q], h => by simpa only [wts, wt1] using P4 h
 | [p, q, r], h => by simp only [wts, wt2, TP]; exact P4 h
 | [p, q, r, s], h => by
  simp only [wts, wt3, XH]
  have := sq_nonneg (du (ax q p) (ax r p) (ax s p))
  rcases Int.lt_or_le 0 (du (ax q p) (ax r p) (ax s p) * du (ax q p) (ax r p) (ax s p)) with g | g
  ·exact g
  ·exact absurd (Gt g) h
 | [], h => h.elim
 | _ :: _ :: _ :: _ :: _ :: _, h => h.elim
theorem Nst.of {l : List Pt} (h : ind l) (hw : ∀ x ∈ (wts l).1, 0 < x) : Nst l (wts l).1 (bA l) (wts l).2 (ae (l.headD (0, 0, 0)) (bA l)) := by
 obtain ⟨h1, h2⟩ := Gn h
 obtain ⟨a, b⟩ := I0 l h1 h2
 exact ⟨b, rfl, a, hw, qX h, zN l h1 h2⟩
theorem Gp : ∀ {l t : List Pt}, ind l → t.Sublist l → t ≠ [] → ind t := by
 have s0 : ∀ p : Pt, crs (0, 0, 0) p = (0, 0, 0) ∧ crs p (0, 0, 0) = (0, 0, 0) := by intro p; simp [crs]
 have e2 : ∀ {p q : Pt}, ax q p ≠ (0, 0, 0) → True := fun _ => trivial
 have a3 : ∀ {p q r : Pt}, ind [p, q, r] → ind [p, q] ∧ ind [p, r] ∧ ind [q, r] := by
  intro p q r h
  refine ⟨fun e => h ?_, fun e => h ?_, fun e => h ?_⟩
  ·rw [e]; exact (s0 _).1
  ·rw [e]; exact (s0 _).2
  ·simp only [ax, crs, Yj] at e ⊢; grind
 have a4 : ∀ {p q r s : Pt}, ind [p, q, r, s] → ind [p, q, r] ∧ ind [p, q, s] ∧ ind [p, r, s] ∧ ind [q, r, s] := by
  intro p q r s h
  refine ⟨fun e => h ?_, fun e => h ?_, fun e => h ?_, fun e => h ?_⟩
  ·have : du (ax q p) (ax r p) (ax s p) = ae (crs (ax q p) (ax r p)) (ax s p) := by simp only [du, ae, crs]; grind
   rw [this, e]; simp [ae]
  ·have : du (ax q p) (ax r p) (ax s p) = -ae (crs (ax q p) (ax s p)) (ax r p) := by simp only [du, ae, crs]; grind
   rw [this, e]; simp [ae]
  ·have : du (ax q p) (ax r p) (ax s p) = ae (crs (ax r p) (ax s p)) (ax q p) := rfl
   rw [this, e]; simp [ae]
  ·have : du (ax q p) (ax r p) (ax s p) = ae (crs (ax r q) (ax s q)) (ax q p) := by simp only [du, ae, crs, ax]; grind
   rw [this, e]; simp [ae]
 have c2 : ∀ {p q : Pt} {t : List Pt}, ind [p, q] → t.Sublist [p, q] → t ≠ [] → ind t := by
  intro p q t h ht hn
  cases ht with
  | cons _ ht => cases ht with
   | cons _ ht => cases ht; exact absurd rfl hn
   | cons_cons _ ht => cases ht; trivial
  | cons_cons _ ht => cases ht with
   | cons _ ht => cases ht; trivial
   | cons_cons _ ht => cases ht; exact h
 have c3 : ∀ {p q r : Pt} {t : List Pt}, ind [p, q, r] → t.Sublist [p, q, r] → t ≠ [] → ind t := by
  intro p q r t h ht hn
  obtain ⟨h1, h2, h3⟩ := a3 h
  cases ht with
  | cons _ ht => exact c2 h3 ht hn
  | cons_cons _ ht => cases ht with
   | cons _ ht => exact c2 h2 (List.Sublist.cons_cons _ ht) hn
   | cons_cons _ ht => cases ht with
    | cons _ ht => cases ht; exact h1
    | cons_cons _ ht => cases ht; exact h
 intro l t h ht hn
 match l, h with
 | [p], _ =>
  cases ht with
  | cons _ ht => cases ht; exact absurd rfl hn
  | cons_cons _ ht => cases ht; trivial
 | [p, q], h => exact c2 h ht hn
 | [p, q, r], h => exact c3 h ht hn
 | [p, q, r, s], h =>
  obtain ⟨h1, h2, h3, h4⟩ := a4 h
  cases ht with
  | cons _ ht => exact c3 h4 ht hn
  | cons_cons _ ht => cases ht with
   | cons _ ht => exact c3 h3 (List.Sublist.cons_cons _ ht) hn
   | cons_cons _ ht => cases ht with
    | cons _ ht => exact c3 h2 (List.Sublist.cons_cons _ (List.Sublist.cons_cons _ ht)) hn
    | cons_cons _ ht => cases ht with
     | cons _ ht => cases ht; exact h1
     | cons_cons _ ht => cases ht; exact h
def val (T : List Pt) : Prop := ind T ∧ ∀ x ∈ (wts T).1, 0 < x
theorem VK {S : List Pt} {N Z : Pt} {d s C : Int} (hd : 0 < d) (hN : ae N N = d * s) (hZ : ae Z N = C * s) : ae N N * (C * C) ≤ ae Z Z * (d * d) := by
 have V := sY (d * Z.1 - C * N.1, d * Z.2.1 - C * N.2.1, d * Z.2.2 - C * N.2.2)
 have e : ae (d * Z.1 - C * N.1, d * Z.2.1 - C * N.2.1, d * Z.2.2 - C * N.2.2) (d * Z.1 - C * N.1, d * Z.2.1 - C * N.2.1, d * Z.2.2 - C * N.2.2) = ae Z Z * (d * d) - 2 * ((d * C) * ae Z N) + ae N N * (C * C) := by
  simp only [ae]; grind
 rw [e, hZ, hN] at V
 have e2 : d * s * (C * C) = (d * C) * (C * s) := by grind
 rw [hN]
 omega
theorem UE : ∀ (l : List (Int × Int)), l ≠ [] → (∀ x ∈ l, 0 < x.2) → ∃ y ∈ l, ∀ x ∈ l, y.1 * x.2 ≤ x.1 * y.2
 | [], h, _ => absurd rfl h
 | [a], _, _ => ⟨a, by simp, fun x hx => by simp at hx; subst hx; exact Int.le_refl _⟩
 | a :: b :: l, _, hp => by
  obtain ⟨y, hy, h⟩ := UE (b :: l) (by simp) fun x hx => hp x (by simp [hx])
  have hy2 := hp y (by simp [hy])
  have ha2 := hp a (by simp)
  rcases Int.le_total (y.1 * a.2) (a.1 * y.2) with g | g
  ·refine ⟨y, by simp [hy], fun x hx => ?_⟩
   rcases List.mem_cons.1 hx with rfl | hx
   ·exact g
   ·exact h x hx
  ·refine ⟨a, by simp, fun x hx => ?_⟩
   rcases List.mem_cons.1 hx with rfl | hx
   ·exact Int.le_refl _
   ·have hx2 := hp x (by simp [hx])
    have h1 := Yz (h x hx) (Int.le_of_lt ha2)
    have h2 := Yz g (Int.le_of_lt hx2)
    have h3 : (a.1 * x.2) * y.2 ≤ (x.1 * a.2) * y.2 := by
     have e1 : a.1 * y.2 * x.2 = (a.1 * x.2) * y.2 := by grind
     have e2 : x.1 * y.2 * a.2 = (x.1 * a.2) * y.2 := by grind
     have e3 : y.1 * x.2 * a.2 = y.1 * a.2 * x.2 := by grind
     omega
    exact Int.le_of_mul_le_mul_right h3 hy2
def mvd (c0 w0 : Int) : List Int → List Int → List Int
 | w :: ws, c :: cs => (c0 * w - w0 * c) :: mvd c0 w0 ws cs
 | _, _ => []
theorem P5 (c0 w0 : Int) : ∀ w c, w.length = c.length → (mvd c0 w0 w c).length = c.length
 | [], [], _ => rfl
 | _ :: w, _ :: c, h => by simpa [mvd] using P5 c0 w0 w c (by simpa using h)
 | [], _ :: _, h => by simp at h
 | _ :: _, [], h => by simp at h
theorem P6 (c0 w0 : Int) : ∀ w c, w.length = c.length → cC (mvd c0 w0 w c) = c0 * cC w - w0 * cC c
 | [], [], _ => by simp [mvd, cC]
 | _ :: w, _ :: c, h => by
  have := P6 c0 w0 w c (by simpa using h)
  simp only [mvd, cC, this]; grind
 | [], _ :: _, h => by simp at h
 | _ :: _, [], h => by simp at h
theorem OU (c0 w0 : Int) : ∀ w c S, w.length = S.length → c.length = S.length → bu (mvd c0 w0 w c) S = (c0 * (bu w S).1 - w0 * (bu c S).1, c0 * (bu w S).2.1 - w0 * (bu c S).2.1, c0 * (bu w S).2.2 - w0 * (bu c S).2.2)
 | [], [], [], _, _ => by simp [mvd, bu]
 | _ :: w, _ :: c, p :: S, h, h' => by
  have := OU c0 w0 w c S (by simpa using h) (by simpa using h')
  simp only [mvd, bu, this, Yj]; grind
 | [], _, _ :: _, h, _ => by simp at h
 | _ :: _, _, [], h, _ => by simp at h
 | _ :: _, [], _ :: _, _, h => by simp at h
 | [], _ :: _, [], _, h => by simp at h
theorem P7 (c0 w0 : Int) : ∀ w c x, x ∈ mvd c0 w0 w c → ∃ p ∈ w.zip c, x = c0 * p.1 - w0 * p.2
 | [], _, x, h => by simp [mvd] at h
 | _ :: _, [], x, h => by simp [mvd] at h
 | a :: w, b :: c, x, h => by
  simp only [mvd, List.mem_cons] at h
  rcases h with rfl | h
  ·exact ⟨(a, b), by simp, rfl⟩
  ·obtain ⟨p, h1, h2⟩ := P7 c0 w0 w c x h
   exact ⟨p, by simp [h1], h2⟩
theorem P8 (c0 w0 : Int) : ∀ w c p, p ∈ w.zip c → c0 * p.1 - w0 * p.2 ∈ mvd c0 w0 w c
 | [], _, x, h => by simp at h
 | _ :: _, [], x, h => by simp at h
 | a :: w, b :: c, x, h => by
  simp only [List.zip_cons_cons, List.mem_cons] at h
  simp only [mvd, List.mem_cons]
  rcases h with rfl | h
  ·exact .inl rfl
  ·exact .inr (P8 c0 w0 w c x h)
theorem OV : ∀ (c : List Int) (S : List Pt), c.length = S.length → (∀ x ∈ c, 0 ≤ x) → ∃ S' c', S'.Sublist S ∧ c'.length = S'.length ∧ (∀ x ∈ c', 0 < x) ∧ bu c' S' = bu c S ∧ cC c' = cC c ∧ ((0 : Int) ∈ c → S'.length < S.length)
 | [], [], _, _ => ⟨[], [], List.Sublist.refl _, rfl, by simp, rfl, rfl, by simp⟩
 | a :: c, p :: S, h, hp => by
  obtain ⟨S', c', h1, h2, h3, h4, h5, h6⟩ := OV c S (by simpa using h) fun x hx => hp x (by simp [hx])
  have ha := hp a (by simp)
  rcases Int.lt_or_le 0 a with g | g
  ·refine ⟨p :: S', a :: c', List.Sublist.cons_cons _ h1, by simp [h2], fun x hx => ?_, by simp [bu, h4], by simp [cC, h5], fun hz => ?_⟩
   ·rcases List.mem_cons.1 hx with rfl | hx
    ·exact g
    ·exact h3 x hx
   ·rcases List.mem_cons.1 hz with e | hz
    ·omega
    ·have := h6 hz; simp; omega
  ·obtain rfl : a = 0 := by omega
   refine ⟨S', c', List.Sublist.cons _ h1, h2, h3, by simp [bu, h4], by simp [cC, h5], fun _ => ?_⟩
   have := h1.length_le
   simp; omega
 | [], _ :: _, h, _ => by simp at h
 | _ :: _, [], h, _ => by simp at h
theorem OW : ∀ (c : List Int), c ≠ [] → (∀ x ∈ c, 0 < x) → 0 < cC c
 | [], h, _ => absurd rfl h
 | [a], _, h => by have := h a (by simp); simp [cC]; omega
 | a :: b :: c, _, h => by
  have := OW (b :: c) (by simp) fun x hx => h x (by simp [hx])
  have := h a (by simp)
  simp only [cC] at *; omega
theorem Pw : ∀ (n : Nat) (S : List Pt) (c : List Int), S.length = n → ind S → c.length = S.length → (∀ x ∈ c, 0 < x) →
  ∃ T, T.Sublist S ∧ val T ∧ ae (bA T) (bA T) * (cC c * cC c) ≤ ae (bu c S) (bu c S) * ((wts T).2 * (wts T).2) := by
 intro n
 induction n using Nat.strongRecOn with
 | _ n ih =>
  intro S c hn hi hc hp
  obtain ⟨l1, l2⟩ := Gn hi
  obtain ⟨q1, q2⟩ := I0 S l1 l2
  have hd := qX hi
  have lev := zN S l1 l2
  have hN : ae (bA S) (bA S) = (wts S).2 * ae (S.headD (0, 0, 0)) (bA S) := by
   have := Da (bA S) _ (wts S).1 S q2 lev
   rw [q1] at this
   exact this
  have hZ : ae (bu c S) (bA S) = cC c * ae (S.headD (0, 0, 0)) (bA S) := Da _ _ c S hc lev
  have base := VK (S := S) hd hN hZ
  by_cases hall : ∀ x ∈ (wts S).1, 0 < x
  ·exact ⟨S, List.Sublist.refl _, ⟨hi, hall⟩, base⟩
  ·have hcne : c ≠ [] := by intro e; rw [e] at hc; simp at hc; omega
   have hlw : (wts S).1.length = c.length := by rw [q2, hc]
   have hzne : (wts S).1.zip c ≠ [] := by
    intro e
    have := congrArg List.length e
    simp only [List.length_zip, List.length_nil] at this
    have : c.length ≠ 0 := fun e => hcne (List.length_eq_zero_iff.1 e)
    omega
   obtain ⟨y, hy, hyw⟩ := UE _ hzne fun x hx => hp _ (List.of_mem_zip hx).2
   have hy2 : 0 < y.2 := hp _ (List.of_mem_zip hy).2
   have hy1 : y.1 ≤ 0 := by
    have : ∃ x ∈ (wts S).1, x ≤ 0 := by
     by_cases hx : ∃ x ∈ (wts S).1, x ≤ 0
     ·exact hx
     ·exact absurd (fun x hm => by
       rcases Int.lt_or_le 0 x with g | g
       ·exact g
       ·exact absurd ⟨x, hm, g⟩ hx) hall
    obtain ⟨x, hx, hx0⟩ := this
    obtain ⟨i, hil, hxi⟩ := List.getElem_of_mem hx
    have hz : (x, c[i]'(by omega)) ∈ (wts S).1.zip c := by
     rw [List.mem_iff_getElem]
     exact ⟨i, by rw [List.length_zip]; omega, by rw [List.getElem_zip, hxi]⟩
    have h1 := hyw _ hz
    have h2 := hp _ (List.of_mem_zip hz).2
    simp only at h1 h2
    have h3 : x * y.2 ≤ 0 := Int.mul_nonpos_of_nonpos_of_nonneg hx0 (Int.le_of_lt hy2)
    rcases Int.lt_or_le 0 y.1 with g | g
    ·have := Int.mul_pos g h2; omega
    ·exact g
   have hpos : ∀ x ∈ mvd y.2 y.1 (wts S).1 c, 0 ≤ x := by
    intro x hx
    obtain ⟨p, p1, rfl⟩ := P7 _ _ _ _ _ hx
    have := hyw p p1
    have e : y.2 * p.1 = p.1 * y.2 := Int.mul_comm _ _
    omega
   have hzero : (0 : Int) ∈ mvd y.2 y.1 (wts S).1 c := by
    have := P8 y.2 y.1 _ _ _ hy
    have e : y.2 * y.1 - y.1 * y.2 = 0 := by rw [Int.mul_comm]; omega
    rwa [e] at this
   obtain ⟨S', c', h1, h2, h3, h4, h5, h6⟩ := OV (mvd y.2 y.1 (wts S).1 c) S (by rw [P5 _ _ _ _ hlw, hc]) hpos
   rw [OU _ _ _ _ _ q2 hc] at h4
   rw [P6 _ _ _ _ hlw, q1] at h5
   have hC := OW c hcne hp
   have hC' : 0 < cC c' := by
    rw [h5]
    have a1 := Int.mul_pos hy2 hd
    have a2 : y.1 * cC c ≤ 0 := Int.mul_nonpos_of_nonpos_of_nonneg hy1 (Int.le_of_lt hC)
    omega
   have hne : S' ≠ [] := by
    intro e
    rw [e] at h2
    have : c' = [] := List.length_eq_zero_iff.1 (by simpa using h2)
    rw [this] at hC'
    simp [cC] at hC'
   obtain ⟨T, t1, t2, t3⟩ := ih S'.length (by rw [← hn]; exact h6 hzero) S' c' rfl (Gp hi h1 hne) h2 h3
   refine ⟨T, t1.trans h1, t2, ?_⟩
   have hT := qX t2.1
   rw [h4] at t3
   generalize hs : ae (S.headD (0, 0, 0)) (bA S) = s at hN hZ
   have hNS : bu (wts S).1 S = bA S := rfl
   rw [hNS] at t3
   generalize hZZ : bu c S = Z at *
   generalize hNN : bA S = N at *
   generalize (wts S).2 = d at *
   generalize cC c = C at *
   generalize cC c' = C' at *
   generalize bA T = M at *
   generalize (wts T).2 = f at *
   obtain ⟨w0, c0⟩ := y
   simp only at *
   have e1 : ae (c0 * N.1 - w0 * Z.1, c0 * N.2.1 - w0 * Z.2.1, c0 * N.2.2 - w0 * Z.2.2) (c0 * N.1 - w0 * Z.1, c0 * N.2.1 - w0 * Z.2.1, c0 * N.2.2 - w0 * Z.2.2) = c0 * c0 * ae N N - 2 * (c0 * w0 * ae Z N) + w0 * w0 * ae Z Z := by
    simp only [ae]; grind
   rw [e1, hN, hZ] at t3
   have key : (c0 * c0 * (d * s) - 2 * (c0 * w0 * (C * s)) + w0 * w0 * ae Z Z) * (C * C) ≤ ae Z Z * (C' * C') := by
    have b2 : 0 ≤ d * ae Z Z - C * C * s := by
     rw [hN] at base
     have : d * (C * C * s) ≤ d * (d * ae Z Z) := by
      have e1 : d * s * (C * C) = d * (C * C * s) := by grind
      have e2 : ae Z Z * (d * d) = d * (d * ae Z Z) := by grind
      omega
     have := Int.le_of_mul_le_mul_left this hd
     omega
    have b3 : 0 ≤ c0 * c0 * d - 2 * (c0 * w0 * C) := by
     have a1 := Int.mul_pos (Int.mul_pos hy2 hy2) hd
     have a2 : c0 * w0 * C ≤ 0 := Int.mul_nonpos_of_nonpos_of_nonneg (Int.mul_nonpos_of_nonneg_of_nonpos (Int.le_of_lt hy2) hy1) (Int.le_of_lt hC)
     omega
    have b4 := Int.mul_nonneg b3 b2
    have b5 : ae Z Z * (C' * C') - (c0 * c0 * (d * s) - 2 * (c0 * w0 * (C * s)) + w0 * w0 * ae Z Z) * (C * C) = (c0 * c0 * d - 2 * (c0 * w0 * C)) * (d * ae Z Z - C * C * s) := by
     rw [h5]; grind
    omega
   have ff : 0 ≤ f * f := sq_nonneg f
   have cc : 0 ≤ C * C := sq_nonneg C
   have k1 := Yz t3 cc
   have k2 := Yz key ff
   have k3 : ae M M * (C * C) * (C' * C') ≤ ae Z Z * (f * f) * (C' * C') := by
    have e1 : ae M M * (C' * C') * (C * C) = ae M M * (C * C) * (C' * C') := by grind
    have e2 : ae Z Z * (C' * C') * (f * f) = ae Z Z * (f * f) * (C' * C') := by grind
    have e3 : ∀ u : Int, u * (f * f) * (C * C) = u * (C * C) * (f * f) := by intro u; grind
    rw [e1, e3] at k1
    rw [e2] at k2
    omega
   exact Int.le_of_mul_le_mul_right k3 (Int.mul_pos hC' hC')
theorem OQ {T : List Pt} {N p : Pt} {s : Int} (hT : ind T) (lev : ∀ q ∈ T, ae q N = s) (hp : ae p N ≠ s) : ind (p :: T) := by
 match T, hT with
 | [q], _ =>
  intro e
  have h1 := lev q (by simp)
  simp only [ax, Yj] at e
  apply hp
  rw [← h1]
  simp only [ae]
  rw [show p.1 = q.1 by omega, show p.2.1 = q.2.1 by omega, show p.2.2 = q.2.2 by omega]
 | [q, r], h =>
  intro e
  have h1 := lev q (by simp)
  have h2 := lev r (by simp)
  apply h
  have ht : s - ae p N ≠ 0 := by omega
  have k : ∀ a b : Int, (s - ae p N) * (a - b) = 0 → a - b = 0 := fun a b hh => (Int.mul_eq_zero.1 hh).resolve_left ht
  simp only [crs, ax, Yj] at e ⊢
  obtain ⟨e1, e2, e3⟩ := e
  simp only [ae] at h1 h2 k
  refine ⟨k _ _ ?_, k _ _ ?_, k _ _ ?_⟩ <;> grind
 | [q, r, w], h =>
  intro e
  have h1 := lev q (by simp)
  have h2 := lev r (by simp)
  have h3 := lev w (by simp)
  apply h
  have ht : s - ae p N ≠ 0 := by omega
  have k : ∀ a : Int, (s - ae p N) * a = 0 → a = 0 := fun a hh => (Int.mul_eq_zero.1 hh).resolve_left ht
  have key : ∀ u v x : Pt, ae u N = s - ae p N → ae v N = s - ae p N → ae x N = s - ae p N → du u v x = 0 →
    crs (ax v u) (ax x u) = (0, 0, 0) := by
   intro u v x hu hv hx hd
   simp only [crs, ax, Yj]
   refine ⟨k _ ?_, k _ ?_, k _ ?_⟩
   ·have : (s - ae p N) * ((v.2.1 - u.2.1) * (x.2.2 - u.2.2) - (v.2.2 - u.2.2) * (x.2.1 - u.2.1)) =
     ae u N * (v.2.1 * x.2.2 - v.2.2 * x.2.1) + ae v N * (x.2.1 * u.2.2 - x.2.2 * u.2.1) + ae x N * (u.2.1 * v.2.2 - u.2.2 * v.2.1) := by rw [hu, hv, hx]; grind
    rw [this]
    have : ae u N * (v.2.1 * x.2.2 - v.2.2 * x.2.1) + ae v N * (x.2.1 * u.2.2 - x.2.2 * u.2.1) + ae x N * (u.2.1 * v.2.2 - u.2.2 * v.2.1) = du u v x * N.1 := by
     simp only [du, ae, crs]; grind
    rw [this, hd, Int.zero_mul]
   ·have : (s - ae p N) * ((v.2.2 - u.2.2) * (x.1 - u.1) - (v.1 - u.1) * (x.2.2 - u.2.2)) =
     ae u N * (v.2.2 * x.1 - v.1 * x.2.2) + ae v N * (x.2.2 * u.1 - x.1 * u.2.2) + ae x N * (u.2.2 * v.1 - u.1 * v.2.2) := by rw [hu, hv, hx]; grind
    rw [this]
    have : ae u N * (v.2.2 * x.1 - v.1 * x.2.2) + ae v N * (x.2.2 * u.1 - x.1 * u.2.2) + ae x N * (u.2.2 * v.1 - u.1 * v.2.2) = du u v x * N.2.1 := by
     simp only [du, ae, crs]; grind
    rw [this, hd, Int.zero_mul]
   ·have : (s - ae p N) * ((v.1 - u.1) * (x.2.1 - u.2.1) - (v.2.1 - u.2.1) * (x.1 - u.1)) =
     ae u N * (v.1 * x.2.1 - v.2.1 * x.1) + ae v N * (x.1 * u.2.1 - x.2.1 * u.1) + ae x N * (u.1 * v.2.1 - u.2.1 * v.1) := by rw [hu, hv, hx]; grind
    rw [this]
    have : ae u N * (v.1 * x.2.1 - v.2.1 * x.1) + ae v N * (x.1 * u.2.1 - x.2.1 * u.1) + ae x N * (u.1 * v.2.1 - u.2.1 * v.1) = du u v x * N.2.2 := by
     simp only [du, ae, crs]; grind
    rw [this, hd, Int.zero_mul]
  have r := key (ax q p) (ax r p) (ax w p) (by rw [kY, h1]) (by rw [kY, h2]) (by rw [kY, h3]) e
  simp only [crs, ax, Yj] at r ⊢
  grind
 | [q, r, w, z], h =>
  exfalso
  have h1 := lev q (by simp)
  have h2 := lev r (by simp)
  have h3 := lev w (by simp)
  have h4 := lev z (by simp)
  have k : ∀ a : Int, du (ax r q) (ax w q) (ax z q) * a = 0 → a = 0 := fun a hh => (Int.mul_eq_zero.1 hh).resolve_left h
  have g1 : ae (ax r q) N = 0 := by rw [kY]; omega
  have g2 : ae (ax w q) N = 0 := by rw [kY]; omega
  have g3 : ae (ax z q) N = 0 := by rw [kY]; omega
  have key : ∀ u v x : Pt, ae u N = 0 → ae v N = 0 → ae x N = 0 → du u v x * N.1 = 0 ∧ du u v x * N.2.1 = 0 ∧ du u v x * N.2.2 = 0 := by
   intro u v x hu hv hx
   have e1 : du u v x * N.1 = ae u N * (v.2.1 * x.2.2 - v.2.2 * x.2.1) + ae v N * (x.2.1 * u.2.2 - x.2.2 * u.2.1) + ae x N * (u.2.1 * v.2.2 - u.2.2 * v.2.1) := by simp only [du, ae, crs]; grind
   have e2 : du u v x * N.2.1 = ae u N * (v.2.2 * x.1 - v.1 * x.2.2) + ae v N * (x.2.2 * u.1 - x.1 * u.2.2) + ae x N * (u.2.2 * v.1 - u.1 * v.2.2) := by simp only [du, ae, crs]; grind
   have e3 : du u v x * N.2.2 = ae u N * (v.1 * x.2.1 - v.2.1 * x.1) + ae v N * (x.1 * u.2.1 - x.2.1 * u.1) + ae x N * (u.1 * v.2.1 - u.2.1 * v.1) := by simp only [du, ae, crs]; grind
   rw [e1, e2, e3, hu, hv, hx]
   simp
  obtain ⟨r1, r2, r3⟩ := key _ _ _ g1 g2 g3
  have n1 := k _ r1
  have n2 := k _ r2
  have n3 := k _ r3
  apply hp
  rw [← h1]
  simp only [ae, n1, n2, n3, Int.mul_zero, Int.add_zero]
theorem VL : ∀ {A B : List Pt} {p : Pt}, ind (p :: (A ++ B)) → ind (A ++ p :: B)
 | [], B, p, h => h
 | [a], [], p, h => by
  intro e; apply h; simp only [ax, Yj] at e ⊢; omega
 | [a], [b], p, h => by
  intro e; apply h; simp only [crs, ax, Yj] at e ⊢; grind
 | [a], [b, c], p, h => by
  intro e; apply h; simp only [du, ae, crs, ax] at e ⊢; grind
 | [a], b :: c :: d :: B, p, h => h.elim
 | [a, b], [], p, h => by
  intro e; apply h; simp only [crs, ax, Yj] at e ⊢; grind
 | [a, b], [c], p, h => by
  intro e; apply h; simp only [du, ae, crs, ax] at e ⊢; grind
 | [a, b], c :: d :: B, p, h => h.elim
 | [a, b, c], [], p, h => by
  intro e; apply h; simp only [du, ae, crs, ax] at e ⊢; grind
 | [a, b, c], d :: B, p, h => h.elim
 | a :: b :: c :: d :: A, B, p, h => h.elim
theorem Q4 {α : Type} {p : α} : ∀ {T l : List α}, T.Sublist l → p ∈ l → p ∉ T → ∃ A B, T = A ++ B ∧ (A ++ p :: B).Sublist l := by
 intro T l h
 induction h with
 | slnil => intro h; cases h
 | @cons T l a h ih =>
  intro hp hn
  rcases List.mem_cons.1 hp with rfl | hp
  ·exact ⟨[], T, rfl, List.Sublist.cons_cons _ h⟩
  ·obtain ⟨A, B, rfl, h2⟩ := ih hp hn
   exact ⟨A, B, rfl, List.Sublist.cons _ h2⟩
 | @cons_cons T l a h ih =>
  intro hp hn
  simp only [List.mem_cons, not_or] at hn
  rcases List.mem_cons.1 hp with rfl | hp
  ·exact absurd rfl hn.1
  ·obtain ⟨A, B, rfl, h2⟩ := ih hp hn.2
   exact ⟨a :: A, B, rfl, List.Sublist.cons_cons _ h2⟩
def qD {α : Type} : List α → List (List α)
 | [] => [[]]
 | a :: l => qD l ++ (qD l).map (a :: ·)
theorem I1 {α : Type} : ∀ {l T : List α}, T.Sublist l → T ∈ qD l := by
 intro l T h
 induction h with
 | slnil => simp [qD]
 | cons a h ih => simp [qD, ih]
 | cons_cons a h ih => simp [qD, ih]
theorem LC {α : Type} : ∀ {l T : List α}, T ∈ qD l → T.Sublist l
 | [], T, h => by simp [qD] at h; subst h; exact List.Sublist.refl _
 | a :: l, T, h => by
  simp only [qD, YH, List.mem_map] at h
  rcases h with h | ⟨U, h, rfl⟩
  ·exact List.Sublist.cons _ (LC h)
  ·exact List.Sublist.cons_cons _ (LC h)
theorem Sr {α : Type} (V : α → Prop) (q d : α → Int) (hd : ∀ x, V x → 0 < d x) : ∀ (L : List α), (∃ x ∈ L, V x) → ∃ x ∈ L, V x ∧ ∀ y ∈ L, V y → q x * d y ≤ q y * d x
 | [], h => by obtain ⟨x, h, _⟩ := h; cases h
 | a :: L, h => by
  by_cases hL : ∃ x ∈ L, V x
  ·obtain ⟨x, h1, h2, h3⟩ := Sr V q d hd L hL
   by_cases ha : V a
   ·rcases Int.le_total (q x * d a) (q a * d x) with g | g
    ·refine ⟨x, by simp [h1], h2, fun y hy hv => ?_⟩
     rcases List.mem_cons.1 hy with rfl | hy
     ·exact g
     ·exact h3 y hy hv
    ·refine ⟨a, by simp, ha, fun y hy hv => ?_⟩
     rcases List.mem_cons.1 hy with rfl | hy
     ·exact Int.le_refl _
     ·have k1 := Yz (h3 y hy hv) (Int.le_of_lt (hd a ha))
      have k2 := Yz g (Int.le_of_lt (hd y hv))
      have e1 : q a * d x * d y = (q a * d y) * d x := by grind
      have e2 : q x * d a * d y = q x * d y * d a := by grind
      have e3 : q y * d x * d a = (q y * d a) * d x := by grind
      exact Int.le_of_mul_le_mul_right (by omega) (hd x h2)
   ·refine ⟨x, by simp [h1], h2, fun y hy hv => ?_⟩
    rcases List.mem_cons.1 hy with rfl | hy
    ·exact absurd hv ha
    ·exact h3 y hy hv
  ·obtain ⟨x, hx, hv⟩ := h
   rcases List.mem_cons.1 hx with rfl | hx
   ·refine ⟨x, by simp, hv, fun y hy hv' => ?_⟩
    rcases List.mem_cons.1 hy with rfl | hy
    ·exact Int.le_refl _
    ·exact absurd ⟨y, hy, hv'⟩ hL
   ·exact absurd ⟨x, hx, hv⟩ hL
theorem I9 : ∀ (c : List Int) (A : List Pt) (c' : List Int) (B : List Pt), c.length = A.length → bu (c ++ c') (A ++ B) = ((bu c A).1 + (bu c' B).1, (bu c A).2.1 + (bu c' B).2.1, (bu c A).2.2 + (bu c' B).2.2)
 | [], [], c', B, _ => by simp [bu]
 | x :: c, p :: A, c', B, h => by
  have := I9 c A c' B (by simpa using h)
  simp only [List.cons_append, bu, this, Yj]; grind
 | [], _ :: _, _, _, h => by simp at h
 | _ :: _, [], _, _, h => by simp at h
theorem Ja : ∀ (c c' : List Int), cC (c ++ c') = cC c + cC c'
 | [], c' => by simp [cC]
 | x :: c, c' => by simp only [List.cons_append, cC, Ja c c']; omega
theorem KC (K : Int) : ∀ (c : List Int) (A : List Pt), bu (c.map (K * ·)) A = (K * (bu c A).1, K * (bu c A).2.1, K * (bu c A).2.2)
 | [], A => by simp [bu]
 | x :: c, [] => by simp [bu]
 | x :: c, p :: A => by
  have := KC K c A
  simp only [List.map_cons, bu, this, Yj]; grind
theorem KD (K : Int) : ∀ c : List Int, cC (c.map (K * ·)) = K * cC c
 | [] => by simp [cC]
 | x :: c => by simp only [List.map_cons, cC, KD K c]; grind
def uf (l T : List Pt) : Prop := ∀ p ∈ l, ae (T.headD (0, 0, 0)) (bA T) ≤ ae p (bA T)
theorem Pu {l : List Pt} (hl : l ≠ []) : ∃ T, T.Sublist l ∧ val T ∧ uf l T := by
 obtain ⟨p0, hp0⟩ := List.exists_mem_of_ne_nil l hl
 obtain ⟨T, hTm, hT, hmin⟩ := Sr (fun T => val T) (fun T => ae (bA T) (bA T)) (fun T => (wts T).2 * (wts T).2)
  (fun T h => Int.mul_pos (qX h.1) (qX h.1)) (qD l) ⟨[p0], I1 (List.singleton_sublist.2 hp0), trivial, by simp [wts]⟩
 have hTs := LC hTm
 refine ⟨T, hTs, hT, fun p hp => ?_⟩
 rcases Int.lt_or_le (ae p (bA T)) (ae (T.headD (0, 0, 0)) (bA T)) with g | g
 case inr => exact g
 exfalso
 have hN := Nst.of hT.1 hT.2
 obtain ⟨l1, l2⟩ := Gn hT.1
 have lev := zN T l1 l2
 have hpn : p ∉ T := fun h => by have := lev p h; omega
 obtain ⟨A, B, rfl, hs⟩ := Q4 hTs hp hpn
 have hi := VL (OQ hT.1 lev (p := p) (by omega))
 have hsq := hN.sq
 have hlen := hN.len
 have hdp := hN.qE
 have hdv := hN.div
 have hpos := hN.pos
 have hsum := hN.sum
 generalize hw : (wts (A ++ B)).1 = w at *
 generalize hd : (wts (A ++ B)).2 = d at *
 generalize hs' : ae ((A ++ B).headD (0, 0, 0)) (bA (A ++ B)) = s at *
 generalize hNN : bA (A ++ B) = N at *
 let K : Int := d * d * ae p p + (d * s) * (d * s) + 1
 have hK : 0 < K := by
  have a1 := Int.mul_nonneg (sq_nonneg d) (sY p)
  have a2 := sq_nonneg (d * s)
  show 0 < d * d * ae p p + (d * s) * (d * s) + 1
  omega
 let c : List Int := (w.take A.length).map (K * ·) ++ 1 :: (w.drop A.length).map (K * ·)
 have wl : (w.take A.length).length = A.length := by rw [List.length_take, hlen]; simp
 have wl2 : (w.drop A.length).length = B.length := by rw [List.length_drop, hlen]; simp
 have hc : c.length = (A ++ p :: B).length := by simp only [c, Yw, List.length_map, YC, wl, wl2]
 have hcp : ∀ x ∈ c, 0 < x := by
  intro x hx
  simp only [c, YH, List.mem_cons, List.mem_map] at hx
  rcases hx with ⟨y, hy, rfl⟩ | rfl | ⟨y, hy, rfl⟩
  ·exact Int.mul_pos hK (hpos y (List.mem_of_mem_take hy))
  ·decide
  ·exact Int.mul_pos hK (hpos y (List.mem_of_mem_drop hy))
 have hC : cC c = K * d + 1 := by
  have e : cC w = cC (w.take A.length) + cC (w.drop A.length) := by rw [← Ja, List.take_append_drop]
  simp only [c, Ja, cC, KD]
  rw [← hdv, e]
  grind
 have hZ : bu c (A ++ p :: B) = (K * N.1 + p.1, K * N.2.1 + p.2.1, K * N.2.2 + p.2.2) := by
  have e : N = ((bu (w.take A.length) A).1 + (bu (w.drop A.length) B).1, (bu (w.take A.length) A).2.1 + (bu (w.drop A.length) B).2.1, (bu (w.take A.length) A).2.2 + (bu (w.drop A.length) B).2.2) := by
   rw [← I9 _ _ _ _ wl, List.take_append_drop]; exact hsum
  simp only [c]
  rw [I9 _ _ _ _ (by rw [List.length_map, wl])]
  simp only [bu, KC]
  rw [e]
  simp only [Yj]
  grind
 obtain ⟨T', t1, t2, t3⟩ := Pw _ (A ++ p :: B) c rfl hi hc hcp
 have hm := hmin T' (I1 (t1.trans hs)) t2
 have hdT := qX t2.1
 rw [hZ, hC] at t3
 generalize hM : bA T' = M at *
 generalize hf : (wts T').2 = f at *
 have zz : ae (K * N.1 + p.1, K * N.2.1 + p.2.1, K * N.2.2 + p.2.2) (K * N.1 + p.1, K * N.2.1 + p.2.1, K * N.2.2 + p.2.2) = K * K * ae N N + 2 * (K * ae p N) + ae p p := by
  simp only [ae]; grind
 rw [zz] at t3
 have lt : (K * K * ae N N + 2 * (K * ae p N) + ae p p) * (d * d) < ae N N * ((K * d + 1) * (K * d + 1)) := by
  have e : ae N N * ((K * d + 1) * (K * d + 1)) - (K * K * ae N N + 2 * (K * ae p N) + ae p p) * (d * d) = 2 * (K * (d * d * (s - ae p N))) + d * s - d * d * ae p p := by
   rw [hsq]; grind
  have b1 : K * 1 ≤ K * (d * d * (s - ae p N)) := by
   refine YA ?_ (Int.le_of_lt hK)
   have := Int.mul_pos (Int.mul_pos hdp hdp) (show 0 < s - ae p N by omega)
   omega
  have b2 : -((d * s) * (d * s)) ≤ d * s := by
   rcases Int.le_total 0 (d * s) with q | q
   ·have := sq_nonneg (d * s); omega
   ·rcases Int.lt_or_le (d * s) 0 with r | r
    ·have : -(d * s) * 1 ≤ -(d * s) * (-(d * s)) := YA (by omega) (by omega)
     have e : -(d * s) * -(d * s) = (d * s) * (d * s) := by grind
     omega
    ·have : d * s = 0 := by omega
     rw [this]; decide
  have a2 := sq_nonneg (d * s)
  have a1 := Int.mul_nonneg (sq_nonneg d) (sY p)
  have hKe : K = d * d * ae p p + (d * s) * (d * s) + 1 := rfl
  omega
 have hff := Int.mul_pos hdT hdT
 have hdd := Int.mul_pos hdp hdp
 have hCC : 0 < (K * d + 1) * (K * d + 1) := by
  have := Int.mul_pos hK hdp
  exact Int.mul_pos (by omega) (by omega)
 generalize (K * d + 1) * (K * d + 1) = CC at *
 generalize K * K * ae N N + 2 * (K * ae p N) + ae p p = ZZ at *
 generalize ae N N = NN at *
 generalize ae M M = MM at *
 have k1 := Yz t3 (Int.le_of_lt hdd)
 have k2 := Yz hm (Int.le_of_lt hCC)
 have k3 := Int.mul_lt_mul_of_pos_right lt hff
 have e1 : MM * CC * (d * d) = MM * (d * d) * CC := by grind
 have e2 : ZZ * (f * f) * (d * d) = ZZ * (d * d) * (f * f) := by grind
 have e3 : NN * (f * f) * CC = NN * CC * (f * f) := by grind
 omega
end Go.Ev
namespace Go.Ev
open Go.Proofs
def BW (a0 a1 a2 a3 a4 a5 a6 a7 : Int) : Option Int := ah (ok8 a0 a1 a2 a3 a4 a5 a6 a7 && f0 (0 - num a0 a1 a2 a3 a4 a5 a6 a7)) (some (0 - num a0 a1 a2 a3 a4 a5 a6 a7))
theorem VZ {a0 a1 a2 a3 a4 a5 a6 a7 : Int} {r} (h : BW a0 a1 a2 a3 a4 a5 a6 a7 = some r) : O1 a0 a1 a2 a3 a4 a5 a6 a7 = some (r, true) := by
 unfold BW at h
 obtain ⟨h1, h2⟩ := aL h
 rw [Yi] at h1
 simp only [Yh] at h2
 subst h2
 unfold O1 gV
 rw [h1.1, h1.2]
 rfl
def gw (x : Int) : Option Int := BW (aa x 0) (aa x 1) (aa x 2) (aa x 3) (aa x 4) (aa x 5) (aa x 6) (aa x 7)
theorem PR {x : Int} (hx : fit x) (h : fit (0 - x)) : gw x = some (0 - x) := by
 unfold gw BW; rw [bz, aD hx, ci.2 h]; rfl
def yb : HK where
 call := fun args σ k => match args with
  | [.agg [.int .u64 a0, .int .u64 a1, .int .u64 a2, .int .u64 a3, .int .u64 a4, .int .u64 a5, .int .u64 a6, .int .u64 a7]] => Option.bind (BW a0 a1 a2 a3 a4 a5 a6 a7) fun r => k (.ret (.tup [.agg [.int .u64 (aa r 0), .int .u64 (aa r 1), .int .u64 (aa r 2), .int .u64 (aa r 3), .int .u64 (aa r 4), .int .u64 (aa r 5), .int .u64 (aa r 6), .int .u64 (aa r 7)], .bool true])) σ
  | _ => none
 nat := fun args σ k => by
  repeat' split
  all_goals simp only [Yg, Yf, Ye]
 pure := true
 pok := fun _ args σ r σ' h => by
  split at h
  ·obtain ⟨q, h1, h2⟩ := bE_ h
   simp only [Yh, Yj] at h2
   obtain ⟨rfl, rfl⟩ := h2
   exact ⟨rfl, ⟨_, rfl⟩, fun σ2 => by simp only [h1, Ye]⟩
  ·cases h
theorem uE : aN YI 26 yb := T9.da fun args σ x h => by
 simp only [yb] at h
 split at h
 ·rename_i a0 a1 a2 a3 a4 a5 a6 a7
  obtain ⟨r, h1, h2⟩ := bE_ h
  simp only [Rc, VZ h1, Ye]
  exact h2
 ·cases h
def pN (a0 a1 a2 a3 a4 a5 a6 a7 a8 a9 a10 a11 a12 a13 a14 a15 : Int) : Option Int := ah (ok8 a0 a1 a2 a3 a4 a5 a6 a7 && ok8 a8 a9 a10 a11 a12 a13 a14 a15 && f0 (num a0 a1 a2 a3 a4 a5 a6 a7 + num a8 a9 a10 a11 a12 a13 a14 a15)) (some (num a0 a1 a2 a3 a4 a5 a6 a7 + num a8 a9 a10 a11 a12 a13 a14 a15))
theorem V0 {a0 a1 a2 a3 a4 a5 a6 a7 a8 a9 a10 a11 a12 a13 a14 a15 : Int} {r} (h : pN a0 a1 a2 a3 a4 a5 a6 a7 a8 a9 a10 a11 a12 a13 a14 a15 = some r) : xT a0 a1 a2 a3 a4 a5 a6 a7 a8 a9 a10 a11 a12 a13 a14 a15 = some (r, true) := by
 unfold pN at h
 obtain ⟨h1, h2⟩ := aL h
 rw [Yi] at h1
 simp only [Yh] at h2
 subst h2
 unfold xT gV
 rw [h1.1, h1.2]
 rfl
def Ad (x y : Int) : Option Int := pN (aa x 0) (aa x 1) (aa x 2) (aa x 3) (aa x 4) (aa x 5) (aa x 6) (aa x 7) (aa y 0) (aa y 1) (aa y 2) (aa y 3) (aa y 4) (aa y 5) (aa y 6) (aa y 7)
theorem Vv {x y : Int} (hx : fit x) (hy : fit y) (h : fit (x + y)) : Ad x y = some (x + y) := by
 unfold Ad pN; rw [bz, bz, aD hx, aD hy, ci.2 h]; rfl
def Nm : HK where
 call := fun args σ k => match args with
  | [.agg [.int .u64 a0, .int .u64 a1, .int .u64 a2, .int .u64 a3, .int .u64 a4, .int .u64 a5, .int .u64 a6, .int .u64 a7], .agg [.int .u64 a8, .int .u64 a9, .int .u64 a10, .int .u64 a11, .int .u64 a12, .int .u64 a13, .int .u64 a14, .int .u64 a15]] => Option.bind (pN a0 a1 a2 a3 a4 a5 a6 a7 a8 a9 a10 a11 a12 a13 a14 a15) fun r => k (.ret (.tup [.agg [.int .u64 (aa r 0), .int .u64 (aa r 1), .int .u64 (aa r 2), .int .u64 (aa r 3), .int .u64 (aa r 4), .int .u64 (aa r 5), .int .u64 (aa r 6), .int .u64 (aa r 7)], .bool true])) σ
  | _ => none
 nat := fun args σ k => by
  repeat' split
  all_goals simp only [Yg, Yf, Ye]
 pure := true
 pok := fun _ args σ r σ' h => by
  split at h
  ·obtain ⟨q, h1, h2⟩ := bE_ h
   simp only [Yh, Yj] at h2
   obtain ⟨rfl, rfl⟩ := h2
   exact ⟨rfl, ⟨_, rfl⟩, fun σ2 => by simp only [h1, Ye]⟩
  ·cases h
theorem Rg : aN YI 64 Nm := Ni.da fun args σ x h => by
 simp only [Nm] at h
 split at h
 ·rename_i a0 a1 a2 a3 a4 a5 a6 a7 a8 a9 a10 a11 a12 a13 a14 a15
  obtain ⟨r, h1, h2⟩ := bE_ h
  simp only [MT, V0 h1, Ye]
  exact h2
 ·cases h
def zq (a0 a1 a2 a3 a4 a5 a6 a7 a8 a9 a10 a11 a12 a13 a14 a15 : Int) : Option Int := ah (ok8 a0 a1 a2 a3 a4 a5 a6 a7 && ok8 a8 a9 a10 a11 a12 a13 a14 a15 && f0 (num a0 a1 a2 a3 a4 a5 a6 a7 - num a8 a9 a10 a11 a12 a13 a14 a15)) (some (num a0 a1 a2 a3 a4 a5 a6 a7 - num a8 a9 a10 a11 a12 a13 a14 a15))
theorem V1 {a0 a1 a2 a3 a4 a5 a6 a7 a8 a9 a10 a11 a12 a13 a14 a15 : Int} {r} (h : zq a0 a1 a2 a3 a4 a5 a6 a7 a8 a9 a10 a11 a12 a13 a14 a15 = some r) : EM a0 a1 a2 a3 a4 a5 a6 a7 a8 a9 a10 a11 a12 a13 a14 a15 = some (r, true) := by
 unfold zq at h
 obtain ⟨h1, h2⟩ := aL h
 rw [Yi] at h1
 simp only [Yh] at h2
 subst h2
 unfold EM gV
 rw [h1.1, h1.2]
 rfl
def fw (x y : Int) : Option Int := zq (aa x 0) (aa x 1) (aa x 2) (aa x 3) (aa x 4) (aa x 5) (aa x 6) (aa x 7) (aa y 0) (aa y 1) (aa y 2) (aa y 3) (aa y 4) (aa y 5) (aa y 6) (aa y 7)
theorem Vw {x y : Int} (hx : fit x) (hy : fit y) (h : fit (x - y)) : fw x y = some (x - y) := by
 unfold fw zq; rw [bz, bz, aD hx, aD hy, ci.2 h]; rfl
def Nl : HK where
 call := fun args σ k => match args with
  | [.agg [.int .u64 a0, .int .u64 a1, .int .u64 a2, .int .u64 a3, .int .u64 a4, .int .u64 a5, .int .u64 a6, .int .u64 a7], .agg [.int .u64 a8, .int .u64 a9, .int .u64 a10, .int .u64 a11, .int .u64 a12, .int .u64 a13, .int .u64 a14, .int .u64 a15]] => Option.bind (zq a0 a1 a2 a3 a4 a5 a6 a7 a8 a9 a10 a11 a12 a13 a14 a15) fun r => k (.ret (.tup [.agg [.int .u64 (aa r 0), .int .u64 (aa r 1), .int .u64 (aa r 2), .int .u64 (aa r 3), .int .u64 (aa r 4), .int .u64 (aa r 5), .int .u64 (aa r 6), .int .u64 (aa r 7)], .bool true])) σ
  | _ => none
 nat := fun args σ k => by
  repeat' split
  all_goals simp only [Yg, Yf, Ye]
 pure := true
 pok := fun _ args σ r σ' h => by
  split at h
  ·obtain ⟨q, h1, h2⟩ := bE_ h
   simp only [Yh, Yj] at h2
   obtain ⟨rfl, rfl⟩ := h2
   exact ⟨rfl, ⟨_, rfl⟩, fun σ2 => by simp only [h1, Ye]⟩
  ·cases h
theorem Rf : aN YI 38 Nl := Nj.da fun args σ x h => by
 simp only [Nl] at h
 split at h
 ·rename_i a0 a1 a2 a3 a4 a5 a6 a7 a8 a9 a10 a11 a12 a13 a14 a15
  obtain ⟨r, h1, h2⟩ := bE_ h
  simp only [MU, V1 h1, Ye]
  exact h2
 ·cases h
def kh (a0 a1 a2 a3 a4 a5 a6 a7 a8 a9 a10 a11 a12 a13 a14 a15 : Int) : Option Int := ah (ok8 a0 a1 a2 a3 a4 a5 a6 a7 && ok8 a8 a9 a10 a11 a12 a13 a14 a15 && f0 (num a0 a1 a2 a3 a4 a5 a6 a7 * num a8 a9 a10 a11 a12 a13 a14 a15)) (some (num a0 a1 a2 a3 a4 a5 a6 a7 * num a8 a9 a10 a11 a12 a13 a14 a15))
theorem V2 {a0 a1 a2 a3 a4 a5 a6 a7 a8 a9 a10 a11 a12 a13 a14 a15 : Int} {r} (h : kh a0 a1 a2 a3 a4 a5 a6 a7 a8 a9 a10 a11 a12 a13 a14 a15 = some r) : xS a0 a1 a2 a3 a4 a5 a6 a7 a8 a9 a10 a11 a12 a13 a14 a15 = some (r, true) := by
 unfold kh at h
 obtain ⟨h1, h2⟩ := aL h
 rw [Yi] at h1
 simp only [Yh] at h2
 subst h2
 unfold xS gV
 rw [h1.1, h1.2]
 rfl
def cH (x y : Int) : Option Int := kh (aa x 0) (aa x 1) (aa x 2) (aa x 3) (aa x 4) (aa x 5) (aa x 6) (aa x 7) (aa y 0) (aa y 1) (aa y 2) (aa y 3) (aa y 4) (aa y 5) (aa y 6) (aa y 7)
theorem Vu {x y : Int} (hx : fit x) (hy : fit y) (h : fit (x * y)) : cH x y = some (x * y) := by
 unfold cH kh; rw [bz, bz, aD hx, aD hy, ci.2 h]; rfl
def Nn : HK where
 call := fun args σ k => match args with
  | [.agg [.int .u64 a0, .int .u64 a1, .int .u64 a2, .int .u64 a3, .int .u64 a4, .int .u64 a5, .int .u64 a6, .int .u64 a7], .agg [.int .u64 a8, .int .u64 a9, .int .u64 a10, .int .u64 a11, .int .u64 a12, .int .u64 a13, .int .u64 a14, .int .u64 a15]] => Option.bind (kh a0 a1 a2 a3 a4 a5 a6 a7 a8 a9 a10 a11 a12 a13 a14 a15) fun r => k (.ret (.tup [.agg [.int .u64 (aa r 0), .int .u64 (aa r 1), .int .u64 (aa r 2), .int .u64 (aa r 3), .int .u64 (aa r 4), .int .u64 (aa r 5), .int .u64 (aa r 6), .int .u64 (aa r 7)], .bool true])) σ
  | _ => none
 nat := fun args σ k => by
  repeat' split
  all_goals simp only [Yg, Yf, Ye]
 pure := true
 pok := fun _ args σ r σ' h => by
  split at h
  ·obtain ⟨q, h1, h2⟩ := bE_ h
   simp only [Yh, Yj] at h2
   obtain ⟨rfl, rfl⟩ := h2
   exact ⟨rfl, ⟨_, rfl⟩, fun σ2 => by simp only [h1, Ye]⟩
  ·cases h
theorem Rh : aN YI 63 Nn := Ib.da fun args σ x h => by
 simp only [Nn] at h
 split at h
 ·rename_i a0 a1 a2 a3 a4 a5 a6 a7 a8 a9 a10 a11 a12 a13 a14 a15
  obtain ⟨r, h1, h2⟩ := bE_ h
  simp only [JB, V2 h1, Ye]
  exact h2
 ·cases h
def wO (a0 a1 a2 a3 a4 a5 a6 a7 a8 a9 a10 a11 a12 a13 a14 a15 : Int) : Option (Int × Int) := ah (ok8 a0 a1 a2 a3 a4 a5 a6 a7 && ok8 a8 a9 a10 a11 a12 a13 a14 a15 && !decide (num a8 a9 a10 a11 a12 a13 a14 a15 = 0) && f0 ((num a0 a1 a2 a3 a4 a5 a6 a7).fdiv (num a8 a9 a10 a11 a12 a13 a14 a15))) (some ((num a0 a1 a2 a3 a4 a5 a6 a7).fdiv (num a8 a9 a10 a11 a12 a13 a14 a15), (num a0 a1 a2 a3 a4 a5 a6 a7).fmod (num a8 a9 a10 a11 a12 a13 a14 a15)))
theorem V3 {a0 a1 a2 a3 a4 a5 a6 a7 a8 a9 a10 a11 a12 a13 a14 a15 : Int} {r} (h : wO a0 a1 a2 a3 a4 a5 a6 a7 a8 a9 a10 a11 a12 a13 a14 a15 = some r) : O2 a0 a1 a2 a3 a4 a5 a6 a7 a8 a9 a10 a11 a12 a13 a14 a15 = some (r.1, r.2, true) := by
 unfold wO at h
 obtain ⟨h1, h2⟩ := aL h
 simp only [Yi, Bool.not_eq_true'] at h1
 simp only [Yh] at h2
 subst h2
 unfold O2 Q6
 rw [h1.1.1.1, h1.1.1.2, h1.1.2, h1.2]
 rfl
def Xw (x y : Int) : Option (Int × Int) := wO (aa x 0) (aa x 1) (aa x 2) (aa x 3) (aa x 4) (aa x 5) (aa x 6) (aa x 7) (aa y 0) (aa y 1) (aa y 2) (aa y 3) (aa y 4) (aa y 5) (aa y 6) (aa y 7)
theorem PT {x y : Int} (hx : fit x) (hy : fit y) (h0 : y ≠ 0) (h : fit (x.fdiv y)) : Xw x y = some (x.fdiv y, x.fmod y) := by
 unfold Xw wO; rw [bz, bz, aD hx, aD hy, ci.2 h, Ym h0]; rfl
def JH : HK where
 call := fun args σ k => match args with
  | [.agg [.int .u64 a0, .int .u64 a1, .int .u64 a2, .int .u64 a3, .int .u64 a4, .int .u64 a5, .int .u64 a6, .int .u64 a7], .agg [.int .u64 a8, .int .u64 a9, .int .u64 a10, .int .u64 a11, .int .u64 a12, .int .u64 a13, .int .u64 a14, .int .u64 a15]] => Option.bind (wO a0 a1 a2 a3 a4 a5 a6 a7 a8 a9 a10 a11 a12 a13 a14 a15) fun r => k (.ret (.tup [.agg [.int .u64 (aa r.1 0), .int .u64 (aa r.1 1), .int .u64 (aa r.1 2), .int .u64 (aa r.1 3), .int .u64 (aa r.1 4), .int .u64 (aa r.1 5), .int .u64 (aa r.1 6), .int .u64 (aa r.1 7)], .agg [.int .u64 (aa r.2 0), .int .u64 (aa r.2 1), .int .u64 (aa r.2 2), .int .u64 (aa r.2 3), .int .u64 (aa r.2 4), .int .u64 (aa r.2 5), .int .u64 (aa r.2 6), .int .u64 (aa r.2 7)], .bool true])) σ
  | _ => none
 nat := fun args σ k => by
  repeat' split
  all_goals simp only [Yg, Yf, Ye]
 pure := true
 pok := fun _ args σ r σ' h => by
  split at h
  ·obtain ⟨q, h1, h2⟩ := bE_ h
   simp only [Yh, Yj] at h2
   obtain ⟨rfl, rfl⟩ := h2
   exact ⟨rfl, ⟨_, rfl⟩, fun σ2 => by simp only [h1, Ye]⟩
  ·cases h
theorem LP : aN YI 79 JH := Ua.da fun args σ x h => by
 simp only [JH] at h
 split at h
 ·rename_i a0 a1 a2 a3 a4 a5 a6 a7 a8 a9 a10 a11 a12 a13 a14 a15
  obtain ⟨r, h1, h2⟩ := bE_ h
  simp only [Re, V3 h1, Ye]
  exact h2
 ·cases h
def QW (x : Int) : Option Int := rI (aa x 0) (aa x 1) (aa x 2) (aa x 3) (aa x 4) (aa x 5) (aa x 6) (aa x 7)
theorem Ty {x : Int} (hx : fit x) : QW x = some (sgn x) := by
 unfold QW rI; rw [bz, aD hx]; rfl
def SN (x y : Int) : Option Int := Ia (aa x 0) (aa x 1) (aa x 2) (aa x 3) (aa x 4) (aa x 5) (aa x 6) (aa x 7) (aa y 0) (aa y 1) (aa y 2) (aa y 3) (aa y 4) (aa y 5) (aa y 6) (aa y 7)
theorem PU {x y : Int} (hx : fit x) (hy : fit y) : SN x y = some (sgn (x - y)) := by
 unfold SN Ia; rw [bz, bz, aD hx, aD hy]; rfl
def E1 : CH := (CH.add 63 Nn CH.none)
theorem AZ : aB YI E1 := (CH.aj Rh CH.ay)
def mN (a0 a1 a2 a3 a4 a5 a6 a7 a8 a9 a10 a11 a12 a13 a14 a15 : Int) : Option (Int × Int × Int × Int × Int × Int × Int × Int) :=
 (Option.bind (kh a0 a1 a2 a3 a4 a5 a6 a7 a8 a9 a10 a11 a12 a13 a14 a15) fun r1 => (some ((aa r1 0), (aa r1 1), (aa r1 2), (aa r1 3), (aa r1 4), (aa r1 5), (aa r1 6), (aa r1 7))))
def ki : FD where
 X := Int × Int × Int × Int × Int × Int × Int × Int
 k := 0
 pre := []
 F := fun s => []
 M := .agg (rl (.int .u64) 8 [])
 B := []
 toL := fun x => [.I x.1, .I x.2.1, .I x.2.2.1, .I x.2.2.2.1, .I x.s4.1, .I x.s4.2.1, .I x.s4.2.2.1, .I x.s4.2.2.2]
 ofL := fun ls => match ls with
  | [.I x0, .I x1, .I x2, .I x3, .I x4, .I x5, .I x6, .I x7] => some (x0, x1, x2, x3, x4, x5, x6, x7)
  | _ => none
 ar := fun ls x h => by
  split at h
  ·cases h; rfl
  ·cases h
theorem Ed (a0 a1 a2 a3 a4 a5 a6 a7 a8 a9 a10 a11 a12 a13 a14 a15 : Int) (x : Int × Int × Int × Int × Int × Int × Int × Int) (h : mN a0 a1 a2 a3 a4 a5 a6 a7 a8 a9 a10 a11 a12 a13 a14 a15 = some x) : aP YI 66 0 [.agg (v8 a0 a1 a2 a3 a4 a5 a6 a7 []), .agg (v8 a8 a9 a10 a11 a12 a13 a14 a15 [])] [] ki x :=
 FD.semA ki AZ Tryz.func66 (fuel := 60) (by kernel_rfl) (by kernel_rfl)
  (by kernel_rfl) (Eq.trans (by kernel_rfl) h)
def rX : HK where
 call := fun args σ k => match args with
  | [.agg [.int .u64 a0, .int .u64 a1, .int .u64 a2, .int .u64 a3, .int .u64 a4, .int .u64 a5, .int .u64 a6, .int .u64 a7], .agg [.int .u64 a8, .int .u64 a9, .int .u64 a10, .int .u64 a11, .int .u64 a12, .int .u64 a13, .int .u64 a14, .int .u64 a15]] => Option.bind (mN a0 a1 a2 a3 a4 a5 a6 a7 a8 a9 a10 a11 a12 a13 a14 a15) fun y => au σ 0 (ki.val y) (ki.aI y) k
  | _ => none
 nat := fun args σ k => by
  repeat' split
  all_goals simp only [ao, ai, Yg, Yf, au, Ye]
 pure := true
 pok := fun _ args σ r σ' h => by
  split at h
  ·exact aZ h (fun y => rfl) (fun y f => rfl)
  ·cases h
theorem E2 : aN YI 66 rX := by
 intro args σ r σ' h
 simp only [rX] at h
 split at h
 ·rename_i a0 a1 a2 a3 a4 a5 a6 a7 a8 a9 a10 a11 a12 a13 a14 a15
  obtain ⟨y, hy, h⟩ := bE_ h
  exact aG (xs := []) (ls := []) (cargs := [.agg (v8 a0 a1 a2 a3 a4 a5 a6 a7 []), .agg (v8 a8 a9 a10 a11 a12 a13 a14 a15 [])]) (bg.of trivial) rfl (Ed a0 a1 a2 a3 a4 a5 a6 a7 a8 a9 a10 a11 a12 a13 a14 a15 y hy) rfl rfl rfl rfl h
 ·cases h
def GZ : CH := (CH.add 64 Nm CH.none)
theorem B9 : aB YI GZ := (CH.aj Rg CH.ay)
def om (a0 a1 a2 a3 a4 a5 a6 a7 a8 a9 a10 a11 a12 a13 a14 a15 : Int) : Option (Int × Int × Int × Int × Int × Int × Int × Int) :=
 (Option.bind (pN a0 a1 a2 a3 a4 a5 a6 a7 a8 a9 a10 a11 a12 a13 a14 a15) fun r1 => (some ((aa r1 0), (aa r1 1), (aa r1 2), (aa r1 3), (aa r1 4), (aa r1 5), (aa r1 6), (aa r1 7))))
def lA : FD where
 X := Int × Int × Int × Int × Int × Int × Int × Int
 k := 0
 pre := []
 F := fun s => []
 M := .agg (rl (.int .u64) 8 [])
 B := []
 toL := fun x => [.I x.1, .I x.2.1, .I x.2.2.1, .I x.2.2.2.1, .I x.s4.1, .I x.s4.2.1, .I x.s4.2.2.1, .I x.s4.2.2.2]
 ofL := fun ls => match ls with
  | [.I x0, .I x1, .I x2, .I x3, .I x4, .I x5, .I x6, .I x7] => some (x0, x1, x2, x3, x4, x5, x6, x7)
  | _ => none
 ar := fun ls x h => by
  split at h
  ·cases h; rfl
  ·cases h
theorem EX (a0 a1 a2 a3 a4 a5 a6 a7 a8 a9 a10 a11 a12 a13 a14 a15 : Int) (x : Int × Int × Int × Int × Int × Int × Int × Int) (h : om a0 a1 a2 a3 a4 a5 a6 a7 a8 a9 a10 a11 a12 a13 a14 a15 = some x) : aP YI 78 0 [.agg (v8 a0 a1 a2 a3 a4 a5 a6 a7 []), .agg (v8 a8 a9 a10 a11 a12 a13 a14 a15 [])] [] lA x :=
 FD.semA lA B9 Tryz.func78 (fuel := 60) (by kernel_rfl) (by kernel_rfl)
  (by kernel_rfl) (Eq.trans (by kernel_rfl) h)
def tV : HK where
 call := fun args σ k => match args with
  | [.agg [.int .u64 a0, .int .u64 a1, .int .u64 a2, .int .u64 a3, .int .u64 a4, .int .u64 a5, .int .u64 a6, .int .u64 a7], .agg [.int .u64 a8, .int .u64 a9, .int .u64 a10, .int .u64 a11, .int .u64 a12, .int .u64 a13, .int .u64 a14, .int .u64 a15]] => Option.bind (om a0 a1 a2 a3 a4 a5 a6 a7 a8 a9 a10 a11 a12 a13 a14 a15) fun y => au σ 0 (lA.val y) (lA.aI y) k
  | _ => none
 nat := fun args σ k => by
  repeat' split
  all_goals simp only [ao, ai, Yg, Yf, au, Ye]
 pure := true
 pok := fun _ args σ r σ' h => by
  split at h
  ·exact aZ h (fun y => rfl) (fun y f => rfl)
  ·cases h
theorem Ha : aN YI 78 tV := by
 intro args σ r σ' h
 simp only [tV] at h
 split at h
 ·rename_i a0 a1 a2 a3 a4 a5 a6 a7 a8 a9 a10 a11 a12 a13 a14 a15
  obtain ⟨y, hy, h⟩ := bE_ h
  exact aG (xs := []) (ls := []) (cargs := [.agg (v8 a0 a1 a2 a3 a4 a5 a6 a7 []), .agg (v8 a8 a9 a10 a11 a12 a13 a14 a15 [])]) (bg.of trivial) rfl (EX a0 a1 a2 a3 a4 a5 a6 a7 a8 a9 a10 a11 a12 a13 a14 a15 y hy) rfl rfl rfl rfl h
 ·cases h
def GV : CH := (CH.add 38 Nl CH.none)
theorem BZ : aB YI GV := (CH.aj Rf CH.ay)
def ol (a0 a1 a2 a3 a4 a5 a6 a7 a8 a9 a10 a11 a12 a13 a14 a15 : Int) : Option (Int × Int × Int × Int × Int × Int × Int × Int) :=
 (Option.bind (zq a0 a1 a2 a3 a4 a5 a6 a7 a8 a9 a10 a11 a12 a13 a14 a15) fun r1 => (some ((aa r1 0), (aa r1 1), (aa r1 2), (aa r1 3), (aa r1 4), (aa r1 5), (aa r1 6), (aa r1 7))))
def ln : FD where
 X := Int × Int × Int × Int × Int × Int × Int × Int
 k := 0
 pre := []
 F := fun s => []
 M := .agg (rl (.int .u64) 8 [])
 B := []
 toL := fun x => [.I x.1, .I x.2.1, .I x.2.2.1, .I x.2.2.2.1, .I x.s4.1, .I x.s4.2.1, .I x.s4.2.2.1, .I x.s4.2.2.2]
 ofL := fun ls => match ls with
  | [.I x0, .I x1, .I x2, .I x3, .I x4, .I x5, .I x6, .I x7] => some (x0, x1, x2, x3, x4, x5, x6, x7)
  | _ => none
 ar := fun ls x h => by
  split at h
  ·cases h; rfl
  ·cases h
theorem ET (a0 a1 a2 a3 a4 a5 a6 a7 a8 a9 a10 a11 a12 a13 a14 a15 : Int) (x : Int × Int × Int × Int × Int × Int × Int × Int) (h : ol a0 a1 a2 a3 a4 a5 a6 a7 a8 a9 a10 a11 a12 a13 a14 a15 = some x) : aP YI 77 0 [.agg (v8 a0 a1 a2 a3 a4 a5 a6 a7 []), .agg (v8 a8 a9 a10 a11 a12 a13 a14 a15 [])] [] ln x :=
 FD.semA ln BZ Tryz.func77 (fuel := 60) (by kernel_rfl) (by kernel_rfl)
  (by kernel_rfl) (Eq.trans (by kernel_rfl) h)
def tP : HK where
 call := fun args σ k => match args with
  | [.agg [.int .u64 a0, .int .u64 a1, .int .u64 a2, .int .u64 a3, .int .u64 a4, .int .u64 a5, .int .u64 a6, .int .u64 a7], .agg [.int .u64 a8, .int .u64 a9, .int .u64 a10, .int .u64 a11, .int .u64 a12, .int .u64 a13, .int .u64 a14, .int .u64 a15]] => Option.bind (ol a0 a1 a2 a3 a4 a5 a6 a7 a8 a9 a10 a11 a12 a13 a14 a15) fun y => au σ 0 (ln.val y) (ln.aI y) k
  | _ => none
 nat := fun args σ k => by
  repeat' split
  all_goals simp only [ao, ai, Yg, Yf, au, Ye]
 pure := true
 pok := fun _ args σ r σ' h => by
  split at h
  ·exact aZ h (fun y => rfl) (fun y f => rfl)
  ·cases h
theorem GW : aN YI 77 tP := by
 intro args σ r σ' h
 simp only [tP] at h
 split at h
 ·rename_i a0 a1 a2 a3 a4 a5 a6 a7 a8 a9 a10 a11 a12 a13 a14 a15
  obtain ⟨y, hy, h⟩ := bE_ h
  exact aG (xs := []) (ls := []) (cargs := [.agg (v8 a0 a1 a2 a3 a4 a5 a6 a7 []), .agg (v8 a8 a9 a10 a11 a12 a13 a14 a15 [])]) (bg.of trivial) rfl (ET a0 a1 a2 a3 a4 a5 a6 a7 a8 a9 a10 a11 a12 a13 a14 a15 y hy) rfl rfl rfl rfl h
 ·cases h
end Go.Ev
