import Derived.Test.YtbmjabafceihgaaGreatKai
set_option linter.unusedVariables false
set_option linter.unusedSimpArgs false
set_option maxRecDepth 100000
noncomputable section
namespace Go.Ev
open Go.Proofs
abbrev A4 := Int × Int × Int × Int × Int × Int × Int × Int
def Jj : CH := (CH.add 38 K2 CH.none)
theorem Fs : aE Tryz.prog Jj := (CH.aj Lo CH.aC)
def jA (a0 a1 a2 a3 a4 a5 a6 a7 a8 a9 a10 a11 a12 a13 a14 a15 : Int) : Option (A4) :=
 (Option.bind (Dn a0 a1 a2 a3 a4 a5 a6 a7 a8 a9 a10 a11 a12 a13 a14 a15) fun r1 => (cond r1.2 (some ((aa r1.1 0), (aa r1.1 1), (aa r1.1 2), (aa r1.1 3), (aa r1.1 4), (aa r1.1 5), (aa r1.1 6), (aa r1.1 7))) (some ((aa r1.1 0), (aa r1.1 1), (aa r1.1 2), (aa r1.1 3), (aa r1.1 4), (aa r1.1 5), (aa r1.1 6), (aa r1.1 7)))))
def pk : FD where
 X := A4
 k := 0
 pre := []
 F := fun s => []
 M := .agg (rl (.int .u64) 8 [])
 B := []
 toL := fun x => [.I x.1, .I x.2.1, .I x.2.2.1, .I x.2.2.2.1, .I x.s4.1, .I x.s4.2.1, .I x.s4.2.2.1, .I x.s4.2.2.2]
 ofL := fun ls => match ls with
  | [.I x0, .I x1, .I x2, .I x3, .I x4, .I x5, .I x6, .I x7] => some (x0, x1, x2, x3, x4, x5, x6, x7)
  | _ => none
 au := fun ls x h => by
  split at h
  ·cases h; rfl
  ·cases h
theorem HU (a0 a1 a2 a3 a4 a5 a6 a7 a8 a9 a10 a11 a12 a13 a14 a15 : Int) (x : A4) (h : jA a0 a1 a2 a3 a4 a5 a6 a7 a8 a9 a10 a11 a12 a13 a14 a15 = some x) : aX Tryz.prog 116 0 [.agg (v8 a0 a1 a2 a3 a4 a5 a6 a7 []), .agg (v8 a8 a9 a10 a11 a12 a13 a14 a15 [])] [] pk x :=
 FD.semA pk Fs Tryz.func116 (fuel := 60) (by kernel_rfl) (by kernel_rfl)
  (by kernel_rfl) (Eq.trans (by kernel_rfl) h)
def zd : HK where
 call := fun args σ k => match args with
  | [.agg [.int .u64 a0, .int .u64 a1, .int .u64 a2, .int .u64 a3, .int .u64 a4, .int .u64 a5, .int .u64 a6, .int .u64 a7], .agg [.int .u64 a8, .int .u64 a9, .int .u64 a10, .int .u64 a11, .int .u64 a12, .int .u64 a13, .int .u64 a14, .int .u64 a15]] => Option.bind (jA a0 a1 a2 a3 a4 a5 a6 a7 a8 a9 a10 a11 a12 a13 a14 a15) fun y => az σ 0 (pk.val y) (pk.aN y) k
  | _ => none
 nat := fun args σ k => by
  repeat' split
  all_goals simp only [aw, Option.bind_assoc, Option.bind_none, az, Option.bind_some]
 pure := true
 pok := fun _ args σ r σ' h => by
  split at h
  ·exact bm h (fun y => rfl) (fun y f => rfl)
  ·cases h
theorem Jg : aT Tryz.prog 116 zd := by
 intro args σ r σ' h
 simp only [zd] at h
 split at h
 ·rename_i a0 a1 a2 a3 a4 a5 a6 a7 a8 a9 a10 a11 a12 a13 a14 a15
  obtain ⟨y, hy, h⟩ := bE_ h
  exact lifted (xs := []) (ls := []) (cargs := [.agg (v8 a0 a1 a2 a3 a4 a5 a6 a7 []), .agg (v8 a8 a9 a10 a11 a12 a13 a14 a15 [])]) (bt.of trivial) rfl (HU a0 a1 a2 a3 a4 a5 a6 a7 a8 a9 a10 a11 a12 a13 a14 a15 y hy) rfl rfl rfl rfl h
 ·cases h
abbrev ze := Int × Int × Int × Int × Int × Int × Int × Int
def HW : CH := (CH.add 63 HR CH.none)
theorem Do : aE Tryz.prog HW := (CH.aj Gt CH.aC)
def et (a0 a1 a2 a3 a4 a5 a6 a7 a8 a9 a10 a11 a12 a13 a14 a15 : Int) : Option (ze) :=
 (Option.bind (wN a0 a1 a2 a3 a4 a5 a6 a7 a8 a9 a10 a11 a12 a13 a14 a15) fun r1 => (cond r1.2 (some ((aa r1.1 0), (aa r1.1 1), (aa r1.1 2), (aa r1.1 3), (aa r1.1 4), (aa r1.1 5), (aa r1.1 6), (aa r1.1 7))) (some ((aa r1.1 0), (aa r1.1 1), (aa r1.1 2), (aa r1.1 3), (aa r1.1 4), (aa r1.1 5), (aa r1.1 6), (aa r1.1 7)))))
def nJ : FD where
 X := ze
 k := 0
 pre := []
 F := fun s => []
 M := .agg (rl (.int .u64) 8 [])
 B := []
 toL := fun x => [.I x.1, .I x.2.1, .I x.2.2.1, .I x.2.2.2.1, .I x.s4.1, .I x.s4.2.1, .I x.s4.2.2.1, .I x.s4.2.2.2]
 ofL := fun ls => match ls with
  | [.I x0, .I x1, .I x2, .I x3, .I x4, .I x5, .I x6, .I x7] => some (x0, x1, x2, x3, x4, x5, x6, x7)
  | _ => none
 au := fun ls x h => by
  split at h
  ·cases h; rfl
  ·cases h
theorem GB (a0 a1 a2 a3 a4 a5 a6 a7 a8 a9 a10 a11 a12 a13 a14 a15 : Int) (x : ze) (h : et a0 a1 a2 a3 a4 a5 a6 a7 a8 a9 a10 a11 a12 a13 a14 a15 = some x) : aX Tryz.prog 117 0 [.agg (v8 a0 a1 a2 a3 a4 a5 a6 a7 []), .agg (v8 a8 a9 a10 a11 a12 a13 a14 a15 [])] [] nJ x :=
 FD.semA nJ Do Tryz.func117 (fuel := 60) (by kernel_rfl) (by kernel_rfl)
  (by kernel_rfl) (Eq.trans (by kernel_rfl) h)
def wP : HK where
 call := fun args σ k => match args with
  | [.agg [.int .u64 a0, .int .u64 a1, .int .u64 a2, .int .u64 a3, .int .u64 a4, .int .u64 a5, .int .u64 a6, .int .u64 a7], .agg [.int .u64 a8, .int .u64 a9, .int .u64 a10, .int .u64 a11, .int .u64 a12, .int .u64 a13, .int .u64 a14, .int .u64 a15]] => Option.bind (et a0 a1 a2 a3 a4 a5 a6 a7 a8 a9 a10 a11 a12 a13 a14 a15) fun y => az σ 0 (nJ.val y) (nJ.aN y) k
  | _ => none
 nat := fun args σ k => by
  repeat' split
  all_goals simp only [aw, Option.bind_assoc, Option.bind_none, az, Option.bind_some]
 pure := true
 pok := fun _ args σ r σ' h => by
  split at h
  ·exact bm h (fun y => rfl) (fun y f => rfl)
  ·cases h
theorem HT : aT Tryz.prog 117 wP := by
 intro args σ r σ' h
 simp only [wP] at h
 split at h
 ·rename_i a0 a1 a2 a3 a4 a5 a6 a7 a8 a9 a10 a11 a12 a13 a14 a15
  obtain ⟨y, hy, h⟩ := bE_ h
  exact lifted (xs := []) (ls := []) (cargs := [.agg (v8 a0 a1 a2 a3 a4 a5 a6 a7 []), .agg (v8 a8 a9 a10 a11 a12 a13 a14 a15 [])]) (bt.of trivial) rfl (GB a0 a1 a2 a3 a4 a5 a6 a7 a8 a9 a10 a11 a12 a13 a14 a15 y hy) rfl rfl rfl rfl h
 ·cases h
abbrev zc := (I8 (I8 (Int × Int × Int × Int × Int × Int × Int × Int)))
def HS : CH := (CH.add 117 wP (CH.add 116 zd (CH.add 62 tR CH.none)))
theorem Dk : aE Tryz.prog HS := (CH.aj HT (CH.aj Jg (CH.aj wM CH.aC)))
def gb (a0 a1 a2 a3 a4 a5 : Int) : Option (zc) :=
 (Option.bind (kB a0 a1 a2) fun r1 => (Option.bind (kB a3 a4 a5) fun r2 => (Option.bind (et r1.2.2.2.2.2.2.2.2.1 r1.2.2.2.2.2.2.2.2.2.1 r1.2.2.2.2.2.2.2.2.2.2.1 r1.2.2.2.2.2.2.2.2.2.2.2.1 r1.2.2.2.2.2.2.2.2.2.2.2.2.1 r1.2.2.2.2.2.2.2.2.2.2.2.2.2.1 r1.2.2.2.2.2.2.2.2.2.2.2.2.2.2.1 r1.2.2.2.2.2.2.2.2.2.2.2.2.2.2.2.1 r2.2.2.2.2.2.2.2.2.2.2.2.2.2.2.2.2.1 r2.2.2.2.2.2.2.2.2.2.2.2.2.2.2.2.2.2.1 r2.2.2.2.2.2.2.2.2.2.2.2.2.2.2.2.2.2.2.1 r2.2.2.2.2.2.2.2.2.2.2.2.2.2.2.2.2.2.2.2.1 r2.2.2.2.2.2.2.2.2.2.2.2.2.2.2.2.2.2.2.2.2.1 r2.2.2.2.2.2.2.2.2.2.2.2.2.2.2.2.2.2.2.2.2.2.1 r2.2.2.2.2.2.2.2.2.2.2.2.2.2.2.2.2.2.2.2.2.2.2.1 r2.2.2.2.2.2.2.2.2.2.2.2.2.2.2.2.2.2.2.2.2.2.2.2) fun r3 => (Option.bind (et r1.2.2.2.2.2.2.2.2.2.2.2.2.2.2.2.2.1 r1.2.2.2.2.2.2.2.2.2.2.2.2.2.2.2.2.2.1 r1.2.2.2.2.2.2.2.2.2.2.2.2.2.2.2.2.2.2.1 r1.2.2.2.2.2.2.2.2.2.2.2.2.2.2.2.2.2.2.2.1 r1.2.2.2.2.2.2.2.2.2.2.2.2.2.2.2.2.2.2.2.2.1 r1.2.2.2.2.2.2.2.2.2.2.2.2.2.2.2.2.2.2.2.2.2.1 r1.2.2.2.2.2.2.2.2.2.2.2.2.2.2.2.2.2.2.2.2.2.2.1 r1.2.2.2.2.2.2.2.2.2.2.2.2.2.2.2.2.2.2.2.2.2.2.2 r2.2.2.2.2.2.2.2.2.1 r2.2.2.2.2.2.2.2.2.2.1 r2.2.2.2.2.2.2.2.2.2.2.1 r2.2.2.2.2.2.2.2.2.2.2.2.1 r2.2.2.2.2.2.2.2.2.2.2.2.2.1 r2.2.2.2.2.2.2.2.2.2.2.2.2.2.1 r2.2.2.2.2.2.2.2.2.2.2.2.2.2.2.1 r2.2.2.2.2.2.2.2.2.2.2.2.2.2.2.2.1) fun r4 => (Option.bind (jA r3.1 r3.2.1 r3.2.2.1 r3.2.2.2.1 r3.2.2.2.2.1 r3.2.2.2.2.2.1 r3.2.2.2.2.2.2.1 r3.2.2.2.2.2.2.2 r4.1 r4.2.1 r4.2.2.1 r4.2.2.2.1 r4.2.2.2.2.1 r4.2.2.2.2.2.1 r4.2.2.2.2.2.2.1 r4.2.2.2.2.2.2.2) fun r5 => (Option.bind (et r1.2.2.2.2.2.2.2.2.2.2.2.2.2.2.2.2.1 r1.2.2.2.2.2.2.2.2.2.2.2.2.2.2.2.2.2.1 r1.2.2.2.2.2.2.2.2.2.2.2.2.2.2.2.2.2.2.1 r1.2.2.2.2.2.2.2.2.2.2.2.2.2.2.2.2.2.2.2.1 r1.2.2.2.2.2.2.2.2.2.2.2.2.2.2.2.2.2.2.2.2.1 r1.2.2.2.2.2.2.2.2.2.2.2.2.2.2.2.2.2.2.2.2.2.1 r1.2.2.2.2.2.2.2.2.2.2.2.2.2.2.2.2.2.2.2.2.2.2.1 r1.2.2.2.2.2.2.2.2.2.2.2.2.2.2.2.2.2.2.2.2.2.2.2 r2.1 r2.2.1 r2.2.2.1 r2.2.2.2.1 r2.2.2.2.2.1 r2.2.2.2.2.2.1 r2.2.2.2.2.2.2.1 r2.2.2.2.2.2.2.2.1) fun r6 => (Option.bind (et r1.1 r1.2.1 r1.2.2.1 r1.2.2.2.1 r1.2.2.2.2.1 r1.2.2.2.2.2.1 r1.2.2.2.2.2.2.1 r1.2.2.2.2.2.2.2.1 r2.2.2.2.2.2.2.2.2.2.2.2.2.2.2.2.2.1 r2.2.2.2.2.2.2.2.2.2.2.2.2.2.2.2.2.2.1 r2.2.2.2.2.2.2.2.2.2.2.2.2.2.2.2.2.2.2.1 r2.2.2.2.2.2.2.2.2.2.2.2.2.2.2.2.2.2.2.2.1 r2.2.2.2.2.2.2.2.2.2.2.2.2.2.2.2.2.2.2.2.2.1 r2.2.2.2.2.2.2.2.2.2.2.2.2.2.2.2.2.2.2.2.2.2.1 r2.2.2.2.2.2.2.2.2.2.2.2.2.2.2.2.2.2.2.2.2.2.2.1 r2.2.2.2.2.2.2.2.2.2.2.2.2.2.2.2.2.2.2.2.2.2.2.2) fun r7 => (Option.bind (jA r6.1 r6.2.1 r6.2.2.1 r6.2.2.2.1 r6.2.2.2.2.1 r6.2.2.2.2.2.1 r6.2.2.2.2.2.2.1 r6.2.2.2.2.2.2.2 r7.1 r7.2.1 r7.2.2.1 r7.2.2.2.1 r7.2.2.2.2.1 r7.2.2.2.2.2.1 r7.2.2.2.2.2.2.1 r7.2.2.2.2.2.2.2) fun r8 => (Option.bind (et r1.1 r1.2.1 r1.2.2.1 r1.2.2.2.1 r1.2.2.2.2.1 r1.2.2.2.2.2.1 r1.2.2.2.2.2.2.1 r1.2.2.2.2.2.2.2.1 r2.2.2.2.2.2.2.2.2.1 r2.2.2.2.2.2.2.2.2.2.1 r2.2.2.2.2.2.2.2.2.2.2.1 r2.2.2.2.2.2.2.2.2.2.2.2.1 r2.2.2.2.2.2.2.2.2.2.2.2.2.1 r2.2.2.2.2.2.2.2.2.2.2.2.2.2.1 r2.2.2.2.2.2.2.2.2.2.2.2.2.2.2.1 r2.2.2.2.2.2.2.2.2.2.2.2.2.2.2.2.1) fun r9 => (Option.bind (et r1.2.2.2.2.2.2.2.2.1 r1.2.2.2.2.2.2.2.2.2.1 r1.2.2.2.2.2.2.2.2.2.2.1 r1.2.2.2.2.2.2.2.2.2.2.2.1 r1.2.2.2.2.2.2.2.2.2.2.2.2.1 r1.2.2.2.2.2.2.2.2.2.2.2.2.2.1 r1.2.2.2.2.2.2.2.2.2.2.2.2.2.2.1 r1.2.2.2.2.2.2.2.2.2.2.2.2.2.2.2.1 r2.1 r2.2.1 r2.2.2.1 r2.2.2.2.1 r2.2.2.2.2.1 r2.2.2.2.2.2.1 r2.2.2.2.2.2.2.1 r2.2.2.2.2.2.2.2.1) fun r10 => (Option.bind (jA r9.1 r9.2.1 r9.2.2.1 r9.2.2.2.1 r9.2.2.2.2.1 r9.2.2.2.2.2.1 r9.2.2.2.2.2.2.1 r9.2.2.2.2.2.2.2 r10.1 r10.2.1 r10.2.2.1 r10.2.2.2.1 r10.2.2.2.2.1 r10.2.2.2.2.2.1 r10.2.2.2.2.2.2.1 r10.2.2.2.2.2.2.2) fun r11 => (some (r5.1, r5.2.1, r5.2.2.1, r5.2.2.2.1, r5.2.2.2.2.1, r5.2.2.2.2.2.1, r5.2.2.2.2.2.2.1, r5.2.2.2.2.2.2.2, r8.1, r8.2.1, r8.2.2.1, r8.2.2.2.1, r8.2.2.2.2.1, r8.2.2.2.2.2.1, r8.2.2.2.2.2.2.1, r8.2.2.2.2.2.2.2, r11.1, r11.2.1, r11.2.2.1, r11.2.2.2.1, r11.2.2.2.2.1, r11.2.2.2.2.2.1, r11.2.2.2.2.2.2.1, r11.2.2.2.2.2.2.2)))))))))))))
def nI : FD where
 X := zc
 k := 0
 pre := []
 F := fun s => []
 M := .agg (rl (.int .u64) 24 [])
 B := []
 toL := fun x => [.I x.1, .I x.2.1, .I x.2.2.1, .I x.2.2.2.1, .I x.s4.1, .I x.s4.2.1, .I x.s4.2.2.1, .I x.s4.2.2.2.1, .I x.s8.1, .I x.s8.2.1, .I x.s8.2.2.1, .I x.s8.2.2.2.1, .I x.s8.s4.1, .I x.s8.s4.2.1, .I x.s8.s4.2.2.1, .I x.s8.s4.2.2.2.1, .I x.s16.1, .I x.s16.2.1, .I x.s16.2.2.1, .I x.s16.2.2.2.1, .I x.s16.s4.1, .I x.s16.s4.2.1, .I x.s16.s4.2.2.1, .I x.s16.s4.2.2.2]
 ofL := fun ls => match ls with
  | [.I x0, .I x1, .I x2, .I x3, .I x4, .I x5, .I x6, .I x7, .I x8, .I x9, .I x10, .I x11, .I x12, .I x13, .I x14, .I x15, .I x16, .I x17, .I x18, .I x19, .I x20, .I x21, .I x22, .I x23] => some (x0, x1, x2, x3, x4, x5, x6, x7, x8, x9, x10, x11, x12, x13, x14, x15, x16, x17, x18, x19, x20, x21, x22, x23)
  | _ => none
 au := fun ls x h => by
  split at h
  ·cases h; rfl
  ·cases h
theorem Gw (a0 a1 a2 a3 a4 a5 : Int) (x : zc) (h : gb a0 a1 a2 a3 a4 a5 = some x) : aX Tryz.prog 99 0 [.agg [.int .i64 a0, .int .i64 a1, .int .i64 a2], .agg [.int .i64 a3, .int .i64 a4, .int .i64 a5]] [] nI x :=
 FD.semA nI Dk Tryz.func99 (fuel := 60) (by kernel_rfl) (by kernel_rfl)
  (by kernel_rfl) (Eq.trans (by kernel_rfl) h)
def qN : HK where
 call := fun args σ k => match args with
  | [.agg [.int .i64 a0, .int .i64 a1, .int .i64 a2], .agg [.int .i64 a3, .int .i64 a4, .int .i64 a5]] => Option.bind (gb a0 a1 a2 a3 a4 a5) fun y => az σ 0 (nI.val y) (nI.aN y) k
  | _ => none
 nat := fun args σ k => by
  repeat' split
  all_goals simp only [aw, Option.bind_assoc, Option.bind_none, az, Option.bind_some]
 pure := true
 pok := fun _ args σ r σ' h => by
  split at h
  ·exact bm h (fun y => rfl) (fun y f => rfl)
  ·cases h
theorem yB : aT Tryz.prog 99 qN := by
 intro args σ r σ' h
 simp only [qN] at h
 split at h
 ·rename_i a0 a1 a2 a3 a4 a5
  obtain ⟨y, hy, h⟩ := bE_ h
  exact lifted (xs := []) (ls := []) (cargs := [.agg [.int .i64 a0, .int .i64 a1, .int .i64 a2], .agg [.int .i64 a3, .int .i64 a4, .int .i64 a5]]) (bt.of trivial) rfl (Gw a0 a1 a2 a3 a4 a5 y hy) rfl rfl rfl rfl h
 ·cases h
abbrev Dl := Int × Int × Int × Int × Int × Int × Int × Int
def KF : CH := (CH.add 99 qN (CH.add 46 mF CH.none))
theorem Gx : aE Tryz.prog KF := (CH.aj yB (CH.aj qM CH.aC))
def kK (a0 a1 a2 a3 a4 a5 a6 a7 a8 : Int) : Option (Dl) :=
 (Option.bind (gb a3 a4 a5 a6 a7 a8) fun r1 => (Option.bind (iq r1.1 r1.2.1 r1.2.2.1 r1.2.2.2.1 r1.2.2.2.2.1 r1.2.2.2.2.2.1 r1.2.2.2.2.2.2.1 r1.2.2.2.2.2.2.2.1 r1.2.2.2.2.2.2.2.2.1 r1.2.2.2.2.2.2.2.2.2.1 r1.2.2.2.2.2.2.2.2.2.2.1 r1.2.2.2.2.2.2.2.2.2.2.2.1 r1.2.2.2.2.2.2.2.2.2.2.2.2.1 r1.2.2.2.2.2.2.2.2.2.2.2.2.2.1 r1.2.2.2.2.2.2.2.2.2.2.2.2.2.2.1 r1.2.2.2.2.2.2.2.2.2.2.2.2.2.2.2.1 r1.2.2.2.2.2.2.2.2.2.2.2.2.2.2.2.2.1 r1.2.2.2.2.2.2.2.2.2.2.2.2.2.2.2.2.2.1 r1.2.2.2.2.2.2.2.2.2.2.2.2.2.2.2.2.2.2.1 r1.2.2.2.2.2.2.2.2.2.2.2.2.2.2.2.2.2.2.2.1 r1.2.2.2.2.2.2.2.2.2.2.2.2.2.2.2.2.2.2.2.2.1 r1.2.2.2.2.2.2.2.2.2.2.2.2.2.2.2.2.2.2.2.2.2.1 r1.2.2.2.2.2.2.2.2.2.2.2.2.2.2.2.2.2.2.2.2.2.2.1 r1.2.2.2.2.2.2.2.2.2.2.2.2.2.2.2.2.2.2.2.2.2.2.2 a0 a1 a2) fun r2 => (cond r2.2.2.2.2.2.2.2.2 (some (r2.1, r2.2.1, r2.2.2.1, r2.2.2.2.1, r2.2.2.2.2.1, r2.2.2.2.2.2.1, r2.2.2.2.2.2.2.1, r2.2.2.2.2.2.2.2.1)) (some (r2.1, r2.2.1, r2.2.2.1, r2.2.2.2.1, r2.2.2.2.2.1, r2.2.2.2.2.2.1, r2.2.2.2.2.2.2.1, r2.2.2.2.2.2.2.2.1)))))
def qO : FD where
 X := Dl
 k := 0
 pre := []
 F := fun s => []
 M := .agg (rl (.int .u64) 8 [])
 B := []
 toL := fun x => [.I x.1, .I x.2.1, .I x.2.2.1, .I x.2.2.2.1, .I x.s4.1, .I x.s4.2.1, .I x.s4.2.2.1, .I x.s4.2.2.2]
 ofL := fun ls => match ls with
  | [.I x0, .I x1, .I x2, .I x3, .I x4, .I x5, .I x6, .I x7] => some (x0, x1, x2, x3, x4, x5, x6, x7)
  | _ => none
 au := fun ls x h => by
  split at h
  ·cases h; rfl
  ·cases h
theorem Jh (a0 a1 a2 a3 a4 a5 a6 a7 a8 : Int) (x : Dl) (h : kK a0 a1 a2 a3 a4 a5 a6 a7 a8 = some x) : aX Tryz.prog 101 0 [.agg [.int .i64 a0, .int .i64 a1, .int .i64 a2], .agg [.int .i64 a3, .int .i64 a4, .int .i64 a5], .agg [.int .i64 a6, .int .i64 a7, .int .i64 a8]] [] qO x :=
 FD.semA qO Gx Tryz.func101 (fuel := 60) (by kernel_rfl) (by kernel_rfl)
  (by kernel_rfl) (Eq.trans (by kernel_rfl) h)
def A2 : HK where
 call := fun args σ k => match args with
  | [.agg [.int .i64 a0, .int .i64 a1, .int .i64 a2], .agg [.int .i64 a3, .int .i64 a4, .int .i64 a5], .agg [.int .i64 a6, .int .i64 a7, .int .i64 a8]] => Option.bind (kK a0 a1 a2 a3 a4 a5 a6 a7 a8) fun y => az σ 0 (qO.val y) (qO.aN y) k
  | _ => none
 nat := fun args σ k => by
  repeat' split
  all_goals simp only [aw, Option.bind_assoc, Option.bind_none, az, Option.bind_some]
 pure := true
 pok := fun _ args σ r σ' h => by
  split at h
  ·exact bm h (fun y => rfl) (fun y f => rfl)
  ·cases h
theorem KG : aT Tryz.prog 101 A2 := by
 intro args σ r σ' h
 simp only [A2] at h
 split at h
 ·rename_i a0 a1 a2 a3 a4 a5 a6 a7 a8
  obtain ⟨y, hy, h⟩ := bE_ h
  exact lifted (xs := []) (ls := []) (cargs := [.agg [.int .i64 a0, .int .i64 a1, .int .i64 a2], .agg [.int .i64 a3, .int .i64 a4, .int .i64 a5], .agg [.int .i64 a6, .int .i64 a7, .int .i64 a8]]) (bt.of trivial) rfl (Jh a0 a1 a2 a3 a4 a5 a6 a7 a8 y hy) rfl rfl rfl rfl h
 ·cases h
def sm (k : Nat) (z : Int) : Prop := -((2 ^ k : Nat) : Int) ≤ z ∧ z ≤ ((2 ^ k : Nat) : Int)
theorem aW {a b : Nat} {z : Int} (h : sm a z) (hab : a ≤ b) : sm b z := by
 have := Nat.pow_le_pow_right (n := 2) (by decide) hab
 unfold sm at *
 omega
theorem cT {a b : Nat} {x y : Int} (hx : sm a x) (hy : sm b y) : sm (a + b) (x * y) := by
 unfold sm at *
 have h : (x * y).natAbs ≤ 2 ^ (a + b) := by
  rw [Int.natAbs_mul, Nat.pow_add]
  exact Nat.mul_le_mul (by omega) (by omega)
 omega
theorem lJ {a : Nat} {x y : Int} (hx : sm a x) (hy : sm a y) : sm (a + 1) (x + y) := by
 unfold sm at *
 rw [Nat.pow_succ]
 omega
theorem gS {a : Nat} {x y : Int} (hx : sm a x) (hy : sm a y) : sm (a + 1) (x - y) := by
 unfold sm at *
 rw [Nat.pow_succ]
 omega
theorem P1 {a : Nat} {x : Int} (hx : sm a x) : sm a (-x) := by
 unfold sm at *
 omega
theorem nY {a : Nat} : sm a 0 := by
 have := Nat.two_pow_pos a
 unfold sm
 omega
theorem Ti {m : Nat} (hm : m = 255) {x : Int} (h : sm (m + m) x) : fit x := by
 unfold sm at h
 rw [Nat.pow_add, hm] at h
 unfold fit
 omega
theorem aY {a : Nat} {x : Int} (h : sm a x) (ha : a ≤ 510) : fit x := Ti (m := 255) rfl (aW h ha)
theorem EC {x : Int} : bc x = true ↔ -9223372036854775808 ≤ x ∧ x < 9223372036854775808 := by simp [bc]
theorem kz {x : Int} (h : bc x = true) : sm 63 x := by
 have := EC.1 h
 unfold sm; omega
theorem iP {x : Int} (h : bc x = true) : fit x := aY (kz h) (by decide)
theorem HB {z : Int} (h : fit z) : gK z = (z, true) := by unfold gK; rw [ca.2 h]; rfl
theorem E4 {x : Int} (h : bc x = true) : cOf x = some x := by unfold cOf; rw [h]; rfl
theorem NG {x : Int} (hx : fit x) : qW (aa x 0) (aa x 1) (aa x 2) (aa x 3) (aa x 4) (aa x 5) (aa x 6) (aa x 7) = some (sgn x) := by
 unfold qW; rw [bv, aG hx]; rfl
theorem ML {x y : Int} (hx : fit x) (hy : fit y) (h : fit (x + y)) : wO (aa x 0) (aa x 1) (aa x 2) (aa x 3) (aa x 4) (aa x 5) (aa x 6) (aa x 7) (aa y 0) (aa y 1) (aa y 2) (aa y 3) (aa y 4) (aa y 5) (aa y 6) (aa y 7) = some (x + y, true) := by
 unfold wO; rw [bv, bv, aG hx, aG hy, HB h]; rfl
theorem UA {x y : Int} (hx : fit x) (hy : fit y) (h : fit (x - y)) : Dn (aa x 0) (aa x 1) (aa x 2) (aa x 3) (aa x 4) (aa x 5) (aa x 6) (aa x 7) (aa y 0) (aa y 1) (aa y 2) (aa y 3) (aa y 4) (aa y 5) (aa y 6) (aa y 7) = some (x - y, true) := by
 unfold Dn; rw [bv, bv, aG hx, aG hy, HB h]; rfl
theorem IW {x y : Int} (hx : fit x) (hy : fit y) (h : fit (x * y)) : wN (aa x 0) (aa x 1) (aa x 2) (aa x 3) (aa x 4) (aa x 5) (aa x 6) (aa x 7) (aa y 0) (aa y 1) (aa y 2) (aa y 3) (aa y 4) (aa y 5) (aa y 6) (aa y 7) = some (x * y, true) := by
 unfold wN; rw [bv, bv, aG hx, aG hy, HB h]; rfl
theorem UB {y : Int} (hy : fit y) : wO 0 0 0 0 0 0 0 0 (aa y 0) (aa y 1) (aa y 2) (aa y 3) (aa y 4) (aa y 5) (aa y 6) (aa y 7) = some (y, true) := by
 have h := ML zN hy (by rw [Int.zero_add]; exact hy)
 simp only [f0, Int.zero_add] at h
 exact h
abbrev T24 := (I8 (I8 (Int × Int × Int × Int × Int × Int × Int × Int)))
def t24 (x y z : Int) : T24 := (aa x 0, aa x 1, aa x 2, aa x 3, aa x 4, aa x 5, aa x 6, aa x 7, aa y 0, aa y 1, aa y 2, aa y 3, aa y 4, aa y 5, aa y 6, aa y 7, aa z 0, aa z 1, aa z 2, aa z 3, aa z 4, aa z 5, aa z 6, aa z 7)
theorem Li {x y z : Int} (hx : bc x = true) (hy : bc y = true) (hz : bc z = true) : kB x y z = some (t24 x y z) := by
 simp only [kB, E4 hx, E4 hy, E4 hz, Option.bind_some, t24]
theorem JW {x y z a b c : Int} (hx : fit x) (hy : fit y) (hz : fit z) (ha : bc a = true) (hb : bc b = true) (hc : bc c = true) (h1 : fit (x * a)) (h2 : fit (y * b)) (h3 : fit (z * c)) (h4 : fit (x * a + y * b)) (h5 : fit (x * a + y * b + z * c)) :
  iq (aa x 0) (aa x 1) (aa x 2) (aa x 3) (aa x 4) (aa x 5) (aa x 6) (aa x 7) (aa y 0) (aa y 1) (aa y 2) (aa y 3) (aa y 4) (aa y 5) (aa y 6) (aa y 7) (aa z 0) (aa z 1) (aa z 2) (aa z 3) (aa z 4) (aa z 5) (aa z 6) (aa z 7) a b c = some (t9 (x * a + y * b + z * c) true) := by
 unfold iq
 rw [Li ha hb hc, Option.bind_some]
 simp only [t24, IW hx (iP ha) h1, IW hy (iP hb) h2, IW hz (iP hc) h3, Option.bind_some, cond_true, UB h1, ML h1 h2 h4, ML h4 h3 h5, t9]
theorem Va {x y z a b c : Int} (hx : bc x = true) (hy : bc y = true) (hz : bc z = true) (ha : bc a = true) (hb : bc b = true) (hc : bc c = true) :
  qP x y z a b c = some (t8 (x * a + y * b + z * c)) := by
 have s1 := cT (kz hx) (kz ha)
 have s2 := cT (kz hy) (kz hb)
 have s3 := cT (kz hz) (kz hc)
 have s4 := lJ s1 s2
 have s5 := lJ s4 (aW s3 (show 63 + 63 ≤ 63 + 63 + 1 by decide))
 have h := JW (iP hx) (iP hy) (iP hz) ha hb hc (aY s1 (by decide)) (aY s2 (by decide)) (aY s3 (by decide)) (aY s4 (by decide)) (aY s5 (by decide))
 unfold qP
 rw [Li hx hy hz, Option.bind_some]
 simp only [t24, h, Option.bind_some, t9, cond_true, t8]
theorem tv {x y : Int} (hx : fit x) (hy : fit y) (h : fit (x * y)) : et (aa x 0) (aa x 1) (aa x 2) (aa x 3) (aa x 4) (aa x 5) (aa x 6) (aa x 7) (aa y 0) (aa y 1) (aa y 2) (aa y 3) (aa y 4) (aa y 5) (aa y 6) (aa y 7) = some (t8 (x * y)) := by
 simp only [et, IW hx hy h, Option.bind_some, cond_true, t8]
theorem JX {x y : Int} (hx : fit x) (hy : fit y) (h : fit (x - y)) : jA (aa x 0) (aa x 1) (aa x 2) (aa x 3) (aa x 4) (aa x 5) (aa x 6) (aa x 7) (aa y 0) (aa y 1) (aa y 2) (aa y 3) (aa y 4) (aa y 5) (aa y 6) (aa y 7) = some (t8 (x - y)) := by
 simp only [jA, UA hx hy h, Option.bind_some, cond_true, t8]
theorem NU {x y z a b c : Int} (hx : bc x = true) (hy : bc y = true) (hz : bc z = true) (ha : bc a = true) (hb : bc b = true) (hc : bc c = true) :
  gb x y z a b c = some (t24 (y * c - z * b) (z * a - x * c) (x * b - y * a)) := by
 have hp : ∀ {u v : Int}, bc u = true → bc v = true → fit (u * v) := fun hu hv => aY (cT (kz hu) (kz hv)) (by decide)
 have hs : ∀ {u v s t : Int}, bc u = true → bc v = true → bc s = true → bc t = true → fit (u * v - s * t) := fun hu hv hs ht => aY (gS (cT (kz hu) (kz hv)) (cT (kz hs) (kz ht))) (by decide)
 unfold gb
 rw [Li hx hy hz, Option.bind_some, Li ha hb hc, Option.bind_some]
 simp only [t24, tv (iP hy) (iP hc) (hp hy hc), tv (iP hz) (iP hb) (hp hz hb), tv (iP hz) (iP ha) (hp hz ha), tv (iP hx) (iP hc) (hp hx hc), tv (iP hx) (iP hb) (hp hx hb), tv (iP hy) (iP ha) (hp hy ha), Option.bind_some, t8,
  JX (hp hy hc) (hp hz hb) (hs hy hc hz hb), JX (hp hz ha) (hp hx hc) (hs hz ha hx hc), JX (hp hx hb) (hp hy ha) (hs hx hb hy ha)]
def UC (a b c x y z u v w : Int) : Int := (y * w - z * v) * a + (z * u - x * w) * b + (x * v - y * u) * c
theorem Vb {a b c x y z u v w : Int} (ha : bc a = true) (hb : bc b = true) (hc : bc c = true) (hx : bc x = true) (hy : bc y = true) (hz : bc z = true) (hu : bc u = true) (hv : bc v = true) (hw : bc w = true) :
  kK a b c x y z u v w = some (t8 (UC a b c x y z u v w)) := by
 have hs : ∀ {u v s t : Int}, bc u = true → bc v = true → bc s = true → bc t = true → sm 127 (u * v - s * t) := fun hu hv hs ht => gS (cT (kz hu) (kz hv)) (cT (kz hs) (kz ht))
 have c1 := hs hy hw hz hv
 have c2 := hs hz hu hx hw
 have c3 := hs hx hv hy hu
 have d1 := cT c1 (kz ha)
 have d2 := cT c2 (kz hb)
 have d3 := cT c3 (kz hc)
 have d4 := lJ d1 d2
 have d5 := lJ d4 (aW d3 (show 127 + 63 ≤ 127 + 63 + 1 by decide))
 have h := JW (aY c1 (by decide)) (aY c2 (by decide)) (aY c3 (by decide)) ha hb hc (aY d1 (by decide)) (aY d2 (by decide)) (aY d3 (by decide)) (aY d4 (by decide)) (aY d5 (by decide))
 unfold kK
 rw [NU hx hy hz hu hv hw, Option.bind_some]
 simp only [t24, h, Option.bind_some, t9, cond_true, t8, UC]
def bnd (x : Int) : Bool := decide (-268435456 ≤ x) && decide (x ≤ 268435456)
theorem je {x : Int} : bnd x = true ↔ -268435456 ≤ x ∧ x ≤ 268435456 := by simp [bnd]
theorem NM (x y z : Int) : jW x y z = some (cond (bnd x && bnd y && bnd z) 0 7) := by
 have e1 : ∀ t : Int, decide (t < (-268435456)) = !decide (-268435456 ≤ t) := fun t => by rw [← decide_not]; congr 1; simp
 have e2 : ∀ t : Int, decide (t > 268435456) = !decide (t ≤ 268435456) := fun t => by rw [← decide_not]; congr 1; simp
 unfold jW bnd
 simp only [e1, e2]
 cases decide (-268435456 ≤ x) <;> cases decide (x ≤ 268435456) <;> cases decide (-268435456 ≤ y) <;> cases decide (y ≤ 268435456) <;> cases decide (-268435456 ≤ z) <;> cases decide (z ≤ 268435456) <;> rfl
def pG : CH := (CH.add 13 qD CH.none)
theorem sw : aE Tryz.prog pG := (CH.aj yr CH.aC)
def dY {R : Type} (cc : LA_ × Nat × Int) (v : Int) (kn : (Int) → Option R) (ke : ((Unit) ⊕ (Unit)) → Option R) : Option R :=
 (cond (decide (v < cc.2.2)) (ag (decide (0 ≤ v) && decide (v < ((cc.2.1 : Nat) : Int))) (ag (an ln cc.1 (Int.toNat v * 3)) (Option.bind (jW (ac cc.1 ((Int.toNat v * 3) + 0)) (ac cc.1 ((Int.toNat v * 3) + 1)) (ac cc.1 ((Int.toNat v * 3) + 2))) fun r1 => (cond (r1 != 0) (ke (.inl ())) (kn (IntKind.wrap .i64 (v + 1))))))) (ke (.inr ())))
def jN (cc : LA_ × Nat × Int) (v : Int) : Option ((Int) ⊕ ((Unit) ⊕ (Unit))) := dY cc v (fun v => some (Sum.inl v)) fun e => some (Sum.inr e)
def wY (cc : LA_ × Nat × Int) (v : Int) : Option ((Unit) ⊕ (Unit)) := dA (jN cc) v
def CN (cc : LA_ × Nat × Int) (v : Int) : List ai := [.I cc.2.2, .I v, .C cc.1, .N cc.2.1]
def sx (ls : List ai) : Option ((LA_ × Nat × Int) × (Int)) := match ls with
 | [.I x0, .I x1, .C x2, .N x3] => some ((x2, x3, x0), x1)
 | _ => none
def sy (e : (Unit) ⊕ (Unit)) : am := ((Sum.elim (fun e => .ret) (fun e => .exit 0)) e)
def sA (cc : LA_ × Nat × Int) (e : (Unit) ⊕ (Unit)) : List ai := ((Sum.elim (fun e => []) (fun e => [])) e)
def qU (cc : LA_ × Nat × Int) (e : (Unit) ⊕ (Unit)) : List ai := ((Sum.elim (fun e => []) (fun e => [])) e)
def lY (o : am) (ls : List ai) : Option (((Unit) ⊕ (Unit)) × List ai) := match o with
 | .ret => (match ls with
  | [] => some ((.inl ()), [])
  | _ => none)
 | .exit 0 => (match ls with
  | [] => some ((.inr ()), [])
  | _ => none)
 | _ => none
theorem zp : ∀ o ls e cl cc, lY o ls = some (e, cl) → cl = qU cc e → ls = sA cc e ∧ sy e = o ∧ o ≠ .normal ∧ ∀ v, o = .pan v → sc 0 v = true := by
 intro o ls e cl cc h hc
 unfold lY at h
 split at h
 ·split at h
  ·cases h
   exact ⟨rfl, rfl, by simp, by intro v hv; cases hv <;> rfl⟩
  ·cases h
 ·split at h
  ·cases h
   exact ⟨rfl, rfl, by simp, by intro v hv; cases hv <;> rfl⟩
  ·cases h
 ·cases h
def Dp (o : am) : ExS := match o with
 | .ret => ⟨1, (none :: none :: some (.qS false) :: (rl none 12 [])), [], fun s => [0], [], []⟩
 | .exit 0 => ⟨1, (rl none 15 []), [], fun s => [0], [], []⟩
 | _ => ⟨0, [], [], fun _ => [], [], []⟩
theorem CO {R : Type} (cc : LA_ × Nat × Int) (v : Int) (kn : (Int) → Option R) (ke : ((Unit) ⊕ (Unit)) → Option R) : dY cc v kn ke = (dY cc v (fun v => some (Sum.inl v)) fun e => some (Sum.inr e)).bind (Sum.elim kn ke) := by
 simp only [dY, bF, ax, Option.bind_assoc, bY, bB, Option.bind_some, Option.bind_none, Sum.elim_inl, Sum.elim_inr]
def vB : LD where
 CC := LA_ × Nat × Int
 V := Int
 E := (Unit) ⊕ (Unit)
 n := 1
 K := 1
 M := (rl none 5 (some (.vec 0) :: some (.int .i64) :: some (.int .i64) :: (rl none 7 [])))
 B := [(0, .vec 3 false)]
 D := []
 pre := []
 F := fun s => [0]
 toL := CN
 ofL := sx
 au := fun ls c v h => by
  unfold sx at h
  split at h
  ·cases h; rfl
  ·cases h
 cj := dY
 nat := CO
 sh := Dp
 out := sy
 toE := sA
 eV := qU
 ofE := lY
 cO := zp
 post := fun cc e k => ((Sum.elim (fun e => k (.ret) (aV 1 (none :: none :: some (.bool false) :: (rl none 12 [])) [] [])) (fun e => k (.exit 0) (aV 1 (rl none 15 []) [] []))) e)
 cd := fun cc e k => by rcases e with e | e <;> rfl
theorem CP : cG Tryz.prog 1 vB.la (aK Tryz.f71 0) :=
 LD.ok (ch := pG) (A := bu) aL sw mixed (fuel := 60) ⟨by kernel_rfl, fun e => by (rcases e with e | e <;> kernel_rfl), fun cc v => by kernel_rfl, aJ (l := []) (by kernel_rfl) trivial⟩
def lF (cs0 : LA_) (n1 : Nat) : Option (Bool) :=
 (Option.bind (wY (cs0, n1, ((n1 : Nat) : Int)) 0) (Sum.elim (fun e1 => (some false)) (fun e1 => (some true))))
def mv : FD where
 X := Bool
 k := 1
 pre := []
 F := fun s => [0]
 M := .bool
 B := []
 toL := fun x => [.B x]
 ofL := fun ls => match ls with
  | [.B x0] => some x0
  | _ => none
 au := fun ls x h => by
  split at h
  ·cases h; rfl
  ·cases h
theorem Ft (cs0 : LA_) (n1 : Nat) (x : Bool) (h : lF cs0 n1 = some x) : aX Tryz.prog 71 1 [.vec 0] [.vec cs0 n1 3 false] mv x :=
 FD.sem (ch := pG) (A := dW [(2, vB.la)]) (fn := Tryz.f71) (c := bq Tryz.f71) (fuel := 60) aL sw mixed bE mv Tryz.func71 (by kernel_rfl) (aJ (l := [aK Tryz.f71 0]) (by kernel_rfl) ⟨bR (by kernel_rfl) CP, trivial⟩)
  (by kernel_rfl) (Eq.trans (by kernel_rfl) h)
def uP : HK where
 call := fun args σ k => match args with
  | [x0] => cr σ 3 x0 fun cs0 n1 => Option.bind (lF cs0 n1) fun y => az σ 1 (mv.val y) (mv.aN y) k
  | _ => none
 nat := fun args σ k => by
  repeat' split
  all_goals simp only [aw, Option.bind_assoc, Option.bind_none, az, Option.bind_some]
 pure := false
 pok := fun h => by cases h
theorem GC : aT Tryz.prog 71 uP := by
 intro args σ r σ' h
 simp only [uP] at h
 split at h
 ·rename_i x0
  obtain ⟨cs0, n1, he0, hf0, h⟩ := bf h
  obtain ⟨y, hy, h⟩ := bE_ h
  exact lifted (xs := [x0]) (ls := [.vec cs0 n1 3 false]) (cargs := [.vec 0]) (bt.of ⟨⟨rfl, he0, hf0, by decide⟩, trivial⟩) rfl (Ft cs0 n1 y hy) rfl rfl rfl rfl h
 ·cases h
def GD : CH := CH.none
theorem CQ : aE Tryz.prog GD := CH.aC
def ck (a0 a1 a2 a3 a4 a5 : Int) : Option (Int × Int × Int) :=
 (some ((IntKind.wrap .i64 (a0 - a3)), (IntKind.wrap .i64 (a1 - a4)), (IntKind.wrap .i64 (a2 - a5))))
def mw : FD where
 X := Int × Int × Int
 k := 0
 pre := []
 F := fun s => []
 M := .agg [.int .i64, .int .i64, .int .i64]
 B := []
 toL := fun x => [.I x.1, .I x.2.1, .I x.2.2]
 ofL := fun ls => match ls with
  | [.I x0, .I x1, .I x2] => some (x0, x1, x2)
  | _ => none
 au := fun ls x h => by
  split at h
  ·cases h; rfl
  ·cases h
theorem Fu (a0 a1 a2 a3 a4 a5 : Int) (x : Int × Int × Int) (h : ck a0 a1 a2 a3 a4 a5 = some x) : aX Tryz.prog 100 0 [.agg [.int .i64 a0, .int .i64 a1, .int .i64 a2], .agg [.int .i64 a3, .int .i64 a4, .int .i64 a5]] [] mw x :=
 FD.semA mw CQ Tryz.func100 (fuel := 60) (by kernel_rfl) (by kernel_rfl)
  (by kernel_rfl) (Eq.trans (by kernel_rfl) h)
def uQ : HK where
 call := fun args σ k => match args with
  | [.agg [.int .i64 a0, .int .i64 a1, .int .i64 a2], .agg [.int .i64 a3, .int .i64 a4, .int .i64 a5]] => Option.bind (ck a0 a1 a2 a3 a4 a5) fun y => az σ 0 (mw.val y) (mw.aN y) k
  | _ => none
 nat := fun args σ k => by
  repeat' split
  all_goals simp only [aw, Option.bind_assoc, Option.bind_none, az, Option.bind_some]
 pure := true
 pok := fun _ args σ r σ' h => by
  split at h
  ·exact bm h (fun y => rfl) (fun y f => rfl)
  ·cases h
theorem GE : aT Tryz.prog 100 uQ := by
 intro args σ r σ' h
 simp only [uQ] at h
 split at h
 ·rename_i a0 a1 a2 a3 a4 a5
  obtain ⟨y, hy, h⟩ := bE_ h
  exact lifted (xs := []) (ls := []) (cargs := [.agg [.int .i64 a0, .int .i64 a1, .int .i64 a2], .agg [.int .i64 a3, .int .i64 a4, .int .i64 a5]]) (bt.of trivial) rfl (Fu a0 a1 a2 a3 a4 a5 y hy) rfl rfl rfl rfl h
 ·cases h
def w9 : CH := (CH.add 101 A2 (CH.add 100 uQ (CH.add 99 qN (CH.add 56 Dr CH.none))))
theorem tU : aE Tryz.prog w9 := (CH.aj KG (CH.aj GE (CH.aj yB (CH.aj Ds CH.aC))))
def ce (cs0 : LA_) (n1 : Nat) (a2 a3 a4 : Int) : Option (Bool) :=
 (cond (((n1 : Nat) : Int) == 0) (some true) (cond (((n1 : Nat) : Int) == 1) (ag (decide (0 ≤ 0) && decide (0 < ((n1 : Nat) : Int))) (ag (an ln cs0 (Int.toNat 0 * 3)) (cond (!(a2 == (ac cs0 ((Int.toNat 0 * 3) + 0)) && (a3 == (ac cs0 ((Int.toNat 0 * 3) + 1)) && (a4 == (ac cs0 ((Int.toNat 0 * 3) + 2)) && true)))) (some true) (some false)))) (cond (((n1 : Nat) : Int) == 2) (ag (decide (0 ≤ 1) && decide (1 < ((n1 : Nat) : Int))) (ag (an ln cs0 (Int.toNat 1 * 3)) (ag (decide (0 ≤ 0) && decide (0 < ((n1 : Nat) : Int))) (ag (an ln cs0 (Int.toNat 0 * 3)) (Option.bind (ck (ac cs0 ((Int.toNat 1 * 3) + 0)) (ac cs0 ((Int.toNat 1 * 3) + 1)) (ac cs0 ((Int.toNat 1 * 3) + 2)) (ac cs0 ((Int.toNat 0 * 3) + 0)) (ac cs0 ((Int.toNat 0 * 3) + 1)) (ac cs0 ((Int.toNat 0 * 3) + 2))) fun r1 => (ag (decide (0 ≤ 0) && decide (0 < ((n1 : Nat) : Int))) (ag (an ln cs0 (Int.toNat 0 * 3)) (Option.bind (ck a2 a3 a4 (ac cs0 ((Int.toNat 0 * 3) + 0)) (ac cs0 ((Int.toNat 0 * 3) + 1)) (ac cs0 ((Int.toNat 0 * 3) + 2))) fun r2 => (Option.bind (gb r1.1 r1.2.1 r1.2.2 r2.1 r2.2.1 r2.2.2) fun r3 => (cond (!(r3.1 == 0 && (r3.2.1 == 0 && (r3.2.2.1 == 0 && (r3.2.2.2.1 == 0 && (r3.2.2.2.2.1 == 0 && (r3.2.2.2.2.2.1 == 0 && (r3.2.2.2.2.2.2.1 == 0 && (r3.2.2.2.2.2.2.2.1 == 0 && (r3.2.2.2.2.2.2.2.2.1 == 0 && (r3.2.2.2.2.2.2.2.2.2.1 == 0 && (r3.2.2.2.2.2.2.2.2.2.2.1 == 0 && (r3.2.2.2.2.2.2.2.2.2.2.2.1 == 0 && (r3.2.2.2.2.2.2.2.2.2.2.2.2.1 == 0 && (r3.2.2.2.2.2.2.2.2.2.2.2.2.2.1 == 0 && (r3.2.2.2.2.2.2.2.2.2.2.2.2.2.2.1 == 0 && (r3.2.2.2.2.2.2.2.2.2.2.2.2.2.2.2.1 == 0 && (r3.2.2.2.2.2.2.2.2.2.2.2.2.2.2.2.2.1 == 0 && (r3.2.2.2.2.2.2.2.2.2.2.2.2.2.2.2.2.2.1 == 0 && (r3.2.2.2.2.2.2.2.2.2.2.2.2.2.2.2.2.2.2.1 == 0 && (r3.2.2.2.2.2.2.2.2.2.2.2.2.2.2.2.2.2.2.2.1 == 0 && (r3.2.2.2.2.2.2.2.2.2.2.2.2.2.2.2.2.2.2.2.2.1 == 0 && (r3.2.2.2.2.2.2.2.2.2.2.2.2.2.2.2.2.2.2.2.2.2.1 == 0 && (r3.2.2.2.2.2.2.2.2.2.2.2.2.2.2.2.2.2.2.2.2.2.2.1 == 0 && (r3.2.2.2.2.2.2.2.2.2.2.2.2.2.2.2.2.2.2.2.2.2.2.2 == 0 && true))))))))))))))))))))))))) (some true) (some false))))))))))) (cond (((n1 : Nat) : Int) == 3) (ag (decide (0 ≤ 1) && decide (1 < ((n1 : Nat) : Int))) (ag (an ln cs0 (Int.toNat 1 * 3)) (ag (decide (0 ≤ 0) && decide (0 < ((n1 : Nat) : Int))) (ag (an ln cs0 (Int.toNat 0 * 3)) (Option.bind (ck (ac cs0 ((Int.toNat 1 * 3) + 0)) (ac cs0 ((Int.toNat 1 * 3) + 1)) (ac cs0 ((Int.toNat 1 * 3) + 2)) (ac cs0 ((Int.toNat 0 * 3) + 0)) (ac cs0 ((Int.toNat 0 * 3) + 1)) (ac cs0 ((Int.toNat 0 * 3) + 2))) fun r4 => (ag (decide (0 ≤ 2) && decide (2 < ((n1 : Nat) : Int))) (ag (an ln cs0 (Int.toNat 2 * 3)) (ag (decide (0 ≤ 0) && decide (0 < ((n1 : Nat) : Int))) (ag (an ln cs0 (Int.toNat 0 * 3)) (Option.bind (ck (ac cs0 ((Int.toNat 2 * 3) + 0)) (ac cs0 ((Int.toNat 2 * 3) + 1)) (ac cs0 ((Int.toNat 2 * 3) + 2)) (ac cs0 ((Int.toNat 0 * 3) + 0)) (ac cs0 ((Int.toNat 0 * 3) + 1)) (ac cs0 ((Int.toNat 0 * 3) + 2))) fun r5 => (ag (decide (0 ≤ 0) && decide (0 < ((n1 : Nat) : Int))) (ag (an ln cs0 (Int.toNat 0 * 3)) (Option.bind (ck a2 a3 a4 (ac cs0 ((Int.toNat 0 * 3) + 0)) (ac cs0 ((Int.toNat 0 * 3) + 1)) (ac cs0 ((Int.toNat 0 * 3) + 2))) fun r6 => (Option.bind (kK r4.1 r4.2.1 r4.2.2 r5.1 r5.2.1 r5.2.2 r6.1 r6.2.1 r6.2.2) fun r7 => (Option.bind (qW r7.1 r7.2.1 r7.2.2.1 r7.2.2.2.1 r7.2.2.2.2.1 r7.2.2.2.2.2.1 r7.2.2.2.2.2.2.1 r7.2.2.2.2.2.2.2) fun r8 => (cond (r8 != 0) (some true) (some false))))))))))))))))) (some false)))))
def fy : FD where
 X := Bool
 k := 2
 pre := []
 F := fun s => [0, 1]
 M := .bool
 B := []
 toL := fun x => [.B x]
 ofL := fun ls => match ls with
  | [.B x0] => some x0
  | _ => none
 au := fun ls x h => by
  split at h
  ·cases h; rfl
  ·cases h
theorem vZ (cs0 : LA_) (n1 : Nat) (a2 a3 a4 : Int) (x : Bool) (h : ce cs0 n1 a2 a3 a4 = some x) : aX Tryz.prog 70 2 [.ptr 0 0, .agg [.int .i64 a2, .int .i64 a3, .int .i64 a4]] [.cells [.vec 1] false none, .vec cs0 n1 3 false] fy x :=
 FD.semA fy tU Tryz.func70 (fuel := 60) (by kernel_rfl) (by kernel_rfl)
  (by kernel_rfl) (Eq.trans (by kernel_rfl) h)
def j7 : HK where
 call := fun args σ k => match args with
  | [.ptr b0 0, .agg [.int .i64 a2, .int .i64 a3, .int .i64 a4]] => match σ.get b0 with | some (.cells [x1] _ _) => (cr σ 3 x1 fun cs0 n1 => Option.bind (ce cs0 n1 a2 a3 a4) fun y => az σ 2 (fy.val y) (fy.aN y) k) | _ => none
  | _ => none
 nat := fun args σ k => by
  repeat' split
  all_goals simp only [aw, Option.bind_assoc, Option.bind_none, az, Option.bind_some]
 pure := false
 pok := fun h => by cases h
theorem wZ : aT Tryz.prog 70 j7 := by
 intro args σ r σ' h
 simp only [j7] at h
 split at h
 ·rename_i b0 a2 a3 a4
  split at h
  ·rename_i x1 own0 gr0 hb0
   obtain ⟨cs0, n1, he1, hf1, h⟩ := bf h
   obtain ⟨y, hy, h⟩ := bE_ h
   exact lifted (xs := [.ptr b0 0, x1]) (ls := [.cells [.vec 1] false none, .vec cs0 n1 3 false]) (cargs := [.ptr 0 0, .agg [.int .i64 a2, .int .i64 a3, .int .i64 a4]]) (bt.of ⟨⟨rfl, rfl, by simp, rfl, b0, 0, rfl, by simp [cZ, hb0, sV, sub]⟩, ⟨rfl, he1, hf1, by decide⟩, trivial⟩) rfl (vZ cs0 n1 a2 a3 a4 y hy) rfl rfl rfl rfl h
  ·cases h
 ·cases h
abbrev dn := LA_ × Nat × LA_ × Nat × Int
def mP : CH := (CH.add 71 uP (CH.add 70 j7 CH.none))
theorem p7 : aE Tryz.prog mP := (CH.aj GC (CH.aj wZ CH.aC))
def cK {R : Type} (cc : LA_ × Nat × Int) (v : dn) (kn : (dn) → Option R) (ke : ((LA_ × Nat)) → Option R) : Option R :=
 (cond (decide (v.2.2.2.2 < cc.2.2)) (ag (decide (0 ≤ v.2.2.2.2) && decide (v.2.2.2.2 < ((cc.2.1 : Nat) : Int))) (ag (an ln cc.1 (Int.toNat v.2.2.2.2 * 3)) (Option.bind (ce v.2.2.1 v.2.2.2.1 (ac cc.1 ((Int.toNat v.2.2.2.2 * 3) + 0)) (ac cc.1 ((Int.toNat v.2.2.2.2 * 3) + 1)) (ac cc.1 ((Int.toNat v.2.2.2.2 * 3) + 2))) fun r2 => (cond r2 (ag (decide (2 * (v.2.2.2.1 + 1) * 24 ≤ 2 ^ 48)) (ag (decide (2 * (v.2.1 + 1) * 8 ≤ 2 ^ 48)) (kn ((v.1 ++ [.int .i64 v.2.2.2.2]), (v.2.1 + 1), (v.2.2.1 ++ [.int .i64 (ac cc.1 ((Int.toNat v.2.2.2.2 * 3) + 0)), .int .i64 (ac cc.1 ((Int.toNat v.2.2.2.2 * 3) + 1)), .int .i64 (ac cc.1 ((Int.toNat v.2.2.2.2 * 3) + 2))]), (v.2.2.2.1 + 1), (IntKind.wrap .i64 (v.2.2.2.2 + 1)))))) (kn (v.1, v.2.1, v.2.2.1, v.2.2.2.1, (IntKind.wrap .i64 (v.2.2.2.2 + 1)))))))) (ke (v.1, v.2.1)))
def fB (cc : LA_ × Nat × Int) (v : dn) : Option ((dn) ⊕ ((LA_ × Nat))) := cK cc v (fun v => some (Sum.inl v)) fun e => some (Sum.inr e)
def tT (cc : LA_ × Nat × Int) (v : dn) : Option ((LA_ × Nat)) := dA (fB cc) v
def Af (cc : LA_ × Nat × Int) (v : dn) : List ai := [.I cc.2.2, .I v.s4, .C v.1, .N v.2.1, .C v.2.2.1, .N v.2.2.2.1, .C cc.1, .N cc.2.1]
def p8 (ls : List ai) : Option ((LA_ × Nat × Int) × (dn)) := match ls with
 | [.I x0, .I x1, .C x2, .N x3, .C x4, .N x5, .C x6, .N x7] => some ((x6, x7, x0), (x2, x3, x4, x5, x1))
 | _ => none
def p9 (e : (LA_ × Nat)) : am := ((fun e => .exit 0) e)
def qa (cc : LA_ × Nat × Int) (e : (LA_ × Nat)) : List ai := ((fun e => [.C e.1, .N e.2]) e)
def oU (cc : LA_ × Nat × Int) (e : (LA_ × Nat)) : List ai := ((fun e => []) e)
def j8 (o : am) (ls : List ai) : Option (((LA_ × Nat)) × List ai) := match o with
 | .exit 0 => (match ls with
  | [.C x0, .N x1] => some ((x0, x1), [])
  | _ => none)
 | _ => none
theorem w8 : ∀ o ls e cl cc, j8 o ls = some (e, cl) → cl = oU cc e → ls = qa cc e ∧ p9 e = o ∧ o ≠ .normal ∧ ∀ v, o = .pan v → sc 0 v = true := by
 intro o ls e cl cc h hc
 unfold j8 at h
 split at h
 ·split at h
  ·cases h
   exact ⟨rfl, rfl, by simp, by intro v hv; cases hv <;> rfl⟩
  ·cases h
 ·cases h
def A9 (o : am) : ExS := match o with
 | .exit 0 => ⟨2, (none :: none :: some (.vec 1) :: (rl none 35 [])), [(1, .vec 1 true)], fun s => [0, nameAt s 2 []], [], []⟩
 | _ => ⟨0, [], [], fun _ => [], [], []⟩
theorem Ag {R : Type} (cc : LA_ × Nat × Int) (v : dn) (kn : (dn) → Option R) (ke : ((LA_ × Nat)) → Option R) : cK cc v kn ke = (cK cc v (fun v => some (Sum.inl v)) fun e => some (Sum.inr e)).bind (Sum.elim kn ke) := by
 simp only [cK, bF, ax, Option.bind_assoc, bY, bB, Option.bind_some, Option.bind_none, Sum.elim_inl, Sum.elim_inr]
def sB : LD where
 CC := LA_ × Nat × Int
 V := dn
 E := (LA_ × Nat)
 n := 1
 K := 4
 M := (none :: none :: some (.vec 1) :: none :: some (.ptr 2 0) :: some (.func 70 [.ptr 2 0] []) :: (rl none 9 (some (.vec 0) :: some (.int .i64) :: some (.int .i64) :: (rl none 20 []))))
 B := [(1, .vec 1 true), (2, .cells [.vec 3] true none), (3, .vec 3 true), (0, .vec 3 false)]
 D := []
 pre := [(2, 1), (1000004, 3)]
 F := fun s => [0, nameAt s 2 [], nameAt s 4 [], nameAt s 4 [.d 0]]
 toL := Af
 ofL := p8
 au := fun ls c v h => by
  unfold p8 at h
  split at h
  ·cases h; rfl
  ·cases h
 cj := cK
 nat := Ag
 sh := A9
 out := p9
 toE := qa
 eV := oU
 ofE := j8
 cO := w8
 post := fun cc e k => ((fun e => k (.exit 0) (aV 2 (none :: none :: some (.vec 1) :: (rl none 35 [])) [(1, .vec e.1 e.2 1 true)] [])) e)
 cd := fun cc e k => by rfl
theorem Ah : cG Tryz.prog 1 sB.la (aK Tryz.f52 0) :=
 LD.ok (ch := mP) (A := bu) aL p7 mixed (fuel := 60) ⟨by kernel_rfl, fun e => by kernel_rfl, fun cc v => by kernel_rfl, aJ (l := []) (by kernel_rfl) trivial⟩
def jo (cs0 : LA_) (n1 : Nat) : Option (Int × LA_ × Nat) :=
 (Option.bind (lF cs0 n1) fun r1 => (cond r1 (cond (decide (((n1 : Nat) : Int) > 256)) (some (3, ([] : LA_), 0)) (Option.bind (tT (cs0, n1, ((n1 : Nat) : Int)) (([] : LA_), 0, ([] : LA_), 0, 0)) fun e2 => (some (0, e2.1, e2.2)))) (some (7, ([] : LA_), 0))))
def jO : FD where
 X := Int × LA_ × Nat
 k := 1
 pre := [(2, 1)]
 F := fun s => [0, nameAt s 0 [.c 0]]
 M := .tup [.vec 1, .int .i64]
 B := [.vec 1 true]
 toL := fun x => [.I x.1, .C x.2.1, .N x.2.2]
 ofL := fun ls => match ls with
  | [.I x0, .C x1, .N x2] => some (x0, x1, x2)
  | _ => none
 au := fun ls x h => by
  split at h
  ·cases h; rfl
  ·cases h
theorem CS (cs0 : LA_) (n1 : Nat) (x : Int × LA_ × Nat) (h : jo cs0 n1 = some x) : aX Tryz.prog 52 1 [.vec 0] [.vec cs0 n1 3 false] jO x :=
 FD.TA (il := fun _ => false) (ch := mP) (A := dW [(8, sB.la)]) (fn := Tryz.f52) (c := bq Tryz.f52) (fuel := 60) aL p7 mixed bE jO Tryz.func52 (by kernel_rfl) (aJ (l := [aK Tryz.f52 0]) (by kernel_rfl) ⟨bR (by kernel_rfl) Ah, trivial⟩)
  (by kernel_rfl) (Eq.trans (by kernel_rfl) h)
def qV : HK where
 call := fun args σ k => match args with
  | [x0] => cr σ 3 x0 fun cs0 n1 => Option.bind (jo cs0 n1) fun y => az σ 1 (jO.val y) (jO.aN y) k
  | _ => none
 nat := fun args σ k => by
  repeat' split
  all_goals simp only [aw, Option.bind_assoc, Option.bind_none, az, Option.bind_some]
 pure := false
 pok := fun h => by cases h
theorem Dq : aT Tryz.prog 52 qV := by
 intro args σ r σ' h
 simp only [qV] at h
 split at h
 ·rename_i x0
  obtain ⟨cs0, n1, he0, hf0, h⟩ := bf h
  obtain ⟨y, hy, h⟩ := bE_ h
  exact lifted (xs := [x0]) (ls := [.vec cs0 n1 3 false]) (cargs := [.vec 0]) (bt.of ⟨⟨rfl, he0, hf0, by decide⟩, trivial⟩) rfl (CS cs0 n1 y hy) rfl rfl rfl rfl h
 ·cases h
def GF : CH := (CH.add 52 qV CH.none)
theorem CR : aE Tryz.prog GF := (CH.aj Dq CH.aC)
def aB (cs0 : LA_) (n1 : Nat) : Option (Int × Int) :=
 (Option.bind (jo cs0 n1) fun r1 => (cond (r1.1 != 0) (some (0, r1.1)) (some ((IntKind.wrap .i64 (((r1.2.2 : Nat) : Int) - 1)), 0))))
def my : FD where
 X := Int × Int
 k := 1
 pre := []
 F := fun s => [0]
 M := .tup [.int .i64, .int .i64]
 B := []
 toL := fun x => [.I x.1, .I x.2]
 ofL := fun ls => match ls with
  | [.I x0, .I x1] => some (x0, x1)
  | _ => none
 au := fun ls x h => by
  split at h
  ·cases h; rfl
  ·cases h
theorem Fv (cs0 : LA_) (n1 : Nat) (x : Int × Int) (h : aB cs0 n1 = some x) : aX Tryz.prog 35 1 [.vec 0] [.vec cs0 n1 3 false] my x :=
 FD.semA my CR Tryz.func35 (fuel := 60) (by kernel_rfl) (by kernel_rfl)
  (by kernel_rfl) (Eq.trans (by kernel_rfl) h)
def iX : HK where
 call := fun args σ k => match args with
  | [x0] => cr σ 3 x0 fun cs0 n1 => Option.bind (aB cs0 n1) fun y => az σ 1 (my.val y) (my.aN y) k
  | _ => none
 nat := fun args σ k => by
  repeat' split
  all_goals simp only [aw, Option.bind_assoc, Option.bind_none, az, Option.bind_some]
 pure := false
 pok := fun h => by cases h
theorem kN : aT Tryz.prog 35 iX := by
 intro args σ r σ' h
 simp only [iX] at h
 split at h
 ·rename_i x0
  obtain ⟨cs0, n1, he0, hf0, h⟩ := bf h
  obtain ⟨y, hy, h⟩ := bE_ h
  exact lifted (xs := [x0]) (ls := [.vec cs0 n1 3 false]) (cargs := [.vec 0]) (bt.of ⟨⟨rfl, he0, hf0, by decide⟩, trivial⟩) rfl (Fv cs0 n1 y hy) rfl rfl rfl rfl h
 ·cases h
abbrev Pt := Int × Int × Int
def pcs : List Pt → LA_
 | [] => []
 | p :: l => .int .i64 p.1 :: .int .i64 p.2.1 :: .int .i64 p.2.2 :: pcs l
def pat (l : List Pt) (i : Nat) : Pt := l.getD i (0, 0, 0)
theorem AN : ∀ (a b : List Pt), pcs (a ++ b) = pcs a ++ pcs b
 | [], b => rfl
 | p :: a, b => by simp [pcs, AN a b]
theorem AP : ∀ (l : List Pt) (i : Nat), i < l.length → (pcs l)[i * 3]? = some (.int .i64 (pat l i).1) ∧ (pcs l)[i * 3 + 1]? = some (.int .i64 (pat l i).2.1) ∧ (pcs l)[i * 3 + 2]? = some (.int .i64 (pat l i).2.2)
 | [], i, h => by simp at h
 | p :: l, 0, h => ⟨rfl, rfl, rfl⟩
 | p :: l, i + 1, h => by
  have ih := AP l i (by simpa using h)
  rw [show (i + 1) * 3 = i * 3 + 3 by omega, show i * 3 + 3 + 1 = i * 3 + 1 + 3 by omega, show i * 3 + 3 + 2 = i * 3 + 2 + 3 by omega]
  exact ih
theorem pg0 {l : List Pt} {i : Nat} (h : i < l.length) : ac (pcs l) (i * 3 + 0) = (pat l i).1 := by
 unfold ac; rw [Nat.add_zero, (AP l i h).1]
theorem pg1 {l : List Pt} {i : Nat} (h : i < l.length) : ac (pcs l) (i * 3 + 1) = (pat l i).2.1 := by
 unfold ac; rw [(AP l i h).2.1]
theorem pg2 {l : List Pt} {i : Nat} (h : i < l.length) : ac (pcs l) (i * 3 + 2) = (pat l i).2.2 := by
 unfold ac; rw [(AP l i h).2.2]
theorem pro {l : List Pt} {i : Nat} (h : i < l.length) : an ln (pcs l) (i * 3) = true := by
 have h1 := AP l i h
 simp [an, h1.1, h1.2.1, h1.2.2, isK]
theorem decLt {i n : Nat} (h : i < n) : decide ((i : Int) < ((n : Nat) : Int)) = true := decide_eq_true (by omega)
def bP (p : Pt) : Bool := bnd p.1 && bnd p.2.1 && bnd p.2.2
theorem xK {p : Pt} : bP p = true ↔ bnd p.1 = true ∧ bnd p.2.1 = true ∧ bnd p.2.2 = true := by simp [bP, and_assoc]
def aD (l : List Pt) : Bool := l.all bP
theorem eh {l : List Pt} (h : aD l = true) {i : Nat} (hi : i < l.length) : bP (pat l i) = true := by
 unfold pat
 rw [List.getD_eq_getElem?_getD, List.getElem?_eq_getElem hi]
 exact List.all_eq_true.1 h _ (List.getElem_mem hi)
theorem fZ (n : Nat) : ((n : Nat) : Int).toNat = n := Int.toNat_natCast n
theorem UD {l : List Pt} (hl : l.length < 1000000000) : lF (pcs l) l.length = some (aD l) := by
 have key : ∃ e, wY (pcs l, l.length, ((l.length : Nat) : Int)) 0 = some e ∧ (match e with | .inl () => aD l = false | .inr () => aD l = true) := by
  refine gp (step := jN (pcs l, l.length, ((l.length : Nat) : Int))) (fun v => ∃ i : Nat, v = (i : Int) ∧ i ≤ l.length ∧ aD (l.take i) = true) (fun v => ((l.length : Int) - v).toNat) _ ?_
   (Nat.lt_of_le_of_lt (show ((l.length : Int) - 0).toNat ≤ 1000000000 by omega) (by decide)) ⟨0, rfl, by omega, rfl⟩
  rintro v ⟨i, rfl, hi, hok⟩
  by_cases h : i < l.length
  ·have w : IntKind.wrap .i64 ((i : Int) + 1) = ((i + 1 : Nat) : Int) := by rw [bV (by omega)]; omega
   have hsp : aD l = true ↔ aD (l.take (i + 1)) = true ∧ aD (l.drop (i + 1)) = true := by
    rw [← Bool.and_eq_true]
    unfold aD
    rw [← List.all_append, List.take_append_drop]
   have htk : aD (l.take (i + 1)) = bP (pat l i) := by
    have : l.take (i + 1) = l.take i ++ [pat l i] := by
     rw [List.take_add_one, List.getElem?_eq_getElem h]; simp [pat, List.getD_eq_getElem?_getD, List.getElem?_eq_getElem h]
    unfold aD at *
    rw [this, List.all_append, hok]; simp
   simp only [jN, dY, decLt h, fk, cond_true, Bool.and_self, aA, fZ, pro h, pg0 h, pg1 h, pg2 h, NM, Option.bind_some, w]
   cases hb : bP (pat l i) with
   | true =>
    have hb' : (bnd (pat l i).1 && bnd (pat l i).2.1 && bnd (pat l i).2.2) = true := hb
    rw [hb']
    exact .inl ⟨_, rfl, ⟨i + 1, rfl, by omega, by rw [htk, hb]⟩, by omega⟩
   | false =>
    have hb' : (bnd (pat l i).1 && bnd (pat l i).2.1 && bnd (pat l i).2.2) = false := hb
    rw [hb']
    refine .inr ⟨.inl (), rfl, ?_⟩
    cases hc : aD l with
    | false => rfl
    | true => rw [(htk ▸ (hsp.1 hc).1 : bP (pat l i) = true)] at hb; cases hb
  ·have hi' : i = l.length := by omega
   subst hi'
   rw [List.take_length] at hok
   refine .inr ⟨.inr (), ?_, hok⟩
   simp only [jN, dY, decide_eq_false (show ¬ ((l.length : Int) < ((l.length : Nat) : Int)) by omega), cond_false]
 obtain ⟨e, h1, h2⟩ := key
 unfold lF
 rw [h1, Option.bind_some]
 match e, h2 with
 | .inl (), h2 => rw [h2]; rfl
 | .inr (), h2 => rw [h2]; rfl
def aq (a b : Pt) : Pt := (a.1 - b.1, a.2.1 - b.2.1, a.2.2 - b.2.2)
def crs (a b : Pt) : Pt := (a.2.1 * b.2.2 - a.2.2 * b.2.1, a.2.2 * b.1 - a.1 * b.2.2, a.1 * b.2.1 - a.2.1 * b.1)
def ae (a b : Pt) : Int := a.1 * b.1 + a.2.1 * b.2.1 + a.2.2 * b.2.2
def dP (p : Pt) : Prop := sm 29 p.1 ∧ sm 29 p.2.1 ∧ sm 29 p.2.2
theorem JY {x : Int} (h : bnd x = true) : sm 28 x := by have := je.1 h; unfold sm; omega
theorem ph {a b : Pt} (ha : bP a = true) (hb : bP b = true) : dP (aq a b) := by
 obtain ⟨h1, h2, h3⟩ := xK.1 ha
 obtain ⟨k1, k2, k3⟩ := xK.1 hb
 exact ⟨gS (JY h1) (JY k1), gS (JY h2) (JY k2), gS (JY h3) (JY k3)⟩
theorem r63 {x : Int} (h : sm 29 x) : bc x = true := by rw [EC]; unfold sm at h; omega
theorem w29 {a b : Int} (ha : bnd a = true) (hb : bnd b = true) : IntKind.wrap .i64 (a - b) = a - b := by
 have := je.1 ha
 have := je.1 hb
 exact bV (by omega)
theorem AQ {a b : Pt} (ha : bP a = true) (hb : bP b = true) : ck a.1 a.2.1 a.2.2 b.1 b.2.1 b.2.2 = some (aq a b) := by
 obtain ⟨h1, h2, h3⟩ := xK.1 ha
 obtain ⟨k1, k2, k3⟩ := xK.1 hb
 unfold ck
 rw [w29 h1 k1, w29 h2 k2, w29 h3 k3]; rfl
def dc (a b c : Pt) : Int := ae (crs b c) a
theorem Rv {a b : Pt} (ha : dP a) (hb : dP b) : gb a.1 a.2.1 a.2.2 b.1 b.2.1 b.2.2 = some (t24 (crs a b).1 (crs a b).2.1 (crs a b).2.2) :=
 NU (r63 ha.1) (r63 ha.2.1) (r63 ha.2.2) (r63 hb.1) (r63 hb.2.1) (r63 hb.2.2)
theorem UE {a b c : Pt} (ha : dP a) (hb : dP b) (hc : dP c) : kK a.1 a.2.1 a.2.2 b.1 b.2.1 b.2.2 c.1 c.2.1 c.2.2 = some (t8 (dc a b c)) :=
 Vb (r63 ha.1) (r63 ha.2.1) (r63 ha.2.2) (r63 hb.1) (r63 hb.2.1) (r63 hb.2.2) (r63 hc.1) (r63 hc.2.1) (r63 hc.2.2)
theorem Qh {a b : Pt} (ha : dP a) (hb : dP b) : sm 59 (crs a b).1 ∧ sm 59 (crs a b).2.1 ∧ sm 59 (crs a b).2.2 :=
 ⟨gS (cT ha.2.1 hb.2.2) (cT ha.2.2 hb.2.1), gS (cT ha.2.2 hb.1) (cT ha.1 hb.2.2), gS (cT ha.1 hb.2.1) (cT ha.2.1 hb.1)⟩
theorem Tj {a b c : Pt} (ha : dP a) (hb : dP b) (hc : dP c) : sm 90 (dc a b c) := by
 have h := Qh hb hc
 exact lJ (lJ (cT h.1 ha.1) (cT h.2.1 ha.2.1)) (aW (cT h.2.2 ha.2.2) (by decide))
def dV (t : List Pt) (p : Pt) : Bool :=
 match t with
 | [] => true
 | [a] => !decide (p = a)
 | [a, b] => !decide (crs (aq b a) (aq p a) = (0, 0, 0))
 | [a, b, c] => !decide (dc (aq b a) (aq c a) (aq p a) = 0)
 | _ => false
theorem UF {x y z : Int} (hx : fit x) (hy : fit y) (hz : fit z) : (aa x 0 == 0 && (aa x 1 == 0 && (aa x 2 == 0 && (aa x 3 == 0 && (aa x 4 == 0 && (aa x 5 == 0 && (aa x 6 == 0 && (aa x 7 == 0 && (aa y 0 == 0 && (aa y 1 == 0 && (aa y 2 == 0 && (aa y 3 == 0 && (aa y 4 == 0 && (aa y 5 == 0 && (aa y 6 == 0 && (aa y 7 == 0 && (aa z 0 == 0 && (aa z 1 == 0 && (aa z 2 == 0 && (aa z 3 == 0 && (aa z 4 == 0 && (aa z 5 == 0 && (aa z 6 == 0 && (aa z 7 == 0 && true)))))))))))))))))))))))) = decide (x = 0 ∧ y = 0 ∧ z = 0) := by
 have h1 := O3 hx
 have h2 := O3 hy
 have h3 := O3 hz
 simp only [Bool.and_true] at h1 h2 h3 ⊢
 rw [h3]
 simp only [← Bool.and_assoc] at h1 h2 ⊢
 rw [h1]
 by_cases a : x = 0 <;> by_cases b : y = 0 <;> by_cases c : z = 0 <;> simp_all
theorem Vx (z : Int) : (sgn z != 0) = !decide (z = 0) := by
 unfold sgn
 by_cases h1 : z < 0 <;> by_cases h2 : z = 0 <;> simp [h1, h2]
theorem Rw {t : List Pt} {p : Pt} (ht : aD t = true) (hp : bP p = true) (hl : t.length ≤ 4) : ce (pcs t) t.length p.1 p.2.1 p.2.2 = some (dV t p) := by
 have hD : ∀ a b : Int, decide (0 ≤ (0 : Int)) = true := fun _ _ => rfl
 match t, hl with
 | [], _ => rfl
 | [a], _ =>
  unfold ce dV
  simp only [pcs, List.length_cons, List.length_nil, Nat.zero_add]
  obtain ⟨x, y, z⟩ := a
  obtain ⟨u, v, w⟩ := p
  show (cond (!(u == x && (v == y && (w == z && true)))) (some true) (some false)) = _
  have e : (u == x && (v == y && (w == z && true))) = decide ((u, v, w) = (x, y, z)) := by
   rw [Bool.eq_iff_iff]; simp
  rw [e]
  cases decide ((u, v, w) = (x, y, z)) <;> rfl
 | [a, b], _ =>
  have ha := eh ht (i := 0) (by simp)
  have hb := eh ht (i := 1) (by simp)
  have ha' : bP a = true := ha
  have hb' : bP b = true := hb
  have hc := Qh (ph hb' ha') (ph hp ha')
  have e : ce (pcs [a, b]) 2 p.1 p.2.1 p.2.2 = Option.bind (ck b.1 b.2.1 b.2.2 a.1 a.2.1 a.2.2) fun r1 => Option.bind (ck p.1 p.2.1 p.2.2 a.1 a.2.1 a.2.2) fun r2 => Option.bind (gb r1.1 r1.2.1 r1.2.2 r2.1 r2.2.1 r2.2.2) fun r3 =>
    cond (!(r3.1 == 0 && (r3.2.1 == 0 && (r3.2.2.1 == 0 && (r3.2.2.2.1 == 0 && (r3.2.2.2.2.1 == 0 && (r3.2.2.2.2.2.1 == 0 && (r3.2.2.2.2.2.2.1 == 0 && (r3.2.2.2.2.2.2.2.1 == 0 && (r3.2.2.2.2.2.2.2.2.1 == 0 && (r3.2.2.2.2.2.2.2.2.2.1 == 0 && (r3.2.2.2.2.2.2.2.2.2.2.1 == 0 && (r3.2.2.2.2.2.2.2.2.2.2.2.1 == 0 && (r3.2.2.2.2.2.2.2.2.2.2.2.2.1 == 0 && (r3.2.2.2.2.2.2.2.2.2.2.2.2.2.1 == 0 && (r3.2.2.2.2.2.2.2.2.2.2.2.2.2.2.1 == 0 && (r3.2.2.2.2.2.2.2.2.2.2.2.2.2.2.2.1 == 0 && (r3.2.2.2.2.2.2.2.2.2.2.2.2.2.2.2.2.1 == 0 && (r3.2.2.2.2.2.2.2.2.2.2.2.2.2.2.2.2.2.1 == 0 && (r3.2.2.2.2.2.2.2.2.2.2.2.2.2.2.2.2.2.2.1 == 0 && (r3.2.2.2.2.2.2.2.2.2.2.2.2.2.2.2.2.2.2.2.1 == 0 && (r3.2.2.2.2.2.2.2.2.2.2.2.2.2.2.2.2.2.2.2.2.1 == 0 && (r3.2.2.2.2.2.2.2.2.2.2.2.2.2.2.2.2.2.2.2.2.2.1 == 0 && (r3.2.2.2.2.2.2.2.2.2.2.2.2.2.2.2.2.2.2.2.2.2.2.1 == 0 && (r3.2.2.2.2.2.2.2.2.2.2.2.2.2.2.2.2.2.2.2.2.2.2.2 == 0 && true))))))))))))))))))))))))) (some true) (some false) := rfl
  show ce (pcs [a, b]) 2 p.1 p.2.1 p.2.2 = _
  rw [e, AQ hb' ha', Option.bind_some, AQ hp ha', Option.bind_some, Rv (ph hb' ha') (ph hp ha'), Option.bind_some]
  simp only [t24, UF (aY hc.1 (by decide)) (aY hc.2.1 (by decide)) (aY hc.2.2 (by decide)), dV]
  generalize crs (aq b a) (aq p a) = q
  obtain ⟨x, y, z⟩ := q
  have e : decide (x = 0 ∧ y = 0 ∧ z = 0) = decide ((x, y, z) = ((0, 0, 0) : Pt)) := by
   rw [Bool.eq_iff_iff]; simp
  rw [e]
  cases decide ((x, y, z) = ((0, 0, 0) : Pt)) <;> rfl
 | [a, b, c], _ =>
  have ha' : bP a = true := eh ht (i := 0) (by simp)
  have hb' : bP b = true := eh ht (i := 1) (by simp)
  have hc' : bP c = true := eh ht (i := 2) (by simp)
  have hd := Tj (ph hb' ha') (ph hc' ha') (ph hp ha')
  have e : ce (pcs [a, b, c]) 3 p.1 p.2.1 p.2.2 = Option.bind (ck b.1 b.2.1 b.2.2 a.1 a.2.1 a.2.2) fun r1 => Option.bind (ck c.1 c.2.1 c.2.2 a.1 a.2.1 a.2.2) fun r2 => Option.bind (ck p.1 p.2.1 p.2.2 a.1 a.2.1 a.2.2) fun r3 =>
    Option.bind (kK r1.1 r1.2.1 r1.2.2 r2.1 r2.2.1 r2.2.2 r3.1 r3.2.1 r3.2.2) fun r4 => Option.bind (qW r4.1 r4.2.1 r4.2.2.1 r4.2.2.2.1 r4.2.2.2.2.1 r4.2.2.2.2.2.1 r4.2.2.2.2.2.2.1 r4.2.2.2.2.2.2.2) fun r5 => cond (r5 != 0) (some true) (some false) := rfl
  show ce (pcs [a, b, c]) 3 p.1 p.2.1 p.2.2 = _
  rw [e, AQ hb' ha', Option.bind_some, AQ hc' ha', Option.bind_some, AQ hp ha', Option.bind_some, UE (ph hb' ha') (ph hc' ha') (ph hp ha'), Option.bind_some]
  simp only [t8, NG (aY hd (by decide)), Option.bind_some, Vx, dV]
  cases decide (dc (aq b a) (aq c a) (aq p a) = 0) <;> rfl
 | [a, b, c, d], _ => rfl
 | a :: b :: c :: d :: e :: r, h => simp at h
def ics (l : List Int) : LA_ := l.map (.int .i64)
theorem Tk (a b : List Int) : ics (a ++ b) = ics a ++ ics b := by simp [ics]
def mf : List Pt → Int → List Int → List Pt → List Int × List Pt
 | [], _, o, t => (o, t)
 | p :: r, i, o, t => cond (dV t p) (mf r (i + 1) (o ++ [i]) (t ++ [p])) (mf r (i + 1) o t)
def mg (l : List Pt) : List Int := (mf l 0 [] []).1
theorem NV {t : List Pt} {p : Pt} (h : dV t p = true) : t.length ≤ 3 := by
 unfold dV at h
 split at h <;> simp_all
theorem HC : ∀ (r : List Pt) (i : Int) (o : List Int) (t : List Pt), o.length = t.length → t.length ≤ 4 → (mf r i o t).1.length = (mf r i o t).2.length ∧ (mf r i o t).2.length ≤ 4
 | [], i, o, t, h, h4 => ⟨h, h4⟩
 | p :: r, i, o, t, h, h4 => by
  unfold mf
  cases hb : dV t p with
  | true =>
   have := NV hb
   exact HC r _ _ _ (by simp [h]) (by simp; omega)
  | false => exact HC r _ _ _ h h4
theorem zO {l : List Pt} (hok : aD l = true) (hl : l.length ≤ 256) : ∀ (n i : Nat) (o : List Int) (t : List Pt), l.length - i = n → i ≤ l.length → o.length = t.length → t.length ≤ 4 → aD t = true →
  iter (fB (pcs l, l.length, ((l.length : Nat) : Int))) (n + 1) (ics o, o.length, pcs t, t.length, (i : Int)) = some (ics (mf (l.drop i) i o t).1, (mf (l.drop i) i o t).1.length)
 | 0, i, o, t, hn, hi, ho, ht, hk => by
  have he : i = l.length := by omega
  subst he
  refine cB 0 ?_
  rw [List.drop_length]
  simp only [fB, cK, decide_eq_false (show ¬ ((l.length : Int) < ((l.length : Nat) : Int)) by omega), cond_false]
  rfl
 | n + 1, i, o, t, hn, hi, ho, ht, hk => by
  have h : i < l.length := by omega
  have hd : l.drop i = pat l i :: l.drop (i + 1) := by
   rw [List.drop_eq_getElem_cons h]; simp [pat, List.getD_eq_getElem?_getD, List.getElem?_eq_getElem h]
  have w : IntKind.wrap .i64 ((i : Int) + 1) = ((i + 1 : Nat) : Int) := by rw [bV (by omega)]; omega
  have hp := eh hok h
  have hr := Rw hk hp ht
  have d1 : ∀ k : Nat, k ≤ 5 → decide (2 * k * 24 ≤ 2 ^ 48) = true := fun k hk => decide_eq_true (by omega)
  have d2 : ∀ k : Nat, k ≤ 5 → decide (2 * k * 8 ≤ 2 ^ 48) = true := fun k hk => decide_eq_true (by omega)
  cases hb : dV t (pat l i) with
  | true =>
   have h3 := NV hb
   rw [hb] at hr
   refine bN (v' := (ics (o ++ [(i : Int)]), (o ++ [(i : Int)]).length, pcs (t ++ [pat l i]), (t ++ [pat l i]).length, ((i + 1 : Nat) : Int))) ?_ ?_
   ·simp only [fB, cK, decLt h, fk, cond_true, Bool.and_self, aA, fZ, pro h, pg0 h, pg1 h, pg2 h, hr, Option.bind_some, w, d1 _ (show t.length + 1 ≤ 5 by omega), d2 _ (show o.length + 1 ≤ 5 by omega), Tk, AN, List.length_append, List.length_cons, List.length_nil, Nat.zero_add]
    rfl
   ·have ih := zO hok hl n (i + 1) (o ++ [(i : Int)]) (t ++ [pat l i]) (by omega) (by omega) (by simp [ho]) (by simp; omega) (by unfold aD at *; rw [List.all_append, hk]; simp [hp])
    rw [ih, hd]
    simp only [mf, hb, cond_true]
    rfl
  | false =>
   rw [hb] at hr
   refine bN (v' := (ics o, o.length, pcs t, t.length, ((i + 1 : Nat) : Int))) ?_ ?_
   ·simp only [fB, cK, decLt h, fk, cond_true, cond_false, Bool.and_self, aA, fZ, pro h, pg0 h, pg1 h, pg2 h, hr, Option.bind_some, w]
   ·have ih := zO hok hl n (i + 1) o t (by omega) (by omega) ho ht hk
    rw [ih, hd]
    simp only [mf, hb, cond_false]
    rfl
theorem Rx {l : List Pt} (hl : l.length < 1000000000) : jo (pcs l) l.length = some (cond (aD l) (cond (decide (l.length > 256)) (3, [], 0) (0, ics (mg l), (mg l).length)) (7, [], 0)) := by
 unfold jo
 rw [UD hl, Option.bind_some]
 cases hok : aD l with
 | false => rfl
 | true =>
  simp only [cond_true]
  by_cases h : l.length > 256
  ·rw [decide_eq_true (show ((l.length : Nat) : Int) > 256 by omega), decide_eq_true h]; rfl
  ·rw [decide_eq_false (show ¬ ((l.length : Nat) : Int) > 256 by omega), decide_eq_false h]
   have := zO hok (by omega) l.length 0 [] [] (by omega) (by omega) rfl (by simp) rfl
   have hf : tT (pcs l, l.length, ((l.length : Nat) : Int)) ([], 0, [], 0, 0) = some (ics (mg l), (mg l).length) := dI (n := l.length + 1) (by unfold me; omega) this
   simp only [cond_false, hf, Option.bind_some]
theorem ED {l : List Pt} (hl : l.length < 1000000000) : aB (pcs l) l.length = some (cond (aD l) (cond (decide (l.length > 256)) (0, 3) (((mg l).length : Int) - 1, 0)) (0, 7)) := by
 have h4 : (mg l).length ≤ 4 := by
  have := HC l 0 [] [] rfl (by simp)
  unfold mg; omega
 unfold aB
 rw [Rx hl, Option.bind_some]
 cases aD l with
 | false => rfl
 | true =>
  cases decide (l.length > 256) with
  | true => rfl
  | false =>
   simp only [cond_true, cond_false]
   have w : IntKind.wrap .i64 ((((mg l).length : Nat) : Int) - 1) = ((mg l).length : Int) - 1 := bV (by omega)
   have : (0 != (0 : Int)) = false := rfl
   simp only [w, this, cond_false]
end Go.Ev
namespace Go.Ev
def bA : List Int → List Pt → Pt
 | w :: ws, p :: ps => (w * p.1 + (bA ws ps).1, w * p.2.1 + (bA ws ps).2.1, w * p.2.2 + (bA ws ps).2.2)
 | _, _ => (0, 0, 0)
def cq : List Int → Int
 | [] => 0
 | w :: ws => w + cq ws
def wt1 (e p : Pt) : Int × Int := (-ae e p, ae e e)
def wt2 (e f p : Pt) : (Int × Int) × Int :=
 let a := ae e e; let b := ae e f; let c := ae f e; let d := ae f f
 let h := -ae e p; let k := -ae f p
 ((h * d - b * k, a * k - h * c), a * d - b * c)
def m3 (a b c d e f g h i : Int) : Int := a * (e * i - f * h) - b * (d * i - f * g) + c * (d * h - e * g)
def wt3 (e f g p : Pt) : (Int × Int × Int) × Int :=
 let a := ae e e; let b := ae e f; let c := ae e g
 let d := ae f e; let k := ae f f; let l := ae f g
 let m := ae g e; let n := ae g f; let o := ae g g
 let x := -ae e p; let y := -ae f p; let z := -ae g p
 ((m3 x b c y k l z n o, m3 a x c d y l m z o, m3 a b x d k y m n z), m3 a b c d k l m n o)
def wts : List Pt → List Int × Int
 | [_] => ([1], 1)
 | [p, q] => let r := wt1 (aq q p) p; ([r.2 - r.1, r.1], r.2)
 | [p, q, s] => let r := wt2 (aq q p) (aq s p) p; ([r.2 - r.1.1 - r.1.2, r.1.1, r.1.2], r.2)
 | [p, q, s, t] => let r := wt3 (aq q p) (aq s p) (aq t p) p; ([r.2 - r.1.1 - r.1.2.1 - r.1.2.2, r.1.1, r.1.2.1, r.1.2.2], r.2)
 | _ => ([], 0)
def bG (l : List Pt) : Pt := bA (wts l).1 l
theorem kF (a b n : Pt) : ae (aq a b) n = ae a n - ae b n := by simp only [ae, aq]; grind
theorem y7 (a b : Pt) : ae a b = ae b a := by simp only [ae]; grind
theorem Ux (p q : Pt) : ae q (bG [p, q]) = ae p (bG [p, q]) := by
 obtain ⟨a, b, c⟩ := p
 obtain ⟨x, y, z⟩ := q
 simp only [bG, wts, wt1, bA, ae, aq]
 grind
theorem Vv (e f p : Pt) (w1 w2 d : Int) (v : Pt) : ae v (d * p.1 + w1 * e.1 + w2 * f.1, d * p.2.1 + w1 * e.2.1 + w2 * f.2.1, d * p.2.2 + w1 * e.2.2 + w2 * f.2.2) = d * ae v p + w1 * ae v e + w2 * ae v f := by
 simp only [ae]; grind
theorem n2 (p q s : Pt) : bG [p, q, s] = (let r := wt2 (aq q p) (aq s p) p; (r.2 * p.1 + r.1.1 * (aq q p).1 + r.1.2 * (aq s p).1, r.2 * p.2.1 + r.1.1 * (aq q p).2.1 + r.1.2 * (aq s p).2.1, r.2 * p.2.2 + r.1.1 * (aq q p).2.2 + r.1.2 * (aq s p).2.2)) := by
 simp only [bG, wts, bA]
 generalize wt2 _ _ _ = r
 simp only [aq, Prod.mk.injEq]
 grind
theorem Uy (p q s : Pt) : ae (aq q p) (bG [p, q, s]) = 0 ∧ ae (aq s p) (bG [p, q, s]) = 0 := by
 rw [n2]
 simp only [Vv]
 generalize aq q p = e
 generalize aq s p = f
 simp only [wt2]
 rw [y7 f e]
 generalize ae e e = a
 generalize ae e f = b
 generalize ae f f = d
 generalize ae e p = h
 generalize ae f p = k
 grind
theorem Vw (e f g p : Pt) (w1 w2 w3 d : Int) (v : Pt) : ae v (d * p.1 + w1 * e.1 + w2 * f.1 + w3 * g.1, d * p.2.1 + w1 * e.2.1 + w2 * f.2.1 + w3 * g.2.1, d * p.2.2 + w1 * e.2.2 + w2 * f.2.2 + w3 * g.2.2) = d * ae v p + w1 * ae v e + w2 * ae v f + w3 * ae v g := by
 simp only [ae]; grind
theorem n3 (p q s t : Pt) : bG [p, q, s, t] = (let r := wt3 (aq q p) (aq s p) (aq t p) p; (r.2 * p.1 + r.1.1 * (aq q p).1 + r.1.2.1 * (aq s p).1 + r.1.2.2 * (aq t p).1, r.2 * p.2.1 + r.1.1 * (aq q p).2.1 + r.1.2.1 * (aq s p).2.1 + r.1.2.2 * (aq t p).2.1, r.2 * p.2.2 + r.1.1 * (aq q p).2.2 + r.1.2.1 * (aq s p).2.2 + r.1.2.2 * (aq t p).2.2)) := by
 simp only [bG, wts, bA]
 generalize wt3 _ _ _ _ = r
 simp only [aq, Prod.mk.injEq]
 grind
theorem Uz (p q s t : Pt) : ae (aq q p) (bG [p, q, s, t]) = 0 ∧ ae (aq s p) (bG [p, q, s, t]) = 0 ∧ ae (aq t p) (bG [p, q, s, t]) = 0 := by
 rw [n3]
 simp only [Vw]
 generalize aq q p = e
 generalize aq s p = f
 generalize aq t p = g
 simp only [wt3, m3]
 rw [y7 f e, y7 g e, y7 g f]
 generalize ae e e = a
 generalize ae e f = b
 generalize ae e g = c
 generalize ae f f = d
 generalize ae f g = i
 generalize ae g g = j
 generalize ae e p = h
 generalize ae f p = k
 generalize ae g p = l
 grind
theorem Ht : ∀ l : List Pt, 1 ≤ l.length → l.length ≤ 4 → cq (wts l).1 = (wts l).2 ∧ (wts l).1.length = l.length
 | [p], _, _ => by simp [wts, cq]
 | [p, q], _, _ => by simp only [wts, cq, List.length_cons, List.length_nil]; constructor <;> first | trivial | omega
 | [p, q, r], _, _ => by simp only [wts, cq, List.length_cons, List.length_nil]; constructor <;> first | trivial | omega
 | [p, q, r, s], _, _ => by simp only [wts, cq, List.length_cons, List.length_nil]; constructor <;> first | trivial | omega
 | _ :: _ :: _ :: _ :: _ :: _, _, h => by simp at h
theorem yZ : ∀ l : List Pt, 1 ≤ l.length → l.length ≤ 4 → ∀ p ∈ l, ae p (bG l) = ae (l.headD (0, 0, 0)) (bG l)
 | [p], _, _ => by intro x hx; simp at hx; subst hx; rfl
 | [p, q], _, _ => by
  intro x hx
  simp only [List.mem_cons, List.not_mem_nil, or_false] at hx
  rcases hx with rfl | rfl
  ·rfl
  ·exact Ux _ _
 | [p, q, r], _, _ => by
  intro x hx
  have := Uy p q r
  simp only [kF] at this
  simp only [List.mem_cons, List.not_mem_nil, or_false] at hx
  simp only [List.headD_cons]
  rcases hx with rfl | rfl | rfl <;> omega
 | [p, q, r, s], _, _ => by
  intro x hx
  have := Uz p q r s
  simp only [kF] at this
  simp only [List.mem_cons, List.not_mem_nil, or_false] at hx
  simp only [List.headD_cons]
  rcases hx with rfl | rfl | rfl | rfl <;> omega
 | _ :: _ :: _ :: _ :: _ :: _, _, h => by simp at h
theorem Ck (v : Pt) (s : Int) : ∀ (w : List Int) (l : List Pt), w.length = l.length → (∀ p ∈ l, ae p v = s) → ae (bA w l) v = cq w * s
 | [], [], _, _ => by simp [bA, cq, ae]
 | x :: w, p :: l, hl, h => by
  have ih := Ck v s w l (by simpa using hl) fun q hq => h q (by simp [hq])
  have h0 := h p (by simp)
  simp only [bA, cq, ae] at ih h0 ⊢
  grind
 | [], _ :: _, hl, _ => by simp at hl
 | _ :: _, [], hl, _ => by simp at hl
theorem F8 (v : Pt) (s : Int) : ∀ (w : List Int) (l : List Pt), w.length = l.length → (∀ x ∈ w, 0 ≤ x) → (∀ p ∈ l, s ≤ ae p v) → cq w * s ≤ ae (bA w l) v
 | [], [], _, _, _ => by simp [bA, cq, ae]
 | x :: w, p :: l, hl, hw, h => by
  have ih := F8 v s w l (by simpa using hl) (fun y hy => hw y (by simp [hy])) fun q hq => h q (by simp [hq])
  have h0 := Int.mul_le_mul_of_nonneg_left (h p (by simp)) (hw x (by simp))
  simp only [bA, cq, ae] at ih h0 ⊢
  rw [Int.add_mul]
  have e : ∀ a b c d e f : Int, (a * p.1 + b) * v.1 + (a * p.2.1 + c) * v.2.1 + (a * p.2.2 + d) * v.2.2 = a * (p.1 * v.1 + p.2.1 * v.2.1 + p.2.2 * v.2.2) + (b * v.1 + c * v.2.1 + d * v.2.2) := by intros; grind
  rw [e _ _ _ _ 0 0]
  omega
 | [], _ :: _, hl, _, _ => by simp at hl
 | _ :: _, [], hl, _, _ => by simp at hl
theorem sq_nonneg (a : Int) : 0 ≤ a * a := by
 rcases Int.le_total 0 a with h | h
 ·exact Int.mul_nonneg h h
 ·exact Int.mul_nonneg_of_nonpos_of_nonpos h h
theorem Fa {a : Int} (h : a * a ≤ 0) : a = 0 := by
 have := sq_nonneg a
 have e : a * a = 0 := by omega
 rcases Int.mul_eq_zero.1 e with h | h <;> exact h
theorem CB {v : Pt} (h : ae v v ≤ 0) : v = (0, 0, 0) := by
 obtain ⟨x, y, z⟩ := v
 simp only [ae] at h
 have hx := sq_nonneg x
 have hy := sq_nonneg y
 have hz := sq_nonneg z
 rw [Fa (a := x) (by omega), Fa (a := y) (by omega), Fa (a := z) (by omega)]
theorem sb (v : Pt) : 0 ≤ ae v v := by
 have hx := sq_nonneg v.1
 have hy := sq_nonneg v.2.1
 have hz := sq_nonneg v.2.2
 simp only [ae]
 omega
theorem U7 {a b c x y z d e : Int} (h1 : e * a = d * x) (h2 : e * b = d * y) (h3 : e * c = d * z) : (a * a + b * b + c * c) * (e * e) = (x * x + y * y + z * z) * (d * d) := by
 have l : (a * a + b * b + c * c) * (e * e) = (e * a) * (e * a) + (e * b) * (e * b) + (e * c) * (e * c) := by grind
 rw [l, h1, h2, h3]
 grind
structure Nst (T : List Pt) (w : List Int) (N : Pt) (d s : Int) : Prop where
 len : w.length = T.length
 sum : N = bA w T
 div : cq w = d
 pos : ∀ x ∈ w, 0 < x
 OZ : 0 < d
 lev : ∀ p ∈ T, ae p N = s
theorem Nst.sq {T : List Pt} {w : List Int} {N : Pt} {d s : Int} (h : Nst T w N d s) : ae N N = d * s := by
 have := Ck N s w T h.len h.lev
 rw [← h.sum, h.div] at this
 exact this
theorem OY {T T' : List Pt} {w w' : List Int} {N N' k : Pt} {d s d' s' : Int} (h : Nst T w N d s) (h' : Nst T' w' N' d' s') (hT : ∀ p ∈ T, s' ≤ ae p N') (hk : s' ≤ ae k N') (hp : ae k N < s) :
  ae N' N' * (d * d) < ae N N * (d' * d') := by
 have h1 := F8 N' s' w T h.len (fun x hx => Int.le_of_lt (h.pos x hx)) hT
 rw [← h.sum, h.div] at h1
 have q := h.sq
 have q' := h'.sq
 have dp := h.OZ
 have dp' := h'.OZ
 rcases Int.lt_or_le (ae N' N' * (d * d)) (ae N N * (d' * d')) with g | g
 ·exact g
 exfalso
 have hdd : 0 < d * d' := Int.mul_pos dp dp'
 have e1 := Int.mul_le_mul_of_nonneg_left h1 (Int.le_of_lt hdd)
 have V : ae (d' * N.1 - d * N'.1, d' * N.2.1 - d * N'.2.1, d' * N.2.2 - d * N'.2.2) (d' * N.1 - d * N'.1, d' * N.2.1 - d * N'.2.1, d' * N.2.2 - d * N'.2.2) =
   ae N N * (d' * d') - 2 * ((d * d') * ae N N') + ae N' N' * (d * d) := by simp only [ae]; grind
 have e2 : ae N' N' * (d * d) = (d * d') * (d * s') := by rw [q']; grind
 have z := CB (v := (d' * N.1 - d * N'.1, d' * N.2.1 - d * N'.2.1, d' * N.2.2 - d * N'.2.2)) (by rw [V]; omega)
 simp only [Prod.mk.injEq] at z
 obtain ⟨z1, z2, z3⟩ := z
 have ek : d' * ae k N = d * ae k N' := by simp only [ae]; grind
 have es : ae N N * (d' * d') = ae N' N' * (d * d) := by
  have a1 : d' * N.1 = d * N'.1 := by omega
  have a2 : d' * N.2.1 = d * N'.2.1 := by omega
  have a3 : d' * N.2.2 = d * N'.2.2 := by omega
  exact U7 a1 a2 a3
 have ess : d' * s = d * s' := by
  rw [q, q'] at es
  have : (d * d') * (d' * s) = (d * d') * (d * s') := by grind
  exact Int.eq_of_mul_eq_mul_left (by omega) this
 have c1 := Int.mul_lt_mul_of_pos_left hp dp'
 have c2 := Int.mul_le_mul_of_nonneg_left hk (Int.le_of_lt dp)
 omega
def ind : List Pt → Prop
 | [_] => True
 | [p, q] => aq q p ≠ (0, 0, 0)
 | [p, q, r] => crs (aq q p) (aq r p) ≠ (0, 0, 0)
 | [p, q, r, s] => dc (aq q p) (aq r p) (aq s p) ≠ 0
 | _ => False
theorem E5 : ∀ {l : List Pt}, ind l → 1 ≤ l.length ∧ l.length ≤ 4
 | [_], _ => by simp
 | [_, _], _ => by simp
 | [_, _, _], _ => by simp
 | [_, _, _, _], _ => by simp
 | [], h => h.elim
 | _ :: _ :: _ :: _ :: _ :: _, h => h.elim
theorem NP {v : Pt} (h : v ≠ (0, 0, 0)) : 0 < ae v v := by
 rcases Int.lt_or_le 0 (ae v v) with g | g
 ·exact g
 ·exact absurd (CB g) h
theorem Ru (e f : Pt) : ae e e * ae f f - ae e f * ae f e = ae (crs e f) (crs e f) := by
 simp only [ae, crs]; grind
theorem U8 (e f g : Pt) : m3 (ae e e) (ae e f) (ae e g) (ae f e) (ae f f) (ae f g) (ae g e) (ae g f) (ae g g) = dc e f g * dc e f g := by
 simp only [ae, crs, m3, dc]; grind
theorem qu : ∀ {l : List Pt}, ind l → 0 < (wts l).2
 | [_], _ => by simp [wts]
 | [p, q], h => by simpa only [wts, wt1] using NP h
 | [p, q, r], h => by simp only [wts, wt2, Ru]; exact NP h
 | [p, q, r, s], h => by
  simp only [wts, wt3, U8]
  have := sq_nonneg (dc (aq q p) (aq r p) (aq s p))
  rcases Int.lt_or_le 0 (dc (aq q p) (aq r p) (aq s p) * dc (aq q p) (aq r p) (aq s p)) with g | g
  ·exact g
  ·exact absurd (Fa g) h
 | [], h => h.elim
 | _ :: _ :: _ :: _ :: _ :: _, h => h.elim
theorem Nst.of {l : List Pt} (h : ind l) (hw : ∀ x ∈ (wts l).1, 0 < x) : Nst l (wts l).1 (bG l) (wts l).2 (ae (l.headD (0, 0, 0)) (bG l)) := by
 obtain ⟨h1, h2⟩ := E5 h
 obtain ⟨a, b⟩ := Ht l h1 h2
 exact ⟨b, rfl, a, hw, qu h, yZ l h1 h2⟩
theorem E6 : ∀ {l t : List Pt}, ind l → t.Sublist l → t ≠ [] → ind t := by
 have s0 : ∀ p : Pt, crs (0, 0, 0) p = (0, 0, 0) ∧ crs p (0, 0, 0) = (0, 0, 0) := by intro p; simp [crs]
 have e2 : ∀ {p q : Pt}, aq q p ≠ (0, 0, 0) → True := fun _ => trivial
 have a3 : ∀ {p q r : Pt}, ind [p, q, r] → ind [p, q] ∧ ind [p, r] ∧ ind [q, r] := by
  intro p q r h
  refine ⟨fun e => h ?_, fun e => h ?_, fun e => h ?_⟩
  ·rw [e]; exact (s0 _).1
  ·rw [e]; exact (s0 _).2
  ·simp only [aq, crs, Prod.mk.injEq] at e ⊢; grind
 have a4 : ∀ {p q r s : Pt}, ind [p, q, r, s] → ind [p, q, r] ∧ ind [p, q, s] ∧ ind [p, r, s] ∧ ind [q, r, s] := by
  intro p q r s h
  refine ⟨fun e => h ?_, fun e => h ?_, fun e => h ?_, fun e => h ?_⟩
  ·have : dc (aq q p) (aq r p) (aq s p) = ae (crs (aq q p) (aq r p)) (aq s p) := by simp only [dc, ae, crs]; grind
   rw [this, e]; simp [ae]
  ·have : dc (aq q p) (aq r p) (aq s p) = -ae (crs (aq q p) (aq s p)) (aq r p) := by simp only [dc, ae, crs]; grind
   rw [this, e]; simp [ae]
  ·have : dc (aq q p) (aq r p) (aq s p) = ae (crs (aq r p) (aq s p)) (aq q p) := rfl
   rw [this, e]; simp [ae]
  ·have : dc (aq q p) (aq r p) (aq s p) = ae (crs (aq r q) (aq s q)) (aq q p) := by simp only [dc, ae, crs, aq]; grind
   rw [this, e]; simp [ae]
 have c2 : ∀ {p q : Pt} {t : List Pt}, ind [p, q] → t.Sublist [p, q] → t ≠ [] → ind t := by
  intro p q t h ht hn
  cases ht with
  | cons _ ht => cases ht with
   | cons _ ht => cases ht; exact absurd rfl hn
   | cons_cons _ ht => cases ht; trivial
  | cons_cons _ ht => cases ht with
   | cons _ ht => cases ht; trivial
   | cons_cons _ ht => cases ht; exact h
 have c3 : ∀ {p q r : Pt} {t : List Pt}, ind [p, q, r] → t.Sublist [p, q, r] → t ≠ [] → ind t := by
  intro p q r t h ht hn
  obtain ⟨h1, h2, h3⟩ := a3 h
  cases ht with
  | cons _ ht => exact c2 h3 ht hn
  | cons_cons _ ht => cases ht with
   | cons _ ht => exact c2 h2 (List.Sublist.cons_cons _ ht) hn
   | cons_cons _ ht => cases ht with
    | cons _ ht => cases ht; exact h1
    | cons_cons _ ht => cases ht; exact h
 intro l t h ht hn
 match l, h with
 | [p], _ =>
  cases ht with
  | cons _ ht => cases ht; exact absurd rfl hn
  | cons_cons _ ht => cases ht; trivial
 | [p, q], h => exact c2 h ht hn
 | [p, q, r], h => exact c3 h ht hn
 | [p, q, r, s], h =>
  obtain ⟨h1, h2, h3, h4⟩ := a4 h
  cases ht with
  | cons _ ht => exact c3 h4 ht hn
  | cons_cons _ ht => cases ht with
   | cons _ ht => exact c3 h3 (List.Sublist.cons_cons _ ht) hn
   | cons_cons _ ht => cases ht with
    | cons _ ht => exact c3 h2 (List.Sublist.cons_cons _ (List.Sublist.cons_cons _ ht)) hn
    | cons_cons _ ht => cases ht with
     | cons _ ht => cases ht; exact h1
     | cons_cons _ ht => cases ht; exact h
def val (T : List Pt) : Prop := ind T ∧ ∀ x ∈ (wts T).1, 0 < x
theorem Tg {S : List Pt} {N Z : Pt} {d s C : Int} (hd : 0 < d) (hN : ae N N = d * s) (hZ : ae Z N = C * s) : ae N N * (C * C) ≤ ae Z Z * (d * d) := by
 have V := sb (d * Z.1 - C * N.1, d * Z.2.1 - C * N.2.1, d * Z.2.2 - C * N.2.2)
 have e : ae (d * Z.1 - C * N.1, d * Z.2.1 - C * N.2.1, d * Z.2.2 - C * N.2.2) (d * Z.1 - C * N.1, d * Z.2.1 - C * N.2.1, d * Z.2.2 - C * N.2.2) = ae Z Z * (d * d) - 2 * ((d * C) * ae Z N) + ae N N * (C * C) := by
  simp only [ae]; grind
 rw [e, hZ, hN] at V
 have e2 : d * s * (C * C) = (d * C) * (C * s) := by grind
 rw [hN]
 omega
theorem Sh : ∀ (l : List (Int × Int)), l ≠ [] → (∀ x ∈ l, 0 < x.2) → ∃ y ∈ l, ∀ x ∈ l, y.1 * x.2 ≤ x.1 * y.2
 | [], h, _ => absurd rfl h
 | [a], _, _ => ⟨a, by simp, fun x hx => by simp at hx; subst hx; exact Int.le_refl _⟩
 | a :: b :: l, _, hp => by
  obtain ⟨y, hy, h⟩ := Sh (b :: l) (by simp) fun x hx => hp x (by simp [hx])
  have hy2 := hp y (by simp [hy])
  have ha2 := hp a (by simp)
  rcases Int.le_total (y.1 * a.2) (a.1 * y.2) with g | g
  ·refine ⟨y, by simp [hy], fun x hx => ?_⟩
   rcases List.mem_cons.1 hx with rfl | hx
   ·exact g
   ·exact h x hx
  ·refine ⟨a, by simp, fun x hx => ?_⟩
   rcases List.mem_cons.1 hx with rfl | hx
   ·exact Int.le_refl _
   ·have hx2 := hp x (by simp [hx])
    have h1 := Int.mul_le_mul_of_nonneg_right (h x hx) (Int.le_of_lt ha2)
    have h2 := Int.mul_le_mul_of_nonneg_right g (Int.le_of_lt hx2)
    have h3 : (a.1 * x.2) * y.2 ≤ (x.1 * a.2) * y.2 := by
     have e1 : a.1 * y.2 * x.2 = (a.1 * x.2) * y.2 := by grind
     have e2 : x.1 * y.2 * a.2 = (x.1 * a.2) * y.2 := by grind
     have e3 : y.1 * x.2 * a.2 = y.1 * a.2 * x.2 := by grind
     omega
    exact Int.le_of_mul_le_mul_right h3 hy2
def mvd (c0 w0 : Int) : List Int → List Int → List Int
 | w :: ws, c :: cs => (c0 * w - w0 * c) :: mvd c0 w0 ws cs
 | _, _ => []
theorem NQ (c0 w0 : Int) : ∀ w c, w.length = c.length → (mvd c0 w0 w c).length = c.length
 | [], [], _ => rfl
 | _ :: w, _ :: c, h => by simpa [mvd] using NQ c0 w0 w c (by simpa using h)
 | [], _ :: _, h => by simp at h
 | _ :: _, [], h => by simp at h
theorem NR (c0 w0 : Int) : ∀ w c, w.length = c.length → cq (mvd c0 w0 w c) = c0 * cq w - w0 * cq c
 | [], [], _ => by simp [mvd, cq]
 | _ :: w, _ :: c, h => by
  have := NR c0 w0 w c (by simpa using h)
  simp only [mvd, cq, this]; grind
 | [], _ :: _, h => by simp at h
 | _ :: _, [], h => by simp at h
theorem MI (c0 w0 : Int) : ∀ w c S, w.length = S.length → c.length = S.length → bA (mvd c0 w0 w c) S = (c0 * (bA w S).1 - w0 * (bA c S).1, c0 * (bA w S).2.1 - w0 * (bA c S).2.1, c0 * (bA w S).2.2 - w0 * (bA c S).2.2)
 | [], [], [], _, _ => by simp [mvd, bA]
 | _ :: w, _ :: c, p :: S, h, h' => by
  have := MI c0 w0 w c S (by simpa using h) (by simpa using h')
  simp only [mvd, bA, this, Prod.mk.injEq]; grind
 | [], _, _ :: _, h, _ => by simp at h
 | _ :: _, _, [], h, _ => by simp at h
 | _ :: _, [], _ :: _, _, h => by simp at h
 | [], _ :: _, [], _, h => by simp at h
theorem NS (c0 w0 : Int) : ∀ w c x, x ∈ mvd c0 w0 w c → ∃ p ∈ w.zip c, x = c0 * p.1 - w0 * p.2
 | [], _, x, h => by simp [mvd] at h
 | _ :: _, [], x, h => by simp [mvd] at h
 | a :: w, b :: c, x, h => by
  simp only [mvd, List.mem_cons] at h
  rcases h with rfl | h
  ·exact ⟨(a, b), by simp, rfl⟩
  ·obtain ⟨p, h1, h2⟩ := NS c0 w0 w c x h
   exact ⟨p, by simp [h1], h2⟩
theorem NT (c0 w0 : Int) : ∀ w c p, p ∈ w.zip c → c0 * p.1 - w0 * p.2 ∈ mvd c0 w0 w c
 | [], _, x, h => by simp at h
 | _ :: _, [], x, h => by simp at h
 | a :: w, b :: c, x, h => by
  simp only [List.zip_cons_cons, List.mem_cons] at h
  simp only [mvd, List.mem_cons]
  rcases h with rfl | h
  ·exact .inl rfl
  ·exact .inr (NT c0 w0 w c x h)
theorem MJ : ∀ (c : List Int) (S : List Pt), c.length = S.length → (∀ x ∈ c, 0 ≤ x) → ∃ S' c', S'.Sublist S ∧ c'.length = S'.length ∧ (∀ x ∈ c', 0 < x) ∧ bA c' S' = bA c S ∧ cq c' = cq c ∧ ((0 : Int) ∈ c → S'.length < S.length)
 | [], [], _, _ => ⟨[], [], List.Sublist.refl _, rfl, by simp, rfl, rfl, by simp⟩
 | a :: c, p :: S, h, hp => by
  obtain ⟨S', c', h1, h2, h3, h4, h5, h6⟩ := MJ c S (by simpa using h) fun x hx => hp x (by simp [hx])
  have ha := hp a (by simp)
  rcases Int.lt_or_le 0 a with g | g
  ·refine ⟨p :: S', a :: c', List.Sublist.cons_cons _ h1, by simp [h2], fun x hx => ?_, by simp [bA, h4], by simp [cq, h5], fun hz => ?_⟩
   ·rcases List.mem_cons.1 hx with rfl | hx
    ·exact g
    ·exact h3 x hx
   ·rcases List.mem_cons.1 hz with e | hz
    ·omega
    ·have := h6 hz; simp; omega
  ·obtain rfl : a = 0 := by omega
   refine ⟨S', c', List.Sublist.cons _ h1, h2, h3, by simp [bA, h4], by simp [cq, h5], fun _ => ?_⟩
   have := h1.length_le
   simp; omega
 | [], _ :: _, h, _ => by simp at h
 | _ :: _, [], h, _ => by simp at h
theorem MK : ∀ (c : List Int), c ≠ [] → (∀ x ∈ c, 0 < x) → 0 < cq c
 | [], h, _ => absurd rfl h
 | [a], _, h => by have := h a (by simp); simp [cq]; omega
 | a :: b :: c, _, h => by
  have := MK (b :: c) (by simp) fun x hx => h x (by simp [hx])
  have := h a (by simp)
  simp only [cq] at *; omega
theorem Ni : ∀ (n : Nat) (S : List Pt) (c : List Int), S.length = n → ind S → c.length = S.length → (∀ x ∈ c, 0 < x) →
  ∃ T, T.Sublist S ∧ val T ∧ ae (bG T) (bG T) * (cq c * cq c) ≤ ae (bA c S) (bA c S) * ((wts T).2 * (wts T).2) := by
 intro n
 induction n using Nat.strongRecOn with
 | _ n ih =>
  intro S c hn hi hc hp
  obtain ⟨l1, l2⟩ := E5 hi
  obtain ⟨q1, q2⟩ := Ht S l1 l2
  have hd := qu hi
  have lev := yZ S l1 l2
  have hN : ae (bG S) (bG S) = (wts S).2 * ae (S.headD (0, 0, 0)) (bG S) := by
   have := Ck (bG S) _ (wts S).1 S q2 lev
   rw [q1] at this
   exact this
  have hZ : ae (bA c S) (bG S) = cq c * ae (S.headD (0, 0, 0)) (bG S) := Ck _ _ c S hc lev
  have base := Tg (S := S) hd hN hZ
  by_cases hall : ∀ x ∈ (wts S).1, 0 < x
  ·exact ⟨S, List.Sublist.refl _, ⟨hi, hall⟩, base⟩
  ·have hcne : c ≠ [] := by intro e; rw [e] at hc; simp at hc; omega
   have hlw : (wts S).1.length = c.length := by rw [q2, hc]
   have hzne : (wts S).1.zip c ≠ [] := by
    intro e
    have := congrArg List.length e
    simp only [List.length_zip, List.length_nil] at this
    have : c.length ≠ 0 := fun e => hcne (List.length_eq_zero_iff.1 e)
    omega
   obtain ⟨y, hy, hyw⟩ := Sh _ hzne fun x hx => hp _ (List.of_mem_zip hx).2
   have hy2 : 0 < y.2 := hp _ (List.of_mem_zip hy).2
   have hy1 : y.1 ≤ 0 := by
    have : ∃ x ∈ (wts S).1, x ≤ 0 := by
     by_cases hx : ∃ x ∈ (wts S).1, x ≤ 0
     ·exact hx
     ·exact absurd (fun x hm => by
       rcases Int.lt_or_le 0 x with g | g
       ·exact g
       ·exact absurd ⟨x, hm, g⟩ hx) hall
    obtain ⟨x, hx, hx0⟩ := this
    obtain ⟨i, hil, hxi⟩ := List.getElem_of_mem hx
    have hz : (x, c[i]'(by omega)) ∈ (wts S).1.zip c := by
     rw [List.mem_iff_getElem]
     exact ⟨i, by rw [List.length_zip]; omega, by rw [List.getElem_zip, hxi]⟩
    have h1 := hyw _ hz
    have h2 := hp _ (List.of_mem_zip hz).2
    simp only at h1 h2
    have h3 : x * y.2 ≤ 0 := Int.mul_nonpos_of_nonpos_of_nonneg hx0 (Int.le_of_lt hy2)
    rcases Int.lt_or_le 0 y.1 with g | g
    ·have := Int.mul_pos g h2; omega
    ·exact g
   have hpos : ∀ x ∈ mvd y.2 y.1 (wts S).1 c, 0 ≤ x := by
    intro x hx
    obtain ⟨p, p1, rfl⟩ := NS _ _ _ _ _ hx
    have := hyw p p1
    have e : y.2 * p.1 = p.1 * y.2 := Int.mul_comm _ _
    omega
   have hzero : (0 : Int) ∈ mvd y.2 y.1 (wts S).1 c := by
    have := NT y.2 y.1 _ _ _ hy
    have e : y.2 * y.1 - y.1 * y.2 = 0 := by rw [Int.mul_comm]; omega
    rwa [e] at this
   obtain ⟨S', c', h1, h2, h3, h4, h5, h6⟩ := MJ (mvd y.2 y.1 (wts S).1 c) S (by rw [NQ _ _ _ _ hlw, hc]) hpos
   rw [MI _ _ _ _ _ q2 hc] at h4
   rw [NR _ _ _ _ hlw, q1] at h5
   have hC := MK c hcne hp
   have hC' : 0 < cq c' := by
    rw [h5]
    have a1 := Int.mul_pos hy2 hd
    have a2 : y.1 * cq c ≤ 0 := Int.mul_nonpos_of_nonpos_of_nonneg hy1 (Int.le_of_lt hC)
    omega
   have hne : S' ≠ [] := by
    intro e
    rw [e] at h2
    have : c' = [] := List.length_eq_zero_iff.1 (by simpa using h2)
    rw [this] at hC'
    simp [cq] at hC'
   obtain ⟨T, t1, t2, t3⟩ := ih S'.length (by rw [← hn]; exact h6 hzero) S' c' rfl (E6 hi h1 hne) h2 h3
   refine ⟨T, t1.trans h1, t2, ?_⟩
   have hT := qu t2.1
   rw [h4] at t3
   generalize hs : ae (S.headD (0, 0, 0)) (bG S) = s at hN hZ
   have hNS : bA (wts S).1 S = bG S := rfl
   rw [hNS] at t3
   generalize hZZ : bA c S = Z at *
   generalize hNN : bG S = N at *
   generalize (wts S).2 = d at *
   generalize cq c = C at *
   generalize cq c' = C' at *
   generalize bG T = M at *
   generalize (wts T).2 = f at *
   obtain ⟨w0, c0⟩ := y
   simp only at *
   have e1 : ae (c0 * N.1 - w0 * Z.1, c0 * N.2.1 - w0 * Z.2.1, c0 * N.2.2 - w0 * Z.2.2) (c0 * N.1 - w0 * Z.1, c0 * N.2.1 - w0 * Z.2.1, c0 * N.2.2 - w0 * Z.2.2) = c0 * c0 * ae N N - 2 * (c0 * w0 * ae Z N) + w0 * w0 * ae Z Z := by
    simp only [ae]; grind
   rw [e1, hN, hZ] at t3
   have key : (c0 * c0 * (d * s) - 2 * (c0 * w0 * (C * s)) + w0 * w0 * ae Z Z) * (C * C) ≤ ae Z Z * (C' * C') := by
    have b2 : 0 ≤ d * ae Z Z - C * C * s := by
     rw [hN] at base
     have : d * (C * C * s) ≤ d * (d * ae Z Z) := by
      have e1 : d * s * (C * C) = d * (C * C * s) := by grind
      have e2 : ae Z Z * (d * d) = d * (d * ae Z Z) := by grind
      omega
     have := Int.le_of_mul_le_mul_left this hd
     omega
    have b3 : 0 ≤ c0 * c0 * d - 2 * (c0 * w0 * C) := by
     have a1 := Int.mul_pos (Int.mul_pos hy2 hy2) hd
     have a2 : c0 * w0 * C ≤ 0 := Int.mul_nonpos_of_nonpos_of_nonneg (Int.mul_nonpos_of_nonneg_of_nonpos (Int.le_of_lt hy2) hy1) (Int.le_of_lt hC)
     omega
    have b4 := Int.mul_nonneg b3 b2
    have b5 : ae Z Z * (C' * C') - (c0 * c0 * (d * s) - 2 * (c0 * w0 * (C * s)) + w0 * w0 * ae Z Z) * (C * C) = (c0 * c0 * d - 2 * (c0 * w0 * C)) * (d * ae Z Z - C * C * s) := by
     rw [h5]; grind
    omega
   have ff : 0 ≤ f * f := sq_nonneg f
   have cc : 0 ≤ C * C := sq_nonneg C
   have k1 := Int.mul_le_mul_of_nonneg_right t3 cc
   have k2 := Int.mul_le_mul_of_nonneg_right key ff
   have k3 : ae M M * (C * C) * (C' * C') ≤ ae Z Z * (f * f) * (C' * C') := by
    have e1 : ae M M * (C' * C') * (C * C) = ae M M * (C * C) * (C' * C') := by grind
    have e2 : ae Z Z * (C' * C') * (f * f) = ae Z Z * (f * f) * (C' * C') := by grind
    have e3 : ∀ u : Int, u * (f * f) * (C * C) = u * (C * C) * (f * f) := by intro u; grind
    rw [e1, e3] at k1
    rw [e2] at k2
    omega
   exact Int.le_of_mul_le_mul_right k3 (Int.mul_pos hC' hC')
theorem MC {T : List Pt} {N p : Pt} {s : Int} (hT : ind T) (lev : ∀ q ∈ T, ae q N = s) (hp : ae p N ≠ s) : ind (p :: T) := by
 match T, hT with
 | [q], _ =>
  intro e
  have h1 := lev q (by simp)
  simp only [aq, Prod.mk.injEq] at e
  apply hp
  rw [← h1]
  simp only [ae]
  rw [show p.1 = q.1 by omega, show p.2.1 = q.2.1 by omega, show p.2.2 = q.2.2 by omega]
 | [q, r], h =>
  intro e
  have h1 := lev q (by simp)
  have h2 := lev r (by simp)
  apply h
  have ht : s - ae p N ≠ 0 := by omega
  have k : ∀ a b : Int, (s - ae p N) * (a - b) = 0 → a - b = 0 := fun a b hh => (Int.mul_eq_zero.1 hh).resolve_left ht
  simp only [crs, aq, Prod.mk.injEq] at e ⊢
  obtain ⟨e1, e2, e3⟩ := e
  simp only [ae] at h1 h2 k
  refine ⟨k _ _ ?_, k _ _ ?_, k _ _ ?_⟩ <;> grind
 | [q, r, w], h =>
  intro e
  have h1 := lev q (by simp)
  have h2 := lev r (by simp)
  have h3 := lev w (by simp)
  apply h
  have ht : s - ae p N ≠ 0 := by omega
  have k : ∀ a : Int, (s - ae p N) * a = 0 → a = 0 := fun a hh => (Int.mul_eq_zero.1 hh).resolve_left ht
  have key : ∀ u v x : Pt, ae u N = s - ae p N → ae v N = s - ae p N → ae x N = s - ae p N → dc u v x = 0 →
    crs (aq v u) (aq x u) = (0, 0, 0) := by
   intro u v x hu hv hx hd
   simp only [crs, aq, Prod.mk.injEq]
   refine ⟨k _ ?_, k _ ?_, k _ ?_⟩
   ·have : (s - ae p N) * ((v.2.1 - u.2.1) * (x.2.2 - u.2.2) - (v.2.2 - u.2.2) * (x.2.1 - u.2.1)) =
     ae u N * (v.2.1 * x.2.2 - v.2.2 * x.2.1) + ae v N * (x.2.1 * u.2.2 - x.2.2 * u.2.1) + ae x N * (u.2.1 * v.2.2 - u.2.2 * v.2.1) := by rw [hu, hv, hx]; grind
    rw [this]
    have : ae u N * (v.2.1 * x.2.2 - v.2.2 * x.2.1) + ae v N * (x.2.1 * u.2.2 - x.2.2 * u.2.1) + ae x N * (u.2.1 * v.2.2 - u.2.2 * v.2.1) = dc u v x * N.1 := by
     simp only [dc, ae, crs]; grind
    rw [this, hd, Int.zero_mul]
   ·have : (s - ae p N) * ((v.2.2 - u.2.2) * (x.1 - u.1) - (v.1 - u.1) * (x.2.2 - u.2.2)) =
     ae u N * (v.2.2 * x.1 - v.1 * x.2.2) + ae v N * (x.2.2 * u.1 - x.1 * u.2.2) + ae x N * (u.2.2 * v.1 - u.1 * v.2.2) := by rw [hu, hv, hx]; grind
    rw [this]
    have : ae u N * (v.2.2 * x.1 - v.1 * x.2.2) + ae v N * (x.2.2 * u.1 - x.1 * u.2.2) + ae x N * (u.2.2 * v.1 - u.1 * v.2.2) = dc u v x * N.2.1 := by
     simp only [dc, ae, crs]; grind
    rw [this, hd, Int.zero_mul]
   ·have : (s - ae p N) * ((v.1 - u.1) * (x.2.1 - u.2.1) - (v.2.1 - u.2.1) * (x.1 - u.1)) =
     ae u N * (v.1 * x.2.1 - v.2.1 * x.1) + ae v N * (x.1 * u.2.1 - x.2.1 * u.1) + ae x N * (u.1 * v.2.1 - u.2.1 * v.1) := by rw [hu, hv, hx]; grind
    rw [this]
    have : ae u N * (v.1 * x.2.1 - v.2.1 * x.1) + ae v N * (x.1 * u.2.1 - x.2.1 * u.1) + ae x N * (u.1 * v.2.1 - u.2.1 * v.1) = dc u v x * N.2.2 := by
     simp only [dc, ae, crs]; grind
    rw [this, hd, Int.zero_mul]
  have r := key (aq q p) (aq r p) (aq w p) (by rw [kF, h1]) (by rw [kF, h2]) (by rw [kF, h3]) e
  simp only [crs, aq, Prod.mk.injEq] at r ⊢
  grind
 | [q, r, w, z], h =>
  exfalso
  have h1 := lev q (by simp)
  have h2 := lev r (by simp)
  have h3 := lev w (by simp)
  have h4 := lev z (by simp)
  have k : ∀ a : Int, dc (aq r q) (aq w q) (aq z q) * a = 0 → a = 0 := fun a hh => (Int.mul_eq_zero.1 hh).resolve_left h
  have g1 : ae (aq r q) N = 0 := by rw [kF]; omega
  have g2 : ae (aq w q) N = 0 := by rw [kF]; omega
  have g3 : ae (aq z q) N = 0 := by rw [kF]; omega
  have key : ∀ u v x : Pt, ae u N = 0 → ae v N = 0 → ae x N = 0 → dc u v x * N.1 = 0 ∧ dc u v x * N.2.1 = 0 ∧ dc u v x * N.2.2 = 0 := by
   intro u v x hu hv hx
   have e1 : dc u v x * N.1 = ae u N * (v.2.1 * x.2.2 - v.2.2 * x.2.1) + ae v N * (x.2.1 * u.2.2 - x.2.2 * u.2.1) + ae x N * (u.2.1 * v.2.2 - u.2.2 * v.2.1) := by simp only [dc, ae, crs]; grind
   have e2 : dc u v x * N.2.1 = ae u N * (v.2.2 * x.1 - v.1 * x.2.2) + ae v N * (x.2.2 * u.1 - x.1 * u.2.2) + ae x N * (u.2.2 * v.1 - u.1 * v.2.2) := by simp only [dc, ae, crs]; grind
   have e3 : dc u v x * N.2.2 = ae u N * (v.1 * x.2.1 - v.2.1 * x.1) + ae v N * (x.1 * u.2.1 - x.2.1 * u.1) + ae x N * (u.1 * v.2.1 - u.2.1 * v.1) := by simp only [dc, ae, crs]; grind
   rw [e1, e2, e3, hu, hv, hx]
   simp
  obtain ⟨r1, r2, r3⟩ := key _ _ _ g1 g2 g3
  have n1 := k _ r1
  have n2 := k _ r2
  have n3 := k _ r3
  apply hp
  rw [← h1]
  simp only [ae, n1, n2, n3, Int.mul_zero, Int.add_zero]
theorem Th : ∀ {A B : List Pt} {p : Pt}, ind (p :: (A ++ B)) → ind (A ++ p :: B)
 | [], B, p, h => h
 | [a], [], p, h => by
  intro e; apply h; simp only [aq, Prod.mk.injEq] at e ⊢; omega
 | [a], [b], p, h => by
  intro e; apply h; simp only [crs, aq, Prod.mk.injEq] at e ⊢; grind
 | [a], [b, c], p, h => by
  intro e; apply h; simp only [dc, ae, crs, aq] at e ⊢; grind
 | [a], b :: c :: d :: B, p, h => h.elim
 | [a, b], [], p, h => by
  intro e; apply h; simp only [crs, aq, Prod.mk.injEq] at e ⊢; grind
 | [a, b], [c], p, h => by
  intro e; apply h; simp only [dc, ae, crs, aq] at e ⊢; grind
 | [a, b], c :: d :: B, p, h => h.elim
 | [a, b, c], [], p, h => by
  intro e; apply h; simp only [dc, ae, crs, aq] at e ⊢; grind
 | [a, b, c], d :: B, p, h => h.elim
 | a :: b :: c :: d :: A, B, p, h => h.elim
theorem O2 {α : Type} {p : α} : ∀ {T l : List α}, T.Sublist l → p ∈ l → p ∉ T → ∃ A B, T = A ++ B ∧ (A ++ p :: B).Sublist l := by
 intro T l h
 induction h with
 | slnil => intro h; cases h
 | @cons T l a h ih =>
  intro hp hn
  rcases List.mem_cons.1 hp with rfl | hp
  ·exact ⟨[], T, rfl, List.Sublist.cons_cons _ h⟩
  ·obtain ⟨A, B, rfl, h2⟩ := ih hp hn
   exact ⟨A, B, rfl, List.Sublist.cons _ h2⟩
 | @cons_cons T l a h ih =>
  intro hp hn
  simp only [List.mem_cons, not_or] at hn
  rcases List.mem_cons.1 hp with rfl | hp
  ·exact absurd rfl hn.1
  ·obtain ⟨A, B, rfl, h2⟩ := ih hp hn.2
   exact ⟨a :: A, B, rfl, List.Sublist.cons_cons _ h2⟩
def pX {α : Type} : List α → List (List α)
 | [] => [[]]
 | a :: l => pX l ++ (pX l).map (a :: ·)
theorem Hu {α : Type} : ∀ {l T : List α}, T.Sublist l → T ∈ pX l := by
 intro l T h
 induction h with
 | slnil => simp [pX]
 | cons a h ih => simp [pX, ih]
 | cons_cons a h ih => simp [pX, ih]
theorem JV {α : Type} : ∀ {l T : List α}, T ∈ pX l → T.Sublist l
 | [], T, h => by simp [pX] at h; subst h; exact List.Sublist.refl _
 | a :: l, T, h => by
  simp only [pX, List.mem_append, List.mem_map] at h
  rcases h with h | ⟨U, h, rfl⟩
  ·exact List.Sublist.cons _ (JV h)
  ·exact List.Sublist.cons_cons _ (JV h)
theorem Qg {α : Type} (V : α → Prop) (q d : α → Int) (hd : ∀ x, V x → 0 < d x) : ∀ (L : List α), (∃ x ∈ L, V x) → ∃ x ∈ L, V x ∧ ∀ y ∈ L, V y → q x * d y ≤ q y * d x
 | [], h => by obtain ⟨x, h, _⟩ := h; cases h
 | a :: L, h => by
  by_cases hL : ∃ x ∈ L, V x
  ·obtain ⟨x, h1, h2, h3⟩ := Qg V q d hd L hL
   by_cases ha : V a
   ·rcases Int.le_total (q x * d a) (q a * d x) with g | g
    ·refine ⟨x, by simp [h1], h2, fun y hy hv => ?_⟩
     rcases List.mem_cons.1 hy with rfl | hy
     ·exact g
     ·exact h3 y hy hv
    ·refine ⟨a, by simp, ha, fun y hy hv => ?_⟩
     rcases List.mem_cons.1 hy with rfl | hy
     ·exact Int.le_refl _
     ·have k1 := Int.mul_le_mul_of_nonneg_right (h3 y hy hv) (Int.le_of_lt (hd a ha))
      have k2 := Int.mul_le_mul_of_nonneg_right g (Int.le_of_lt (hd y hv))
      have e1 : q a * d x * d y = (q a * d y) * d x := by grind
      have e2 : q x * d a * d y = q x * d y * d a := by grind
      have e3 : q y * d x * d a = (q y * d a) * d x := by grind
      exact Int.le_of_mul_le_mul_right (by omega) (hd x h2)
   ·refine ⟨x, by simp [h1], h2, fun y hy hv => ?_⟩
    rcases List.mem_cons.1 hy with rfl | hy
    ·exact absurd hv ha
    ·exact h3 y hy hv
  ·obtain ⟨x, hx, hv⟩ := h
   rcases List.mem_cons.1 hx with rfl | hx
   ·refine ⟨x, by simp, hv, fun y hy hv' => ?_⟩
    rcases List.mem_cons.1 hy with rfl | hy
    ·exact Int.le_refl _
    ·exact absurd ⟨y, hy, hv'⟩ hL
   ·exact absurd ⟨x, hx, hv⟩ hL
theorem Hy : ∀ (c : List Int) (A : List Pt) (c' : List Int) (B : List Pt), c.length = A.length → bA (c ++ c') (A ++ B) = ((bA c A).1 + (bA c' B).1, (bA c A).2.1 + (bA c' B).2.1, (bA c A).2.2 + (bA c' B).2.2)
 | [], [], c', B, _ => by simp [bA]
 | x :: c, p :: A, c', B, h => by
  have := Hy c A c' B (by simpa using h)
  simp only [List.cons_append, bA, this, Prod.mk.injEq]; grind
 | [], _ :: _, _, _, h => by simp at h
 | _ :: _, [], _, _, h => by simp at h
theorem Hz : ∀ (c c' : List Int), cq (c ++ c') = cq c + cq c'
 | [], c' => by simp [cq]
 | x :: c, c' => by simp only [List.cons_append, cq, Hz c c']; omega
theorem IU (K : Int) : ∀ (c : List Int) (A : List Pt), bA (c.map (K * ·)) A = (K * (bA c A).1, K * (bA c A).2.1, K * (bA c A).2.2)
 | [], A => by simp [bA]
 | x :: c, [] => by simp [bA]
 | x :: c, p :: A => by
  have := IU K c A
  simp only [List.map_cons, bA, this, Prod.mk.injEq]; grind
theorem IV (K : Int) : ∀ c : List Int, cq (c.map (K * ·)) = K * cq c
 | [] => by simp [cq]
 | x :: c => by simp only [List.map_cons, cq, IV K c]; grind
def tu (l T : List Pt) : Prop := ∀ p ∈ l, ae (T.headD (0, 0, 0)) (bG T) ≤ ae p (bG T)
theorem Ng {l : List Pt} (hl : l ≠ []) : ∃ T, T.Sublist l ∧ val T ∧ tu l T := by
 obtain ⟨p0, hp0⟩ := List.exists_mem_of_ne_nil l hl
 obtain ⟨T, hTm, hT, hmin⟩ := Qg (fun T => val T) (fun T => ae (bG T) (bG T)) (fun T => (wts T).2 * (wts T).2)
  (fun T h => Int.mul_pos (qu h.1) (qu h.1)) (pX l) ⟨[p0], Hu (List.singleton_sublist.2 hp0), trivial, by simp [wts]⟩
 have hTs := JV hTm
 refine ⟨T, hTs, hT, fun p hp => ?_⟩
 rcases Int.lt_or_le (ae p (bG T)) (ae (T.headD (0, 0, 0)) (bG T)) with g | g
 case inr => exact g
 exfalso
 have hN := Nst.of hT.1 hT.2
 obtain ⟨l1, l2⟩ := E5 hT.1
 have lev := yZ T l1 l2
 have hpn : p ∉ T := fun h => by have := lev p h; omega
 obtain ⟨A, B, rfl, hs⟩ := O2 hTs hp hpn
 have hi := Th (MC hT.1 lev (p := p) (by omega))
 have hsq := hN.sq
 have hlen := hN.len
 have hdp := hN.OZ
 have hdv := hN.div
 have hpos := hN.pos
 have hsum := hN.sum
 generalize hw : (wts (A ++ B)).1 = w at *
 generalize hd : (wts (A ++ B)).2 = d at *
 generalize hs' : ae ((A ++ B).headD (0, 0, 0)) (bG (A ++ B)) = s at *
 generalize hNN : bG (A ++ B) = N at *
 let K : Int := d * d * ae p p + (d * s) * (d * s) + 1
 have hK : 0 < K := by
  have a1 := Int.mul_nonneg (sq_nonneg d) (sb p)
  have a2 := sq_nonneg (d * s)
  show 0 < d * d * ae p p + (d * s) * (d * s) + 1
  omega
 let c : List Int := (w.take A.length).map (K * ·) ++ 1 :: (w.drop A.length).map (K * ·)
 have wl : (w.take A.length).length = A.length := by rw [List.length_take, hlen]; simp
 have wl2 : (w.drop A.length).length = B.length := by rw [List.length_drop, hlen]; simp
 have hc : c.length = (A ++ p :: B).length := by simp only [c, List.length_append, List.length_map, List.length_cons, wl, wl2]
 have hcp : ∀ x ∈ c, 0 < x := by
  intro x hx
  simp only [c, List.mem_append, List.mem_cons, List.mem_map] at hx
  rcases hx with ⟨y, hy, rfl⟩ | rfl | ⟨y, hy, rfl⟩
  ·exact Int.mul_pos hK (hpos y (List.mem_of_mem_take hy))
  ·decide
  ·exact Int.mul_pos hK (hpos y (List.mem_of_mem_drop hy))
 have hC : cq c = K * d + 1 := by
  have e : cq w = cq (w.take A.length) + cq (w.drop A.length) := by rw [← Hz, List.take_append_drop]
  simp only [c, Hz, cq, IV]
  rw [← hdv, e]
  grind
 have hZ : bA c (A ++ p :: B) = (K * N.1 + p.1, K * N.2.1 + p.2.1, K * N.2.2 + p.2.2) := by
  have e : N = ((bA (w.take A.length) A).1 + (bA (w.drop A.length) B).1, (bA (w.take A.length) A).2.1 + (bA (w.drop A.length) B).2.1, (bA (w.take A.length) A).2.2 + (bA (w.drop A.length) B).2.2) := by
   rw [← Hy _ _ _ _ wl, List.take_append_drop]; exact hsum
  simp only [c]
  rw [Hy _ _ _ _ (by rw [List.length_map, wl])]
  simp only [bA, IU]
  rw [e]
  simp only [Prod.mk.injEq]
  grind
 obtain ⟨T', t1, t2, t3⟩ := Ni _ (A ++ p :: B) c rfl hi hc hcp
 have hm := hmin T' (Hu (t1.trans hs)) t2
 have hdT := qu t2.1
 rw [hZ, hC] at t3
 generalize hM : bG T' = M at *
 generalize hf : (wts T').2 = f at *
 have zz : ae (K * N.1 + p.1, K * N.2.1 + p.2.1, K * N.2.2 + p.2.2) (K * N.1 + p.1, K * N.2.1 + p.2.1, K * N.2.2 + p.2.2) = K * K * ae N N + 2 * (K * ae p N) + ae p p := by
  simp only [ae]; grind
 rw [zz] at t3
 have lt : (K * K * ae N N + 2 * (K * ae p N) + ae p p) * (d * d) < ae N N * ((K * d + 1) * (K * d + 1)) := by
  have e : ae N N * ((K * d + 1) * (K * d + 1)) - (K * K * ae N N + 2 * (K * ae p N) + ae p p) * (d * d) = 2 * (K * (d * d * (s - ae p N))) + d * s - d * d * ae p p := by
   rw [hsq]; grind
  have b1 : K * 1 ≤ K * (d * d * (s - ae p N)) := by
   refine Int.mul_le_mul_of_nonneg_left ?_ (Int.le_of_lt hK)
   have := Int.mul_pos (Int.mul_pos hdp hdp) (show 0 < s - ae p N by omega)
   omega
  have b2 : -((d * s) * (d * s)) ≤ d * s := by
   rcases Int.le_total 0 (d * s) with q | q
   ·have := sq_nonneg (d * s); omega
   ·rcases Int.lt_or_le (d * s) 0 with r | r
    ·have : -(d * s) * 1 ≤ -(d * s) * (-(d * s)) := Int.mul_le_mul_of_nonneg_left (by omega) (by omega)
     have e : -(d * s) * -(d * s) = (d * s) * (d * s) := by grind
     omega
    ·have : d * s = 0 := by omega
     rw [this]; decide
  have a2 := sq_nonneg (d * s)
  have a1 := Int.mul_nonneg (sq_nonneg d) (sb p)
  have hKe : K = d * d * ae p p + (d * s) * (d * s) + 1 := rfl
  omega
 have hff := Int.mul_pos hdT hdT
 have hdd := Int.mul_pos hdp hdp
 have hCC : 0 < (K * d + 1) * (K * d + 1) := by
  have := Int.mul_pos hK hdp
  exact Int.mul_pos (by omega) (by omega)
 generalize (K * d + 1) * (K * d + 1) = CC at *
 generalize K * K * ae N N + 2 * (K * ae p N) + ae p p = ZZ at *
 generalize ae N N = NN at *
 generalize ae M M = MM at *
 have k1 := Int.mul_le_mul_of_nonneg_right t3 (Int.le_of_lt hdd)
 have k2 := Int.mul_le_mul_of_nonneg_right hm (Int.le_of_lt hCC)
 have k3 := Int.mul_lt_mul_of_pos_right lt hff
 have e1 : MM * CC * (d * d) = MM * (d * d) * CC := by grind
 have e2 : ZZ * (f * f) * (d * d) = ZZ * (d * d) * (f * f) := by grind
 have e3 : NN * (f * f) * CC = NN * CC * (f * f) := by grind
 omega
end Go.Ev
namespace Go.Ev
open Go.Proofs
def EJ (a0 a1 a2 a3 a4 a5 a6 a7 : Int) : Option Int := ag (ok8 a0 a1 a2 a3 a4 a5 a6 a7 && fP (0 - num a0 a1 a2 a3 a4 a5 a6 a7)) (some (0 - num a0 a1 a2 a3 a4 a5 a6 a7))
theorem Tv {a0 a1 a2 a3 a4 a5 a6 a7 : Int} {r} (h : EJ a0 a1 a2 a3 a4 a5 a6 a7 = some r) : MQ a0 a1 a2 a3 a4 a5 a6 a7 = some (r, true) := by
 unfold EJ at h
 obtain ⟨h1, h2⟩ := aM h
 rw [Bool.and_eq_true] at h1
 simp only [Option.some.injEq] at h2
 subst h2
 unfold MQ gK
 rw [h1.1, h1.2]
 rfl
def gI (x : Int) : Option Int := EJ (aa x 0) (aa x 1) (aa x 2) (aa x 3) (aa x 4) (aa x 5) (aa x 6) (aa x 7)
theorem S4 {x : Int} (hx : fit x) (h : fit (0 - x)) : gI x = some (0 - x) := by
 unfold gI EJ; rw [bv, aG hx, ca.2 h]; rfl
def Ak : HK where
 call := fun args σ k => match args with
  | [.agg [.int .u64 a0, .int .u64 a1, .int .u64 a2, .int .u64 a3, .int .u64 a4, .int .u64 a5, .int .u64 a6, .int .u64 a7]] => Option.bind (EJ a0 a1 a2 a3 a4 a5 a6 a7) fun r => k (.ret (.tup [.agg [.int .u64 (aa r 0), .int .u64 (aa r 1), .int .u64 (aa r 2), .int .u64 (aa r 3), .int .u64 (aa r 4), .int .u64 (aa r 5), .int .u64 (aa r 6), .int .u64 (aa r 7)], .bool true])) σ
  | _ => none
 nat := fun args σ k => by
  repeat' split
  all_goals simp only [Option.bind_assoc, Option.bind_none, Option.bind_some]
 pure := true
 pok := fun _ args σ r σ' h => by
  split at h
  ·obtain ⟨q, h1, h2⟩ := bE_ h
   simp only [Option.some.injEq, Prod.mk.injEq] at h2
   obtain ⟨rfl, rfl⟩ := h2
   exact ⟨rfl, ⟨_, rfl⟩, fun σ2 => by simp only [h1, Option.bind_some]⟩
  ·cases h
theorem yD : aT Tryz.prog 26 Ak := RO.cS fun args σ x h => by
 simp only [Ak] at h
 split at h
 ·rename_i a0 a1 a2 a3 a4 a5 a6 a7
  obtain ⟨r, h1, h2⟩ := bE_ h
  simp only [Pa, Tv h1, Option.bind_some]
  exact h2
 ·cases h
def pn (a0 a1 a2 a3 a4 a5 a6 a7 a8 a9 a10 a11 a12 a13 a14 a15 : Int) : Option Int := ag (ok8 a0 a1 a2 a3 a4 a5 a6 a7 && ok8 a8 a9 a10 a11 a12 a13 a14 a15 && fP (num a0 a1 a2 a3 a4 a5 a6 a7 + num a8 a9 a10 a11 a12 a13 a14 a15)) (some (num a0 a1 a2 a3 a4 a5 a6 a7 + num a8 a9 a10 a11 a12 a13 a14 a15))
theorem Tw {a0 a1 a2 a3 a4 a5 a6 a7 a8 a9 a10 a11 a12 a13 a14 a15 : Int} {r} (h : pn a0 a1 a2 a3 a4 a5 a6 a7 a8 a9 a10 a11 a12 a13 a14 a15 = some r) : wO a0 a1 a2 a3 a4 a5 a6 a7 a8 a9 a10 a11 a12 a13 a14 a15 = some (r, true) := by
 unfold pn at h
 obtain ⟨h1, h2⟩ := aM h
 rw [Bool.and_eq_true] at h1
 simp only [Option.some.injEq] at h2
 subst h2
 unfold wO gK
 rw [h1.1, h1.2]
 rfl
def zx (x y : Int) : Option Int := pn (aa x 0) (aa x 1) (aa x 2) (aa x 3) (aa x 4) (aa x 5) (aa x 6) (aa x 7) (aa y 0) (aa y 1) (aa y 2) (aa y 3) (aa y 4) (aa y 5) (aa y 6) (aa y 7)
theorem S2 {x y : Int} (hx : fit x) (hy : fit y) (h : fit (x + y)) : zx x y = some (x + y) := by
 unfold zx pn; rw [bv, bv, aG hx, aG hy, ca.2 h]; rfl
def Lr : HK where
 call := fun args σ k => match args with
  | [.agg [.int .u64 a0, .int .u64 a1, .int .u64 a2, .int .u64 a3, .int .u64 a4, .int .u64 a5, .int .u64 a6, .int .u64 a7], .agg [.int .u64 a8, .int .u64 a9, .int .u64 a10, .int .u64 a11, .int .u64 a12, .int .u64 a13, .int .u64 a14, .int .u64 a15]] => Option.bind (pn a0 a1 a2 a3 a4 a5 a6 a7 a8 a9 a10 a11 a12 a13 a14 a15) fun r => k (.ret (.tup [.agg [.int .u64 (aa r 0), .int .u64 (aa r 1), .int .u64 (aa r 2), .int .u64 (aa r 3), .int .u64 (aa r 4), .int .u64 (aa r 5), .int .u64 (aa r 6), .int .u64 (aa r 7)], .bool true])) σ
  | _ => none
 nat := fun args σ k => by
  repeat' split
  all_goals simp only [Option.bind_assoc, Option.bind_none, Option.bind_some]
 pure := true
 pok := fun _ args σ r σ' h => by
  split at h
  ·obtain ⟨q, h1, h2⟩ := bE_ h
   simp only [Option.some.injEq, Prod.mk.injEq] at h2
   obtain ⟨rfl, rfl⟩ := h2
   exact ⟨rfl, ⟨_, rfl⟩, fun σ2 => by simp only [h1, Option.bind_some]⟩
  ·cases h
theorem Pd : aT Tryz.prog 64 Lr := Ln.cS fun args σ x h => by
 simp only [Lr] at h
 split at h
 ·rename_i a0 a1 a2 a3 a4 a5 a6 a7 a8 a9 a10 a11 a12 a13 a14 a15
  obtain ⟨r, h1, h2⟩ := bE_ h
  simp only [K1, Tw h1, Option.bind_some]
  exact h2
 ·cases h
def yC (a0 a1 a2 a3 a4 a5 a6 a7 a8 a9 a10 a11 a12 a13 a14 a15 : Int) : Option Int := ag (ok8 a0 a1 a2 a3 a4 a5 a6 a7 && ok8 a8 a9 a10 a11 a12 a13 a14 a15 && fP (num a0 a1 a2 a3 a4 a5 a6 a7 - num a8 a9 a10 a11 a12 a13 a14 a15)) (some (num a0 a1 a2 a3 a4 a5 a6 a7 - num a8 a9 a10 a11 a12 a13 a14 a15))
theorem Tx {a0 a1 a2 a3 a4 a5 a6 a7 a8 a9 a10 a11 a12 a13 a14 a15 : Int} {r} (h : yC a0 a1 a2 a3 a4 a5 a6 a7 a8 a9 a10 a11 a12 a13 a14 a15 = some r) : Dn a0 a1 a2 a3 a4 a5 a6 a7 a8 a9 a10 a11 a12 a13 a14 a15 = some (r, true) := by
 unfold yC at h
 obtain ⟨h1, h2⟩ := aM h
 rw [Bool.and_eq_true] at h1
 simp only [Option.some.injEq] at h2
 subst h2
 unfold Dn gK
 rw [h1.1, h1.2]
 rfl
def fc (x y : Int) : Option Int := yC (aa x 0) (aa x 1) (aa x 2) (aa x 3) (aa x 4) (aa x 5) (aa x 6) (aa x 7) (aa y 0) (aa y 1) (aa y 2) (aa y 3) (aa y 4) (aa y 5) (aa y 6) (aa y 7)
theorem S3 {x y : Int} (hx : fit x) (hy : fit y) (h : fit (x - y)) : fc x y = some (x - y) := by
 unfold fc yC; rw [bv, bv, aG hx, aG hy, ca.2 h]; rfl
def Lq : HK where
 call := fun args σ k => match args with
  | [.agg [.int .u64 a0, .int .u64 a1, .int .u64 a2, .int .u64 a3, .int .u64 a4, .int .u64 a5, .int .u64 a6, .int .u64 a7], .agg [.int .u64 a8, .int .u64 a9, .int .u64 a10, .int .u64 a11, .int .u64 a12, .int .u64 a13, .int .u64 a14, .int .u64 a15]] => Option.bind (yC a0 a1 a2 a3 a4 a5 a6 a7 a8 a9 a10 a11 a12 a13 a14 a15) fun r => k (.ret (.tup [.agg [.int .u64 (aa r 0), .int .u64 (aa r 1), .int .u64 (aa r 2), .int .u64 (aa r 3), .int .u64 (aa r 4), .int .u64 (aa r 5), .int .u64 (aa r 6), .int .u64 (aa r 7)], .bool true])) σ
  | _ => none
 nat := fun args σ k => by
  repeat' split
  all_goals simp only [Option.bind_assoc, Option.bind_none, Option.bind_some]
 pure := true
 pok := fun _ args σ r σ' h => by
  split at h
  ·obtain ⟨q, h1, h2⟩ := bE_ h
   simp only [Option.some.injEq, Prod.mk.injEq] at h2
   obtain ⟨rfl, rfl⟩ := h2
   exact ⟨rfl, ⟨_, rfl⟩, fun σ2 => by simp only [h1, Option.bind_some]⟩
  ·cases h
theorem Pc : aT Tryz.prog 38 Lq := Lo.cS fun args σ x h => by
 simp only [Lq] at h
 split at h
 ·rename_i a0 a1 a2 a3 a4 a5 a6 a7 a8 a9 a10 a11 a12 a13 a14 a15
  obtain ⟨r, h1, h2⟩ := bE_ h
  simp only [K2, Tx h1, Option.bind_some]
  exact h2
 ·cases h
def jP (a0 a1 a2 a3 a4 a5 a6 a7 a8 a9 a10 a11 a12 a13 a14 a15 : Int) : Option Int := ag (ok8 a0 a1 a2 a3 a4 a5 a6 a7 && ok8 a8 a9 a10 a11 a12 a13 a14 a15 && fP (num a0 a1 a2 a3 a4 a5 a6 a7 * num a8 a9 a10 a11 a12 a13 a14 a15)) (some (num a0 a1 a2 a3 a4 a5 a6 a7 * num a8 a9 a10 a11 a12 a13 a14 a15))
theorem Ty {a0 a1 a2 a3 a4 a5 a6 a7 a8 a9 a10 a11 a12 a13 a14 a15 : Int} {r} (h : jP a0 a1 a2 a3 a4 a5 a6 a7 a8 a9 a10 a11 a12 a13 a14 a15 = some r) : wN a0 a1 a2 a3 a4 a5 a6 a7 a8 a9 a10 a11 a12 a13 a14 a15 = some (r, true) := by
 unfold jP at h
 obtain ⟨h1, h2⟩ := aM h
 rw [Bool.and_eq_true] at h1
 simp only [Option.some.injEq] at h2
 subst h2
 unfold wN gK
 rw [h1.1, h1.2]
 rfl
def cv (x y : Int) : Option Int := jP (aa x 0) (aa x 1) (aa x 2) (aa x 3) (aa x 4) (aa x 5) (aa x 6) (aa x 7) (aa y 0) (aa y 1) (aa y 2) (aa y 3) (aa y 4) (aa y 5) (aa y 6) (aa y 7)
theorem S1 {x y : Int} (hx : fit x) (hy : fit y) (h : fit (x * y)) : cv x y = some (x * y) := by
 unfold cv jP; rw [bv, bv, aG hx, aG hy, ca.2 h]; rfl
def Ls : HK where
 call := fun args σ k => match args with
  | [.agg [.int .u64 a0, .int .u64 a1, .int .u64 a2, .int .u64 a3, .int .u64 a4, .int .u64 a5, .int .u64 a6, .int .u64 a7], .agg [.int .u64 a8, .int .u64 a9, .int .u64 a10, .int .u64 a11, .int .u64 a12, .int .u64 a13, .int .u64 a14, .int .u64 a15]] => Option.bind (jP a0 a1 a2 a3 a4 a5 a6 a7 a8 a9 a10 a11 a12 a13 a14 a15) fun r => k (.ret (.tup [.agg [.int .u64 (aa r 0), .int .u64 (aa r 1), .int .u64 (aa r 2), .int .u64 (aa r 3), .int .u64 (aa r 4), .int .u64 (aa r 5), .int .u64 (aa r 6), .int .u64 (aa r 7)], .bool true])) σ
  | _ => none
 nat := fun args σ k => by
  repeat' split
  all_goals simp only [Option.bind_assoc, Option.bind_none, Option.bind_some]
 pure := true
 pok := fun _ args σ r σ' h => by
  split at h
  ·obtain ⟨q, h1, h2⟩ := bE_ h
   simp only [Option.some.injEq, Prod.mk.injEq] at h2
   obtain ⟨rfl, rfl⟩ := h2
   exact ⟨rfl, ⟨_, rfl⟩, fun σ2 => by simp only [h1, Option.bind_some]⟩
  ·cases h
theorem Pe : aT Tryz.prog 63 Ls := Gt.cS fun args σ x h => by
 simp only [Ls] at h
 split at h
 ·rename_i a0 a1 a2 a3 a4 a5 a6 a7 a8 a9 a10 a11 a12 a13 a14 a15
  obtain ⟨r, h1, h2⟩ := bE_ h
  simp only [HR, Ty h1, Option.bind_some]
  exact h2
 ·cases h
def v4 (a0 a1 a2 a3 a4 a5 a6 a7 a8 a9 a10 a11 a12 a13 a14 a15 : Int) : Option (Int × Int) := ag (ok8 a0 a1 a2 a3 a4 a5 a6 a7 && ok8 a8 a9 a10 a11 a12 a13 a14 a15 && !decide (num a8 a9 a10 a11 a12 a13 a14 a15 = 0) && fP ((num a0 a1 a2 a3 a4 a5 a6 a7).fdiv (num a8 a9 a10 a11 a12 a13 a14 a15))) (some ((num a0 a1 a2 a3 a4 a5 a6 a7).fdiv (num a8 a9 a10 a11 a12 a13 a14 a15), (num a0 a1 a2 a3 a4 a5 a6 a7).fmod (num a8 a9 a10 a11 a12 a13 a14 a15)))
theorem Tz {a0 a1 a2 a3 a4 a5 a6 a7 a8 a9 a10 a11 a12 a13 a14 a15 : Int} {r} (h : v4 a0 a1 a2 a3 a4 a5 a6 a7 a8 a9 a10 a11 a12 a13 a14 a15 = some r) : MR a0 a1 a2 a3 a4 a5 a6 a7 a8 a9 a10 a11 a12 a13 a14 a15 = some (r.1, r.2, true) := by
 unfold v4 at h
 obtain ⟨h1, h2⟩ := aM h
 simp only [Bool.and_eq_true, Bool.not_eq_true'] at h1
 simp only [Option.some.injEq] at h2
 subst h2
 unfold MR O4
 rw [h1.1.1.1, h1.1.1.2, h1.1.2, h1.2]
 rfl
def UY (x y : Int) : Option (Int × Int) := v4 (aa x 0) (aa x 1) (aa x 2) (aa x 3) (aa x 4) (aa x 5) (aa x 6) (aa x 7) (aa y 0) (aa y 1) (aa y 2) (aa y 3) (aa y 4) (aa y 5) (aa y 6) (aa y 7)
theorem NE {x y : Int} (hx : fit x) (hy : fit y) (h0 : y ≠ 0) (h : fit (x.fdiv y)) : UY x y = some (x.fdiv y, x.fmod y) := by
 unfold UY v4; rw [bv, bv, aG hx, aG hy, ca.2 h, decide_eq_false h0]; rfl
def HX : HK where
 call := fun args σ k => match args with
  | [.agg [.int .u64 a0, .int .u64 a1, .int .u64 a2, .int .u64 a3, .int .u64 a4, .int .u64 a5, .int .u64 a6, .int .u64 a7], .agg [.int .u64 a8, .int .u64 a9, .int .u64 a10, .int .u64 a11, .int .u64 a12, .int .u64 a13, .int .u64 a14, .int .u64 a15]] => Option.bind (v4 a0 a1 a2 a3 a4 a5 a6 a7 a8 a9 a10 a11 a12 a13 a14 a15) fun r => k (.ret (.tup [.agg [.int .u64 (aa r.1 0), .int .u64 (aa r.1 1), .int .u64 (aa r.1 2), .int .u64 (aa r.1 3), .int .u64 (aa r.1 4), .int .u64 (aa r.1 5), .int .u64 (aa r.1 6), .int .u64 (aa r.1 7)], .agg [.int .u64 (aa r.2 0), .int .u64 (aa r.2 1), .int .u64 (aa r.2 2), .int .u64 (aa r.2 3), .int .u64 (aa r.2 4), .int .u64 (aa r.2 5), .int .u64 (aa r.2 6), .int .u64 (aa r.2 7)], .bool true])) σ
  | _ => none
 nat := fun args σ k => by
  repeat' split
  all_goals simp only [Option.bind_assoc, Option.bind_none, Option.bind_some]
 pure := true
 pok := fun _ args σ r σ' h => by
  split at h
  ·obtain ⟨q, h1, h2⟩ := bE_ h
   simp only [Option.some.injEq, Prod.mk.injEq] at h2
   obtain ⟨rfl, rfl⟩ := h2
   exact ⟨rfl, ⟨_, rfl⟩, fun σ2 => by simp only [h1, Option.bind_some]⟩
  ·cases h
theorem J6 : aT Tryz.prog 79 HX := RP.cS fun args σ x h => by
 simp only [HX] at h
 split at h
 ·rename_i a0 a1 a2 a3 a4 a5 a6 a7 a8 a9 a10 a11 a12 a13 a14 a15
  obtain ⟨r, h1, h2⟩ := bE_ h
  simp only [Pb, Tz h1, Option.bind_some]
  exact h2
 ·cases h
def OV (x : Int) : Option Int := qW (aa x 0) (aa x 1) (aa x 2) (aa x 3) (aa x 4) (aa x 5) (aa x 6) (aa x 7)
theorem Rh {x : Int} (hx : fit x) : OV x = some (sgn x) := by
 unfold OV qW; rw [bv, aG hx]; rfl
def QB (x y : Int) : Option Int := Gs (aa x 0) (aa x 1) (aa x 2) (aa x 3) (aa x 4) (aa x 5) (aa x 6) (aa x 7) (aa y 0) (aa y 1) (aa y 2) (aa y 3) (aa y 4) (aa y 5) (aa y 6) (aa y 7)
theorem NF {x y : Int} (hx : fit x) (hy : fit y) : QB x y = some (sgn (x - y)) := by
 unfold QB Gs; rw [bv, bv, aG hx, aG hy]; rfl
def DC : CH := (CH.add 63 Ls CH.none)
theorem Al : aE Tryz.prog DC := (CH.aj Pe CH.aC)
def mz (a0 a1 a2 a3 a4 a5 a6 a7 a8 a9 a10 a11 a12 a13 a14 a15 : Int) : Option (Int × Int × Int × Int × Int × Int × Int × Int) :=
 (Option.bind (jP a0 a1 a2 a3 a4 a5 a6 a7 a8 a9 a10 a11 a12 a13 a14 a15) fun r1 => (some ((aa r1 0), (aa r1 1), (aa r1 2), (aa r1 3), (aa r1 4), (aa r1 5), (aa r1 6), (aa r1 7))))
def jQ : FD where
 X := Int × Int × Int × Int × Int × Int × Int × Int
 k := 0
 pre := []
 F := fun s => []
 M := .agg (rl (.int .u64) 8 [])
 B := []
 toL := fun x => [.I x.1, .I x.2.1, .I x.2.2.1, .I x.2.2.2.1, .I x.s4.1, .I x.s4.2.1, .I x.s4.2.2.1, .I x.s4.2.2.2]
 ofL := fun ls => match ls with
  | [.I x0, .I x1, .I x2, .I x3, .I x4, .I x5, .I x6, .I x7] => some (x0, x1, x2, x3, x4, x5, x6, x7)
  | _ => none
 au := fun ls x h => by
  split at h
  ·cases h; rfl
  ·cases h
theorem C4 (a0 a1 a2 a3 a4 a5 a6 a7 a8 a9 a10 a11 a12 a13 a14 a15 : Int) (x : Int × Int × Int × Int × Int × Int × Int × Int) (h : mz a0 a1 a2 a3 a4 a5 a6 a7 a8 a9 a10 a11 a12 a13 a14 a15 = some x) : aX Tryz.prog 66 0 [.agg (v8 a0 a1 a2 a3 a4 a5 a6 a7 []), .agg (v8 a8 a9 a10 a11 a12 a13 a14 a15 [])] [] jQ x :=
 FD.semA jQ Al Tryz.func66 (fuel := 60) (by kernel_rfl) (by kernel_rfl)
  (by kernel_rfl) (Eq.trans (by kernel_rfl) h)
def rp : HK where
 call := fun args σ k => match args with
  | [.agg [.int .u64 a0, .int .u64 a1, .int .u64 a2, .int .u64 a3, .int .u64 a4, .int .u64 a5, .int .u64 a6, .int .u64 a7], .agg [.int .u64 a8, .int .u64 a9, .int .u64 a10, .int .u64 a11, .int .u64 a12, .int .u64 a13, .int .u64 a14, .int .u64 a15]] => Option.bind (mz a0 a1 a2 a3 a4 a5 a6 a7 a8 a9 a10 a11 a12 a13 a14 a15) fun y => az σ 0 (jQ.val y) (jQ.aN y) k
  | _ => none
 nat := fun args σ k => by
  repeat' split
  all_goals simp only [aw, Option.bind_assoc, Option.bind_none, az, Option.bind_some]
 pure := true
 pok := fun _ args σ r σ' h => by
  split at h
  ·exact bm h (fun y => rfl) (fun y f => rfl)
  ·cases h
theorem DD : aT Tryz.prog 66 rp := by
 intro args σ r σ' h
 simp only [rp] at h
 split at h
 ·rename_i a0 a1 a2 a3 a4 a5 a6 a7 a8 a9 a10 a11 a12 a13 a14 a15
  obtain ⟨y, hy, h⟩ := bE_ h
  exact lifted (xs := []) (ls := []) (cargs := [.agg (v8 a0 a1 a2 a3 a4 a5 a6 a7 []), .agg (v8 a8 a9 a10 a11 a12 a13 a14 a15 [])]) (bt.of trivial) rfl (C4 a0 a1 a2 a3 a4 a5 a6 a7 a8 a9 a10 a11 a12 a13 a14 a15 y hy) rfl rfl rfl rfl h
 ·cases h
def FB : CH := (CH.add 64 Lr CH.none)
theorem Bj : aE Tryz.prog FB := (CH.aj Pd CH.aC)
def nM (a0 a1 a2 a3 a4 a5 a6 a7 a8 a9 a10 a11 a12 a13 a14 a15 : Int) : Option (Int × Int × Int × Int × Int × Int × Int × Int) :=
 (Option.bind (pn a0 a1 a2 a3 a4 a5 a6 a7 a8 a9 a10 a11 a12 a13 a14 a15) fun r1 => (some ((aa r1 0), (aa r1 1), (aa r1 2), (aa r1 3), (aa r1 4), (aa r1 5), (aa r1 6), (aa r1 7))))
def kW : FD where
 X := Int × Int × Int × Int × Int × Int × Int × Int
 k := 0
 pre := []
 F := fun s => []
 M := .agg (rl (.int .u64) 8 [])
 B := []
 toL := fun x => [.I x.1, .I x.2.1, .I x.2.2.1, .I x.2.2.2.1, .I x.s4.1, .I x.s4.2.1, .I x.s4.2.2.1, .I x.s4.2.2.2]
 ofL := fun ls => match ls with
  | [.I x0, .I x1, .I x2, .I x3, .I x4, .I x5, .I x6, .I x7] => some (x0, x1, x2, x3, x4, x5, x6, x7)
  | _ => none
 au := fun ls x h => by
  split at h
  ·cases h; rfl
  ·cases h
theorem Dy (a0 a1 a2 a3 a4 a5 a6 a7 a8 a9 a10 a11 a12 a13 a14 a15 : Int) (x : Int × Int × Int × Int × Int × Int × Int × Int) (h : nM a0 a1 a2 a3 a4 a5 a6 a7 a8 a9 a10 a11 a12 a13 a14 a15 = some x) : aX Tryz.prog 78 0 [.agg (v8 a0 a1 a2 a3 a4 a5 a6 a7 []), .agg (v8 a8 a9 a10 a11 a12 a13 a14 a15 [])] [] kW x :=
 FD.semA kW Bj Tryz.func78 (fuel := 60) (by kernel_rfl) (by kernel_rfl)
  (by kernel_rfl) (Eq.trans (by kernel_rfl) h)
def tc : HK where
 call := fun args σ k => match args with
  | [.agg [.int .u64 a0, .int .u64 a1, .int .u64 a2, .int .u64 a3, .int .u64 a4, .int .u64 a5, .int .u64 a6, .int .u64 a7], .agg [.int .u64 a8, .int .u64 a9, .int .u64 a10, .int .u64 a11, .int .u64 a12, .int .u64 a13, .int .u64 a14, .int .u64 a15]] => Option.bind (nM a0 a1 a2 a3 a4 a5 a6 a7 a8 a9 a10 a11 a12 a13 a14 a15) fun y => az σ 0 (kW.val y) (kW.aN y) k
  | _ => none
 nat := fun args σ k => by
  repeat' split
  all_goals simp only [aw, Option.bind_assoc, Option.bind_none, az, Option.bind_some]
 pure := true
 pok := fun _ args σ r σ' h => by
  split at h
  ·exact bm h (fun y => rfl) (fun y f => rfl)
  ·cases h
theorem FC : aT Tryz.prog 78 tc := by
 intro args σ r σ' h
 simp only [tc] at h
 split at h
 ·rename_i a0 a1 a2 a3 a4 a5 a6 a7 a8 a9 a10 a11 a12 a13 a14 a15
  obtain ⟨y, hy, h⟩ := bE_ h
  exact lifted (xs := []) (ls := []) (cargs := [.agg (v8 a0 a1 a2 a3 a4 a5 a6 a7 []), .agg (v8 a8 a9 a10 a11 a12 a13 a14 a15 [])]) (bt.of trivial) rfl (Dy a0 a1 a2 a3 a4 a5 a6 a7 a8 a9 a10 a11 a12 a13 a14 a15 y hy) rfl rfl rfl rfl h
 ·cases h
end Go.Ev
