import Derived.Test.YtbmjabafceihgaaKai
set_option linter.unusedVariables false
set_option linter.unusedSimpArgs false
set_option maxRecDepth 100000
noncomputable section
namespace Go.Ev
open Go.Proofs
abbrev xa := Int × Int × Int × Int × Int × Int × Int × Int
def FV : CH := (CH.add 35 FQ CH.none)
theorem Bx : aG U2 FV := (CH.ak EA CH.aF)
def dM (a0 a1 a2 a3 a4 a5 a6 a7 a8 a9 a10 a11 a12 a13 a14 a15 : Int) : Option (xa) :=
 (Option.bind (uV a0 a1 a2 a3 a4 a5 a6 a7 a8 a9 a10 a11 a12 a13 a14 a15) fun r1 => (cond r1.2 (some ((aa r1.1 0), (aa r1.1 1), (aa r1.1 2), (aa r1.1 3), (aa r1.1 4), (aa r1.1 5), (aa r1.1 6), (aa r1.1 7))) (some ((aa r1.1 0), (aa r1.1 1), (aa r1.1 2), (aa r1.1 3), (aa r1.1 4), (aa r1.1 5), (aa r1.1 6), (aa r1.1 7)))))
def mb : FD where
 X := xa
 k := 0
 pre := []
 F := fun s => []
 M := .agg (rl (.int .u64) 8 [])
 B := []
 toL := fun x => [.I x.1, .I x.2.1, .I x.2.2.1, .I x.2.2.2.1, .I x.s4.1, .I x.s4.2.1, .I x.s4.2.2.1, .I x.s4.2.2.2]
 ofL := fun ls => match ls with
  | [.I x0, .I x1, .I x2, .I x3, .I x4, .I x5, .I x6, .I x7] => some (x0, x1, x2, x3, x4, x5, x6, x7)
  | _ => none
 au := fun ls x h => by
  split at h
  ·cases h; rfl
  ·cases h
theorem EH (a0 a1 a2 a3 a4 a5 a6 a7 a8 a9 a10 a11 a12 a13 a14 a15 : Int) (x : xa) (h : dM a0 a1 a2 a3 a4 a5 a6 a7 a8 a9 a10 a11 a12 a13 a14 a15 = some x) : bg U2 80 0 [.agg (v8 a0 a1 a2 a3 a4 a5 a6 a7 []), .agg (v8 a8 a9 a10 a11 a12 a13 a14 a15 [])] [] mb x :=
 FD.semA mb Bx Try.func80 (fuel := 60) (by kernel_rfl) (by kernel_rfl)
  (by kernel_rfl) (Eq.trans (by kernel_rfl) h)
def uX : HK where
 call := fun args σ k => match args with
  | [.agg [.int .u64 a0, .int .u64 a1, .int .u64 a2, .int .u64 a3, .int .u64 a4, .int .u64 a5, .int .u64 a6, .int .u64 a7], .agg [.int .u64 a8, .int .u64 a9, .int .u64 a10, .int .u64 a11, .int .u64 a12, .int .u64 a13, .int .u64 a14, .int .u64 a15]] => Option.bind (dM a0 a1 a2 a3 a4 a5 a6 a7 a8 a9 a10 a11 a12 a13 a14 a15) fun y => aC σ 0 (mb.val y) (mb.aN y) k
  | _ => none
 nat := fun args σ k => by
  repeat' split
  all_goals simp only [av, ai, UA, Uz, aC, Uy]
 pure := true
 pok := fun _ args σ r σ' h => by
  split at h
  ·exact bq h (fun y => rfl) (fun y f => rfl)
  ·cases h
theorem FS : aX U2 80 uX := by
 intro args σ r σ' h
 simp only [uX] at h
 split at h
 ·rename_i a0 a1 a2 a3 a4 a5 a6 a7 a8 a9 a10 a11 a12 a13 a14 a15
  obtain ⟨y, hy, h⟩ := bE_ h
  exact lifted (xs := []) (ls := []) (cargs := [.agg (v8 a0 a1 a2 a3 a4 a5 a6 a7 []), .agg (v8 a8 a9 a10 a11 a12 a13 a14 a15 [])]) (bC.of trivial) rfl (EH a0 a1 a2 a3 a4 a5 a6 a7 a8 a9 a10 a11 a12 a13 a14 a15 y hy) rfl rfl rfl rfl h
 ·cases h
abbrev w8 := (I8 (I8 (Int × Int × Int × Int × Int × Int × Int × Int)))
def FR : CH := (CH.add 80 uX (CH.add 79 w9 (CH.add 34 rY CH.none)))
theorem Bt : aG U2 FR := (CH.ak FS (CH.ak Hz (CH.ak uU CH.aF)))
def fC (a0 a1 a2 a3 a4 a5 : Int) : Option (w8) :=
 (Option.bind (ju a0 a1 a2) fun r1 => (Option.bind (ju a3 a4 a5) fun r2 => (Option.bind (dM r1.2.2.2.2.2.2.2.2.1 r1.2.2.2.2.2.2.2.2.2.1 r1.2.2.2.2.2.2.2.2.2.2.1 r1.2.2.2.2.2.2.2.2.2.2.2.1 r1.2.2.2.2.2.2.2.2.2.2.2.2.1 r1.2.2.2.2.2.2.2.2.2.2.2.2.2.1 r1.2.2.2.2.2.2.2.2.2.2.2.2.2.2.1 r1.2.2.2.2.2.2.2.2.2.2.2.2.2.2.2.1 r2.2.2.2.2.2.2.2.2.2.2.2.2.2.2.2.2.1 r2.2.2.2.2.2.2.2.2.2.2.2.2.2.2.2.2.2.1 r2.2.2.2.2.2.2.2.2.2.2.2.2.2.2.2.2.2.2.1 r2.2.2.2.2.2.2.2.2.2.2.2.2.2.2.2.2.2.2.2.1 r2.2.2.2.2.2.2.2.2.2.2.2.2.2.2.2.2.2.2.2.2.1 r2.2.2.2.2.2.2.2.2.2.2.2.2.2.2.2.2.2.2.2.2.2.1 r2.2.2.2.2.2.2.2.2.2.2.2.2.2.2.2.2.2.2.2.2.2.2.1 r2.2.2.2.2.2.2.2.2.2.2.2.2.2.2.2.2.2.2.2.2.2.2.2) fun r3 => (Option.bind (dM r1.2.2.2.2.2.2.2.2.2.2.2.2.2.2.2.2.1 r1.2.2.2.2.2.2.2.2.2.2.2.2.2.2.2.2.2.1 r1.2.2.2.2.2.2.2.2.2.2.2.2.2.2.2.2.2.2.1 r1.2.2.2.2.2.2.2.2.2.2.2.2.2.2.2.2.2.2.2.1 r1.2.2.2.2.2.2.2.2.2.2.2.2.2.2.2.2.2.2.2.2.1 r1.2.2.2.2.2.2.2.2.2.2.2.2.2.2.2.2.2.2.2.2.2.1 r1.2.2.2.2.2.2.2.2.2.2.2.2.2.2.2.2.2.2.2.2.2.2.1 r1.2.2.2.2.2.2.2.2.2.2.2.2.2.2.2.2.2.2.2.2.2.2.2 r2.2.2.2.2.2.2.2.2.1 r2.2.2.2.2.2.2.2.2.2.1 r2.2.2.2.2.2.2.2.2.2.2.1 r2.2.2.2.2.2.2.2.2.2.2.2.1 r2.2.2.2.2.2.2.2.2.2.2.2.2.1 r2.2.2.2.2.2.2.2.2.2.2.2.2.2.1 r2.2.2.2.2.2.2.2.2.2.2.2.2.2.2.1 r2.2.2.2.2.2.2.2.2.2.2.2.2.2.2.2.1) fun r4 => (Option.bind (iG r3.1 r3.2.1 r3.2.2.1 r3.2.2.2.1 r3.2.2.2.2.1 r3.2.2.2.2.2.1 r3.2.2.2.2.2.2.1 r3.2.2.2.2.2.2.2 r4.1 r4.2.1 r4.2.2.1 r4.2.2.2.1 r4.2.2.2.2.1 r4.2.2.2.2.2.1 r4.2.2.2.2.2.2.1 r4.2.2.2.2.2.2.2) fun r5 => (Option.bind (dM r1.2.2.2.2.2.2.2.2.2.2.2.2.2.2.2.2.1 r1.2.2.2.2.2.2.2.2.2.2.2.2.2.2.2.2.2.1 r1.2.2.2.2.2.2.2.2.2.2.2.2.2.2.2.2.2.2.1 r1.2.2.2.2.2.2.2.2.2.2.2.2.2.2.2.2.2.2.2.1 r1.2.2.2.2.2.2.2.2.2.2.2.2.2.2.2.2.2.2.2.2.1 r1.2.2.2.2.2.2.2.2.2.2.2.2.2.2.2.2.2.2.2.2.2.1 r1.2.2.2.2.2.2.2.2.2.2.2.2.2.2.2.2.2.2.2.2.2.2.1 r1.2.2.2.2.2.2.2.2.2.2.2.2.2.2.2.2.2.2.2.2.2.2.2 r2.1 r2.2.1 r2.2.2.1 r2.2.2.2.1 r2.2.2.2.2.1 r2.2.2.2.2.2.1 r2.2.2.2.2.2.2.1 r2.2.2.2.2.2.2.2.1) fun r6 => (Option.bind (dM r1.1 r1.2.1 r1.2.2.1 r1.2.2.2.1 r1.2.2.2.2.1 r1.2.2.2.2.2.1 r1.2.2.2.2.2.2.1 r1.2.2.2.2.2.2.2.1 r2.2.2.2.2.2.2.2.2.2.2.2.2.2.2.2.2.1 r2.2.2.2.2.2.2.2.2.2.2.2.2.2.2.2.2.2.1 r2.2.2.2.2.2.2.2.2.2.2.2.2.2.2.2.2.2.2.1 r2.2.2.2.2.2.2.2.2.2.2.2.2.2.2.2.2.2.2.2.1 r2.2.2.2.2.2.2.2.2.2.2.2.2.2.2.2.2.2.2.2.2.1 r2.2.2.2.2.2.2.2.2.2.2.2.2.2.2.2.2.2.2.2.2.2.1 r2.2.2.2.2.2.2.2.2.2.2.2.2.2.2.2.2.2.2.2.2.2.2.1 r2.2.2.2.2.2.2.2.2.2.2.2.2.2.2.2.2.2.2.2.2.2.2.2) fun r7 => (Option.bind (iG r6.1 r6.2.1 r6.2.2.1 r6.2.2.2.1 r6.2.2.2.2.1 r6.2.2.2.2.2.1 r6.2.2.2.2.2.2.1 r6.2.2.2.2.2.2.2 r7.1 r7.2.1 r7.2.2.1 r7.2.2.2.1 r7.2.2.2.2.1 r7.2.2.2.2.2.1 r7.2.2.2.2.2.2.1 r7.2.2.2.2.2.2.2) fun r8 => (Option.bind (dM r1.1 r1.2.1 r1.2.2.1 r1.2.2.2.1 r1.2.2.2.2.1 r1.2.2.2.2.2.1 r1.2.2.2.2.2.2.1 r1.2.2.2.2.2.2.2.1 r2.2.2.2.2.2.2.2.2.1 r2.2.2.2.2.2.2.2.2.2.1 r2.2.2.2.2.2.2.2.2.2.2.1 r2.2.2.2.2.2.2.2.2.2.2.2.1 r2.2.2.2.2.2.2.2.2.2.2.2.2.1 r2.2.2.2.2.2.2.2.2.2.2.2.2.2.1 r2.2.2.2.2.2.2.2.2.2.2.2.2.2.2.1 r2.2.2.2.2.2.2.2.2.2.2.2.2.2.2.2.1) fun r9 => (Option.bind (dM r1.2.2.2.2.2.2.2.2.1 r1.2.2.2.2.2.2.2.2.2.1 r1.2.2.2.2.2.2.2.2.2.2.1 r1.2.2.2.2.2.2.2.2.2.2.2.1 r1.2.2.2.2.2.2.2.2.2.2.2.2.1 r1.2.2.2.2.2.2.2.2.2.2.2.2.2.1 r1.2.2.2.2.2.2.2.2.2.2.2.2.2.2.1 r1.2.2.2.2.2.2.2.2.2.2.2.2.2.2.2.1 r2.1 r2.2.1 r2.2.2.1 r2.2.2.2.1 r2.2.2.2.2.1 r2.2.2.2.2.2.1 r2.2.2.2.2.2.2.1 r2.2.2.2.2.2.2.2.1) fun r10 => (Option.bind (iG r9.1 r9.2.1 r9.2.2.1 r9.2.2.2.1 r9.2.2.2.2.1 r9.2.2.2.2.2.1 r9.2.2.2.2.2.2.1 r9.2.2.2.2.2.2.2 r10.1 r10.2.1 r10.2.2.1 r10.2.2.2.1 r10.2.2.2.2.1 r10.2.2.2.2.2.1 r10.2.2.2.2.2.2.1 r10.2.2.2.2.2.2.2) fun r11 => (some (r5.1, r5.2.1, r5.2.2.1, r5.2.2.2.1, r5.2.2.2.2.1, r5.2.2.2.2.2.1, r5.2.2.2.2.2.2.1, r5.2.2.2.2.2.2.2, r8.1, r8.2.1, r8.2.2.1, r8.2.2.2.1, r8.2.2.2.2.1, r8.2.2.2.2.2.1, r8.2.2.2.2.2.2.1, r8.2.2.2.2.2.2.2, r11.1, r11.2.1, r11.2.2.1, r11.2.2.2.1, r11.2.2.2.2.1, r11.2.2.2.2.2.1, r11.2.2.2.2.2.2.1, r11.2.2.2.2.2.2.2)))))))))))))
def ma : FD where
 X := w8
 k := 0
 pre := []
 F := fun s => []
 M := .agg (rl (.int .u64) 24 [])
 B := []
 toL := fun x => [.I x.1, .I x.2.1, .I x.2.2.1, .I x.2.2.2.1, .I x.s4.1, .I x.s4.2.1, .I x.s4.2.2.1, .I x.s4.2.2.2.1, .I x.s8.1, .I x.s8.2.1, .I x.s8.2.2.1, .I x.s8.2.2.2.1, .I x.s8.s4.1, .I x.s8.s4.2.1, .I x.s8.s4.2.2.1, .I x.s8.s4.2.2.2.1, .I x.s16.1, .I x.s16.2.1, .I x.s16.2.2.1, .I x.s16.2.2.2.1, .I x.s16.s4.1, .I x.s16.s4.2.1, .I x.s16.s4.2.2.1, .I x.s16.s4.2.2.2]
 ofL := fun ls => match ls with
  | [.I x0, .I x1, .I x2, .I x3, .I x4, .I x5, .I x6, .I x7, .I x8, .I x9, .I x10, .I x11, .I x12, .I x13, .I x14, .I x15, .I x16, .I x17, .I x18, .I x19, .I x20, .I x21, .I x22, .I x23] => some (x0, x1, x2, x3, x4, x5, x6, x7, x8, x9, x10, x11, x12, x13, x14, x15, x16, x17, x18, x19, x20, x21, x22, x23)
  | _ => none
 au := fun ls x h => by
  split at h
  ·cases h; rfl
  ·cases h
theorem ED (a0 a1 a2 a3 a4 a5 : Int) (x : w8) (h : fC a0 a1 a2 a3 a4 a5 = some x) : bg U2 61 0 [.agg [.int .i64 a0, .int .i64 a1, .int .i64 a2], .agg [.int .i64 a3, .int .i64 a4, .int .i64 a5]] [] ma x :=
 FD.semA ma Bt Try.func61 (fuel := 60) (by kernel_rfl) (by kernel_rfl)
  (by kernel_rfl) (Eq.trans (by kernel_rfl) h)
def pm : HK where
 call := fun args σ k => match args with
  | [.agg [.int .i64 a0, .int .i64 a1, .int .i64 a2], .agg [.int .i64 a3, .int .i64 a4, .int .i64 a5]] => Option.bind (fC a0 a1 a2 a3 a4 a5) fun y => aC σ 0 (ma.val y) (ma.aN y) k
  | _ => none
 nat := fun args σ k => by
  repeat' split
  all_goals simp only [av, ai, UA, Uz, aC, Uy]
 pure := true
 pok := fun _ args σ r σ' h => by
  split at h
  ·exact bq h (fun y => rfl) (fun y f => rfl)
  ·cases h
theorem wo : aX U2 61 pm := by
 intro args σ r σ' h
 simp only [pm] at h
 split at h
 ·rename_i a0 a1 a2 a3 a4 a5
  obtain ⟨y, hy, h⟩ := bE_ h
  exact lifted (xs := []) (ls := []) (cargs := [.agg [.int .i64 a0, .int .i64 a1, .int .i64 a2], .agg [.int .i64 a3, .int .i64 a4, .int .i64 a5]]) (bC.of trivial) rfl (ED a0 a1 a2 a3 a4 a5 y hy) rfl rfl rfl rfl h
 ·cases h
abbrev Bu := Int × Int × Int × Int × Int × Int × Int × Int
def IX : CH := (CH.add 61 pm (CH.add 20 kW CH.none))
theorem EE : aG U2 IX := (CH.ak wo (CH.ak pk CH.aF))
def jD (a0 a1 a2 a3 a4 a5 a6 a7 a8 : Int) : Option (Bu) :=
 (Option.bind (fC a3 a4 a5 a6 a7 a8) fun r1 => (Option.bind (gB r1.1 r1.2.1 r1.2.2.1 r1.2.2.2.1 r1.2.2.2.2.1 r1.2.2.2.2.2.1 r1.2.2.2.2.2.2.1 r1.2.2.2.2.2.2.2.1 r1.2.2.2.2.2.2.2.2.1 r1.2.2.2.2.2.2.2.2.2.1 r1.2.2.2.2.2.2.2.2.2.2.1 r1.2.2.2.2.2.2.2.2.2.2.2.1 r1.2.2.2.2.2.2.2.2.2.2.2.2.1 r1.2.2.2.2.2.2.2.2.2.2.2.2.2.1 r1.2.2.2.2.2.2.2.2.2.2.2.2.2.2.1 r1.2.2.2.2.2.2.2.2.2.2.2.2.2.2.2.1 r1.2.2.2.2.2.2.2.2.2.2.2.2.2.2.2.2.1 r1.2.2.2.2.2.2.2.2.2.2.2.2.2.2.2.2.2.1 r1.2.2.2.2.2.2.2.2.2.2.2.2.2.2.2.2.2.2.1 r1.2.2.2.2.2.2.2.2.2.2.2.2.2.2.2.2.2.2.2.1 r1.2.2.2.2.2.2.2.2.2.2.2.2.2.2.2.2.2.2.2.2.1 r1.2.2.2.2.2.2.2.2.2.2.2.2.2.2.2.2.2.2.2.2.2.1 r1.2.2.2.2.2.2.2.2.2.2.2.2.2.2.2.2.2.2.2.2.2.2.1 r1.2.2.2.2.2.2.2.2.2.2.2.2.2.2.2.2.2.2.2.2.2.2.2 a0 a1 a2) fun r2 => (cond r2.2.2.2.2.2.2.2.2 (some (r2.1, r2.2.1, r2.2.2.1, r2.2.2.2.1, r2.2.2.2.2.1, r2.2.2.2.2.2.1, r2.2.2.2.2.2.2.1, r2.2.2.2.2.2.2.2.1)) (some (r2.1, r2.2.1, r2.2.2.1, r2.2.2.2.1, r2.2.2.2.2.1, r2.2.2.2.2.2.1, r2.2.2.2.2.2.2.1, r2.2.2.2.2.2.2.2.1)))))
def pn : FD where
 X := Bu
 k := 0
 pre := []
 F := fun s => []
 M := .agg (rl (.int .u64) 8 [])
 B := []
 toL := fun x => [.I x.1, .I x.2.1, .I x.2.2.1, .I x.2.2.2.1, .I x.s4.1, .I x.s4.2.1, .I x.s4.2.2.1, .I x.s4.2.2.2]
 ofL := fun ls => match ls with
  | [.I x0, .I x1, .I x2, .I x3, .I x4, .I x5, .I x6, .I x7] => some (x0, x1, x2, x3, x4, x5, x6, x7)
  | _ => none
 au := fun ls x h => by
  split at h
  ·cases h; rfl
  ·cases h
theorem HA (a0 a1 a2 a3 a4 a5 a6 a7 a8 : Int) (x : Bu) (h : jD a0 a1 a2 a3 a4 a5 a6 a7 a8 = some x) : bg U2 63 0 [.agg [.int .i64 a0, .int .i64 a1, .int .i64 a2], .agg [.int .i64 a3, .int .i64 a4, .int .i64 a5], .agg [.int .i64 a6, .int .i64 a7, .int .i64 a8]] [] pn x :=
 FD.semA pn EE Try.func63 (fuel := 60) (by kernel_rfl) (by kernel_rfl)
  (by kernel_rfl) (Eq.trans (by kernel_rfl) h)
def y9 : HK where
 call := fun args σ k => match args with
  | [.agg [.int .i64 a0, .int .i64 a1, .int .i64 a2], .agg [.int .i64 a3, .int .i64 a4, .int .i64 a5], .agg [.int .i64 a6, .int .i64 a7, .int .i64 a8]] => Option.bind (jD a0 a1 a2 a3 a4 a5 a6 a7 a8) fun y => aC σ 0 (pn.val y) (pn.aN y) k
  | _ => none
 nat := fun args σ k => by
  repeat' split
  all_goals simp only [av, ai, UA, Uz, aC, Uy]
 pure := true
 pok := fun _ args σ r σ' h => by
  split at h
  ·exact bq h (fun y => rfl) (fun y f => rfl)
  ·cases h
theorem IY : aX U2 63 y9 := by
 intro args σ r σ' h
 simp only [y9] at h
 split at h
 ·rename_i a0 a1 a2 a3 a4 a5 a6 a7 a8
  obtain ⟨y, hy, h⟩ := bE_ h
  exact lifted (xs := []) (ls := []) (cargs := [.agg [.int .i64 a0, .int .i64 a1, .int .i64 a2], .agg [.int .i64 a3, .int .i64 a4, .int .i64 a5], .agg [.int .i64 a6, .int .i64 a7, .int .i64 a8]]) (bC.of trivial) rfl (HA a0 a1 a2 a3 a4 a5 a6 a7 a8 y hy) rfl rfl rfl rfl h
 ·cases h
def sm (k : Nat) (z : Int) : Prop := -((2 ^ k : Nat) : Int) ≤ z ∧ z ≤ ((2 ^ k : Nat) : Int)
theorem aW {a b : Nat} {z : Int} (h : sm a z) (hab : a ≤ b) : sm b z := by
 have := Nat.pow_le_pow_right (n := 2) (by decide) hab
 unfold sm at *
 omega
theorem cP {a b : Nat} {x y : Int} (hx : sm a x) (hy : sm b y) : sm (a + b) (x * y) := by
 unfold sm at *
 have h : (x * y).natAbs ≤ 2 ^ (a + b) := by
  rw [Int.natAbs_mul, Nat.pow_add]
  exact Nat.mul_le_mul (by omega) (by omega)
 omega
theorem kj {a : Nat} {x y : Int} (hx : sm a x) (hy : sm a y) : sm (a + 1) (x + y) := by
 unfold sm at *
 rw [Nat.pow_succ]
 omega
theorem f8 {a : Nat} {x y : Int} (hx : sm a x) (hy : sm a y) : sm (a + 1) (x - y) := by
 unfold sm at *
 rw [Nat.pow_succ]
 omega
theorem Oz {a : Nat} {x : Int} (hx : sm a x) : sm a (-x) := by
 unfold sm at *
 omega
theorem mt {a : Nat} : sm a 0 := by
 have := Nat.two_pow_pos a
 unfold sm
 omega
theorem R7 {m : Nat} (hm : m = 255) {x : Int} (h : sm (m + m) x) : fit x := by
 unfold sm at h
 rw [Nat.pow_add, hm] at h
 unfold fit
 omega
theorem bf {a : Nat} {x : Int} (h : sm a x) (ha : a ≤ 510) : fit x := R7 (m := 255) rfl (aW h ha)
theorem CD {x : Int} : ba x = true ↔ -9223372036854775808 ≤ x ∧ x < 9223372036854775808 := by simp [ba]
theorem js {x : Int} (h : ba x = true) : sm 63 x := by
 have := CD.1 h
 unfold sm; omega
theorem gS {x : Int} (h : ba x = true) : fit x := bf (js h) (by decide)
theorem Fy {z : Int} (h : fit z) : fV z = (z, true) := by unfold fV; rw [bY.2 h]; rfl
theorem C5 {x : Int} (h : ba x = true) : cOf x = some x := by unfold cOf; rw [h]; rfl
theorem L6 {x : Int} (hx : fit x) : pu (aa x 0) (aa x 1) (aa x 2) (aa x 3) (aa x 4) (aa x 5) (aa x 6) (aa x 7) = some (sgn x) := by
 unfold pu; rw [bA, aI hx]; rfl
theorem K5 {x y : Int} (hx : fit x) (hy : fit y) (h : fit (x + y)) : uW (aa x 0) (aa x 1) (aa x 2) (aa x 3) (aa x 4) (aa x 5) (aa x 6) (aa x 7) (aa y 0) (aa y 1) (aa y 2) (aa y 3) (aa y 4) (aa y 5) (aa y 6) (aa y 7) = some (x + y, true) := by
 unfold uW; rw [bA, bA, aI hx, aI hy, Fy h]; rfl
theorem Tr {x y : Int} (hx : fit x) (hy : fit y) (h : fit (x - y)) : Bw (aa x 0) (aa x 1) (aa x 2) (aa x 3) (aa x 4) (aa x 5) (aa x 6) (aa x 7) (aa y 0) (aa y 1) (aa y 2) (aa y 3) (aa y 4) (aa y 5) (aa y 6) (aa y 7) = some (x - y, true) := by
 unfold Bw; rw [bA, bA, aI hx, aI hy, Fy h]; rfl
theorem GZ {x y : Int} (hx : fit x) (hy : fit y) (h : fit (x * y)) : uV (aa x 0) (aa x 1) (aa x 2) (aa x 3) (aa x 4) (aa x 5) (aa x 6) (aa x 7) (aa y 0) (aa y 1) (aa y 2) (aa y 3) (aa y 4) (aa y 5) (aa y 6) (aa y 7) = some (x * y, true) := by
 unfold uV; rw [bA, bA, aI hx, aI hy, Fy h]; rfl
theorem Ts {y : Int} (hy : fit y) : uW 0 0 0 0 0 0 0 0 (aa y 0) (aa y 1) (aa y 2) (aa y 3) (aa y 4) (aa y 5) (aa y 6) (aa y 7) = some (y, true) := by
 have h := K5 xF hy (by rw [Int.zero_add]; exact hy)
 simp only [fy, Int.zero_add] at h
 exact h
abbrev T24 := (I8 (I8 (Int × Int × Int × Int × Int × Int × Int × Int)))
def t24 (x y z : Int) : T24 := (aa x 0, aa x 1, aa x 2, aa x 3, aa x 4, aa x 5, aa x 6, aa x 7, aa y 0, aa y 1, aa y 2, aa y 3, aa y 4, aa y 5, aa y 6, aa y 7, aa z 0, aa z 1, aa z 2, aa z 3, aa z 4, aa z 5, aa z 6, aa z 7)
theorem JB {x y z : Int} (hx : ba x = true) (hy : ba y = true) (hz : ba z = true) : ju x y z = some (t24 x y z) := by
 simp only [ju, C5 hx, C5 hy, C5 hz, Uy, t24]
theorem Ic {x y z a b c : Int} (hx : fit x) (hy : fit y) (hz : fit z) (ha : ba a = true) (hb : ba b = true) (hc : ba c = true) (h1 : fit (x * a)) (h2 : fit (y * b)) (h3 : fit (z * c)) (h4 : fit (x * a + y * b)) (h5 : fit (x * a + y * b + z * c)) :
  gB (aa x 0) (aa x 1) (aa x 2) (aa x 3) (aa x 4) (aa x 5) (aa x 6) (aa x 7) (aa y 0) (aa y 1) (aa y 2) (aa y 3) (aa y 4) (aa y 5) (aa y 6) (aa y 7) (aa z 0) (aa z 1) (aa z 2) (aa z 3) (aa z 4) (aa z 5) (aa z 6) (aa z 7) a b c = some (t9 (x * a + y * b + z * c) true) := by
 unfold gB
 rw [JB ha hb hc, Uy]
 simp only [t24, GZ hx (gS ha) h1, GZ hy (gS hb) h2, GZ hz (gS hc) h3, Uy, cond_true, Ts h1, K5 h1 h2 h4, K5 h4 h3 h5, t9]
theorem T2 {x y z a b c : Int} (hx : ba x = true) (hy : ba y = true) (hz : ba z = true) (ha : ba a = true) (hb : ba b = true) (hc : ba c = true) :
  po x y z a b c = some (t8 (x * a + y * b + z * c)) := by
 have s1 := cP (js hx) (js ha)
 have s2 := cP (js hy) (js hb)
 have s3 := cP (js hz) (js hc)
 have s4 := kj s1 s2
 have s5 := kj s4 (aW s3 (show 63 + 63 ≤ 63 + 63 + 1 by decide))
 have h := Ic (gS hx) (gS hy) (gS hz) ha hb hc (bf s1 (by decide)) (bf s2 (by decide)) (bf s3 (by decide)) (bf s4 (by decide)) (bf s5 (by decide))
 unfold po
 rw [JB hx hy hz, Uy]
 simp only [t24, h, Uy, t9, cond_true, t8]
theorem rH {x y : Int} (hx : fit x) (hy : fit y) (h : fit (x * y)) : dM (aa x 0) (aa x 1) (aa x 2) (aa x 3) (aa x 4) (aa x 5) (aa x 6) (aa x 7) (aa y 0) (aa y 1) (aa y 2) (aa y 3) (aa y 4) (aa y 5) (aa y 6) (aa y 7) = some (t8 (x * y)) := by
 simp only [dM, GZ hx hy h, Uy, cond_true, t8]
theorem Id {x y : Int} (hx : fit x) (hy : fit y) (h : fit (x - y)) : iG (aa x 0) (aa x 1) (aa x 2) (aa x 3) (aa x 4) (aa x 5) (aa x 6) (aa x 7) (aa y 0) (aa y 1) (aa y 2) (aa y 3) (aa y 4) (aa y 5) (aa y 6) (aa y 7) = some (t8 (x - y)) := by
 simp only [iG, Tr hx hy h, Uy, cond_true, t8]
theorem Ml {x y z a b c : Int} (hx : ba x = true) (hy : ba y = true) (hz : ba z = true) (ha : ba a = true) (hb : ba b = true) (hc : ba c = true) :
  fC x y z a b c = some (t24 (y * c - z * b) (z * a - x * c) (x * b - y * a)) := by
 have hp : ∀ {u v : Int}, ba u = true → ba v = true → fit (u * v) := fun hu hv => bf (cP (js hu) (js hv)) (by decide)
 have hs : ∀ {u v s t : Int}, ba u = true → ba v = true → ba s = true → ba t = true → fit (u * v - s * t) := fun hu hv hs ht => bf (f8 (cP (js hu) (js hv)) (cP (js hs) (js ht))) (by decide)
 unfold fC
 rw [JB hx hy hz, Uy, JB ha hb hc, Uy]
 simp only [t24, rH (gS hy) (gS hc) (hp hy hc), rH (gS hz) (gS hb) (hp hz hb), rH (gS hz) (gS ha) (hp hz ha), rH (gS hx) (gS hc) (hp hx hc), rH (gS hx) (gS hb) (hp hx hb), rH (gS hy) (gS ha) (hp hy ha), Uy, t8,
  Id (hp hy hc) (hp hz hb) (hs hy hc hz hb), Id (hp hz ha) (hp hx hc) (hs hz ha hx hc), Id (hp hx hb) (hp hy ha) (hs hx hb hy ha)]
def Tt (a b c x y z u v w : Int) : Int := (y * w - z * v) * a + (z * u - x * w) * b + (x * v - y * u) * c
theorem T3 {a b c x y z u v w : Int} (ha : ba a = true) (hb : ba b = true) (hc : ba c = true) (hx : ba x = true) (hy : ba y = true) (hz : ba z = true) (hu : ba u = true) (hv : ba v = true) (hw : ba w = true) :
  jD a b c x y z u v w = some (t8 (Tt a b c x y z u v w)) := by
 have hs : ∀ {u v s t : Int}, ba u = true → ba v = true → ba s = true → ba t = true → sm 127 (u * v - s * t) := fun hu hv hs ht => f8 (cP (js hu) (js hv)) (cP (js hs) (js ht))
 have c1 := hs hy hw hz hv
 have c2 := hs hz hu hx hw
 have c3 := hs hx hv hy hu
 have d1 := cP c1 (js ha)
 have d2 := cP c2 (js hb)
 have d3 := cP c3 (js hc)
 have d4 := kj d1 d2
 have d5 := kj d4 (aW d3 (show 127 + 63 ≤ 127 + 63 + 1 by decide))
 have h := Ic (bf c1 (by decide)) (bf c2 (by decide)) (bf c3 (by decide)) ha hb hc (bf d1 (by decide)) (bf d2 (by decide)) (bf d3 (by decide)) (bf d4 (by decide)) (bf d5 (by decide))
 unfold jD
 rw [Ml hx hy hz hu hv hw, Uy]
 simp only [t24, h, Uy, t9, cond_true, t8, Tt]
def bnd (x : Int) : Bool := decide (-268435456 ≤ x) && decide (x ≤ 268435456)
theorem oQ {x : Int} : bnd x = true ↔ -268435456 ≤ x ∧ x ≤ 268435456 := by simp [bnd]
theorem Md (x y z : Int) : iZ x y z = some (cond (bnd x && bnd y && bnd z) 0 7) := by
 have e1 : ∀ t : Int, decide (t < (-268435456)) = !decide (-268435456 ≤ t) := fun t => by rw [← decide_not]; congr 1; simp
 have e2 : ∀ t : Int, decide (t > 268435456) = !decide (t ≤ 268435456) := fun t => by rw [← decide_not]; congr 1; simp
 unfold iZ bnd
 simp only [e1, e2]
 cases decide (-268435456 ≤ x) <;> cases decide (x ≤ 268435456) <;> cases decide (-268435456 ≤ y) <;> cases decide (y ≤ 268435456) <;> cases decide (-268435456 ≤ z) <;> cases decide (z ≤ 268435456) <;> rfl
def nV : CH := (CH.add 14 oW CH.none)
theorem qG : aG U2 nV := (CH.ak we CH.aF)
def dE {R : Type} (cc : LA_ × Nat × Int) (v : Int) (kn : (Int) → Option R) (ke : ((Unit) ⊕ (Unit)) → Option R) : Option R :=
 (cond (decide (v < cc.2.2)) (af (decide (0 ≤ v) && decide (v < ((cc.2.1 : Nat) : Int))) (af (aq kK cc.1 (Int.toNat v * 3)) (Option.bind (iZ (ac cc.1 ((Int.toNat v * 3) + 0)) (ac cc.1 ((Int.toNat v * 3) + 1)) (ac cc.1 ((Int.toNat v * 3) + 2))) fun r1 => (cond (r1 != 0) (ke (.inl ())) (kn (IntKind.wrap .i64 (v + 1))))))) (ke (.inr ())))
def iR (cc : LA_ × Nat × Int) (v : Int) : Option ((Int) ⊕ ((Unit) ⊕ (Unit))) := dE cc v (fun v => some (Sum.inl v)) fun e => some (Sum.inr e)
def ve (cc : LA_ × Nat × Int) (v : Int) : Option ((Unit) ⊕ (Unit)) := dZ (iR cc) v
def AW (cc : LA_ × Nat × Int) (v : Int) : List ah := [.I cc.2.2, .I v, .C cc.1, .N cc.2.1]
def qH (ls : List ah) : Option ((LA_ × Nat × Int) × (Int)) := match ls with
 | [.I x0, .I x1, .C x2, .N x3] => some ((x2, x3, x0), x1)
 | _ => none
def qI (e : (Unit) ⊕ (Unit)) : an := ((Sum.elim (fun e => .ret) (fun e => .exit 0)) e)
def qJ (cc : LA_ × Nat × Int) (e : (Unit) ⊕ (Unit)) : List ah := ((Sum.elim (fun e => []) (fun e => [])) e)
def pr (cc : LA_ × Nat × Int) (e : (Unit) ⊕ (Unit)) : List ah := ((Sum.elim (fun e => []) (fun e => [])) e)
def kC (o : an) (ls : List ah) : Option (((Unit) ⊕ (Unit)) × List ah) := match o with
 | .ret => (match ls with
  | [] => some ((.inl ()), [])
  | _ => none)
 | .exit 0 => (match ls with
  | [] => some ((.inr ()), [])
  | _ => none)
 | _ => none
theorem xd : ∀ o ls e cl cc, kC o ls = some (e, cl) → cl = pr cc e → ls = qJ cc e ∧ qI e = o ∧ o ≠ .normal ∧ ∀ v, o = .pan v → sc 0 v = true := by
 intro o ls e cl cc h hc
 unfold kC at h
 split at h
 ·split at h
  ·cases h
   exact ⟨rfl, rfl, by simp, by intro v hv; cases hv <;> rfl⟩
  ·cases h
 ·split at h
  ·cases h
   exact ⟨rfl, rfl, by simp, by intro v hv; cases hv <;> rfl⟩
  ·cases h
 ·cases h
def By (o : an) : ExS := match o with
 | .ret => ⟨1, (none :: none :: some (.s6 false) :: (rl none 12 [])), [], fun s => [0], [], []⟩
 | .exit 0 => ⟨1, (rl none 15 []), [], fun s => [0], [], []⟩
 | _ => ⟨0, [], [], fun _ => [], [], []⟩
theorem AX {R : Type} (cc : LA_ × Nat × Int) (v : Int) (kn : (Int) → Option R) (ke : ((Unit) ⊕ (Unit)) → Option R) : dE cc v kn ke = (dE cc v (fun v => some (Sum.inl v)) fun e => some (Sum.inr e)).bind (Sum.elim kn ke) := by
 simp only [dE, bX, ai, UA, cu, bS, Uy, Uz, UZ, UY]
def tL : LD where
 CC := LA_ × Nat × Int
 V := Int
 E := (Unit) ⊕ (Unit)
 n := 1
 K := 1
 M := (rl none 5 (some (.vec 0) :: some (.int .i64) :: some (.int .i64) :: (rl none 7 [])))
 B := [(0, .vec 3 false)]
 D := []
 pre := []
 F := fun s => [0]
 toL := AW
 ofL := qH
 au := fun ls c v h => by
  unfold qH at h
  split at h
  ·cases h; rfl
  ·cases h
 cw := dE
 nat := AX
 sh := By
 out := qI
 toE := qJ
 fQ := pr
 ofE := kC
 dn := xd
 post := fun cc e k => ((Sum.elim (fun e => k (.ret) (bo 1 (none :: none :: some (.bool false) :: (rl none 12 [])) [] [])) (fun e => k (.exit 0) (bo 1 (rl none 15 []) [] []))) e)
 cv := fun cc e k => by rcases e with e | e <;> rfl
theorem AY : cX U2 1 tL.la (aO Try.f41 0) :=
 LD.ok (ch := nV) (A := bD) aJ qG mixed (fuel := 60) ⟨by kernel_rfl, fun e => by (rcases e with e | e <;> kernel_rfl), fun cc v => by kernel_rfl, aK (l := []) (by kernel_rfl) trivial⟩
def kf (cs0 : LA_) (n1 : Nat) : Option (Bool) :=
 (Option.bind (ve (cs0, n1, ((n1 : Nat) : Int)) 0) (Sum.elim (fun e1 => (some false)) (fun e1 => (some true))))
def kO : FD where
 X := Bool
 k := 1
 pre := []
 F := fun s => [0]
 M := .bool
 B := []
 toL := fun x => [.B x]
 ofL := fun ls => match ls with
  | [.B x0] => some x0
  | _ => none
 au := fun ls x h => by
  split at h
  ·cases h; rfl
  ·cases h
theorem Ds (cs0 : LA_) (n1 : Nat) (x : Bool) (h : kf cs0 n1 = some x) : bg U2 41 1 [.vec 0] [.vec cs0 n1 3 false] kO x :=
 FD.sem (ch := nV) (A := eT [(2, tL.la)]) (fn := Try.f41) (c := bu Try.f41) (fuel := 60) aJ qG mixed bK kO Try.func41 (by kernel_rfl) (aK (l := [aO Try.f41 0]) (by kernel_rfl) ⟨ci (by kernel_rfl) AY, trivial⟩)
  (by kernel_rfl) (Eq.trans (by kernel_rfl) h)
def s7 : HK where
 call := fun args σ k => match args with
  | [x0] => cW σ 3 x0 fun cs0 n1 => Option.bind (kf cs0 n1) fun y => aC σ 1 (kO.val y) (kO.aN y) k
  | _ => none
 nat := fun args σ k => by
  repeat' split
  all_goals simp only [av, ai, UA, Uz, aC, Uy]
 pure := false
 pok := fun h => by cases h
theorem EI : aX U2 41 s7 := by
 intro args σ r σ' h
 simp only [s7] at h
 split at h
 ·rename_i x0
  obtain ⟨cs0, n1, he0, hf0, h⟩ := bE h
  obtain ⟨y, hy, h⟩ := bE_ h
  exact lifted (xs := [x0]) (ls := [.vec cs0 n1 3 false]) (cargs := [.vec 0]) (bC.of ⟨⟨rfl, he0, hf0, by decide⟩, trivial⟩) rfl (Ds cs0 n1 y hy) rfl rfl rfl rfl h
 ·cases h
def EJ : CH := CH.none
theorem AZ : aG U2 EJ := CH.aF
def cj (a0 a1 a2 a3 a4 a5 : Int) : Option (Int × Int × Int) :=
 (some ((IntKind.wrap .i64 (a0 - a3)), (IntKind.wrap .i64 (a1 - a4)), (IntKind.wrap .i64 (a2 - a5))))
def kP : FD where
 X := Int × Int × Int
 k := 0
 pre := []
 F := fun s => []
 M := .agg [.int .i64, .int .i64, .int .i64]
 B := []
 toL := fun x => [.I x.1, .I x.2.1, .I x.2.2]
 ofL := fun ls => match ls with
  | [.I x0, .I x1, .I x2] => some (x0, x1, x2)
  | _ => none
 au := fun ls x h => by
  split at h
  ·cases h; rfl
  ·cases h
theorem Dt (a0 a1 a2 a3 a4 a5 : Int) (x : Int × Int × Int) (h : cj a0 a1 a2 a3 a4 a5 = some x) : bg U2 62 0 [.agg [.int .i64 a0, .int .i64 a1, .int .i64 a2], .agg [.int .i64 a3, .int .i64 a4, .int .i64 a5]] [] kP x :=
 FD.semA kP AZ Try.func62 (fuel := 60) (by kernel_rfl) (by kernel_rfl)
  (by kernel_rfl) (Eq.trans (by kernel_rfl) h)
def s9 : HK where
 call := fun args σ k => match args with
  | [.agg [.int .i64 a0, .int .i64 a1, .int .i64 a2], .agg [.int .i64 a3, .int .i64 a4, .int .i64 a5]] => Option.bind (cj a0 a1 a2 a3 a4 a5) fun y => aC σ 0 (kP.val y) (kP.aN y) k
  | _ => none
 nat := fun args σ k => by
  repeat' split
  all_goals simp only [av, ai, UA, Uz, aC, Uy]
 pure := true
 pok := fun _ args σ r σ' h => by
  split at h
  ·exact bq h (fun y => rfl) (fun y f => rfl)
  ·cases h
theorem EK : aX U2 62 s9 := by
 intro args σ r σ' h
 simp only [s9] at h
 split at h
 ·rename_i a0 a1 a2 a3 a4 a5
  obtain ⟨y, hy, h⟩ := bE_ h
  exact lifted (xs := []) (ls := []) (cargs := [.agg [.int .i64 a0, .int .i64 a1, .int .i64 a2], .agg [.int .i64 a3, .int .i64 a4, .int .i64 a5]]) (bC.of trivial) rfl (Dt a0 a1 a2 a3 a4 a5 y hy) rfl rfl rfl rfl h
 ·cases h
def vh : CH := (CH.add 63 y9 (CH.add 62 s9 (CH.add 61 pm (CH.add 28 BA CH.none))))
theorem sb : aG U2 vh := (CH.ak IY (CH.ak EK (CH.ak wo (CH.ak BB CH.aF))))
def ca (cs0 : LA_) (n1 : Nat) (a2 a3 a4 : Int) : Option (Bool) :=
 (cond (((n1 : Nat) : Int) == 0) (some true) (cond (((n1 : Nat) : Int) == 1) (af (decide (0 ≤ 0) && decide (0 < ((n1 : Nat) : Int))) (af (aq kK cs0 (Int.toNat 0 * 3)) (cond (!(a2 == (ac cs0 ((Int.toNat 0 * 3) + 0)) && (a3 == (ac cs0 ((Int.toNat 0 * 3) + 1)) && (a4 == (ac cs0 ((Int.toNat 0 * 3) + 2)) && true)))) (some true) (some false)))) (cond (((n1 : Nat) : Int) == 2) (af (decide (0 ≤ 1) && decide (1 < ((n1 : Nat) : Int))) (af (aq kK cs0 (Int.toNat 1 * 3)) (af (decide (0 ≤ 0) && decide (0 < ((n1 : Nat) : Int))) (af (aq kK cs0 (Int.toNat 0 * 3)) (Option.bind (cj (ac cs0 ((Int.toNat 1 * 3) + 0)) (ac cs0 ((Int.toNat 1 * 3) + 1)) (ac cs0 ((Int.toNat 1 * 3) + 2)) (ac cs0 ((Int.toNat 0 * 3) + 0)) (ac cs0 ((Int.toNat 0 * 3) + 1)) (ac cs0 ((Int.toNat 0 * 3) + 2))) fun r1 => (af (decide (0 ≤ 0) && decide (0 < ((n1 : Nat) : Int))) (af (aq kK cs0 (Int.toNat 0 * 3)) (Option.bind (cj a2 a3 a4 (ac cs0 ((Int.toNat 0 * 3) + 0)) (ac cs0 ((Int.toNat 0 * 3) + 1)) (ac cs0 ((Int.toNat 0 * 3) + 2))) fun r2 => (Option.bind (fC r1.1 r1.2.1 r1.2.2 r2.1 r2.2.1 r2.2.2) fun r3 => (cond (!(r3.1 == 0 && (r3.2.1 == 0 && (r3.2.2.1 == 0 && (r3.2.2.2.1 == 0 && (r3.2.2.2.2.1 == 0 && (r3.2.2.2.2.2.1 == 0 && (r3.2.2.2.2.2.2.1 == 0 && (r3.2.2.2.2.2.2.2.1 == 0 && (r3.2.2.2.2.2.2.2.2.1 == 0 && (r3.2.2.2.2.2.2.2.2.2.1 == 0 && (r3.2.2.2.2.2.2.2.2.2.2.1 == 0 && (r3.2.2.2.2.2.2.2.2.2.2.2.1 == 0 && (r3.2.2.2.2.2.2.2.2.2.2.2.2.1 == 0 && (r3.2.2.2.2.2.2.2.2.2.2.2.2.2.1 == 0 && (r3.2.2.2.2.2.2.2.2.2.2.2.2.2.2.1 == 0 && (r3.2.2.2.2.2.2.2.2.2.2.2.2.2.2.2.1 == 0 && (r3.2.2.2.2.2.2.2.2.2.2.2.2.2.2.2.2.1 == 0 && (r3.2.2.2.2.2.2.2.2.2.2.2.2.2.2.2.2.2.1 == 0 && (r3.2.2.2.2.2.2.2.2.2.2.2.2.2.2.2.2.2.2.1 == 0 && (r3.2.2.2.2.2.2.2.2.2.2.2.2.2.2.2.2.2.2.2.1 == 0 && (r3.2.2.2.2.2.2.2.2.2.2.2.2.2.2.2.2.2.2.2.2.1 == 0 && (r3.2.2.2.2.2.2.2.2.2.2.2.2.2.2.2.2.2.2.2.2.2.1 == 0 && (r3.2.2.2.2.2.2.2.2.2.2.2.2.2.2.2.2.2.2.2.2.2.2.1 == 0 && (r3.2.2.2.2.2.2.2.2.2.2.2.2.2.2.2.2.2.2.2.2.2.2.2 == 0 && true))))))))))))))))))))))))) (some true) (some false))))))))))) (cond (((n1 : Nat) : Int) == 3) (af (decide (0 ≤ 1) && decide (1 < ((n1 : Nat) : Int))) (af (aq kK cs0 (Int.toNat 1 * 3)) (af (decide (0 ≤ 0) && decide (0 < ((n1 : Nat) : Int))) (af (aq kK cs0 (Int.toNat 0 * 3)) (Option.bind (cj (ac cs0 ((Int.toNat 1 * 3) + 0)) (ac cs0 ((Int.toNat 1 * 3) + 1)) (ac cs0 ((Int.toNat 1 * 3) + 2)) (ac cs0 ((Int.toNat 0 * 3) + 0)) (ac cs0 ((Int.toNat 0 * 3) + 1)) (ac cs0 ((Int.toNat 0 * 3) + 2))) fun r4 => (af (decide (0 ≤ 2) && decide (2 < ((n1 : Nat) : Int))) (af (aq kK cs0 (Int.toNat 2 * 3)) (af (decide (0 ≤ 0) && decide (0 < ((n1 : Nat) : Int))) (af (aq kK cs0 (Int.toNat 0 * 3)) (Option.bind (cj (ac cs0 ((Int.toNat 2 * 3) + 0)) (ac cs0 ((Int.toNat 2 * 3) + 1)) (ac cs0 ((Int.toNat 2 * 3) + 2)) (ac cs0 ((Int.toNat 0 * 3) + 0)) (ac cs0 ((Int.toNat 0 * 3) + 1)) (ac cs0 ((Int.toNat 0 * 3) + 2))) fun r5 => (af (decide (0 ≤ 0) && decide (0 < ((n1 : Nat) : Int))) (af (aq kK cs0 (Int.toNat 0 * 3)) (Option.bind (cj a2 a3 a4 (ac cs0 ((Int.toNat 0 * 3) + 0)) (ac cs0 ((Int.toNat 0 * 3) + 1)) (ac cs0 ((Int.toNat 0 * 3) + 2))) fun r6 => (Option.bind (jD r4.1 r4.2.1 r4.2.2 r5.1 r5.2.1 r5.2.2 r6.1 r6.2.1 r6.2.2) fun r7 => (Option.bind (pu r7.1 r7.2.1 r7.2.2.1 r7.2.2.2.1 r7.2.2.2.2.1 r7.2.2.2.2.2.1 r7.2.2.2.2.2.2.1 r7.2.2.2.2.2.2.2) fun r8 => (cond (r8 != 0) (some true) (some false))))))))))))))))) (some false)))))
def eS : FD where
 X := Bool
 k := 2
 pre := []
 F := fun s => [0, 1]
 M := .bool
 B := []
 toL := fun x => [.B x]
 ofL := fun ls => match ls with
  | [.B x0] => some x0
  | _ => none
 au := fun ls x h => by
  split at h
  ·cases h; rfl
  ·cases h
theorem t7 (cs0 : LA_) (n1 : Nat) (a2 a3 a4 : Int) (x : Bool) (h : ca cs0 n1 a2 a3 a4 = some x) : bg U2 40 2 [.ptr 0 0, .agg [.int .i64 a2, .int .i64 a3, .int .i64 a4]] [.cells [.vec 1] false none, .vec cs0 n1 3 false] eS x :=
 FD.semA eS sb Try.func40 (fuel := 60) (by kernel_rfl) (by kernel_rfl)
  (by kernel_rfl) (Eq.trans (by kernel_rfl) h)
def jd : HK where
 call := fun args σ k => match args with
  | [.ptr b0 0, .agg [.int .i64 a2, .int .i64 a3, .int .i64 a4]] => match σ.get b0 with | some (.cells [x1] _ _) => (cW σ 3 x1 fun cs0 n1 => Option.bind (ca cs0 n1 a2 a3 a4) fun y => aC σ 2 (eS.val y) (eS.aN y) k) | _ => none
  | _ => none
 nat := fun args σ k => by
  repeat' split
  all_goals simp only [av, ai, UA, Uz, aC, Uy]
 pure := false
 pok := fun h => by cases h
theorem vf : aX U2 40 jd := by
 intro args σ r σ' h
 simp only [jd] at h
 split at h
 ·rename_i b0 a2 a3 a4
  split at h
  ·rename_i x1 own0 gr0 hb0
   obtain ⟨cs0, n1, he1, hf1, h⟩ := bE h
   obtain ⟨y, hy, h⟩ := bE_ h
   exact lifted (xs := [.ptr b0 0, x1]) (ls := [.cells [.vec 1] false none, .vec cs0 n1 3 false]) (cargs := [.ptr 0 0, .agg [.int .i64 a2, .int .i64 a3, .int .i64 a4]]) (bC.of ⟨⟨rfl, rfl, by simp, rfl, b0, 0, rfl, by simp [cC, hb0, re, sub]⟩, ⟨rfl, he1, hf1, by decide⟩, trivial⟩) rfl (t7 cs0 n1 a2 a3 a4 y hy) rfl rfl rfl rfl h
  ·cases h
 ·cases h
abbrev de := LA_ × Nat × LA_ × Nat × Int
def lf : CH := (CH.add 41 s7 (CH.add 40 jd CH.none))
theorem oB : aG U2 lf := (CH.ak EI (CH.ak vf CH.aF))
def cG {R : Type} (cc : LA_ × Nat × Int) (v : de) (kn : (de) → Option R) (ke : ((LA_ × Nat)) → Option R) : Option R :=
 (cond (decide (v.2.2.2.2 < cc.2.2)) (af (decide (0 ≤ v.2.2.2.2) && decide (v.2.2.2.2 < ((cc.2.1 : Nat) : Int))) (af (aq kK cc.1 (Int.toNat v.2.2.2.2 * 3)) (Option.bind (ca v.2.2.1 v.2.2.2.1 (ac cc.1 ((Int.toNat v.2.2.2.2 * 3) + 0)) (ac cc.1 ((Int.toNat v.2.2.2.2 * 3) + 1)) (ac cc.1 ((Int.toNat v.2.2.2.2 * 3) + 2))) fun r2 => (cond r2 (af (decide (2 * (v.2.2.2.1 + 1) * 24 ≤ 2 ^ 48)) (af (decide (2 * (v.2.1 + 1) * 8 ≤ 2 ^ 48)) (kn ((v.1 ++ [.int .i64 v.2.2.2.2]), (v.2.1 + 1), (v.2.2.1 ++ [.int .i64 (ac cc.1 ((Int.toNat v.2.2.2.2 * 3) + 0)), .int .i64 (ac cc.1 ((Int.toNat v.2.2.2.2 * 3) + 1)), .int .i64 (ac cc.1 ((Int.toNat v.2.2.2.2 * 3) + 2))]), (v.2.2.2.1 + 1), (IntKind.wrap .i64 (v.2.2.2.2 + 1)))))) (kn (v.1, v.2.1, v.2.2.1, v.2.2.2.1, (IntKind.wrap .i64 (v.2.2.2.2 + 1)))))))) (ke (v.1, v.2.1)))
def eU (cc : LA_ × Nat × Int) (v : de) : Option ((de) ⊕ ((LA_ × Nat))) := cG cc v (fun v => some (Sum.inl v)) fun e => some (Sum.inr e)
def sa (cc : LA_ × Nat × Int) (v : de) : Option ((LA_ × Nat)) := dZ (eU cc) v
def xV (cc : LA_ × Nat × Int) (v : de) : List ah := [.I cc.2.2, .I v.s4, .C v.1, .N v.2.1, .C v.2.2.1, .N v.2.2.2.1, .C cc.1, .N cc.2.1]
def oC (ls : List ah) : Option ((LA_ × Nat × Int) × (de)) := match ls with
 | [.I x0, .I x1, .C x2, .N x3, .C x4, .N x5, .C x6, .N x7] => some ((x6, x7, x0), (x2, x3, x4, x5, x1))
 | _ => none
def oD (e : (LA_ × Nat)) : an := ((fun e => .exit 0) e)
def oE (cc : LA_ × Nat × Int) (e : (LA_ × Nat)) : List ah := ((fun e => [.C e.1, .N e.2]) e)
def nj (cc : LA_ × Nat × Int) (e : (LA_ × Nat)) : List ah := ((fun e => []) e)
def je (o : an) (ls : List ah) : Option (((LA_ × Nat)) × List ah) := match o with
 | .exit 0 => (match ls with
  | [.C x0, .N x1] => some ((x0, x1), [])
  | _ => none)
 | _ => none
theorem vg : ∀ o ls e cl cc, je o ls = some (e, cl) → cl = nj cc e → ls = oE cc e ∧ oD e = o ∧ o ≠ .normal ∧ ∀ v, o = .pan v → sc 0 v = true := by
 intro o ls e cl cc h hc
 unfold je at h
 split at h
 ·split at h
  ·cases h
   exact ⟨rfl, rfl, by simp, by intro v hv; cases hv <;> rfl⟩
  ·cases h
 ·cases h
def zg (o : an) : ExS := match o with
 | .exit 0 => ⟨2, (none :: none :: some (.vec 1) :: (rl none 35 [])), [(1, .vec 1 true)], fun s => [0, nameAt s 2 []], [], []⟩
 | _ => ⟨0, [], [], fun _ => [], [], []⟩
theorem xW {R : Type} (cc : LA_ × Nat × Int) (v : de) (kn : (de) → Option R) (ke : ((LA_ × Nat)) → Option R) : cG cc v kn ke = (cG cc v (fun v => some (Sum.inl v)) fun e => some (Sum.inr e)).bind (Sum.elim kn ke) := by
 simp only [cG, bX, ai, UA, cu, bS, Uy, Uz, UZ, UY]
def qK : LD where
 CC := LA_ × Nat × Int
 V := de
 E := (LA_ × Nat)
 n := 1
 K := 4
 M := (none :: none :: some (.vec 1) :: none :: some (.ptr 2 0) :: some (.func 40 [.ptr 2 0] []) :: (rl none 9 (some (.vec 0) :: some (.int .i64) :: some (.int .i64) :: (rl none 20 []))))
 B := [(1, .vec 1 true), (2, .cells [.vec 3] true none), (3, .vec 3 true), (0, .vec 3 false)]
 D := []
 pre := [(2, 1), (1000004, 3)]
 F := fun s => [0, nameAt s 2 [], nameAt s 4 [], nameAt s 4 [.d 0]]
 toL := xV
 ofL := oC
 au := fun ls c v h => by
  unfold oC at h
  split at h
  ·cases h; rfl
  ·cases h
 cw := cG
 nat := xW
 sh := zg
 out := oD
 toE := oE
 fQ := nj
 ofE := je
 dn := vg
 post := fun cc e k => ((fun e => k (.exit 0) (bo 2 (none :: none :: some (.vec 1) :: (rl none 35 [])) [(1, .vec e.1 e.2 1 true)] [])) e)
 cv := fun cc e k => by rfl
theorem xX : cX U2 1 qK.la (aO Try.f24 0) :=
 LD.ok (ch := lf) (A := bD) aJ oB mixed (fuel := 60) ⟨by kernel_rfl, fun e => by kernel_rfl, fun cc v => by kernel_rfl, aK (l := []) (by kernel_rfl) trivial⟩
def iq (cs0 : LA_) (n1 : Nat) : Option (Int × LA_ × Nat) :=
 (Option.bind (kf cs0 n1) fun r1 => (cond r1 (cond (decide (((n1 : Nat) : Int) > 256)) (some (3, ([] : LA_), 0)) (Option.bind (sa (cs0, n1, ((n1 : Nat) : Int)) (([] : LA_), 0, ([] : LA_), 0, 0)) fun e2 => (some (0, e2.1, e2.2)))) (some (7, ([] : LA_), 0))))
def iS : FD where
 X := Int × LA_ × Nat
 k := 1
 pre := [(2, 1)]
 F := fun s => [0, nameAt s 0 [.c 0]]
 M := .tup [.vec 1, .int .i64]
 B := [.vec 1 true]
 toL := fun x => [.I x.1, .C x.2.1, .N x.2.2]
 ofL := fun ls => match ls with
  | [.I x0, .C x1, .N x2] => some (x0, x1, x2)
  | _ => none
 au := fun ls x h => by
  split at h
  ·cases h; rfl
  ·cases h
theorem A1 (cs0 : LA_) (n1 : Nat) (x : Int × LA_ × Nat) (h : iq cs0 n1 = some x) : bg U2 24 1 [.vec 0] [.vec cs0 n1 3 false] iS x :=
 FD.Ss (il := fun _ => false) (ch := lf) (A := eT [(8, qK.la)]) (fn := Try.f24) (c := bu Try.f24) (fuel := 60) aJ oB mixed bK iS Try.func24 (by kernel_rfl) (aK (l := [aO Try.f24 0]) (by kernel_rfl) ⟨ci (by kernel_rfl) xX, trivial⟩)
  (by kernel_rfl) (Eq.trans (by kernel_rfl) h)
def pt : HK where
 call := fun args σ k => match args with
  | [x0] => cW σ 3 x0 fun cs0 n1 => Option.bind (iq cs0 n1) fun y => aC σ 1 (iS.val y) (iS.aN y) k
  | _ => none
 nat := fun args σ k => by
  repeat' split
  all_goals simp only [av, ai, UA, Uz, aC, Uy]
 pure := false
 pok := fun h => by cases h
theorem Bz : aX U2 24 pt := by
 intro args σ r σ' h
 simp only [pt] at h
 split at h
 ·rename_i x0
  obtain ⟨cs0, n1, he0, hf0, h⟩ := bE h
  obtain ⟨y, hy, h⟩ := bE_ h
  exact lifted (xs := [x0]) (ls := [.vec cs0 n1 3 false]) (cargs := [.vec 0]) (bC.of ⟨⟨rfl, he0, hf0, by decide⟩, trivial⟩) rfl (A1 cs0 n1 y hy) rfl rfl rfl rfl h
 ·cases h
def EL : CH := (CH.add 24 pt CH.none)
theorem A0 : aG U2 EL := (CH.ak Bz CH.aF)
def aA (cs0 : LA_) (n1 : Nat) : Option (Int × Int) :=
 (Option.bind (iq cs0 n1) fun r1 => (cond (r1.1 != 0) (some (0, r1.1)) (some ((IntKind.wrap .i64 (((r1.2.2 : Nat) : Int) - 1)), 0))))
def kQ : FD where
 X := Int × Int
 k := 1
 pre := []
 F := fun s => [0]
 M := .tup [.int .i64, .int .i64]
 B := []
 toL := fun x => [.I x.1, .I x.2]
 ofL := fun ls => match ls with
  | [.I x0, .I x1] => some (x0, x1)
  | _ => none
 au := fun ls x h => by
  split at h
  ·cases h; rfl
  ·cases h
theorem Du (cs0 : LA_) (n1 : Nat) (x : Int × Int) (h : aA cs0 n1 = some x) : bg U2 11 1 [.vec 0] [.vec cs0 n1 3 false] kQ x :=
 FD.semA kQ A0 Try.func11 (fuel := 60) (by kernel_rfl) (by kernel_rfl)
  (by kernel_rfl) (Eq.trans (by kernel_rfl) h)
def gW : HK where
 call := fun args σ k => match args with
  | [x0] => cW σ 3 x0 fun cs0 n1 => Option.bind (aA cs0 n1) fun y => aC σ 1 (kQ.val y) (kQ.aN y) k
  | _ => none
 nat := fun args σ k => by
  repeat' split
  all_goals simp only [av, ai, UA, Uz, aC, Uy]
 pure := false
 pok := fun h => by cases h
theorem jG : aX U2 11 gW := by
 intro args σ r σ' h
 simp only [gW] at h
 split at h
 ·rename_i x0
  obtain ⟨cs0, n1, he0, hf0, h⟩ := bE h
  obtain ⟨y, hy, h⟩ := bE_ h
  exact lifted (xs := [x0]) (ls := [.vec cs0 n1 3 false]) (cargs := [.vec 0]) (bC.of ⟨⟨rfl, he0, hf0, by decide⟩, trivial⟩) rfl (Du cs0 n1 y hy) rfl rfl rfl rfl h
 ·cases h
abbrev Pt := Int × Int × Int
def pcs : List Pt → LA_
 | [] => []
 | p :: l => .int .i64 p.1 :: .int .i64 p.2.1 :: .int .i64 p.2.2 :: pcs l
def pat (l : List Pt) (i : Nat) : Pt := l.getD i (0, 0, 0)
theorem Mf : ∀ l : List Pt, (pcs l).length = 3 * l.length
 | [] => rfl
 | p :: l => by simp [pcs, Mf l]; omega
theorem yL : ∀ (a b : List Pt), pcs (a ++ b) = pcs a ++ pcs b
 | [], b => rfl
 | p :: a, b => by simp [pcs, yL a b]
theorem yN : ∀ (l : List Pt) (i : Nat), i < l.length → (pcs l)[i * 3]? = some (.int .i64 (pat l i).1) ∧ (pcs l)[i * 3 + 1]? = some (.int .i64 (pat l i).2.1) ∧ (pcs l)[i * 3 + 2]? = some (.int .i64 (pat l i).2.2)
 | [], i, h => by simp at h
 | p :: l, 0, h => ⟨rfl, rfl, rfl⟩
 | p :: l, i + 1, h => by
  have ih := yN l i (by simpa using h)
  rw [show (i + 1) * 3 = i * 3 + 3 by omega, show i * 3 + 3 + 1 = i * 3 + 1 + 3 by omega, show i * 3 + 3 + 2 = i * 3 + 2 + 3 by omega]
  exact ih
theorem pg0 {l : List Pt} {i : Nat} (h : i < l.length) : ac (pcs l) (i * 3 + 0) = (pat l i).1 := by
 unfold ac; rw [Nat.add_zero, (yN l i h).1]
theorem pg1 {l : List Pt} {i : Nat} (h : i < l.length) : ac (pcs l) (i * 3 + 1) = (pat l i).2.1 := by
 unfold ac; rw [(yN l i h).2.1]
theorem pg2 {l : List Pt} {i : Nat} (h : i < l.length) : ac (pcs l) (i * 3 + 2) = (pat l i).2.2 := by
 unfold ac; rw [(yN l i h).2.2]
theorem pro {l : List Pt} {i : Nat} (h : i < l.length) : aq kK (pcs l) (i * 3) = true := by
 have h1 := yN l i h
 simp [aq, h1.1, h1.2.1, h1.2.2, isK]
theorem decLt {i n : Nat} (h : i < n) : decide ((i : Int) < ((n : Nat) : Int)) = true := UH (by omega)
def bP (p : Pt) : Bool := bnd p.1 && bnd p.2.1 && bnd p.2.2
theorem vK {p : Pt} : bP p = true ↔ bnd p.1 = true ∧ bnd p.2.1 = true ∧ bnd p.2.2 = true := by simp [bP, and_assoc]
def bd (l : List Pt) : Bool := l.all bP
theorem eI {l : List Pt} (h : bd l = true) {i : Nat} (hi : i < l.length) : bP (pat l i) = true := by
 unfold pat
 rw [UK, UJ hi]
 exact List.all_eq_true.1 h _ (List.getElem_mem hi)
theorem iY (n : Nat) : ((n : Nat) : Int).toNat = n := Int.toNat_natCast n
theorem Tu {l : List Pt} (hl : l.length < 1000000000) : kf (pcs l) l.length = some (bd l) := by
 have key : ∃ e, ve (pcs l, l.length, ((l.length : Nat) : Int)) 0 = some e ∧ (match e with | .inl () => bd l = false | .inr () => bd l = true) := by
  refine gv (step := iR (pcs l, l.length, ((l.length : Nat) : Int))) (fun v => ∃ i : Nat, v = (i : Int) ∧ i ≤ l.length ∧ bd (l.take i) = true) (fun v => ((l.length : Int) - v).toNat) _ ?_
   (Nat.lt_of_le_of_lt (show ((l.length : Int) - 0).toNat ≤ 1000000000 by omega) (by decide)) ⟨0, rfl, by omega, rfl⟩
  rintro v ⟨i, rfl, hi, hok⟩
  by_cases h : i < l.length
  ·have w : IntKind.wrap .i64 ((i : Int) + 1) = ((i + 1 : Nat) : Int) := by rw [ce (by omega)]; omega
   have hsp : bd l = true ↔ bd (l.take (i + 1)) = true ∧ bd (l.drop (i + 1)) = true := by
    rw [← UC]
    unfold bd
    rw [← List.all_append, List.take_append_drop]
   have htk : bd (l.take (i + 1)) = bP (pat l i) := by
    have : l.take (i + 1) = l.take i ++ [pat l i] := by
     rw [List.take_add_one, UJ h]; simp [pat, UK, UJ h]
    unfold bd at *
    rw [this, List.all_append, hok]; simp
   simp only [iR, dE, decLt h, gt, cond_true, UF, aw, iY, pro h, pg0 h, pg1 h, pg2 h, Md, Uy, w]
   cases hb : bP (pat l i) with
   | true =>
    have hb' : (bnd (pat l i).1 && bnd (pat l i).2.1 && bnd (pat l i).2.2) = true := hb
    rw [hb']
    exact .inl ⟨_, rfl, ⟨i + 1, rfl, by omega, by rw [htk, hb]⟩, by omega⟩
   | false =>
    have hb' : (bnd (pat l i).1 && bnd (pat l i).2.1 && bnd (pat l i).2.2) = false := hb
    rw [hb']
    refine .inr ⟨.inl (), rfl, ?_⟩
    cases hc : bd l with
    | false => rfl
    | true => rw [(htk ▸ (hsp.1 hc).1 : bP (pat l i) = true)] at hb; cases hb
  ·have hi' : i = l.length := by omega
   subst hi'
   rw [List.take_length] at hok
   refine .inr ⟨.inr (), ?_, hok⟩
   simp only [iR, dE, UG (show ¬ ((l.length : Int) < ((l.length : Nat) : Int)) by omega), cond_false]
 obtain ⟨e, h1, h2⟩ := key
 unfold kf
 rw [h1, Uy]
 match e, h2 with
 | .inl (), h2 => rw [h2]; rfl
 | .inr (), h2 => rw [h2]; rfl
def aB (a b : Pt) : Pt := (a.1 - b.1, a.2.1 - b.2.1, a.2.2 - b.2.2)
def crs (a b : Pt) : Pt := (a.2.1 * b.2.2 - a.2.2 * b.2.1, a.2.2 * b.1 - a.1 * b.2.2, a.1 * b.2.1 - a.2.1 * b.1)
def ae (a b : Pt) : Int := a.1 * b.1 + a.2.1 * b.2.1 + a.2.2 * b.2.2
def dP (p : Pt) : Prop := sm 29 p.1 ∧ sm 29 p.2.1 ∧ sm 29 p.2.2
theorem Ie {x : Int} (h : bnd x = true) : sm 28 x := by have := oQ.1 h; unfold sm; omega
theorem nw {a b : Pt} (ha : bP a = true) (hb : bP b = true) : dP (aB a b) := by
 obtain ⟨h1, h2, h3⟩ := vK.1 ha
 obtain ⟨k1, k2, k3⟩ := vK.1 hb
 exact ⟨f8 (Ie h1) (Ie k1), f8 (Ie h2) (Ie k2), f8 (Ie h3) (Ie k3)⟩
theorem r63 {x : Int} (h : sm 29 x) : ba x = true := by rw [CD]; unfold sm at h; omega
theorem w29 {a b : Int} (ha : bnd a = true) (hb : bnd b = true) : IntKind.wrap .i64 (a - b) = a - b := by
 have := oQ.1 ha
 have := oQ.1 hb
 exact ce (by omega)
theorem yO {a b : Pt} (ha : bP a = true) (hb : bP b = true) : cj a.1 a.2.1 a.2.2 b.1 b.2.1 b.2.2 = some (aB a b) := by
 obtain ⟨h1, h2, h3⟩ := vK.1 ha
 obtain ⟨k1, k2, k3⟩ := vK.1 hb
 unfold cj
 rw [w29 h1 k1, w29 h2 k2, w29 h3 k3]; rfl
def c9 (a b c : Pt) : Int := ae (crs b c) a
theorem Qc {a b : Pt} (ha : dP a) (hb : dP b) : fC a.1 a.2.1 a.2.2 b.1 b.2.1 b.2.2 = some (t24 (crs a b).1 (crs a b).2.1 (crs a b).2.2) :=
 Ml (r63 ha.1) (r63 ha.2.1) (r63 ha.2.2) (r63 hb.1) (r63 hb.2.1) (r63 hb.2.2)
theorem Tv {a b c : Pt} (ha : dP a) (hb : dP b) (hc : dP c) : jD a.1 a.2.1 a.2.2 b.1 b.2.1 b.2.2 c.1 c.2.1 c.2.2 = some (t8 (c9 a b c)) :=
 T3 (r63 ha.1) (r63 ha.2.1) (r63 ha.2.2) (r63 hb.1) (r63 hb.2.1) (r63 hb.2.2) (r63 hc.1) (r63 hc.2.1) (r63 hc.2.2)
theorem OO {a b : Pt} (ha : dP a) (hb : dP b) : sm 59 (crs a b).1 ∧ sm 59 (crs a b).2.1 ∧ sm 59 (crs a b).2.2 :=
 ⟨f8 (cP ha.2.1 hb.2.2) (cP ha.2.2 hb.2.1), f8 (cP ha.2.2 hb.1) (cP ha.1 hb.2.2), f8 (cP ha.1 hb.2.1) (cP ha.2.1 hb.1)⟩
theorem R8 {a b c : Pt} (ha : dP a) (hb : dP b) (hc : dP c) : sm 90 (c9 a b c) := by
 have h := OO hb hc
 exact kj (kj (cP h.1 ha.1) (cP h.2.1 ha.2.1)) (aW (cP h.2.2 ha.2.2) (by decide))
def dD (t : List Pt) (p : Pt) : Bool :=
 match t with
 | [] => true
 | [a] => !decide (p = a)
 | [a, b] => !decide (crs (aB b a) (aB p a) = (0, 0, 0))
 | [a, b, c] => !decide (c9 (aB b a) (aB c a) (aB p a) = 0)
 | _ => false
theorem Tw {x y z : Int} (hx : fit x) (hy : fit y) (hz : fit z) : (aa x 0 == 0 && (aa x 1 == 0 && (aa x 2 == 0 && (aa x 3 == 0 && (aa x 4 == 0 && (aa x 5 == 0 && (aa x 6 == 0 && (aa x 7 == 0 && (aa y 0 == 0 && (aa y 1 == 0 && (aa y 2 == 0 && (aa y 3 == 0 && (aa y 4 == 0 && (aa y 5 == 0 && (aa y 6 == 0 && (aa y 7 == 0 && (aa z 0 == 0 && (aa z 1 == 0 && (aa z 2 == 0 && (aa z 3 == 0 && (aa z 4 == 0 && (aa z 5 == 0 && (aa z 6 == 0 && (aa z 7 == 0 && true)))))))))))))))))))))))) = decide (x = 0 ∧ y = 0 ∧ z = 0) := by
 have h1 := Nk hx
 have h2 := Nk hy
 have h3 := Nk hz
 simp only [Bool.and_true] at h1 h2 h3 ⊢
 rw [h3]
 simp only [← Bool.and_assoc] at h1 h2 ⊢
 rw [h1]
 by_cases a : x = 0 <;> by_cases b : y = 0 <;> by_cases c : z = 0 <;> simp_all
theorem Uq (z : Int) : (sgn z != 0) = !decide (z = 0) := by
 unfold sgn
 by_cases h1 : z < 0 <;> by_cases h2 : z = 0 <;> simp [h1, h2]
theorem Qd {t : List Pt} {p : Pt} (ht : bd t = true) (hp : bP p = true) (hl : t.length ≤ 4) : ca (pcs t) t.length p.1 p.2.1 p.2.2 = some (dD t p) := by
 have hD : ∀ a b : Int, decide (0 ≤ (0 : Int)) = true := fun _ _ => rfl
 match t, hl with
 | [], _ => rfl
 | [a], _ =>
  unfold ca dD
  simp only [pcs, UW, List.length_nil, Nat.zero_add]
  obtain ⟨x, y, z⟩ := a
  obtain ⟨u, v, w⟩ := p
  show (cond (!(u == x && (v == y && (w == z && true)))) (some true) (some false)) = _
  have e : (u == x && (v == y && (w == z && true))) = decide ((u, v, w) = (x, y, z)) := by
   rw [Bool.eq_iff_iff]; simp
  rw [e]
  cases decide ((u, v, w) = (x, y, z)) <;> rfl
 | [a, b], _ =>
  have ha := eI ht (i := 0) (by simp)
  have hb := eI ht (i := 1) (by simp)
  have ha' : bP a = true := ha
  have hb' : bP b = true := hb
  have hc := OO (nw hb' ha') (nw hp ha')
  have e : ca (pcs [a, b]) 2 p.1 p.2.1 p.2.2 = Option.bind (cj b.1 b.2.1 b.2.2 a.1 a.2.1 a.2.2) fun r1 => Option.bind (cj p.1 p.2.1 p.2.2 a.1 a.2.1 a.2.2) fun r2 => Option.bind (fC r1.1 r1.2.1 r1.2.2 r2.1 r2.2.1 r2.2.2) fun r3 =>
    cond (!(r3.1 == 0 && (r3.2.1 == 0 && (r3.2.2.1 == 0 && (r3.2.2.2.1 == 0 && (r3.2.2.2.2.1 == 0 && (r3.2.2.2.2.2.1 == 0 && (r3.2.2.2.2.2.2.1 == 0 && (r3.2.2.2.2.2.2.2.1 == 0 && (r3.2.2.2.2.2.2.2.2.1 == 0 && (r3.2.2.2.2.2.2.2.2.2.1 == 0 && (r3.2.2.2.2.2.2.2.2.2.2.1 == 0 && (r3.2.2.2.2.2.2.2.2.2.2.2.1 == 0 && (r3.2.2.2.2.2.2.2.2.2.2.2.2.1 == 0 && (r3.2.2.2.2.2.2.2.2.2.2.2.2.2.1 == 0 && (r3.2.2.2.2.2.2.2.2.2.2.2.2.2.2.1 == 0 && (r3.2.2.2.2.2.2.2.2.2.2.2.2.2.2.2.1 == 0 && (r3.2.2.2.2.2.2.2.2.2.2.2.2.2.2.2.2.1 == 0 && (r3.2.2.2.2.2.2.2.2.2.2.2.2.2.2.2.2.2.1 == 0 && (r3.2.2.2.2.2.2.2.2.2.2.2.2.2.2.2.2.2.2.1 == 0 && (r3.2.2.2.2.2.2.2.2.2.2.2.2.2.2.2.2.2.2.2.1 == 0 && (r3.2.2.2.2.2.2.2.2.2.2.2.2.2.2.2.2.2.2.2.2.1 == 0 && (r3.2.2.2.2.2.2.2.2.2.2.2.2.2.2.2.2.2.2.2.2.2.1 == 0 && (r3.2.2.2.2.2.2.2.2.2.2.2.2.2.2.2.2.2.2.2.2.2.2.1 == 0 && (r3.2.2.2.2.2.2.2.2.2.2.2.2.2.2.2.2.2.2.2.2.2.2.2 == 0 && true))))))))))))))))))))))))) (some true) (some false) := rfl
  show ca (pcs [a, b]) 2 p.1 p.2.1 p.2.2 = _
  rw [e, yO hb' ha', Uy, yO hp ha', Uy, Qc (nw hb' ha') (nw hp ha'), Uy]
  simp only [t24, Tw (bf hc.1 (by decide)) (bf hc.2.1 (by decide)) (bf hc.2.2 (by decide)), dD]
  generalize crs (aB b a) (aB p a) = q
  obtain ⟨x, y, z⟩ := q
  have e : decide (x = 0 ∧ y = 0 ∧ z = 0) = decide ((x, y, z) = ((0, 0, 0) : Pt)) := by
   rw [Bool.eq_iff_iff]; simp
  rw [e]
  cases decide ((x, y, z) = ((0, 0, 0) : Pt)) <;> rfl
 | [a, b, c], _ =>
  have ha' : bP a = true := eI ht (i := 0) (by simp)
  have hb' : bP b = true := eI ht (i := 1) (by simp)
  have hc' : bP c = true := eI ht (i := 2) (by simp)
  have hd := R8 (nw hb' ha') (nw hc' ha') (nw hp ha')
  have e : ca (pcs [a, b, c]) 3 p.1 p.2.1 p.2.2 = Option.bind (cj b.1 b.2.1 b.2.2 a.1 a.2.1 a.2.2) fun r1 => Option.bind (cj c.1 c.2.1 c.2.2 a.1 a.2.1 a.2.2) fun r2 => Option.bind (cj p.1 p.2.1 p.2.2 a.1 a.2.1 a.2.2) fun r3 =>
    Option.bind (jD r1.1 r1.2.1 r1.2.2 r2.1 r2.2.1 r2.2.2 r3.1 r3.2.1 r3.2.2) fun r4 => Option.bind (pu r4.1 r4.2.1 r4.2.2.1 r4.2.2.2.1 r4.2.2.2.2.1 r4.2.2.2.2.2.1 r4.2.2.2.2.2.2.1 r4.2.2.2.2.2.2.2) fun r5 => cond (r5 != 0) (some true) (some false) := rfl
  show ca (pcs [a, b, c]) 3 p.1 p.2.1 p.2.2 = _
  rw [e, yO hb' ha', Uy, yO hc' ha', Uy, yO hp ha', Uy, Tv (nw hb' ha') (nw hc' ha') (nw hp ha'), Uy]
  simp only [t8, L6 (bf hd (by decide)), Uy, Uq, dD]
  cases decide (c9 (aB b a) (aB c a) (aB p a) = 0) <;> rfl
 | [a, b, c, d], _ => rfl
 | a :: b :: c :: d :: e :: r, h => simp at h
def ics (l : List Int) : LA_ := l.map (.int .i64)
theorem Sa (a b : List Int) : ics (a ++ b) = ics a ++ ics b := by simp [ics]
def kI : List Pt → Int → List Int → List Pt → List Int × List Pt
 | [], _, o, t => (o, t)
 | p :: r, i, o, t => cond (dD t p) (kI r (i + 1) (o ++ [i]) (t ++ [p])) (kI r (i + 1) o t)
def kJ (l : List Pt) : List Int := (kI l 0 [] []).1
theorem Mm {t : List Pt} {p : Pt} (h : dD t p = true) : t.length ≤ 3 := by
 unfold dD at h
 split at h <;> simp_all
theorem Fz : ∀ (r : List Pt) (i : Int) (o : List Int) (t : List Pt), o.length = t.length → t.length ≤ 4 → (kI r i o t).1.length = (kI r i o t).2.length ∧ (kI r i o t).2.length ≤ 4
 | [], i, o, t, h, h4 => ⟨h, h4⟩
 | p :: r, i, o, t, h, h4 => by
  unfold kI
  cases hb : dD t p with
  | true =>
   have := Mm hb
   exact Fz r _ _ _ (by simp [h]) (by simp; omega)
  | false => exact Fz r _ _ _ h h4
theorem xG {l : List Pt} (hok : bd l = true) (hl : l.length ≤ 256) : ∀ (n i : Nat) (o : List Int) (t : List Pt), l.length - i = n → i ≤ l.length → o.length = t.length → t.length ≤ 4 → bd t = true →
  iter (eU (pcs l, l.length, ((l.length : Nat) : Int))) (n + 1) (ics o, o.length, pcs t, t.length, (i : Int)) = some (ics (kI (l.drop i) i o t).1, (kI (l.drop i) i o t).1.length)
 | 0, i, o, t, hn, hi, ho, ht, hk => by
  have he : i = l.length := by omega
  subst he
  refine gK 0 ?_
  rw [List.drop_length]
  simp only [eU, cG, UG (show ¬ ((l.length : Int) < ((l.length : Nat) : Int)) by omega), cond_false]
  rfl
 | n + 1, i, o, t, hn, hi, ho, ht, hk => by
  have h : i < l.length := by omega
  have hd : l.drop i = pat l i :: l.drop (i + 1) := by
   rw [List.drop_eq_getElem_cons h]; simp [pat, UK, UJ h]
  have w : IntKind.wrap .i64 ((i : Int) + 1) = ((i + 1 : Nat) : Int) := by rw [ce (by omega)]; omega
  have hp := eI hok h
  have hr := Qd hk hp ht
  have d1 : ∀ k : Nat, k ≤ 5 → decide (2 * k * 24 ≤ 2 ^ 48) = true := fun k hk => UH (by omega)
  have d2 : ∀ k : Nat, k ≤ 5 → decide (2 * k * 8 ≤ 2 ^ 48) = true := fun k hk => UH (by omega)
  cases hb : dD t (pat l i) with
  | true =>
   have h3 := Mm hb
   rw [hb] at hr
   refine dL (v' := (ics (o ++ [(i : Int)]), (o ++ [(i : Int)]).length, pcs (t ++ [pat l i]), (t ++ [pat l i]).length, ((i + 1 : Nat) : Int))) ?_ ?_
   ·simp only [eU, cG, decLt h, gt, cond_true, UF, aw, iY, pro h, pg0 h, pg1 h, pg2 h, hr, Uy, w, d1 _ (show t.length + 1 ≤ 5 by omega), d2 _ (show o.length + 1 ≤ 5 by omega), Sa, yL, UQ, UW, List.length_nil, Nat.zero_add]
    rfl
   ·have ih := xG hok hl n (i + 1) (o ++ [(i : Int)]) (t ++ [pat l i]) (by omega) (by omega) (by simp [ho]) (by simp; omega) (by unfold bd at *; rw [List.all_append, hk]; simp [hp])
    rw [ih, hd]
    simp only [kI, hb, cond_true]
    rfl
  | false =>
   rw [hb] at hr
   refine dL (v' := (ics o, o.length, pcs t, t.length, ((i + 1 : Nat) : Int))) ?_ ?_
   ·simp only [eU, cG, decLt h, gt, cond_true, cond_false, UF, aw, iY, pro h, pg0 h, pg1 h, pg2 h, hr, Uy, w]
   ·have ih := xG hok hl n (i + 1) o t (by omega) (by omega) ho ht hk
    rw [ih, hd]
    simp only [kI, hb, cond_false]
    rfl
theorem Qe {l : List Pt} (hl : l.length < 1000000000) : iq (pcs l) l.length = some (cond (bd l) (cond (decide (l.length > 256)) (3, [], 0) (0, ics (kJ l), (kJ l).length)) (7, [], 0)) := by
 unfold iq
 rw [Tu hl, Uy]
 cases hok : bd l with
 | false => rfl
 | true =>
  simp only [cond_true]
  by_cases h : l.length > 256
  ·rw [UH (show ((l.length : Nat) : Int) > 256 by omega), UH h]; rfl
  ·rw [UG (show ¬ ((l.length : Nat) : Int) > 256 by omega), UG h]
   have := xG hok (by omega) l.length 0 [] [] (by omega) (by omega) rfl (by simp) rfl
   have hf : sa (pcs l, l.length, ((l.length : Nat) : Int)) ([], 0, [], 0, 0) = some (ics (kJ l), (kJ l).length) := lO (n := l.length + 1) (by unfold vI; omega) this
   simp only [cond_false, hf, Uy]
theorem CE {l : List Pt} (hl : l.length < 1000000000) : aA (pcs l) l.length = some (cond (bd l) (cond (decide (l.length > 256)) (0, 3) (((kJ l).length : Int) - 1, 0)) (0, 7)) := by
 have h4 : (kJ l).length ≤ 4 := by
  have := Fz l 0 [] [] rfl (by simp)
  unfold kJ; omega
 unfold aA
 rw [Qe hl, Uy]
 cases bd l with
 | false => rfl
 | true =>
  cases decide (l.length > 256) with
  | true => rfl
  | false =>
   simp only [cond_true, cond_false]
   have w : IntKind.wrap .i64 ((((kJ l).length : Nat) : Int) - 1) = ((kJ l).length : Int) - 1 := ce (by omega)
   have : (0 != (0 : Int)) = false := rfl
   simp only [w, this, cond_false]
end Go.Ev
namespace Go.Ev
def bB : List Int → List Pt → Pt
 | w :: ws, p :: ps => (w * p.1 + (bB ws ps).1, w * p.2.1 + (bB ws ps).2.1, w * p.2.2 + (bB ws ps).2.2)
 | _, _ => (0, 0, 0)
def co : List Int → Int
 | [] => 0
 | w :: ws => w + co ws
def wt1 (e p : Pt) : Int × Int := (-ae e p, ae e e)
def wt2 (e f p : Pt) : (Int × Int) × Int :=
 let a := ae e e; let b := ae e f; let c := ae f e; let d := ae f f
 let h := -ae e p; let k := -ae f p
 ((h * d - b * k, a * k - h * c), a * d - b * c)
def m3 (a b c d e f g h i : Int) : Int := a * (e * i - f * h) - b * (d * i - f * g) + c * (d * h - e * g)
def wt3 (e f g p : Pt) : (Int × Int × Int) × Int :=
 let a := ae e e; let b := ae e f; let c := ae e g
 let d := ae f e; let k := ae f f; let l := ae f g
 let m := ae g e; let n := ae g f; let o := ae g g
 let x := -ae e p; let y := -ae f p; let z := -ae g p
 ((m3 x b c y k l z n o, m3 a x c d y l m z o, m3 a b x d k y m n z), m3 a b c d k l m n o)
def wts : List Pt → List Int × Int
 | [_] => ([1], 1)
 | [p, q] => let r := wt1 (aB q p) p; ([r.2 - r.1, r.1], r.2)
 | [p, q, s] => let r := wt2 (aB q p) (aB s p) p; ([r.2 - r.1.1 - r.1.2, r.1.1, r.1.2], r.2)
 | [p, q, s, t] => let r := wt3 (aB q p) (aB s p) (aB t p) p; ([r.2 - r.1.1 - r.1.2.1 - r.1.2.2, r.1.1, r.1.2.1, r.1.2.2], r.2)
 | _ => ([], 0)
def bp (l : List Pt) : Pt := bB (wts l).1 l
theorem jy (a b n : Pt) : ae (aB a b) n = ae a n - ae b n := by simp only [ae, aB]; grind
theorem wS (a b : Pt) : ae a b = ae b a := by simp only [ae]; grind
theorem To (p q : Pt) : ae q (bp [p, q]) = ae p (bp [p, q]) := by
 obtain ⟨a, b, c⟩ := p
 obtain ⟨x, y, z⟩ := q
 simp only [bp, wts, wt1, bB, ae, aB]
 grind
theorem Uo (e f p : Pt) (w1 w2 d : Int) (v : Pt) : ae v (d * p.1 + w1 * e.1 + w2 * f.1, d * p.2.1 + w1 * e.2.1 + w2 * f.2.1, d * p.2.2 + w1 * e.2.2 + w2 * f.2.2) = d * ae v p + w1 * ae v e + w2 * ae v f := by
 simp only [ae]; grind
theorem n2 (p q s : Pt) : bp [p, q, s] = (let r := wt2 (aB q p) (aB s p) p; (r.2 * p.1 + r.1.1 * (aB q p).1 + r.1.2 * (aB s p).1, r.2 * p.2.1 + r.1.1 * (aB q p).2.1 + r.1.2 * (aB s p).2.1, r.2 * p.2.2 + r.1.1 * (aB q p).2.2 + r.1.2 * (aB s p).2.2)) := by
 simp only [bp, wts, bB]
 generalize wt2 _ _ _ = r
 simp only [aB, UD]
 grind
theorem Tp (p q s : Pt) : ae (aB q p) (bp [p, q, s]) = 0 ∧ ae (aB s p) (bp [p, q, s]) = 0 := by
 rw [n2]
 simp only [Uo]
 generalize aB q p = e
 generalize aB s p = f
 simp only [wt2]
 rw [wS f e]
 generalize ae e e = a
 generalize ae e f = b
 generalize ae f f = d
 generalize ae e p = h
 generalize ae f p = k
 grind
theorem Up (e f g p : Pt) (w1 w2 w3 d : Int) (v : Pt) : ae v (d * p.1 + w1 * e.1 + w2 * f.1 + w3 * g.1, d * p.2.1 + w1 * e.2.1 + w2 * f.2.1 + w3 * g.2.1, d * p.2.2 + w1 * e.2.2 + w2 * f.2.2 + w3 * g.2.2) = d * ae v p + w1 * ae v e + w2 * ae v f + w3 * ae v g := by
 simp only [ae]; grind
theorem n3 (p q s t : Pt) : bp [p, q, s, t] = (let r := wt3 (aB q p) (aB s p) (aB t p) p; (r.2 * p.1 + r.1.1 * (aB q p).1 + r.1.2.1 * (aB s p).1 + r.1.2.2 * (aB t p).1, r.2 * p.2.1 + r.1.1 * (aB q p).2.1 + r.1.2.1 * (aB s p).2.1 + r.1.2.2 * (aB t p).2.1, r.2 * p.2.2 + r.1.1 * (aB q p).2.2 + r.1.2.1 * (aB s p).2.2 + r.1.2.2 * (aB t p).2.2)) := by
 simp only [bp, wts, bB]
 generalize wt3 _ _ _ _ = r
 simp only [aB, UD]
 grind
theorem Tq (p q s t : Pt) : ae (aB q p) (bp [p, q, s, t]) = 0 ∧ ae (aB s p) (bp [p, q, s, t]) = 0 ∧ ae (aB t p) (bp [p, q, s, t]) = 0 := by
 rw [n3]
 simp only [Up]
 generalize aB q p = e
 generalize aB s p = f
 generalize aB t p = g
 simp only [wt3, m3]
 rw [wS f e, wS g e, wS g f]
 generalize ae e e = a
 generalize ae e f = b
 generalize ae e g = c
 generalize ae f f = d
 generalize ae f g = i
 generalize ae g g = j
 generalize ae e p = h
 generalize ae f p = k
 generalize ae g p = l
 grind
theorem Fp : ∀ l : List Pt, 1 ≤ l.length → l.length ≤ 4 → co (wts l).1 = (wts l).2 ∧ (wts l).1.length = l.length
 | [p], _, _ => by simp [wts, co]
 | [p, q], _, _ => by simp only [wts, co, UW, List.length_nil]; constructor <;> first | trivial | omega
 | [p, q, r], _, _ => by simp only [wts, co, UW, List.length_nil]; constructor <;> first | trivial | omega
 | [p, q, r, s], _, _ => by simp only [wts, co, UW, List.length_nil]; constructor <;> first | trivial | omega
 | _ :: _ :: _ :: _ :: _ :: _, _, h => by simp at h
theorem wR : ∀ l : List Pt, 1 ≤ l.length → l.length ≤ 4 → ∀ p ∈ l, ae p (bp l) = ae (l.headD (0, 0, 0)) (bp l)
 | [p], _, _ => by intro x hx; simp at hx; subst hx; rfl
 | [p, q], _, _ => by
  intro x hx
  simp only [List.mem_cons, List.not_mem_nil, or_false] at hx
  rcases hx with rfl | rfl
  ·rfl
  ·exact To _ _
 | [p, q, r], _, _ => by
  intro x hx
  have := Tp p q r
  simp only [jy] at this
  simp only [List.mem_cons, List.not_mem_nil, or_false] at hx
  simp only [List.headD_cons]
  rcases hx with rfl | rfl | rfl <;> omega
 | [p, q, r, s], _, _ => by
  intro x hx
  have := Tq p q r s
  simp only [jy] at this
  simp only [List.mem_cons, List.not_mem_nil, or_false] at hx
  simp only [List.headD_cons]
  rcases hx with rfl | rfl | rfl | rfl <;> omega
 | _ :: _ :: _ :: _ :: _ :: _, _, h => by simp at h
theorem Ax (v : Pt) (s : Int) : ∀ (w : List Int) (l : List Pt), w.length = l.length → (∀ p ∈ l, ae p v = s) → ae (bB w l) v = co w * s
 | [], [], _, _ => by simp [bB, co, ae]
 | x :: w, p :: l, hl, h => by
  have ih := Ax v s w l (by simpa using hl) fun q hq => h q (by simp [hq])
  have h0 := h p (by simp)
  simp only [bB, co, ae] at ih h0 ⊢
  grind
 | [], _ :: _, hl, _ => by simp at hl
 | _ :: _, [], hl, _ => by simp at hl
theorem rU (v : Pt) (s : Int) : ∀ (w : List Int) (l : List Pt), w.length = l.length → (∀ x ∈ w, 0 ≤ x) → (∀ p ∈ l, s ≤ ae p v) → co w * s ≤ ae (bB w l) v
 | [], [], _, _, _ => by simp [bB, co, ae]
 | x :: w, p :: l, hl, hw, h => by
  have ih := rU v s w l (by simpa using hl) (fun y hy => hw y (by simp [hy])) fun q hq => h q (by simp [hq])
  have h0 := UU (h p (by simp)) (hw x (by simp))
  simp only [bB, co, ae] at ih h0 ⊢
  rw [Int.add_mul]
  have e : ∀ a b c d e f : Int, (a * p.1 + b) * v.1 + (a * p.2.1 + c) * v.2.1 + (a * p.2.2 + d) * v.2.2 = a * (p.1 * v.1 + p.2.1 * v.2.1 + p.2.2 * v.2.2) + (b * v.1 + c * v.2.1 + d * v.2.2) := by intros; grind
  rw [e _ _ _ _ 0 0]
  omega
 | [], _ :: _, hl, _, _ => by simp at hl
 | _ :: _, [], hl, _, _ => by simp at hl
theorem sq_nonneg (a : Int) : 0 ≤ a * a := by
 rcases Int.le_total 0 a with h | h
 ·exact Int.mul_nonneg h h
 ·exact Int.mul_nonneg_of_nonpos_of_nonpos h h
theorem Da {a : Int} (h : a * a ≤ 0) : a = 0 := by
 have := sq_nonneg a
 have e : a * a = 0 := by omega
 rcases Int.mul_eq_zero.1 e with h | h <;> exact h
theorem AM {v : Pt} (h : ae v v ≤ 0) : v = (0, 0, 0) := by
 obtain ⟨x, y, z⟩ := v
 simp only [ae] at h
 have hx := sq_nonneg x
 have hy := sq_nonneg y
 have hz := sq_nonneg z
 rw [Da (a := x) (by omega), Da (a := y) (by omega), Da (a := z) (by omega)]
theorem qy (v : Pt) : 0 ≤ ae v v := by
 have hx := sq_nonneg v.1
 have hy := sq_nonneg v.2.1
 have hz := sq_nonneg v.2.2
 simp only [ae]
 omega
theorem TZ {a b c x y z d e : Int} (h1 : e * a = d * x) (h2 : e * b = d * y) (h3 : e * c = d * z) : (a * a + b * b + c * c) * (e * e) = (x * x + y * y + z * z) * (d * d) := by
 have l : (a * a + b * b + c * c) * (e * e) = (e * a) * (e * a) + (e * b) * (e * b) + (e * c) * (e * c) := by grind
 rw [l, h1, h2, h3]
 grind
structure Nst (T : List Pt) (w : List Int) (N : Pt) (d s : Int) : Prop where
 len : w.length = T.length
 sum : N = bB w T
 div : co w = d
 pos : ∀ x ∈ w, 0 < x
 Au : 0 < d
 lev : ∀ p ∈ T, ae p N = s
theorem Nst.sq {T : List Pt} {w : List Int} {N : Pt} {d s : Int} (h : Nst T w N d s) : ae N N = d * s := by
 have := Ax N s w T h.len h.lev
 rw [← h.sum, h.div] at this
 exact this
theorem Nf {T T' : List Pt} {w w' : List Int} {N N' k : Pt} {d s d' s' : Int} (h : Nst T w N d s) (h' : Nst T' w' N' d' s') (hT : ∀ p ∈ T, s' ≤ ae p N') (hk : s' ≤ ae k N') (hp : ae k N < s) :
  ae N' N' * (d * d) < ae N N * (d' * d') := by
 have h1 := rU N' s' w T h.len (fun x hx => Int.le_of_lt (h.pos x hx)) hT
 rw [← h.sum, h.div] at h1
 have q := h.sq
 have q' := h'.sq
 have dp := h.Au
 have dp' := h'.Au
 rcases Int.lt_or_le (ae N' N' * (d * d)) (ae N N * (d' * d')) with g | g
 ·exact g
 exfalso
 have hdd : 0 < d * d' := Int.mul_pos dp dp'
 have e1 := UU h1 (Int.le_of_lt hdd)
 have V : ae (d' * N.1 - d * N'.1, d' * N.2.1 - d * N'.2.1, d' * N.2.2 - d * N'.2.2) (d' * N.1 - d * N'.1, d' * N.2.1 - d * N'.2.1, d' * N.2.2 - d * N'.2.2) =
   ae N N * (d' * d') - 2 * ((d * d') * ae N N') + ae N' N' * (d * d) := by simp only [ae]; grind
 have e2 : ae N' N' * (d * d) = (d * d') * (d * s') := by rw [q']; grind
 have z := AM (v := (d' * N.1 - d * N'.1, d' * N.2.1 - d * N'.2.1, d' * N.2.2 - d * N'.2.2)) (by rw [V]; omega)
 simp only [UD] at z
 obtain ⟨z1, z2, z3⟩ := z
 have ek : d' * ae k N = d * ae k N' := by simp only [ae]; grind
 have es : ae N N * (d' * d') = ae N' N' * (d * d) := by
  have a1 : d' * N.1 = d * N'.1 := by omega
  have a2 : d' * N.2.1 = d * N'.2.1 := by omega
  have a3 : d' * N.2.2 = d * N'.2.2 := by omega
  exact TZ a1 a2 a3
 have ess : d' * s = d * s' := by
  rw [q, q'] at es
  have : (d * d') * (d' * s) = (d * d') * (d * s') := by grind
  exact Int.eq_of_mul_eq_mul_left (by omega) this
 have c1 := Int.mul_lt_mul_of_pos_left hp dp'
 have c2 := UU hk (Int.le_of_lt dp)
 omega
def ind : List Pt → Prop
 | [_] => True
 | [p, q] => aB q p ≠ (0, 0, 0)
 | [p, q, r] => crs (aB q p) (aB r p) ≠ (0, 0, 0)
 | [p, q, r, s] => c9 (aB q p) (aB r p) (aB s p) ≠ 0
 | _ => False
theorem C6 : ∀ {l : List Pt}, ind l → 1 ≤ l.length ∧ l.length ≤ 4
 | [_], _ => by simp
 | [_, _], _ => by simp
 | [_, _, _], _ => by simp
 | [_, _, _, _], _ => by simp
 | [], h => h.elim
 | _ :: _ :: _ :: _ :: _ :: _, h => h.elim
theorem Mg {v : Pt} (h : v ≠ (0, 0, 0)) : 0 < ae v v := by
 rcases Int.lt_or_le 0 (ae v v) with g | g
 ·exact g
 ·exact absurd (AM g) h
theorem Qa (e f : Pt) : ae e e * ae f f - ae e f * ae f e = ae (crs e f) (crs e f) := by
 simp only [ae, crs]; grind
theorem T0 (e f g : Pt) : m3 (ae e e) (ae e f) (ae e g) (ae f e) (ae f f) (ae f g) (ae g e) (ae g f) (ae g g) = c9 e f g * c9 e f g := by
 simp only [ae, crs, m3, c9]; grind
theorem oR : ∀ {l : List Pt}, ind l → 0 < (wts l).2
 | [_], _ => by simp [wts]
 | [p, q], h => by simpa only [wts, wt1] using Mg h
 | [p, q, r], h => by simp only [wts, wt2, Qa]; exact Mg h
 | [p, q, r, s], h => by
  simp only [wts, wt3, T0]
  have := sq_nonneg (c9 (aB q p) (aB r p) (aB s p))
  rcases Int.lt_or_le 0 (c9 (aB q p) (aB r p) (aB s p) * c9 (aB q p) (aB r p) (aB s p)) with g | g
  ·exact g
  ·exact absurd (Da g) h
 | [], h => h.elim
 | _ :: _ :: _ :: _ :: _ :: _, h => h.elim
theorem Nst.of {l : List Pt} (h : ind l) (hw : ∀ x ∈ (wts l).1, 0 < x) : Nst l (wts l).1 (bp l) (wts l).2 (ae (l.headD (0, 0, 0)) (bp l)) := by
 obtain ⟨h1, h2⟩ := C6 h
 obtain ⟨a, b⟩ := Fp l h1 h2
 exact ⟨b, rfl, a, hw, oR h, wR l h1 h2⟩
theorem C7 : ∀ {l t : List Pt}, ind l → t.Sublist l → t ≠ [] → ind t := by
 have s0 : ∀ p : Pt, crs (0, 0, 0) p = (0, 0, 0) ∧ crs p (0, 0, 0) = (0, 0, 0) := by intro p; simp [crs]
 have e2 : ∀ {p q : Pt}, aB q p ≠ (0, 0, 0) → True := fun _ => trivial
 have a3 : ∀ {p q r : Pt}, ind [p, q, r] → ind [p, q] ∧ ind [p, r] ∧ ind [q, r] := by
  intro p q r h
  refine ⟨fun e => h ?_, fun e => h ?_, fun e => h ?_⟩
  ·rw [e]; exact (s0 _).1
  ·rw [e]; exact (s0 _).2
  ·simp only [aB, crs, UD] at e ⊢; grind
 have a4 : ∀ {p q r s : Pt}, ind [p, q, r, s] → ind [p, q, r] ∧ ind [p, q, s] ∧ ind [p, r, s] ∧ ind [q, r, s] := by
  intro p q r s h
  refine ⟨fun e => h ?_, fun e => h ?_, fun e => h ?_, fun e => h ?_⟩
  ·have : c9 (aB q p) (aB r p) (aB s p) = ae (crs (aB q p) (aB r p)) (aB s p) := by simp only [c9, ae, crs]; grind
   rw [this, e]; simp [ae]
  ·have : c9 (aB q p) (aB r p) (aB s p) = -ae (crs (aB q p) (aB s p)) (aB r p) := by simp only [c9, ae, crs]; grind
   rw [this, e]; simp [ae]
  ·have : c9 (aB q p) (aB r p) (aB s p) = ae (crs (aB r p) (aB s p)) (aB q p) := rfl
   rw [this, e]; simp [ae]
  ·have : c9 (aB q p) (aB r p) (aB s p) = ae (crs (aB r q) (aB s q)) (aB q p) := by simp only [c9, ae, crs, aB]; grind
   rw [this, e]; simp [ae]
 have c2 : ∀ {p q : Pt} {t : List Pt}, ind [p, q] → t.Sublist [p, q] → t ≠ [] → ind t := by
  intro p q t h ht hn
  cases ht with
  | cons _ ht => cases ht with
   | cons _ ht => cases ht; exact absurd rfl hn
   | cons_cons _ ht => cases ht; trivial
  | cons_cons _ ht => cases ht with
   | cons _ ht => cases ht; trivial
   | cons_cons _ ht => cases ht; exact h
 have c3 : ∀ {p q r : Pt} {t : List Pt}, ind [p, q, r] → t.Sublist [p, q, r] → t ≠ [] → ind t := by
  intro p q r t h ht hn
  obtain ⟨h1, h2, h3⟩ := a3 h
  cases ht with
  | cons _ ht => exact c2 h3 ht hn
  | cons_cons _ ht => cases ht with
   | cons _ ht => exact c2 h2 (List.Sublist.cons_cons _ ht) hn
   | cons_cons _ ht => cases ht with
    | cons _ ht => cases ht; exact h1
    | cons_cons _ ht => cases ht; exact h
 intro l t h ht hn
 match l, h with
 | [p], _ =>
  cases ht with
  | cons _ ht => cases ht; exact absurd rfl hn
  | cons_cons _ ht => cases ht; trivial
 | [p, q], h => exact c2 h ht hn
 | [p, q, r], h => exact c3 h ht hn
 | [p, q, r, s], h =>
  obtain ⟨h1, h2, h3, h4⟩ := a4 h
  cases ht with
  | cons _ ht => exact c3 h4 ht hn
  | cons_cons _ ht => cases ht with
   | cons _ ht => exact c3 h3 (List.Sublist.cons_cons _ ht) hn
   | cons_cons _ ht => cases ht with
    | cons _ ht => exact c3 h2 (List.Sublist.cons_cons _ (List.Sublist.cons_cons _ ht)) hn
    | cons_cons _ ht => cases ht with
     | cons _ ht => cases ht; exact h1
     | cons_cons _ ht => cases ht; exact h
def val (T : List Pt) : Prop := ind T ∧ ∀ x ∈ (wts T).1, 0 < x
theorem R5 {S : List Pt} {N Z : Pt} {d s C : Int} (hd : 0 < d) (hN : ae N N = d * s) (hZ : ae Z N = C * s) : ae N N * (C * C) ≤ ae Z Z * (d * d) := by
 have V := qy (d * Z.1 - C * N.1, d * Z.2.1 - C * N.2.1, d * Z.2.2 - C * N.2.2)
 have e : ae (d * Z.1 - C * N.1, d * Z.2.1 - C * N.2.1, d * Z.2.2 - C * N.2.2) (d * Z.1 - C * N.1, d * Z.2.1 - C * N.2.1, d * Z.2.2 - C * N.2.2) = ae Z Z * (d * d) - 2 * ((d * C) * ae Z N) + ae N N * (C * C) := by
  simp only [ae]; grind
 rw [e, hZ, hN] at V
 have e2 : d * s * (C * C) = (d * C) * (C * s) := by grind
 rw [hN]
 omega
theorem QX : ∀ (l : List (Int × Int)), l ≠ [] → (∀ x ∈ l, 0 < x.2) → ∃ y ∈ l, ∀ x ∈ l, y.1 * x.2 ≤ x.1 * y.2
 | [], h, _ => absurd rfl h
 | [a], _, _ => ⟨a, by simp, fun x hx => by simp at hx; subst hx; exact Int.le_refl _⟩
 | a :: b :: l, _, hp => by
  obtain ⟨y, hy, h⟩ := QX (b :: l) (by simp) fun x hx => hp x (by simp [hx])
  have hy2 := hp y (by simp [hy])
  have ha2 := hp a (by simp)
  rcases Int.le_total (y.1 * a.2) (a.1 * y.2) with g | g
  ·refine ⟨y, by simp [hy], fun x hx => ?_⟩
   rcases List.mem_cons.1 hx with rfl | hx
   ·exact g
   ·exact h x hx
  ·refine ⟨a, by simp, fun x hx => ?_⟩
   rcases List.mem_cons.1 hx with rfl | hx
   ·exact Int.le_refl _
   ·have hx2 := hp x (by simp [hx])
    have h1 := UT (h x hx) (Int.le_of_lt ha2)
    have h2 := UT g (Int.le_of_lt hx2)
    have h3 : (a.1 * x.2) * y.2 ≤ (x.1 * a.2) * y.2 := by
     have e1 : a.1 * y.2 * x.2 = (a.1 * x.2) * y.2 := by grind
     have e2 : x.1 * y.2 * a.2 = (x.1 * a.2) * y.2 := by grind
     have e3 : y.1 * x.2 * a.2 = y.1 * a.2 * x.2 := by grind
     omega
    exact Int.le_of_mul_le_mul_right h3 hy2
def mvd (c0 w0 : Int) : List Int → List Int → List Int
 | w :: ws, c :: cs => (c0 * w - w0 * c) :: mvd c0 w0 ws cs
 | _, _ => []
theorem Mh (c0 w0 : Int) : ∀ w c, w.length = c.length → (mvd c0 w0 w c).length = c.length
 | [], [], _ => rfl
 | _ :: w, _ :: c, h => by simpa [mvd] using Mh c0 w0 w c (by simpa using h)
 | [], _ :: _, h => by simp at h
 | _ :: _, [], h => by simp at h
theorem Mi (c0 w0 : Int) : ∀ w c, w.length = c.length → co (mvd c0 w0 w c) = c0 * co w - w0 * co c
 | [], [], _ => by simp [mvd, co]
 | _ :: w, _ :: c, h => by
  have := Mi c0 w0 w c (by simpa using h)
  simp only [mvd, co, this]; grind
 | [], _ :: _, h => by simp at h
 | _ :: _, [], h => by simp at h
theorem K2 (c0 w0 : Int) : ∀ w c S, w.length = S.length → c.length = S.length → bB (mvd c0 w0 w c) S = (c0 * (bB w S).1 - w0 * (bB c S).1, c0 * (bB w S).2.1 - w0 * (bB c S).2.1, c0 * (bB w S).2.2 - w0 * (bB c S).2.2)
 | [], [], [], _, _ => by simp [mvd, bB]
 | _ :: w, _ :: c, p :: S, h, h' => by
  have := K2 c0 w0 w c S (by simpa using h) (by simpa using h')
  simp only [mvd, bB, this, UD]; grind
 | [], _, _ :: _, h, _ => by simp at h
 | _ :: _, _, [], h, _ => by simp at h
 | _ :: _, [], _ :: _, _, h => by simp at h
 | [], _ :: _, [], _, h => by simp at h
theorem Mj (c0 w0 : Int) : ∀ w c x, x ∈ mvd c0 w0 w c → ∃ p ∈ w.zip c, x = c0 * p.1 - w0 * p.2
 | [], _, x, h => by simp [mvd] at h
 | _ :: _, [], x, h => by simp [mvd] at h
 | a :: w, b :: c, x, h => by
  simp only [mvd, List.mem_cons] at h
  rcases h with rfl | h
  ·exact ⟨(a, b), by simp, rfl⟩
  ·obtain ⟨p, h1, h2⟩ := Mj c0 w0 w c x h
   exact ⟨p, by simp [h1], h2⟩
theorem Mk (c0 w0 : Int) : ∀ w c p, p ∈ w.zip c → c0 * p.1 - w0 * p.2 ∈ mvd c0 w0 w c
 | [], _, x, h => by simp at h
 | _ :: _, [], x, h => by simp at h
 | a :: w, b :: c, x, h => by
  simp only [List.zip_cons_cons, List.mem_cons] at h
  simp only [mvd, List.mem_cons]
  rcases h with rfl | h
  ·exact .inl rfl
  ·exact .inr (Mk c0 w0 w c x h)
theorem K3 : ∀ (c : List Int) (S : List Pt), c.length = S.length → (∀ x ∈ c, 0 ≤ x) → ∃ S' c', S'.Sublist S ∧ c'.length = S'.length ∧ (∀ x ∈ c', 0 < x) ∧ bB c' S' = bB c S ∧ co c' = co c ∧ ((0 : Int) ∈ c → S'.length < S.length)
 | [], [], _, _ => ⟨[], [], List.Sublist.refl _, rfl, by simp, rfl, rfl, by simp⟩
 | a :: c, p :: S, h, hp => by
  obtain ⟨S', c', h1, h2, h3, h4, h5, h6⟩ := K3 c S (by simpa using h) fun x hx => hp x (by simp [hx])
  have ha := hp a (by simp)
  rcases Int.lt_or_le 0 a with g | g
  ·refine ⟨p :: S', a :: c', List.Sublist.cons_cons _ h1, by simp [h2], fun x hx => ?_, by simp [bB, h4], by simp [co, h5], fun hz => ?_⟩
   ·rcases List.mem_cons.1 hx with rfl | hx
    ·exact g
    ·exact h3 x hx
   ·rcases List.mem_cons.1 hz with e | hz
    ·omega
    ·have := h6 hz; simp; omega
  ·obtain rfl : a = 0 := by omega
   refine ⟨S', c', List.Sublist.cons _ h1, h2, h3, by simp [bB, h4], by simp [co, h5], fun _ => ?_⟩
   have := h1.length_le
   simp; omega
 | [], _ :: _, h, _ => by simp at h
 | _ :: _, [], h, _ => by simp at h
theorem K4 : ∀ (c : List Int), c ≠ [] → (∀ x ∈ c, 0 < x) → 0 < co c
 | [], h, _ => absurd rfl h
 | [a], _, h => by have := h a (by simp); simp [co]; omega
 | a :: b :: c, _, h => by
  have := K4 (b :: c) (by simp) fun x hx => h x (by simp [hx])
  have := h a (by simp)
  simp only [co] at *; omega
theorem LH : ∀ (n : Nat) (S : List Pt) (c : List Int), S.length = n → ind S → c.length = S.length → (∀ x ∈ c, 0 < x) →
  ∃ T, T.Sublist S ∧ val T ∧ ae (bp T) (bp T) * (co c * co c) ≤ ae (bB c S) (bB c S) * ((wts T).2 * (wts T).2) := by
 intro n
 induction n using Nat.strongRecOn with
 | _ n ih =>
  intro S c hn hi hc hp
  obtain ⟨l1, l2⟩ := C6 hi
  obtain ⟨q1, q2⟩ := Fp S l1 l2
  have hd := oR hi
  have lev := wR S l1 l2
  have hN : ae (bp S) (bp S) = (wts S).2 * ae (S.headD (0, 0, 0)) (bp S) := by
   have := Ax (bp S) _ (wts S).1 S q2 lev
   rw [q1] at this
   exact this
  have hZ : ae (bB c S) (bp S) = co c * ae (S.headD (0, 0, 0)) (bp S) := Ax _ _ c S hc lev
  have base := R5 (S := S) hd hN hZ
  by_cases hall : ∀ x ∈ (wts S).1, 0 < x
  ·exact ⟨S, List.Sublist.refl _, ⟨hi, hall⟩, base⟩
  ·have hcne : c ≠ [] := by intro e; rw [e] at hc; simp at hc; omega
   have hlw : (wts S).1.length = c.length := by rw [q2, hc]
   have hzne : (wts S).1.zip c ≠ [] := by
    intro e
    have := congrArg List.length e
    simp only [List.length_zip, List.length_nil] at this
    have : c.length ≠ 0 := fun e => hcne (List.length_eq_zero_iff.1 e)
    omega
   obtain ⟨y, hy, hyw⟩ := QX _ hzne fun x hx => hp _ (List.of_mem_zip hx).2
   have hy2 : 0 < y.2 := hp _ (List.of_mem_zip hy).2
   have hy1 : y.1 ≤ 0 := by
    have : ∃ x ∈ (wts S).1, x ≤ 0 := by
     by_cases hx : ∃ x ∈ (wts S).1, x ≤ 0
     ·exact hx
     ·exact absurd (fun x hm => by
       rcases Int.lt_or_le 0 x with g | g
       ·exact g
       ·exact absurd ⟨x, hm, g⟩ hx) hall
    obtain ⟨x, hx, hx0⟩ := this
    obtain ⟨i, hil, hxi⟩ := List.getElem_of_mem hx
    have hz : (x, c[i]'(by omega)) ∈ (wts S).1.zip c := by
     rw [List.mem_iff_getElem]
     exact ⟨i, by rw [List.length_zip]; omega, by rw [List.getElem_zip, hxi]⟩
    have h1 := hyw _ hz
    have h2 := hp _ (List.of_mem_zip hz).2
    simp only at h1 h2
    have h3 : x * y.2 ≤ 0 := Int.mul_nonpos_of_nonpos_of_nonneg hx0 (Int.le_of_lt hy2)
    rcases Int.lt_or_le 0 y.1 with g | g
    ·have := Int.mul_pos g h2; omega
    ·exact g
   have hpos : ∀ x ∈ mvd y.2 y.1 (wts S).1 c, 0 ≤ x := by
    intro x hx
    obtain ⟨p, p1, rfl⟩ := Mj _ _ _ _ _ hx
    have := hyw p p1
    have e : y.2 * p.1 = p.1 * y.2 := Int.mul_comm _ _
    omega
   have hzero : (0 : Int) ∈ mvd y.2 y.1 (wts S).1 c := by
    have := Mk y.2 y.1 _ _ _ hy
    have e : y.2 * y.1 - y.1 * y.2 = 0 := by rw [Int.mul_comm]; omega
    rwa [e] at this
   obtain ⟨S', c', h1, h2, h3, h4, h5, h6⟩ := K3 (mvd y.2 y.1 (wts S).1 c) S (by rw [Mh _ _ _ _ hlw, hc]) hpos
   rw [K2 _ _ _ _ _ q2 hc] at h4
   rw [Mi _ _ _ _ hlw, q1] at h5
   have hC := K4 c hcne hp
   have hC' : 0 < co c' := by
    rw [h5]
    have a1 := Int.mul_pos hy2 hd
    have a2 : y.1 * co c ≤ 0 := Int.mul_nonpos_of_nonpos_of_nonneg hy1 (Int.le_of_lt hC)
    omega
   have hne : S' ≠ [] := by
    intro e
    rw [e] at h2
    have : c' = [] := List.length_eq_zero_iff.1 (by simpa using h2)
    rw [this] at hC'
    simp [co] at hC'
   obtain ⟨T, t1, t2, t3⟩ := ih S'.length (by rw [← hn]; exact h6 hzero) S' c' rfl (C7 hi h1 hne) h2 h3
   refine ⟨T, t1.trans h1, t2, ?_⟩
   have hT := oR t2.1
   rw [h4] at t3
   generalize hs : ae (S.headD (0, 0, 0)) (bp S) = s at hN hZ
   have hNS : bB (wts S).1 S = bp S := rfl
   rw [hNS] at t3
   generalize hZZ : bB c S = Z at *
   generalize hNN : bp S = N at *
   generalize (wts S).2 = d at *
   generalize co c = C at *
   generalize co c' = C' at *
   generalize bp T = M at *
   generalize (wts T).2 = f at *
   obtain ⟨w0, c0⟩ := y
   simp only at *
   have e1 : ae (c0 * N.1 - w0 * Z.1, c0 * N.2.1 - w0 * Z.2.1, c0 * N.2.2 - w0 * Z.2.2) (c0 * N.1 - w0 * Z.1, c0 * N.2.1 - w0 * Z.2.1, c0 * N.2.2 - w0 * Z.2.2) = c0 * c0 * ae N N - 2 * (c0 * w0 * ae Z N) + w0 * w0 * ae Z Z := by
    simp only [ae]; grind
   rw [e1, hN, hZ] at t3
   have key : (c0 * c0 * (d * s) - 2 * (c0 * w0 * (C * s)) + w0 * w0 * ae Z Z) * (C * C) ≤ ae Z Z * (C' * C') := by
    have b2 : 0 ≤ d * ae Z Z - C * C * s := by
     rw [hN] at base
     have : d * (C * C * s) ≤ d * (d * ae Z Z) := by
      have e1 : d * s * (C * C) = d * (C * C * s) := by grind
      have e2 : ae Z Z * (d * d) = d * (d * ae Z Z) := by grind
      omega
     have := Int.le_of_mul_le_mul_left this hd
     omega
    have b3 : 0 ≤ c0 * c0 * d - 2 * (c0 * w0 * C) := by
     have a1 := Int.mul_pos (Int.mul_pos hy2 hy2) hd
     have a2 : c0 * w0 * C ≤ 0 := Int.mul_nonpos_of_nonpos_of_nonneg (Int.mul_nonpos_of_nonneg_of_nonpos (Int.le_of_lt hy2) hy1) (Int.le_of_lt hC)
     omega
    have b4 := Int.mul_nonneg b3 b2
    have b5 : ae Z Z * (C' * C') - (c0 * c0 * (d * s) - 2 * (c0 * w0 * (C * s)) + w0 * w0 * ae Z Z) * (C * C) = (c0 * c0 * d - 2 * (c0 * w0 * C)) * (d * ae Z Z - C * C * s) := by
     rw [h5]; grind
    omega
   have ff : 0 ≤ f * f := sq_nonneg f
   have cc : 0 ≤ C * C := sq_nonneg C
   have k1 := UT t3 cc
   have k2 := UT key ff
   have k3 : ae M M * (C * C) * (C' * C') ≤ ae Z Z * (f * f) * (C' * C') := by
    have e1 : ae M M * (C' * C') * (C * C) = ae M M * (C * C) * (C' * C') := by grind
    have e2 : ae Z Z * (C' * C') * (f * f) = ae Z Z * (f * f) * (C' * C') := by grind
    have e3 : ∀ u : Int, u * (f * f) * (C * C) = u * (C * C) * (f * f) := by intro u; grind
    rw [e1, e3] at k1
    rw [e2] at k2
    omega
   exact Int.le_of_mul_le_mul_right k3 (Int.mul_pos hC' hC')
theorem KX {T : List Pt} {N p : Pt} {s : Int} (hT : ind T) (lev : ∀ q ∈ T, ae q N = s) (hp : ae p N ≠ s) : ind (p :: T) := by
 match T, hT with
 | [q], _ =>
  intro e
  have h1 := lev q (by simp)
  simp only [aB, UD] at e
  apply hp
  rw [← h1]
  simp only [ae]
  rw [show p.1 = q.1 by omega, show p.2.1 = q.2.1 by omega, show p.2.2 = q.2.2 by omega]
 | [q, r], h =>
  intro e
  have h1 := lev q (by simp)
  have h2 := lev r (by simp)
  apply h
  have ht : s - ae p N ≠ 0 := by omega
  have k : ∀ a b : Int, (s - ae p N) * (a - b) = 0 → a - b = 0 := fun a b hh => (Int.mul_eq_zero.1 hh).resolve_left ht
  simp only [crs, aB, UD] at e ⊢
  obtain ⟨e1, e2, e3⟩ := e
  simp only [ae] at h1 h2 k
  refine ⟨k _ _ ?_, k _ _ ?_, k _ _ ?_⟩ <;> grind
 | [q, r, w], h =>
  intro e
  have h1 := lev q (by simp)
  have h2 := lev r (by simp)
  have h3 := lev w (by simp)
  apply h
  have ht : s - ae p N ≠ 0 := by omega
  have k : ∀ a : Int, (s - ae p N) * a = 0 → a = 0 := fun a hh => (Int.mul_eq_zero.1 hh).resolve_left ht
  have key : ∀ u v x : Pt, ae u N = s - ae p N → ae v N = s - ae p N → ae x N = s - ae p N → c9 u v x = 0 →
    crs (aB v u) (aB x u) = (0, 0, 0) := by
   intro u v x hu hv hx hd
   simp only [crs, aB, UD]
   refine ⟨k _ ?_, k _ ?_, k _ ?_⟩
   ·have : (s - ae p N) * ((v.2.1 - u.2.1) * (x.2.2 - u.2.2) - (v.2.2 - u.2.2) * (x.2.1 - u.2.1)) =
     ae u N * (v.2.1 * x.2.2 - v.2.2 * x.2.1) + ae v N * (x.2.1 * u.2.2 - x.2.2 * u.2.1) + ae x N * (u.2.1 * v.2.2 - u.2.2 * v.2.1) := by rw [hu, hv, hx]; grind
    rw [this]
    have : ae u N * (v.2.1 * x.2.2 - v.2.2 * x.2.1) + ae v N * (x.2.1 * u.2.2 - x.2.2 * u.2.1) + ae x N * (u.2.1 * v.2.2 - u.2.2 * v.2.1) = c9 u v x * N.1 := by
     simp only [c9, ae, crs]; grind
    rw [this, hd, Int.zero_mul]
   ·have : (s - ae p N) * ((v.2.2 - u.2.2) * (x.1 - u.1) - (v.1 - u.1) * (x.2.2 - u.2.2)) =
     ae u N * (v.2.2 * x.1 - v.1 * x.2.2) + ae v N * (x.2.2 * u.1 - x.1 * u.2.2) + ae x N * (u.2.2 * v.1 - u.1 * v.2.2) := by rw [hu, hv, hx]; grind
    rw [this]
    have : ae u N * (v.2.2 * x.1 - v.1 * x.2.2) + ae v N * (x.2.2 * u.1 - x.1 * u.2.2) + ae x N * (u.2.2 * v.1 - u.1 * v.2.2) = c9 u v x * N.2.1 := by
     simp only [c9, ae, crs]; grind
    rw [this, hd, Int.zero_mul]
   ·have : (s - ae p N) * ((v.1 - u.1) * (x.2.1 - u.2.1) - (v.2.1 - u.2.1) * (x.1 - u.1)) =
     ae u N * (v.1 * x.2.1 - v.2.1 * x.1) + ae v N * (x.1 * u.2.1 - x.2.1 * u.1) + ae x N * (u.1 * v.2.1 - u.2.1 * v.1) := by rw [hu, hv, hx]; grind
    rw [this]
    have : ae u N * (v.1 * x.2.1 - v.2.1 * x.1) + ae v N * (x.1 * u.2.1 - x.2.1 * u.1) + ae x N * (u.1 * v.2.1 - u.2.1 * v.1) = c9 u v x * N.2.2 := by
     simp only [c9, ae, crs]; grind
    rw [this, hd, Int.zero_mul]
  have r := key (aB q p) (aB r p) (aB w p) (by rw [jy, h1]) (by rw [jy, h2]) (by rw [jy, h3]) e
  simp only [crs, aB, UD] at r ⊢
  grind
 | [q, r, w, z], h =>
  exfalso
  have h1 := lev q (by simp)
  have h2 := lev r (by simp)
  have h3 := lev w (by simp)
  have h4 := lev z (by simp)
  have k : ∀ a : Int, c9 (aB r q) (aB w q) (aB z q) * a = 0 → a = 0 := fun a hh => (Int.mul_eq_zero.1 hh).resolve_left h
  have g1 : ae (aB r q) N = 0 := by rw [jy]; omega
  have g2 : ae (aB w q) N = 0 := by rw [jy]; omega
  have g3 : ae (aB z q) N = 0 := by rw [jy]; omega
  have key : ∀ u v x : Pt, ae u N = 0 → ae v N = 0 → ae x N = 0 → c9 u v x * N.1 = 0 ∧ c9 u v x * N.2.1 = 0 ∧ c9 u v x * N.2.2 = 0 := by
   intro u v x hu hv hx
   have e1 : c9 u v x * N.1 = ae u N * (v.2.1 * x.2.2 - v.2.2 * x.2.1) + ae v N * (x.2.1 * u.2.2 - x.2.2 * u.2.1) + ae x N * (u.2.1 * v.2.2 - u.2.2 * v.2.1) := by simp only [c9, ae, crs]; grind
   have e2 : c9 u v x * N.2.1 = ae u N * (v.2.2 * x.1 - v.1 * x.2.2) + ae v N * (x.2.2 * u.1 - x.1 * u.2.2) + ae x N * (u.2.2 * v.1 - u.1 * v.2.2) := by simp only [c9, ae, crs]; grind
   have e3 : c9 u v x * N.2.2 = ae u N * (v.1 * x.2.1 - v.2.1 * x.1) + ae v N * (x.1 * u.2.1 - x.2.1 * u.1) + ae x N * (u.1 * v.2.1 - u.2.1 * v.1) := by simp only [c9, ae, crs]; grind
   rw [e1, e2, e3, hu, hv, hx]
   simp
  obtain ⟨r1, r2, r3⟩ := key _ _ _ g1 g2 g3
  have n1 := k _ r1
  have n2 := k _ r2
  have n3 := k _ r3
  apply hp
  rw [← h1]
  simp only [ae, n1, n2, n3, Int.mul_zero, Int.add_zero]
theorem R6 : ∀ {A B : List Pt} {p : Pt}, ind (p :: (A ++ B)) → ind (A ++ p :: B)
 | [], B, p, h => h
 | [a], [], p, h => by
  intro e; apply h; simp only [aB, UD] at e ⊢; omega
 | [a], [b], p, h => by
  intro e; apply h; simp only [crs, aB, UD] at e ⊢; grind
 | [a], [b, c], p, h => by
  intro e; apply h; simp only [c9, ae, crs, aB] at e ⊢; grind
 | [a], b :: c :: d :: B, p, h => h.elim
 | [a, b], [], p, h => by
  intro e; apply h; simp only [crs, aB, UD] at e ⊢; grind
 | [a, b], [c], p, h => by
  intro e; apply h; simp only [c9, ae, crs, aB] at e ⊢; grind
 | [a, b], c :: d :: B, p, h => h.elim
 | [a, b, c], [], p, h => by
  intro e; apply h; simp only [c9, ae, crs, aB] at e ⊢; grind
 | [a, b, c], d :: B, p, h => h.elim
 | a :: b :: c :: d :: A, B, p, h => h.elim
theorem Nj {α : Type} {p : α} : ∀ {T l : List α}, T.Sublist l → p ∈ l → p ∉ T → ∃ A B, T = A ++ B ∧ (A ++ p :: B).Sublist l := by
 intro T l h
 induction h with
 | slnil => intro h; cases h
 | @cons T l a h ih =>
  intro hp hn
  rcases List.mem_cons.1 hp with rfl | hp
  ·exact ⟨[], T, rfl, List.Sublist.cons_cons _ h⟩
  ·obtain ⟨A, B, rfl, h2⟩ := ih hp hn
   exact ⟨A, B, rfl, List.Sublist.cons _ h2⟩
 | @cons_cons T l a h ih =>
  intro hp hn
  simp only [List.mem_cons, not_or] at hn
  rcases List.mem_cons.1 hp with rfl | hp
  ·exact absurd rfl hn.1
  ·obtain ⟨A, B, rfl, h2⟩ := ih hp hn.2
   exact ⟨a :: A, B, rfl, List.Sublist.cons_cons _ h2⟩
def oy {α : Type} : List α → List (List α)
 | [] => [[]]
 | a :: l => oy l ++ (oy l).map (a :: ·)
theorem Fq {α : Type} : ∀ {l T : List α}, T.Sublist l → T ∈ oy l := by
 intro l T h
 induction h with
 | slnil => simp [oy]
 | cons a h ih => simp [oy, ih]
 | cons_cons a h ih => simp [oy, ih]
theorem Ib {α : Type} : ∀ {l T : List α}, T ∈ oy l → T.Sublist l
 | [], T, h => by simp [oy] at h; subst h; exact List.Sublist.refl _
 | a :: l, T, h => by
  simp only [oy, U1, List.mem_map] at h
  rcases h with h | ⟨U, h, rfl⟩
  ·exact List.Sublist.cons _ (Ib h)
  ·exact List.Sublist.cons_cons _ (Ib h)
theorem ON {α : Type} (V : α → Prop) (q d : α → Int) (hd : ∀ x, V x → 0 < d x) : ∀ (L : List α), (∃ x ∈ L, V x) → ∃ x ∈ L, V x ∧ ∀ y ∈ L, V y → q x * d y ≤ q y * d x
 | [], h => by obtain ⟨x, h, _⟩ := h; cases h
 | a :: L, h => by
  by_cases hL : ∃ x ∈ L, V x
  ·obtain ⟨x, h1, h2, h3⟩ := ON V q d hd L hL
   by_cases ha : V a
   ·rcases Int.le_total (q x * d a) (q a * d x) with g | g
    ·refine ⟨x, by simp [h1], h2, fun y hy hv => ?_⟩
     rcases List.mem_cons.1 hy with rfl | hy
     ·exact g
     ·exact h3 y hy hv
    ·refine ⟨a, by simp, ha, fun y hy hv => ?_⟩
     rcases List.mem_cons.1 hy with rfl | hy
     ·exact Int.le_refl _
     ·have k1 := UT (h3 y hy hv) (Int.le_of_lt (hd a ha))
      have k2 := UT g (Int.le_of_lt (hd y hv))
      have e1 : q a * d x * d y = (q a * d y) * d x := by grind
      have e2 : q x * d a * d y = q x * d y * d a := by grind
      have e3 : q y * d x * d a = (q y * d a) * d x := by grind
      exact Int.le_of_mul_le_mul_right (by omega) (hd x h2)
   ·refine ⟨x, by simp [h1], h2, fun y hy hv => ?_⟩
    rcases List.mem_cons.1 hy with rfl | hy
    ·exact absurd hv ha
    ·exact h3 y hy hv
  ·obtain ⟨x, hx, hv⟩ := h
   rcases List.mem_cons.1 hx with rfl | hx
   ·refine ⟨x, by simp, hv, fun y hy hv' => ?_⟩
    rcases List.mem_cons.1 hy with rfl | hy
    ·exact Int.le_refl _
    ·exact absurd ⟨y, hy, hv'⟩ hL
   ·exact absurd ⟨x, hx, hv⟩ hL
theorem Fv : ∀ (c : List Int) (A : List Pt) (c' : List Int) (B : List Pt), c.length = A.length → bB (c ++ c') (A ++ B) = ((bB c A).1 + (bB c' B).1, (bB c A).2.1 + (bB c' B).2.1, (bB c A).2.2 + (bB c' B).2.2)
 | [], [], c', B, _ => by simp [bB]
 | x :: c, p :: A, c', B, h => by
  have := Fv c A c' B (by simpa using h)
  simp only [List.cons_append, bB, this, UD]; grind
 | [], _ :: _, _, _, h => by simp at h
 | _ :: _, [], _, _, h => by simp at h
theorem Fw : ∀ (c c' : List Int), co (c ++ c') = co c + co c'
 | [], c' => by simp [co]
 | x :: c, c' => by simp only [List.cons_append, co, Fw c c']; omega
theorem GX (K : Int) : ∀ (c : List Int) (A : List Pt), bB (c.map (K * ·)) A = (K * (bB c A).1, K * (bB c A).2.1, K * (bB c A).2.2)
 | [], A => by simp [bB]
 | x :: c, [] => by simp [bB]
 | x :: c, p :: A => by
  have := GX K c A
  simp only [List.map_cons, bB, this, UD]; grind
theorem GY (K : Int) : ∀ c : List Int, co (c.map (K * ·)) = K * co c
 | [] => by simp [co]
 | x :: c => by simp only [List.map_cons, co, GY K c]; grind
def rG (l T : List Pt) : Prop := ∀ p ∈ l, ae (T.headD (0, 0, 0)) (bp T) ≤ ae p (bp T)
theorem LE {l : List Pt} (hl : l ≠ []) : ∃ T, T.Sublist l ∧ val T ∧ rG l T := by
 obtain ⟨p0, hp0⟩ := List.exists_mem_of_ne_nil l hl
 obtain ⟨T, hTm, hT, hmin⟩ := ON (fun T => val T) (fun T => ae (bp T) (bp T)) (fun T => (wts T).2 * (wts T).2)
  (fun T h => Int.mul_pos (oR h.1) (oR h.1)) (oy l) ⟨[p0], Fq (List.singleton_sublist.2 hp0), trivial, by simp [wts]⟩
 have hTs := Ib hTm
 refine ⟨T, hTs, hT, fun p hp => ?_⟩
 rcases Int.lt_or_le (ae p (bp T)) (ae (T.headD (0, 0, 0)) (bp T)) with g | g
 case inr => exact g
 exfalso
 have hN := Nst.of hT.1 hT.2
 obtain ⟨l1, l2⟩ := C6 hT.1
 have lev := wR T l1 l2
 have hpn : p ∉ T := fun h => by have := lev p h; omega
 obtain ⟨A, B, rfl, hs⟩ := Nj hTs hp hpn
 have hi := R6 (KX hT.1 lev (p := p) (by omega))
 have hsq := hN.sq
 have hlen := hN.len
 have hdp := hN.Au
 have hdv := hN.div
 have hpos := hN.pos
 have hsum := hN.sum
 generalize hw : (wts (A ++ B)).1 = w at *
 generalize hd : (wts (A ++ B)).2 = d at *
 generalize hs' : ae ((A ++ B).headD (0, 0, 0)) (bp (A ++ B)) = s at *
 generalize hNN : bp (A ++ B) = N at *
 let K : Int := d * d * ae p p + (d * s) * (d * s) + 1
 have hK : 0 < K := by
  have a1 := Int.mul_nonneg (sq_nonneg d) (qy p)
  have a2 := sq_nonneg (d * s)
  show 0 < d * d * ae p p + (d * s) * (d * s) + 1
  omega
 let c : List Int := (w.take A.length).map (K * ·) ++ 1 :: (w.drop A.length).map (K * ·)
 have wl : (w.take A.length).length = A.length := by rw [List.length_take, hlen]; simp
 have wl2 : (w.drop A.length).length = B.length := by rw [List.length_drop, hlen]; simp
 have hc : c.length = (A ++ p :: B).length := by simp only [c, UQ, List.length_map, UW, wl, wl2]
 have hcp : ∀ x ∈ c, 0 < x := by
  intro x hx
  simp only [c, U1, List.mem_cons, List.mem_map] at hx
  rcases hx with ⟨y, hy, rfl⟩ | rfl | ⟨y, hy, rfl⟩
  ·exact Int.mul_pos hK (hpos y (List.mem_of_mem_take hy))
  ·decide
  ·exact Int.mul_pos hK (hpos y (List.mem_of_mem_drop hy))
 have hC : co c = K * d + 1 := by
  have e : co w = co (w.take A.length) + co (w.drop A.length) := by rw [← Fw, List.take_append_drop]
  simp only [c, Fw, co, GY]
  rw [← hdv, e]
  grind
 have hZ : bB c (A ++ p :: B) = (K * N.1 + p.1, K * N.2.1 + p.2.1, K * N.2.2 + p.2.2) := by
  have e : N = ((bB (w.take A.length) A).1 + (bB (w.drop A.length) B).1, (bB (w.take A.length) A).2.1 + (bB (w.drop A.length) B).2.1, (bB (w.take A.length) A).2.2 + (bB (w.drop A.length) B).2.2) := by
   rw [← Fv _ _ _ _ wl, List.take_append_drop]; exact hsum
  simp only [c]
  rw [Fv _ _ _ _ (by rw [List.length_map, wl])]
  simp only [bB, GX]
  rw [e]
  simp only [UD]
  grind
 obtain ⟨T', t1, t2, t3⟩ := LH _ (A ++ p :: B) c rfl hi hc hcp
 have hm := hmin T' (Fq (t1.trans hs)) t2
 have hdT := oR t2.1
 rw [hZ, hC] at t3
 generalize hM : bp T' = M at *
 generalize hf : (wts T').2 = f at *
 have zz : ae (K * N.1 + p.1, K * N.2.1 + p.2.1, K * N.2.2 + p.2.2) (K * N.1 + p.1, K * N.2.1 + p.2.1, K * N.2.2 + p.2.2) = K * K * ae N N + 2 * (K * ae p N) + ae p p := by
  simp only [ae]; grind
 rw [zz] at t3
 have lt : (K * K * ae N N + 2 * (K * ae p N) + ae p p) * (d * d) < ae N N * ((K * d + 1) * (K * d + 1)) := by
  have e : ae N N * ((K * d + 1) * (K * d + 1)) - (K * K * ae N N + 2 * (K * ae p N) + ae p p) * (d * d) = 2 * (K * (d * d * (s - ae p N))) + d * s - d * d * ae p p := by
   rw [hsq]; grind
  have b1 : K * 1 ≤ K * (d * d * (s - ae p N)) := by
   refine UU ?_ (Int.le_of_lt hK)
   have := Int.mul_pos (Int.mul_pos hdp hdp) (show 0 < s - ae p N by omega)
   omega
  have b2 : -((d * s) * (d * s)) ≤ d * s := by
   rcases Int.le_total 0 (d * s) with q | q
   ·have := sq_nonneg (d * s); omega
   ·rcases Int.lt_or_le (d * s) 0 with r | r
    ·have : -(d * s) * 1 ≤ -(d * s) * (-(d * s)) := UU (by omega) (by omega)
     have e : -(d * s) * -(d * s) = (d * s) * (d * s) := by grind
     omega
    ·have : d * s = 0 := by omega
     rw [this]; decide
  have a2 := sq_nonneg (d * s)
  have a1 := Int.mul_nonneg (sq_nonneg d) (qy p)
  have hKe : K = d * d * ae p p + (d * s) * (d * s) + 1 := rfl
  omega
 have hff := Int.mul_pos hdT hdT
 have hdd := Int.mul_pos hdp hdp
 have hCC : 0 < (K * d + 1) * (K * d + 1) := by
  have := Int.mul_pos hK hdp
  exact Int.mul_pos (by omega) (by omega)
 generalize (K * d + 1) * (K * d + 1) = CC at *
 generalize K * K * ae N N + 2 * (K * ae p N) + ae p p = ZZ at *
 generalize ae N N = NN at *
 generalize ae M M = MM at *
 have k1 := UT t3 (Int.le_of_lt hdd)
 have k2 := UT hm (Int.le_of_lt hCC)
 have k3 := Int.mul_lt_mul_of_pos_right lt hff
 have e1 : MM * CC * (d * d) = MM * (d * d) * CC := by grind
 have e2 : ZZ * (f * f) * (d * d) = ZZ * (d * d) * (f * f) := by grind
 have e3 : NN * (f * f) * CC = NN * CC * (f * f) := by grind
 omega
end Go.Ev
namespace Go.Ev
open Go.Proofs
def CL (a0 a1 a2 a3 a4 a5 a6 a7 : Int) : Option Int := af (ok8 a0 a1 a2 a3 a4 a5 a6 a7 && fh (0 - num a0 a1 a2 a3 a4 a5 a6 a7)) (some (0 - num a0 a1 a2 a3 a4 a5 a6 a7))
theorem Sn {a0 a1 a2 a3 a4 a5 a6 a7 : Int} {r} (h : CL a0 a1 a2 a3 a4 a5 a6 a7 = some r) : K9 a0 a1 a2 a3 a4 a5 a6 a7 = some (r, true) := by
 unfold CL at h
 obtain ⟨h1, h2⟩ := aH h
 rw [UC] at h1
 simp only [UB] at h2
 subst h2
 unfold K9 fV
 rw [h1.1, h1.2]
 rfl
def fR (x : Int) : Option Int := CL (aa x 0) (aa x 1) (aa x 2) (aa x 3) (aa x 4) (aa x 5) (aa x 6) (aa x 7)
theorem RS {x : Int} (hx : fit x) (h : fit (0 - x)) : fR x = some (0 - x) := by
 unfold fR CL; rw [bA, aI hx, bY.2 h]; rfl
def ya : HK where
 call := fun args σ k => match args with
  | [.agg [.int .u64 a0, .int .u64 a1, .int .u64 a2, .int .u64 a3, .int .u64 a4, .int .u64 a5, .int .u64 a6, .int .u64 a7]] => Option.bind (CL a0 a1 a2 a3 a4 a5 a6 a7) fun r => k (.ret (.tup [.agg [.int .u64 (aa r 0), .int .u64 (aa r 1), .int .u64 (aa r 2), .int .u64 (aa r 3), .int .u64 (aa r 4), .int .u64 (aa r 5), .int .u64 (aa r 6), .int .u64 (aa r 7)], .bool true])) σ
  | _ => none
 nat := fun args σ k => by
  repeat' split
  all_goals simp only [UA, Uz, Uy]
 pure := true
 pok := fun _ args σ r σ' h => by
  split at h
  ·obtain ⟨q, h1, h2⟩ := bE_ h
   simp only [UB, UD] at h2
   obtain ⟨rfl, rfl⟩ := h2
   exact ⟨rfl, ⟨_, rfl⟩, fun σ2 => by simp only [h1, Uy]⟩
  ·cases h
theorem wt : aX U2 67 ya := Qt.cO fun args σ x h => by
 simp only [ya] at h
 split at h
 ·rename_i a0 a1 a2 a3 a4 a5 a6 a7
  obtain ⟨r, h1, h2⟩ := bE_ h
  simp only [Ns, Sn h1, Uy]
  exact h2
 ·cases h
def nD (a0 a1 a2 a3 a4 a5 a6 a7 a8 a9 a10 a11 a12 a13 a14 a15 : Int) : Option Int := af (ok8 a0 a1 a2 a3 a4 a5 a6 a7 && ok8 a8 a9 a10 a11 a12 a13 a14 a15 && fh (num a0 a1 a2 a3 a4 a5 a6 a7 + num a8 a9 a10 a11 a12 a13 a14 a15)) (some (num a0 a1 a2 a3 a4 a5 a6 a7 + num a8 a9 a10 a11 a12 a13 a14 a15))
theorem So {a0 a1 a2 a3 a4 a5 a6 a7 a8 a9 a10 a11 a12 a13 a14 a15 : Int} {r} (h : nD a0 a1 a2 a3 a4 a5 a6 a7 a8 a9 a10 a11 a12 a13 a14 a15 = some r) : uW a0 a1 a2 a3 a4 a5 a6 a7 a8 a9 a10 a11 a12 a13 a14 a15 = some (r, true) := by
 unfold nD at h
 obtain ⟨h1, h2⟩ := aH h
 rw [UC] at h1
 simp only [UB] at h2
 subst h2
 unfold uW fV
 rw [h1.1, h1.2]
 rfl
def xm (x y : Int) : Option Int := nD (aa x 0) (aa x 1) (aa x 2) (aa x 3) (aa x 4) (aa x 5) (aa x 6) (aa x 7) (aa y 0) (aa y 1) (aa y 2) (aa y 3) (aa y 4) (aa y 5) (aa y 6) (aa y 7)
theorem RQ {x y : Int} (hx : fit x) (hy : fit y) (h : fit (x + y)) : xm x y = some (x + y) := by
 unfold xm nD; rw [bA, bA, aI hx, aI hy, bY.2 h]; rfl
def JK : HK where
 call := fun args σ k => match args with
  | [.agg [.int .u64 a0, .int .u64 a1, .int .u64 a2, .int .u64 a3, .int .u64 a4, .int .u64 a5, .int .u64 a6, .int .u64 a7], .agg [.int .u64 a8, .int .u64 a9, .int .u64 a10, .int .u64 a11, .int .u64 a12, .int .u64 a13, .int .u64 a14, .int .u64 a15]] => Option.bind (nD a0 a1 a2 a3 a4 a5 a6 a7 a8 a9 a10 a11 a12 a13 a14 a15) fun r => k (.ret (.tup [.agg [.int .u64 (aa r 0), .int .u64 (aa r 1), .int .u64 (aa r 2), .int .u64 (aa r 3), .int .u64 (aa r 4), .int .u64 (aa r 5), .int .u64 (aa r 6), .int .u64 (aa r 7)], .bool true])) σ
  | _ => none
 nat := fun args σ k => by
  repeat' split
  all_goals simp only [UA, Uz, Uy]
 pure := true
 pok := fun _ args σ r σ' h => by
  split at h
  ·obtain ⟨q, h1, h2⟩ := bE_ h
   simp only [UB, UD] at h2
   obtain ⟨rfl, rfl⟩ := h2
   exact ⟨rfl, ⟨_, rfl⟩, fun σ2 => by simp only [h1, Uy]⟩
  ·cases h
theorem Nv : aX U2 36 JK := JG.cO fun args σ x h => by
 simp only [JK] at h
 split at h
 ·rename_i a0 a1 a2 a3 a4 a5 a6 a7 a8 a9 a10 a11 a12 a13 a14 a15
  obtain ⟨r, h1, h2⟩ := bE_ h
  simp only [Jk, So h1, Uy]
  exact h2
 ·cases h
def wq (a0 a1 a2 a3 a4 a5 a6 a7 a8 a9 a10 a11 a12 a13 a14 a15 : Int) : Option Int := af (ok8 a0 a1 a2 a3 a4 a5 a6 a7 && ok8 a8 a9 a10 a11 a12 a13 a14 a15 && fh (num a0 a1 a2 a3 a4 a5 a6 a7 - num a8 a9 a10 a11 a12 a13 a14 a15)) (some (num a0 a1 a2 a3 a4 a5 a6 a7 - num a8 a9 a10 a11 a12 a13 a14 a15))
theorem Sp {a0 a1 a2 a3 a4 a5 a6 a7 a8 a9 a10 a11 a12 a13 a14 a15 : Int} {r} (h : wq a0 a1 a2 a3 a4 a5 a6 a7 a8 a9 a10 a11 a12 a13 a14 a15 = some r) : Bw a0 a1 a2 a3 a4 a5 a6 a7 a8 a9 a10 a11 a12 a13 a14 a15 = some (r, true) := by
 unfold wq at h
 obtain ⟨h1, h2⟩ := aH h
 rw [UC] at h1
 simp only [UB] at h2
 subst h2
 unfold Bw fV
 rw [h1.1, h1.2]
 rfl
def eG (x y : Int) : Option Int := wq (aa x 0) (aa x 1) (aa x 2) (aa x 3) (aa x 4) (aa x 5) (aa x 6) (aa x 7) (aa y 0) (aa y 1) (aa y 2) (aa y 3) (aa y 4) (aa y 5) (aa y 6) (aa y 7)
theorem RR {x y : Int} (hx : fit x) (hy : fit y) (h : fit (x - y)) : eG x y = some (x - y) := by
 unfold eG wq; rw [bA, bA, aI hx, aI hy, bY.2 h]; rfl
def JJ : HK where
 call := fun args σ k => match args with
  | [.agg [.int .u64 a0, .int .u64 a1, .int .u64 a2, .int .u64 a3, .int .u64 a4, .int .u64 a5, .int .u64 a6, .int .u64 a7], .agg [.int .u64 a8, .int .u64 a9, .int .u64 a10, .int .u64 a11, .int .u64 a12, .int .u64 a13, .int .u64 a14, .int .u64 a15]] => Option.bind (wq a0 a1 a2 a3 a4 a5 a6 a7 a8 a9 a10 a11 a12 a13 a14 a15) fun r => k (.ret (.tup [.agg [.int .u64 (aa r 0), .int .u64 (aa r 1), .int .u64 (aa r 2), .int .u64 (aa r 3), .int .u64 (aa r 4), .int .u64 (aa r 5), .int .u64 (aa r 6), .int .u64 (aa r 7)], .bool true])) σ
  | _ => none
 nat := fun args σ k => by
  repeat' split
  all_goals simp only [UA, Uz, Uy]
 pure := true
 pok := fun _ args σ r σ' h => by
  split at h
  ·obtain ⟨q, h1, h2⟩ := bE_ h
   simp only [UB, UD] at h2
   obtain ⟨rfl, rfl⟩ := h2
   exact ⟨rfl, ⟨_, rfl⟩, fun σ2 => by simp only [h1, Uy]⟩
  ·cases h
theorem Nu : aX U2 83 JJ := JH.cO fun args σ x h => by
 simp only [JJ] at h
 split at h
 ·rename_i a0 a1 a2 a3 a4 a5 a6 a7 a8 a9 a10 a11 a12 a13 a14 a15
  obtain ⟨r, h1, h2⟩ := bE_ h
  simp only [Jl, Sp h1, Uy]
  exact h2
 ·cases h
def iT (a0 a1 a2 a3 a4 a5 a6 a7 a8 a9 a10 a11 a12 a13 a14 a15 : Int) : Option Int := af (ok8 a0 a1 a2 a3 a4 a5 a6 a7 && ok8 a8 a9 a10 a11 a12 a13 a14 a15 && fh (num a0 a1 a2 a3 a4 a5 a6 a7 * num a8 a9 a10 a11 a12 a13 a14 a15)) (some (num a0 a1 a2 a3 a4 a5 a6 a7 * num a8 a9 a10 a11 a12 a13 a14 a15))
theorem Sq {a0 a1 a2 a3 a4 a5 a6 a7 a8 a9 a10 a11 a12 a13 a14 a15 : Int} {r} (h : iT a0 a1 a2 a3 a4 a5 a6 a7 a8 a9 a10 a11 a12 a13 a14 a15 = some r) : uV a0 a1 a2 a3 a4 a5 a6 a7 a8 a9 a10 a11 a12 a13 a14 a15 = some (r, true) := by
 unfold iT at h
 obtain ⟨h1, h2⟩ := aH h
 rw [UC] at h1
 simp only [UB] at h2
 subst h2
 unfold uV fV
 rw [h1.1, h1.2]
 rfl
def ct (x y : Int) : Option Int := iT (aa x 0) (aa x 1) (aa x 2) (aa x 3) (aa x 4) (aa x 5) (aa x 6) (aa x 7) (aa y 0) (aa y 1) (aa y 2) (aa y 3) (aa y 4) (aa y 5) (aa y 6) (aa y 7)
theorem RP {x y : Int} (hx : fit x) (hy : fit y) (h : fit (x * y)) : ct x y = some (x * y) := by
 unfold ct iT; rw [bA, bA, aI hx, aI hy, bY.2 h]; rfl
def JL : HK where
 call := fun args σ k => match args with
  | [.agg [.int .u64 a0, .int .u64 a1, .int .u64 a2, .int .u64 a3, .int .u64 a4, .int .u64 a5, .int .u64 a6, .int .u64 a7], .agg [.int .u64 a8, .int .u64 a9, .int .u64 a10, .int .u64 a11, .int .u64 a12, .int .u64 a13, .int .u64 a14, .int .u64 a15]] => Option.bind (iT a0 a1 a2 a3 a4 a5 a6 a7 a8 a9 a10 a11 a12 a13 a14 a15) fun r => k (.ret (.tup [.agg [.int .u64 (aa r 0), .int .u64 (aa r 1), .int .u64 (aa r 2), .int .u64 (aa r 3), .int .u64 (aa r 4), .int .u64 (aa r 5), .int .u64 (aa r 6), .int .u64 (aa r 7)], .bool true])) σ
  | _ => none
 nat := fun args σ k => by
  repeat' split
  all_goals simp only [UA, Uz, Uy]
 pure := true
 pok := fun _ args σ r σ' h => by
  split at h
  ·obtain ⟨q, h1, h2⟩ := bE_ h
   simp only [UB, UD] at h2
   obtain ⟨rfl, rfl⟩ := h2
   exact ⟨rfl, ⟨_, rfl⟩, fun σ2 => by simp only [h1, Uy]⟩
  ·cases h
theorem Nw : aX U2 35 JL := EA.cO fun args σ x h => by
 simp only [JL] at h
 split at h
 ·rename_i a0 a1 a2 a3 a4 a5 a6 a7 a8 a9 a10 a11 a12 a13 a14 a15
  obtain ⟨r, h1, h2⟩ := bE_ h
  simp only [FQ, Sq h1, Uy]
  exact h2
 ·cases h
def ua (a0 a1 a2 a3 a4 a5 a6 a7 a8 a9 a10 a11 a12 a13 a14 a15 : Int) : Option (Int × Int) := af (ok8 a0 a1 a2 a3 a4 a5 a6 a7 && ok8 a8 a9 a10 a11 a12 a13 a14 a15 && !decide (num a8 a9 a10 a11 a12 a13 a14 a15 = 0) && fh ((num a0 a1 a2 a3 a4 a5 a6 a7).fdiv (num a8 a9 a10 a11 a12 a13 a14 a15))) (some ((num a0 a1 a2 a3 a4 a5 a6 a7).fdiv (num a8 a9 a10 a11 a12 a13 a14 a15), (num a0 a1 a2 a3 a4 a5 a6 a7).fmod (num a8 a9 a10 a11 a12 a13 a14 a15)))
theorem Sr {a0 a1 a2 a3 a4 a5 a6 a7 a8 a9 a10 a11 a12 a13 a14 a15 : Int} {r} (h : ua a0 a1 a2 a3 a4 a5 a6 a7 a8 a9 a10 a11 a12 a13 a14 a15 = some r) : La a0 a1 a2 a3 a4 a5 a6 a7 a8 a9 a10 a11 a12 a13 a14 a15 = some (r.1, r.2, true) := by
 unfold ua at h
 obtain ⟨h1, h2⟩ := aH h
 simp only [UC, Bool.not_eq_true'] at h1
 simp only [UB] at h2
 subst h2
 unfold La Nl
 rw [h1.1.1.1, h1.1.1.2, h1.1.2, h1.2]
 rfl
def TR (x y : Int) : Option (Int × Int) := ua (aa x 0) (aa x 1) (aa x 2) (aa x 3) (aa x 4) (aa x 5) (aa x 6) (aa x 7) (aa y 0) (aa y 1) (aa y 2) (aa y 3) (aa y 4) (aa y 5) (aa y 6) (aa y 7)
theorem L4 {x y : Int} (hx : fit x) (hy : fit y) (h0 : y ≠ 0) (h : fit (x.fdiv y)) : TR x y = some (x.fdiv y, x.fmod y) := by
 unfold TR ua; rw [bA, bA, aI hx, aI hy, bY.2 h, UG h0]; rfl
def FX : HK where
 call := fun args σ k => match args with
  | [.agg [.int .u64 a0, .int .u64 a1, .int .u64 a2, .int .u64 a3, .int .u64 a4, .int .u64 a5, .int .u64 a6, .int .u64 a7], .agg [.int .u64 a8, .int .u64 a9, .int .u64 a10, .int .u64 a11, .int .u64 a12, .int .u64 a13, .int .u64 a14, .int .u64 a15]] => Option.bind (ua a0 a1 a2 a3 a4 a5 a6 a7 a8 a9 a10 a11 a12 a13 a14 a15) fun r => k (.ret (.tup [.agg [.int .u64 (aa r.1 0), .int .u64 (aa r.1 1), .int .u64 (aa r.1 2), .int .u64 (aa r.1 3), .int .u64 (aa r.1 4), .int .u64 (aa r.1 5), .int .u64 (aa r.1 6), .int .u64 (aa r.1 7)], .agg [.int .u64 (aa r.2 0), .int .u64 (aa r.2 1), .int .u64 (aa r.2 2), .int .u64 (aa r.2 3), .int .u64 (aa r.2 4), .int .u64 (aa r.2 5), .int .u64 (aa r.2 6), .int .u64 (aa r.2 7)], .bool true])) σ
  | _ => none
 nat := fun args σ k => by
  repeat' split
  all_goals simp only [UA, Uz, Uy]
 pure := true
 pok := fun _ args σ r σ' h => by
  split at h
  ·obtain ⟨q, h1, h2⟩ := bE_ h
   simp only [UB, UD] at h2
   obtain ⟨rfl, rfl⟩ := h2
   exact ⟨rfl, ⟨_, rfl⟩, fun σ2 => by simp only [h1, Uy]⟩
  ·cases h
theorem Im : aX U2 27 FX := Qu.cO fun args σ x h => by
 simp only [FX] at h
 split at h
 ·rename_i a0 a1 a2 a3 a4 a5 a6 a7 a8 a9 a10 a11 a12 a13 a14 a15
  obtain ⟨r, h1, h2⟩ := bE_ h
  simp only [Nt, Sr h1, Uy]
  exact h2
 ·cases h
def Na (x : Int) : Option Int := pu (aa x 0) (aa x 1) (aa x 2) (aa x 3) (aa x 4) (aa x 5) (aa x 6) (aa x 7)
theorem PY {x : Int} (hx : fit x) : Na x = some (sgn x) := by
 unfold Na pu; rw [bA, aI hx]; rfl
def O8 (x y : Int) : Option Int := Ez (aa x 0) (aa x 1) (aa x 2) (aa x 3) (aa x 4) (aa x 5) (aa x 6) (aa x 7) (aa y 0) (aa y 1) (aa y 2) (aa y 3) (aa y 4) (aa y 5) (aa y 6) (aa y 7)
theorem L5 {x y : Int} (hx : fit x) (hy : fit y) : O8 x y = some (sgn (x - y)) := by
 unfold O8 Ez; rw [bA, bA, aI hx, aI hy]; rfl
def BL : CH := (CH.add 35 JL CH.none)
theorem yb : aG U2 BL := (CH.ak Nw CH.aF)
def kR (a0 a1 a2 a3 a4 a5 a6 a7 a8 a9 a10 a11 a12 a13 a14 a15 : Int) : Option (Int × Int × Int × Int × Int × Int × Int × Int) :=
 (Option.bind (iT a0 a1 a2 a3 a4 a5 a6 a7 a8 a9 a10 a11 a12 a13 a14 a15) fun r1 => (some ((aa r1 0), (aa r1 1), (aa r1 2), (aa r1 3), (aa r1 4), (aa r1 5), (aa r1 6), (aa r1 7))))
def iU : FD where
 X := Int × Int × Int × Int × Int × Int × Int × Int
 k := 0
 pre := []
 F := fun s => []
 M := .agg (rl (.int .u64) 8 [])
 B := []
 toL := fun x => [.I x.1, .I x.2.1, .I x.2.2.1, .I x.2.2.2.1, .I x.s4.1, .I x.s4.2.1, .I x.s4.2.2.1, .I x.s4.2.2.2]
 ofL := fun ls => match ls with
  | [.I x0, .I x1, .I x2, .I x3, .I x4, .I x5, .I x6, .I x7] => some (x0, x1, x2, x3, x4, x5, x6, x7)
  | _ => none
 au := fun ls x h => by
  split at h
  ·cases h; rfl
  ·cases h
theorem Bd (a0 a1 a2 a3 a4 a5 a6 a7 a8 a9 a10 a11 a12 a13 a14 a15 : Int) (x : Int × Int × Int × Int × Int × Int × Int × Int) (h : kR a0 a1 a2 a3 a4 a5 a6 a7 a8 a9 a10 a11 a12 a13 a14 a15 = some x) : bg U2 22 0 [.agg (v8 a0 a1 a2 a3 a4 a5 a6 a7 []), .agg (v8 a8 a9 a10 a11 a12 a13 a14 a15 [])] [] iU x :=
 FD.semA iU yb Try.func22 (fuel := 60) (by kernel_rfl) (by kernel_rfl)
  (by kernel_rfl) (Eq.trans (by kernel_rfl) h)
def pK : HK where
 call := fun args σ k => match args with
  | [.agg [.int .u64 a0, .int .u64 a1, .int .u64 a2, .int .u64 a3, .int .u64 a4, .int .u64 a5, .int .u64 a6, .int .u64 a7], .agg [.int .u64 a8, .int .u64 a9, .int .u64 a10, .int .u64 a11, .int .u64 a12, .int .u64 a13, .int .u64 a14, .int .u64 a15]] => Option.bind (kR a0 a1 a2 a3 a4 a5 a6 a7 a8 a9 a10 a11 a12 a13 a14 a15) fun y => aC σ 0 (iU.val y) (iU.aN y) k
  | _ => none
 nat := fun args σ k => by
  repeat' split
  all_goals simp only [av, ai, UA, Uz, aC, Uy]
 pure := true
 pok := fun _ args σ r σ' h => by
  split at h
  ·exact bq h (fun y => rfl) (fun y f => rfl)
  ·cases h
theorem BM : aX U2 22 pK := by
 intro args σ r σ' h
 simp only [pK] at h
 split at h
 ·rename_i a0 a1 a2 a3 a4 a5 a6 a7 a8 a9 a10 a11 a12 a13 a14 a15
  obtain ⟨y, hy, h⟩ := bE_ h
  exact lifted (xs := []) (ls := []) (cargs := [.agg (v8 a0 a1 a2 a3 a4 a5 a6 a7 []), .agg (v8 a8 a9 a10 a11 a12 a13 a14 a15 [])]) (bC.of trivial) rfl (Bd a0 a1 a2 a3 a4 a5 a6 a7 a8 a9 a10 a11 a12 a13 a14 a15 y hy) rfl rfl rfl rfl h
 ·cases h
def DA : CH := (CH.add 36 JK CH.none)
theorem zs : aG U2 DA := (CH.ak Nv CH.aF)
def me (a0 a1 a2 a3 a4 a5 a6 a7 a8 a9 a10 a11 a12 a13 a14 a15 : Int) : Option (Int × Int × Int × Int × Int × Int × Int × Int) :=
 (Option.bind (nD a0 a1 a2 a3 a4 a5 a6 a7 a8 a9 a10 a11 a12 a13 a14 a15) fun r1 => (some ((aa r1 0), (aa r1 1), (aa r1 2), (aa r1 3), (aa r1 4), (aa r1 5), (aa r1 6), (aa r1 7))))
def jP : FD where
 X := Int × Int × Int × Int × Int × Int × Int × Int
 k := 0
 pre := []
 F := fun s => []
 M := .agg (rl (.int .u64) 8 [])
 B := []
 toL := fun x => [.I x.1, .I x.2.1, .I x.2.2.1, .I x.2.2.2.1, .I x.s4.1, .I x.s4.2.1, .I x.s4.2.2.1, .I x.s4.2.2.2]
 ofL := fun ls => match ls with
  | [.I x0, .I x1, .I x2, .I x3, .I x4, .I x5, .I x6, .I x7] => some (x0, x1, x2, x3, x4, x5, x6, x7)
  | _ => none
 au := fun ls x h => by
  split at h
  ·cases h; rfl
  ·cases h
theorem BH (a0 a1 a2 a3 a4 a5 a6 a7 a8 a9 a10 a11 a12 a13 a14 a15 : Int) (x : Int × Int × Int × Int × Int × Int × Int × Int) (h : me a0 a1 a2 a3 a4 a5 a6 a7 a8 a9 a10 a11 a12 a13 a14 a15 = some x) : bg U2 39 0 [.agg (v8 a0 a1 a2 a3 a4 a5 a6 a7 []), .agg (v8 a8 a9 a10 a11 a12 a13 a14 a15 [])] [] jP x :=
 FD.semA jP zs Try.func39 (fuel := 60) (by kernel_rfl) (by kernel_rfl)
  (by kernel_rfl) (Eq.trans (by kernel_rfl) h)
def rr : HK where
 call := fun args σ k => match args with
  | [.agg [.int .u64 a0, .int .u64 a1, .int .u64 a2, .int .u64 a3, .int .u64 a4, .int .u64 a5, .int .u64 a6, .int .u64 a7], .agg [.int .u64 a8, .int .u64 a9, .int .u64 a10, .int .u64 a11, .int .u64 a12, .int .u64 a13, .int .u64 a14, .int .u64 a15]] => Option.bind (me a0 a1 a2 a3 a4 a5 a6 a7 a8 a9 a10 a11 a12 a13 a14 a15) fun y => aC σ 0 (jP.val y) (jP.aN y) k
  | _ => none
 nat := fun args σ k => by
  repeat' split
  all_goals simp only [av, ai, UA, Uz, aC, Uy]
 pure := true
 pok := fun _ args σ r σ' h => by
  split at h
  ·exact bq h (fun y => rfl) (fun y f => rfl)
  ·cases h
theorem DB : aX U2 39 rr := by
 intro args σ r σ' h
 simp only [rr] at h
 split at h
 ·rename_i a0 a1 a2 a3 a4 a5 a6 a7 a8 a9 a10 a11 a12 a13 a14 a15
  obtain ⟨y, hy, h⟩ := bE_ h
  exact lifted (xs := []) (ls := []) (cargs := [.agg (v8 a0 a1 a2 a3 a4 a5 a6 a7 []), .agg (v8 a8 a9 a10 a11 a12 a13 a14 a15 [])]) (bC.of trivial) rfl (BH a0 a1 a2 a3 a4 a5 a6 a7 a8 a9 a10 a11 a12 a13 a14 a15 y hy) rfl rfl rfl rfl h
 ·cases h
def Dw : CH := (CH.add 83 JJ CH.none)
theorem zi : aG U2 Dw := (CH.ak Nu CH.aF)
def mc (a0 a1 a2 a3 a4 a5 a6 a7 a8 a9 a10 a11 a12 a13 a14 a15 : Int) : Option (Int × Int × Int × Int × Int × Int × Int × Int) :=
 (Option.bind (wq a0 a1 a2 a3 a4 a5 a6 a7 a8 a9 a10 a11 a12 a13 a14 a15) fun r1 => (some ((aa r1 0), (aa r1 1), (aa r1 2), (aa r1 3), (aa r1 4), (aa r1 5), (aa r1 6), (aa r1 7))))
def jI : FD where
 X := Int × Int × Int × Int × Int × Int × Int × Int
 k := 0
 pre := []
 F := fun s => []
 M := .agg (rl (.int .u64) 8 [])
 B := []
 toL := fun x => [.I x.1, .I x.2.1, .I x.2.2.1, .I x.2.2.2.1, .I x.s4.1, .I x.s4.2.1, .I x.s4.2.2.1, .I x.s4.2.2.2]
 ofL := fun ls => match ls with
  | [.I x0, .I x1, .I x2, .I x3, .I x4, .I x5, .I x6, .I x7] => some (x0, x1, x2, x3, x4, x5, x6, x7)
  | _ => none
 au := fun ls x h => by
  split at h
  ·cases h; rfl
  ·cases h
theorem BD (a0 a1 a2 a3 a4 a5 a6 a7 a8 a9 a10 a11 a12 a13 a14 a15 : Int) (x : Int × Int × Int × Int × Int × Int × Int × Int) (h : mc a0 a1 a2 a3 a4 a5 a6 a7 a8 a9 a10 a11 a12 a13 a14 a15 = some x) : bg U2 70 0 [.agg (v8 a0 a1 a2 a3 a4 a5 a6 a7 []), .agg (v8 a8 a9 a10 a11 a12 a13 a14 a15 [])] [] jI x :=
 FD.semA jI zi Try.func70 (fuel := 60) (by kernel_rfl) (by kernel_rfl)
  (by kernel_rfl) (Eq.trans (by kernel_rfl) h)
def rh : HK where
 call := fun args σ k => match args with
  | [.agg [.int .u64 a0, .int .u64 a1, .int .u64 a2, .int .u64 a3, .int .u64 a4, .int .u64 a5, .int .u64 a6, .int .u64 a7], .agg [.int .u64 a8, .int .u64 a9, .int .u64 a10, .int .u64 a11, .int .u64 a12, .int .u64 a13, .int .u64 a14, .int .u64 a15]] => Option.bind (mc a0 a1 a2 a3 a4 a5 a6 a7 a8 a9 a10 a11 a12 a13 a14 a15) fun y => aC σ 0 (jI.val y) (jI.aN y) k
  | _ => none
 nat := fun args σ k => by
  repeat' split
  all_goals simp only [av, ai, UA, Uz, aC, Uy]
 pure := true
 pok := fun _ args σ r σ' h => by
  split at h
  ·exact bq h (fun y => rfl) (fun y f => rfl)
  ·cases h
theorem Dx : aX U2 70 rh := by
 intro args σ r σ' h
 simp only [rh] at h
 split at h
 ·rename_i a0 a1 a2 a3 a4 a5 a6 a7 a8 a9 a10 a11 a12 a13 a14 a15
  obtain ⟨y, hy, h⟩ := bE_ h
  exact lifted (xs := []) (ls := []) (cargs := [.agg (v8 a0 a1 a2 a3 a4 a5 a6 a7 []), .agg (v8 a8 a9 a10 a11 a12 a13 a14 a15 [])]) (bC.of trivial) rfl (BD a0 a1 a2 a3 a4 a5 a6 a7 a8 a9 a10 a11 a12 a13 a14 a15 y hy) rfl rfl rfl rfl h
 ·cases h
end Go.Ev
