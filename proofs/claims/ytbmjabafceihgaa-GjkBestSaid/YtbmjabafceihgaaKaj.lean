import Derived.Test.YtbmjabafceihgaaKai
set_option linter.unusedVariables false
set_option linter.unusedSimpArgs false
set_option maxRecDepth 100000
noncomputable section
namespace Go.Ev
open Go.Proofs
def Dd (a0 a1 a2 a3 a4 a5 a6 a7 : Int) : Option Int := af (ok8 a0 a1 a2 a3 a4 a5 a6 a7 && fE (0 - num a0 a1 a2 a3 a4 a5 a6 a7)) (some (0 - num a0 a1 a2 a3 a4 a5 a6 a7))
theorem SA {a0 a1 a2 a3 a4 a5 a6 a7 : Int} {r} (h : Dd a0 a1 a2 a3 a4 a5 a6 a7 = some r) : LI a0 a1 a2 a3 a4 a5 a6 a7 = some (r, true) := by
 unfold Dd at h
 obtain ⟨h1, h2⟩ := aH h
 rw [Bool.and_eq_true] at h1
 simp only [Option.some.injEq] at h2
 subst h2
 unfold LI gf
 rw [h1.1, h1.2]
 rfl
def gc (x : Int) : Option Int := Dd (aa x 0) (aa x 1) (aa x 2) (aa x 3) (aa x 4) (aa x 5) (aa x 6) (aa x 7)
theorem R3 {x : Int} (hx : fit x) (h : fit (0 - x)) : gc x = some (0 - x) := by
 unfold gc Dd; rw [bz, aG hx, bV.2 h]; rfl
def yJ : HK where
 call := fun args σ k => match args with
  | [.agg [.int .u64 a0, .int .u64 a1, .int .u64 a2, .int .u64 a3, .int .u64 a4, .int .u64 a5, .int .u64 a6, .int .u64 a7]] => Option.bind (Dd a0 a1 a2 a3 a4 a5 a6 a7) fun r => k (.ret (.tup [.agg [.int .u64 (aa r 0), .int .u64 (aa r 1), .int .u64 (aa r 2), .int .u64 (aa r 3), .int .u64 (aa r 4), .int .u64 (aa r 5), .int .u64 (aa r 6), .int .u64 (aa r 7)], .bool true])) σ
  | _ => none
 nat := fun args σ k => by
  repeat' split
  all_goals simp only [Option.bind_assoc, Option.bind_none, Option.bind_some]
 pure := true
 pok := fun _ args σ r σ' h => by
  split at h
  ·obtain ⟨q, h1, h2⟩ := bE_ h
   simp only [Option.some.injEq, Prod.mk.injEq] at h2
   obtain ⟨rfl, rfl⟩ := h2
   exact ⟨rfl, ⟨_, rfl⟩, fun σ2 => by simp only [h1, Option.bind_some]⟩
  ·cases h
theorem wR : aW Try.prog 67 yJ := QJ.cJ fun args σ x h => by
 simp only [yJ] at h
 split at h
 ·rename_i a0 a1 a2 a3 a4 a5 a6 a7
  obtain ⟨r, h1, h2⟩ := bE_ h
  simp only [NP, SA h1, Option.bind_some]
  exact h2
 ·cases h
def n8 (a0 a1 a2 a3 a4 a5 a6 a7 a8 a9 a10 a11 a12 a13 a14 a15 : Int) : Option Int := af (ok8 a0 a1 a2 a3 a4 a5 a6 a7 && ok8 a8 a9 a10 a11 a12 a13 a14 a15 && fE (num a0 a1 a2 a3 a4 a5 a6 a7 + num a8 a9 a10 a11 a12 a13 a14 a15)) (some (num a0 a1 a2 a3 a4 a5 a6 a7 + num a8 a9 a10 a11 a12 a13 a14 a15))
theorem SB {a0 a1 a2 a3 a4 a5 a6 a7 a8 a9 a10 a11 a12 a13 a14 a15 : Int} {r} (h : n8 a0 a1 a2 a3 a4 a5 a6 a7 a8 a9 a10 a11 a12 a13 a14 a15 = some r) : vB a0 a1 a2 a3 a4 a5 a6 a7 a8 a9 a10 a11 a12 a13 a14 a15 = some (r, true) := by
 unfold n8 at h
 obtain ⟨h1, h2⟩ := aH h
 rw [Bool.and_eq_true] at h1
 simp only [Option.some.injEq] at h2
 subst h2
 unfold vB gf
 rw [h1.1, h1.2]
 rfl
def xO (x y : Int) : Option Int := n8 (aa x 0) (aa x 1) (aa x 2) (aa x 3) (aa x 4) (aa x 5) (aa x 6) (aa x 7) (aa y 0) (aa y 1) (aa y 2) (aa y 3) (aa y 4) (aa y 5) (aa y 6) (aa y 7)
theorem RZ {x y : Int} (hx : fit x) (hy : fit y) (h : fit (x + y)) : xO x y = some (x + y) := by
 unfold xO n8; rw [bz, bz, aG hx, aG hy, bV.2 h]; rfl
def Kp : HK where
 call := fun args σ k => match args with
  | [.agg [.int .u64 a0, .int .u64 a1, .int .u64 a2, .int .u64 a3, .int .u64 a4, .int .u64 a5, .int .u64 a6, .int .u64 a7], .agg [.int .u64 a8, .int .u64 a9, .int .u64 a10, .int .u64 a11, .int .u64 a12, .int .u64 a13, .int .u64 a14, .int .u64 a15]] => Option.bind (n8 a0 a1 a2 a3 a4 a5 a6 a7 a8 a9 a10 a11 a12 a13 a14 a15) fun r => k (.ret (.tup [.agg [.int .u64 (aa r 0), .int .u64 (aa r 1), .int .u64 (aa r 2), .int .u64 (aa r 3), .int .u64 (aa r 4), .int .u64 (aa r 5), .int .u64 (aa r 6), .int .u64 (aa r 7)], .bool true])) σ
  | _ => none
 nat := fun args σ k => by
  repeat' split
  all_goals simp only [Option.bind_assoc, Option.bind_none, Option.bind_some]
 pure := true
 pok := fun _ args σ r σ' h => by
  split at h
  ·obtain ⟨q, h1, h2⟩ := bE_ h
   simp only [Option.some.injEq, Prod.mk.injEq] at h2
   obtain ⟨rfl, rfl⟩ := h2
   exact ⟨rfl, ⟨_, rfl⟩, fun σ2 => by simp only [h1, Option.bind_some]⟩
  ·cases h
theorem NS : aW Try.prog 36 Kp := Kl.cJ fun args σ x h => by
 simp only [Kp] at h
 split at h
 ·rename_i a0 a1 a2 a3 a4 a5 a6 a7 a8 a9 a10 a11 a12 a13 a14 a15
  obtain ⟨r, h1, h2⟩ := bE_ h
  simp only [J1, SB h1, Option.bind_some]
  exact h2
 ·cases h
def wQ (a0 a1 a2 a3 a4 a5 a6 a7 a8 a9 a10 a11 a12 a13 a14 a15 : Int) : Option Int := af (ok8 a0 a1 a2 a3 a4 a5 a6 a7 && ok8 a8 a9 a10 a11 a12 a13 a14 a15 && fE (num a0 a1 a2 a3 a4 a5 a6 a7 - num a8 a9 a10 a11 a12 a13 a14 a15)) (some (num a0 a1 a2 a3 a4 a5 a6 a7 - num a8 a9 a10 a11 a12 a13 a14 a15))
theorem SC {a0 a1 a2 a3 a4 a5 a6 a7 a8 a9 a10 a11 a12 a13 a14 a15 : Int} {r} (h : wQ a0 a1 a2 a3 a4 a5 a6 a7 a8 a9 a10 a11 a12 a13 a14 a15 = some r) : BZ a0 a1 a2 a3 a4 a5 a6 a7 a8 a9 a10 a11 a12 a13 a14 a15 = some (r, true) := by
 unfold wQ at h
 obtain ⟨h1, h2⟩ := aH h
 rw [Bool.and_eq_true] at h1
 simp only [Option.some.injEq] at h2
 subst h2
 unfold BZ gf
 rw [h1.1, h1.2]
 rfl
def eO (x y : Int) : Option Int := wQ (aa x 0) (aa x 1) (aa x 2) (aa x 3) (aa x 4) (aa x 5) (aa x 6) (aa x 7) (aa y 0) (aa y 1) (aa y 2) (aa y 3) (aa y 4) (aa y 5) (aa y 6) (aa y 7)
theorem R0 {x y : Int} (hx : fit x) (hy : fit y) (h : fit (x - y)) : eO x y = some (x - y) := by
 unfold eO wQ; rw [bz, bz, aG hx, aG hy, bV.2 h]; rfl
def Ko : HK where
 call := fun args σ k => match args with
  | [.agg [.int .u64 a0, .int .u64 a1, .int .u64 a2, .int .u64 a3, .int .u64 a4, .int .u64 a5, .int .u64 a6, .int .u64 a7], .agg [.int .u64 a8, .int .u64 a9, .int .u64 a10, .int .u64 a11, .int .u64 a12, .int .u64 a13, .int .u64 a14, .int .u64 a15]] => Option.bind (wQ a0 a1 a2 a3 a4 a5 a6 a7 a8 a9 a10 a11 a12 a13 a14 a15) fun r => k (.ret (.tup [.agg [.int .u64 (aa r 0), .int .u64 (aa r 1), .int .u64 (aa r 2), .int .u64 (aa r 3), .int .u64 (aa r 4), .int .u64 (aa r 5), .int .u64 (aa r 6), .int .u64 (aa r 7)], .bool true])) σ
  | _ => none
 nat := fun args σ k => by
  repeat' split
  all_goals simp only [Option.bind_assoc, Option.bind_none, Option.bind_some]
 pure := true
 pok := fun _ args σ r σ' h => by
  split at h
  ·obtain ⟨q, h1, h2⟩ := bE_ h
   simp only [Option.some.injEq, Prod.mk.injEq] at h2
   obtain ⟨rfl, rfl⟩ := h2
   exact ⟨rfl, ⟨_, rfl⟩, fun σ2 => by simp only [h1, Option.bind_some]⟩
  ·cases h
theorem NR : aW Try.prog 83 Ko := Km.cJ fun args σ x h => by
 simp only [Ko] at h
 split at h
 ·rename_i a0 a1 a2 a3 a4 a5 a6 a7 a8 a9 a10 a11 a12 a13 a14 a15
  obtain ⟨r, h1, h2⟩ := bE_ h
  simp only [J2, SC h1, Option.bind_some]
  exact h2
 ·cases h
def jp (a0 a1 a2 a3 a4 a5 a6 a7 a8 a9 a10 a11 a12 a13 a14 a15 : Int) : Option Int := af (ok8 a0 a1 a2 a3 a4 a5 a6 a7 && ok8 a8 a9 a10 a11 a12 a13 a14 a15 && fE (num a0 a1 a2 a3 a4 a5 a6 a7 * num a8 a9 a10 a11 a12 a13 a14 a15)) (some (num a0 a1 a2 a3 a4 a5 a6 a7 * num a8 a9 a10 a11 a12 a13 a14 a15))
theorem SD {a0 a1 a2 a3 a4 a5 a6 a7 a8 a9 a10 a11 a12 a13 a14 a15 : Int} {r} (h : jp a0 a1 a2 a3 a4 a5 a6 a7 a8 a9 a10 a11 a12 a13 a14 a15 = some r) : vA a0 a1 a2 a3 a4 a5 a6 a7 a8 a9 a10 a11 a12 a13 a14 a15 = some (r, true) := by
 unfold jp at h
 obtain ⟨h1, h2⟩ := aH h
 rw [Bool.and_eq_true] at h1
 simp only [Option.some.injEq] at h2
 subst h2
 unfold vA gf
 rw [h1.1, h1.2]
 rfl
def cq (x y : Int) : Option Int := jp (aa x 0) (aa x 1) (aa x 2) (aa x 3) (aa x 4) (aa x 5) (aa x 6) (aa x 7) (aa y 0) (aa y 1) (aa y 2) (aa y 3) (aa y 4) (aa y 5) (aa y 6) (aa y 7)
theorem RY {x y : Int} (hx : fit x) (hy : fit y) (h : fit (x * y)) : cq x y = some (x * y) := by
 unfold cq jp; rw [bz, bz, aG hx, aG hy, bV.2 h]; rfl
def Kq : HK where
 call := fun args σ k => match args with
  | [.agg [.int .u64 a0, .int .u64 a1, .int .u64 a2, .int .u64 a3, .int .u64 a4, .int .u64 a5, .int .u64 a6, .int .u64 a7], .agg [.int .u64 a8, .int .u64 a9, .int .u64 a10, .int .u64 a11, .int .u64 a12, .int .u64 a13, .int .u64 a14, .int .u64 a15]] => Option.bind (jp a0 a1 a2 a3 a4 a5 a6 a7 a8 a9 a10 a11 a12 a13 a14 a15) fun r => k (.ret (.tup [.agg [.int .u64 (aa r 0), .int .u64 (aa r 1), .int .u64 (aa r 2), .int .u64 (aa r 3), .int .u64 (aa r 4), .int .u64 (aa r 5), .int .u64 (aa r 6), .int .u64 (aa r 7)], .bool true])) σ
  | _ => none
 nat := fun args σ k => by
  repeat' split
  all_goals simp only [Option.bind_assoc, Option.bind_none, Option.bind_some]
 pure := true
 pok := fun _ args σ r σ' h => by
  split at h
  ·obtain ⟨q, h1, h2⟩ := bE_ h
   simp only [Option.some.injEq, Prod.mk.injEq] at h2
   obtain ⟨rfl, rfl⟩ := h2
   exact ⟨rfl, ⟨_, rfl⟩, fun σ2 => by simp only [h1, Option.bind_some]⟩
  ·cases h
theorem NT : aW Try.prog 35 Kq := E3.cJ fun args σ x h => by
 simp only [Kq] at h
 split at h
 ·rename_i a0 a1 a2 a3 a4 a5 a6 a7 a8 a9 a10 a11 a12 a13 a14 a15
  obtain ⟨r, h1, h2⟩ := bE_ h
  simp only [Gm, SD h1, Option.bind_some]
  exact h2
 ·cases h
def uI (a0 a1 a2 a3 a4 a5 a6 a7 a8 a9 a10 a11 a12 a13 a14 a15 : Int) : Option (Int × Int) := af (ok8 a0 a1 a2 a3 a4 a5 a6 a7 && ok8 a8 a9 a10 a11 a12 a13 a14 a15 && !decide (num a8 a9 a10 a11 a12 a13 a14 a15 = 0) && fE ((num a0 a1 a2 a3 a4 a5 a6 a7).fdiv (num a8 a9 a10 a11 a12 a13 a14 a15))) (some ((num a0 a1 a2 a3 a4 a5 a6 a7).fdiv (num a8 a9 a10 a11 a12 a13 a14 a15), (num a0 a1 a2 a3 a4 a5 a6 a7).fmod (num a8 a9 a10 a11 a12 a13 a14 a15)))
theorem SE {a0 a1 a2 a3 a4 a5 a6 a7 a8 a9 a10 a11 a12 a13 a14 a15 : Int} {r} (h : uI a0 a1 a2 a3 a4 a5 a6 a7 a8 a9 a10 a11 a12 a13 a14 a15 = some r) : LJ a0 a1 a2 a3 a4 a5 a6 a7 a8 a9 a10 a11 a12 a13 a14 a15 = some (r.1, r.2, true) := by
 unfold uI at h
 obtain ⟨h1, h2⟩ := aH h
 simp only [Bool.and_eq_true, Bool.not_eq_true'] at h1
 simp only [Option.some.injEq] at h2
 subst h2
 unfold LJ NI
 rw [h1.1.1.1, h1.1.1.2, h1.1.2, h1.2]
 rfl
def T1 (x y : Int) : Option (Int × Int) := uI (aa x 0) (aa x 1) (aa x 2) (aa x 3) (aa x 4) (aa x 5) (aa x 6) (aa x 7) (aa y 0) (aa y 1) (aa y 2) (aa y 3) (aa y 4) (aa y 5) (aa y 6) (aa y 7)
theorem Mv {x y : Int} (hx : fit x) (hy : fit y) (h0 : y ≠ 0) (h : fit (x.fdiv y)) : T1 x y = some (x.fdiv y, x.fmod y) := by
 unfold T1 uI; rw [bz, bz, aG hx, aG hy, bV.2 h, decide_eq_false h0]; rfl
def Gt : HK where
 call := fun args σ k => match args with
  | [.agg [.int .u64 a0, .int .u64 a1, .int .u64 a2, .int .u64 a3, .int .u64 a4, .int .u64 a5, .int .u64 a6, .int .u64 a7], .agg [.int .u64 a8, .int .u64 a9, .int .u64 a10, .int .u64 a11, .int .u64 a12, .int .u64 a13, .int .u64 a14, .int .u64 a15]] => Option.bind (uI a0 a1 a2 a3 a4 a5 a6 a7 a8 a9 a10 a11 a12 a13 a14 a15) fun r => k (.ret (.tup [.agg [.int .u64 (aa r.1 0), .int .u64 (aa r.1 1), .int .u64 (aa r.1 2), .int .u64 (aa r.1 3), .int .u64 (aa r.1 4), .int .u64 (aa r.1 5), .int .u64 (aa r.1 6), .int .u64 (aa r.1 7)], .agg [.int .u64 (aa r.2 0), .int .u64 (aa r.2 1), .int .u64 (aa r.2 2), .int .u64 (aa r.2 3), .int .u64 (aa r.2 4), .int .u64 (aa r.2 5), .int .u64 (aa r.2 6), .int .u64 (aa r.2 7)], .bool true])) σ
  | _ => none
 nat := fun args σ k => by
  repeat' split
  all_goals simp only [Option.bind_assoc, Option.bind_none, Option.bind_some]
 pure := true
 pok := fun _ args σ r σ' h => by
  split at h
  ·obtain ⟨q, h1, h2⟩ := bE_ h
   simp only [Option.some.injEq, Prod.mk.injEq] at h2
   obtain ⟨rfl, rfl⟩ := h2
   exact ⟨rfl, ⟨_, rfl⟩, fun σ2 => by simp only [h1, Option.bind_some]⟩
  ·cases h
theorem I5 : aW Try.prog 27 Gt := QK.cJ fun args σ x h => by
 simp only [Gt] at h
 split at h
 ·rename_i a0 a1 a2 a3 a4 a5 a6 a7 a8 a9 a10 a11 a12 a13 a14 a15
  obtain ⟨r, h1, h2⟩ := bE_ h
  simp only [NQ, SE h1, Option.bind_some]
  exact h2
 ·cases h
def NA (x : Int) : Option Int := pU (aa x 0) (aa x 1) (aa x 2) (aa x 3) (aa x 4) (aa x 5) (aa x 6) (aa x 7)
theorem Qd {x : Int} (hx : fit x) : NA x = some (sgn x) := by
 unfold NA pU; rw [bz, aG hx]; rfl
def Ps (x y : Int) : Option Int := E2 (aa x 0) (aa x 1) (aa x 2) (aa x 3) (aa x 4) (aa x 5) (aa x 6) (aa x 7) (aa y 0) (aa y 1) (aa y 2) (aa y 3) (aa y 4) (aa y 5) (aa y 6) (aa y 7)
theorem Mw {x y : Int} (hx : fit x) (hy : fit y) : Ps x y = some (sgn (x - y)) := by
 unfold Ps E2; rw [bz, bz, aG hx, aG hy]; rfl
def Cg : CH := (CH.add 35 Kq CH.none)
theorem yK : aE Try.prog Cg := (CH.aj NT CH.aB)
def lz (a0 a1 a2 a3 a4 a5 a6 a7 a8 a9 a10 a11 a12 a13 a14 a15 : Int) : Option (Int × Int × Int × Int × Int × Int × Int × Int) :=
 (Option.bind (jp a0 a1 a2 a3 a4 a5 a6 a7 a8 a9 a10 a11 a12 a13 a14 a15) fun r1 => (some ((aa r1 0), (aa r1 1), (aa r1 2), (aa r1 3), (aa r1 4), (aa r1 5), (aa r1 6), (aa r1 7))))
def jq : FD where
 X := Int × Int × Int × Int × Int × Int × Int × Int
 k := 0
 pre := []
 F := fun s => []
 M := .agg (rl (.int .u64) 8 [])
 B := []
 toL := fun x => [.I x.1, .I x.2.1, .I x.2.2.1, .I x.2.2.2.1, .I x.s4.1, .I x.s4.2.1, .I x.s4.2.2.1, .I x.s4.2.2.2]
 ofL := fun ls => match ls with
  | [.I x0, .I x1, .I x2, .I x3, .I x4, .I x5, .I x6, .I x7] => some (x0, x1, x2, x3, x4, x5, x6, x7)
  | _ => none
 au := fun ls x h => by
  split at h
  ·cases h; rfl
  ·cases h
theorem BG (a0 a1 a2 a3 a4 a5 a6 a7 a8 a9 a10 a11 a12 a13 a14 a15 : Int) (x : Int × Int × Int × Int × Int × Int × Int × Int) (h : lz a0 a1 a2 a3 a4 a5 a6 a7 a8 a9 a10 a11 a12 a13 a14 a15 = some x) : bc Try.prog 22 0 [.agg (v8 a0 a1 a2 a3 a4 a5 a6 a7 []), .agg (v8 a8 a9 a10 a11 a12 a13 a14 a15 [])] [] jq x :=
 FD.semA jq yK Try.func22 (fuel := 60) (by kernel_rfl) (by kernel_rfl)
  (by kernel_rfl) (Eq.trans (by kernel_rfl) h)
def qf : HK where
 call := fun args σ k => match args with
  | [.agg [.int .u64 a0, .int .u64 a1, .int .u64 a2, .int .u64 a3, .int .u64 a4, .int .u64 a5, .int .u64 a6, .int .u64 a7], .agg [.int .u64 a8, .int .u64 a9, .int .u64 a10, .int .u64 a11, .int .u64 a12, .int .u64 a13, .int .u64 a14, .int .u64 a15]] => Option.bind (lz a0 a1 a2 a3 a4 a5 a6 a7 a8 a9 a10 a11 a12 a13 a14 a15) fun y => aA σ 0 (jq.val y) (jq.aL y) k
  | _ => none
 nat := fun args σ k => by
  repeat' split
  all_goals simp only [aw, ai, Option.bind_assoc, Option.bind_none, aA, Option.bind_some]
 pure := true
 pok := fun _ args σ r σ' h => by
  split at h
  ·exact bp h (fun y => rfl) (fun y f => rfl)
  ·cases h
theorem Ch : aW Try.prog 22 qf := by
 intro args σ r σ' h
 simp only [qf] at h
 split at h
 ·rename_i a0 a1 a2 a3 a4 a5 a6 a7 a8 a9 a10 a11 a12 a13 a14 a15
  obtain ⟨y, hy, h⟩ := bE_ h
  exact lifted (xs := []) (ls := []) (cargs := [.agg (v8 a0 a1 a2 a3 a4 a5 a6 a7 []), .agg (v8 a8 a9 a10 a11 a12 a13 a14 a15 [])]) (bv.of trivial) rfl (BG a0 a1 a2 a3 a4 a5 a6 a7 a8 a9 a10 a11 a12 a13 a14 a15 y hy) rfl rfl rfl rfl h
 ·cases h
def Ef : CH := (CH.add 36 Kp CH.none)
theorem zV : aE Try.prog Ef := (CH.aj NS CH.aB)
def mI (a0 a1 a2 a3 a4 a5 a6 a7 a8 a9 a10 a11 a12 a13 a14 a15 : Int) : Option (Int × Int × Int × Int × Int × Int × Int × Int) :=
 (Option.bind (n8 a0 a1 a2 a3 a4 a5 a6 a7 a8 a9 a10 a11 a12 a13 a14 a15) fun r1 => (some ((aa r1 0), (aa r1 1), (aa r1 2), (aa r1 3), (aa r1 4), (aa r1 5), (aa r1 6), (aa r1 7))))
def kq : FD where
 X := Int × Int × Int × Int × Int × Int × Int × Int
 k := 0
 pre := []
 F := fun s => []
 M := .agg (rl (.int .u64) 8 [])
 B := []
 toL := fun x => [.I x.1, .I x.2.1, .I x.2.2.1, .I x.2.2.2.1, .I x.s4.1, .I x.s4.2.1, .I x.s4.2.2.1, .I x.s4.2.2.2]
 ofL := fun ls => match ls with
  | [.I x0, .I x1, .I x2, .I x3, .I x4, .I x5, .I x6, .I x7] => some (x0, x1, x2, x3, x4, x5, x6, x7)
  | _ => none
 au := fun ls x h => by
  split at h
  ·cases h; rfl
  ·cases h
theorem Cc (a0 a1 a2 a3 a4 a5 a6 a7 a8 a9 a10 a11 a12 a13 a14 a15 : Int) (x : Int × Int × Int × Int × Int × Int × Int × Int) (h : mI a0 a1 a2 a3 a4 a5 a6 a7 a8 a9 a10 a11 a12 a13 a14 a15 = some x) : bc Try.prog 39 0 [.agg (v8 a0 a1 a2 a3 a4 a5 a6 a7 []), .agg (v8 a8 a9 a10 a11 a12 a13 a14 a15 [])] [] kq x :=
 FD.semA kq zV Try.func39 (fuel := 60) (by kernel_rfl) (by kernel_rfl)
  (by kernel_rfl) (Eq.trans (by kernel_rfl) h)
def rT : HK where
 call := fun args σ k => match args with
  | [.agg [.int .u64 a0, .int .u64 a1, .int .u64 a2, .int .u64 a3, .int .u64 a4, .int .u64 a5, .int .u64 a6, .int .u64 a7], .agg [.int .u64 a8, .int .u64 a9, .int .u64 a10, .int .u64 a11, .int .u64 a12, .int .u64 a13, .int .u64 a14, .int .u64 a15]] => Option.bind (mI a0 a1 a2 a3 a4 a5 a6 a7 a8 a9 a10 a11 a12 a13 a14 a15) fun y => aA σ 0 (kq.val y) (kq.aL y) k
  | _ => none
 nat := fun args σ k => by
  repeat' split
  all_goals simp only [aw, ai, Option.bind_assoc, Option.bind_none, aA, Option.bind_some]
 pure := true
 pok := fun _ args σ r σ' h => by
  split at h
  ·exact bp h (fun y => rfl) (fun y f => rfl)
  ·cases h
theorem Eg : aW Try.prog 39 rT := by
 intro args σ r σ' h
 simp only [rT] at h
 split at h
 ·rename_i a0 a1 a2 a3 a4 a5 a6 a7 a8 a9 a10 a11 a12 a13 a14 a15
  obtain ⟨y, hy, h⟩ := bE_ h
  exact lifted (xs := []) (ls := []) (cargs := [.agg (v8 a0 a1 a2 a3 a4 a5 a6 a7 []), .agg (v8 a8 a9 a10 a11 a12 a13 a14 a15 [])]) (bv.of trivial) rfl (Cc a0 a1 a2 a3 a4 a5 a6 a7 a8 a9 a10 a11 a12 a13 a14 a15 y hy) rfl rfl rfl rfl h
 ·cases h
def Eb : CH := (CH.add 83 Ko CH.none)
theorem zN : aE Try.prog Eb := (CH.aj NR CH.aB)
def mH (a0 a1 a2 a3 a4 a5 a6 a7 a8 a9 a10 a11 a12 a13 a14 a15 : Int) : Option (Int × Int × Int × Int × Int × Int × Int × Int) :=
 (Option.bind (wQ a0 a1 a2 a3 a4 a5 a6 a7 a8 a9 a10 a11 a12 a13 a14 a15) fun r1 => (some ((aa r1 0), (aa r1 1), (aa r1 2), (aa r1 3), (aa r1 4), (aa r1 5), (aa r1 6), (aa r1 7))))
def kg : FD where
 X := Int × Int × Int × Int × Int × Int × Int × Int
 k := 0
 pre := []
 F := fun s => []
 M := .agg (rl (.int .u64) 8 [])
 B := []
 toL := fun x => [.I x.1, .I x.2.1, .I x.2.2.1, .I x.2.2.2.1, .I x.s4.1, .I x.s4.2.1, .I x.s4.2.2.1, .I x.s4.2.2.2]
 ofL := fun ls => match ls with
  | [.I x0, .I x1, .I x2, .I x3, .I x4, .I x5, .I x6, .I x7] => some (x0, x1, x2, x3, x4, x5, x6, x7)
  | _ => none
 au := fun ls x h => by
  split at h
  ·cases h; rfl
  ·cases h
theorem B8 (a0 a1 a2 a3 a4 a5 a6 a7 a8 a9 a10 a11 a12 a13 a14 a15 : Int) (x : Int × Int × Int × Int × Int × Int × Int × Int) (h : mH a0 a1 a2 a3 a4 a5 a6 a7 a8 a9 a10 a11 a12 a13 a14 a15 = some x) : bc Try.prog 70 0 [.agg (v8 a0 a1 a2 a3 a4 a5 a6 a7 []), .agg (v8 a8 a9 a10 a11 a12 a13 a14 a15 [])] [] kg x :=
 FD.semA kg zN Try.func70 (fuel := 60) (by kernel_rfl) (by kernel_rfl)
  (by kernel_rfl) (Eq.trans (by kernel_rfl) h)
def rN : HK where
 call := fun args σ k => match args with
  | [.agg [.int .u64 a0, .int .u64 a1, .int .u64 a2, .int .u64 a3, .int .u64 a4, .int .u64 a5, .int .u64 a6, .int .u64 a7], .agg [.int .u64 a8, .int .u64 a9, .int .u64 a10, .int .u64 a11, .int .u64 a12, .int .u64 a13, .int .u64 a14, .int .u64 a15]] => Option.bind (mH a0 a1 a2 a3 a4 a5 a6 a7 a8 a9 a10 a11 a12 a13 a14 a15) fun y => aA σ 0 (kg.val y) (kg.aL y) k
  | _ => none
 nat := fun args σ k => by
  repeat' split
  all_goals simp only [aw, ai, Option.bind_assoc, Option.bind_none, aA, Option.bind_some]
 pure := true
 pok := fun _ args σ r σ' h => by
  split at h
  ·exact bp h (fun y => rfl) (fun y f => rfl)
  ·cases h
theorem Ec : aW Try.prog 70 rN := by
 intro args σ r σ' h
 simp only [rN] at h
 split at h
 ·rename_i a0 a1 a2 a3 a4 a5 a6 a7 a8 a9 a10 a11 a12 a13 a14 a15
  obtain ⟨y, hy, h⟩ := bE_ h
  exact lifted (xs := []) (ls := []) (cargs := [.agg (v8 a0 a1 a2 a3 a4 a5 a6 a7 []), .agg (v8 a8 a9 a10 a11 a12 a13 a14 a15 [])]) (bv.of trivial) rfl (B8 a0 a1 a2 a3 a4 a5 a6 a7 a8 a9 a10 a11 a12 a13 a14 a15 y hy) rfl rfl rfl rfl h
 ·cases h
theorem Qw {a0 a1 a2 a3 a4 a5 a6 a7 a8 a9 a10 a11 a12 a13 a14 a15 r : Int} (h : jp a0 a1 a2 a3 a4 a5 a6 a7 a8 a9 a10 a11 a12 a13 a14 a15 = some r) : lz a0 a1 a2 a3 a4 a5 a6 a7 a8 a9 a10 a11 a12 a13 a14 a15 = some (t8 r) := by
 simp only [lz, h, Option.bind_some, t8]
def rS : HK where
 call := fun args σ k => match args with
  | [.agg [.int .u64 a0, .int .u64 a1, .int .u64 a2, .int .u64 a3, .int .u64 a4, .int .u64 a5, .int .u64 a6, .int .u64 a7], .agg [.int .u64 a8, .int .u64 a9, .int .u64 a10, .int .u64 a11, .int .u64 a12, .int .u64 a13, .int .u64 a14, .int .u64 a15]] => Option.bind (jp a0 a1 a2 a3 a4 a5 a6 a7 a8 a9 a10 a11 a12 a13 a14 a15) fun r => k (.ret (.agg [.int .u64 (aa r 0), .int .u64 (aa r 1), .int .u64 (aa r 2), .int .u64 (aa r 3), .int .u64 (aa r 4), .int .u64 (aa r 5), .int .u64 (aa r 6), .int .u64 (aa r 7)])) σ
  | _ => none
 nat := fun args σ k => by
  repeat' split
  all_goals simp only [Option.bind_assoc, Option.bind_none, Option.bind_some]
 pure := true
 pok := fun _ args σ r σ' h => by
  split at h
  ·obtain ⟨q, h1, h2⟩ := bE_ h
   simp only [Option.some.injEq, Prod.mk.injEq] at h2
   obtain ⟨rfl, rfl⟩ := h2
   exact ⟨rfl, ⟨_, rfl⟩, fun σ2 => by simp only [h1, Option.bind_some]⟩
  ·cases h
theorem pZ : aW Try.prog 22 rS := Ch.cJ fun args σ x h => by
 simp only [rS] at h
 split at h
 ·rename_i a0 a1 a2 a3 a4 a5 a6 a7 a8 a9 a10 a11 a12 a13 a14 a15
  obtain ⟨r, h1, h2⟩ := bE_ h
  simp only [qf, Qw h1, Option.bind_some]
  exact h2
 ·cases h
theorem So {a0 a1 a2 a3 a4 a5 a6 a7 a8 a9 a10 a11 a12 a13 a14 a15 r : Int} (h : n8 a0 a1 a2 a3 a4 a5 a6 a7 a8 a9 a10 a11 a12 a13 a14 a15 = some r) : mI a0 a1 a2 a3 a4 a5 a6 a7 a8 a9 a10 a11 a12 a13 a14 a15 = some (t8 r) := by
 simp only [mI, h, Option.bind_some, t8]
def Cd : HK where
 call := fun args σ k => match args with
  | [.agg [.int .u64 a0, .int .u64 a1, .int .u64 a2, .int .u64 a3, .int .u64 a4, .int .u64 a5, .int .u64 a6, .int .u64 a7], .agg [.int .u64 a8, .int .u64 a9, .int .u64 a10, .int .u64 a11, .int .u64 a12, .int .u64 a13, .int .u64 a14, .int .u64 a15]] => Option.bind (n8 a0 a1 a2 a3 a4 a5 a6 a7 a8 a9 a10 a11 a12 a13 a14 a15) fun r => k (.ret (.agg [.int .u64 (aa r 0), .int .u64 (aa r 1), .int .u64 (aa r 2), .int .u64 (aa r 3), .int .u64 (aa r 4), .int .u64 (aa r 5), .int .u64 (aa r 6), .int .u64 (aa r 7)])) σ
  | _ => none
 nat := fun args σ k => by
  repeat' split
  all_goals simp only [Option.bind_assoc, Option.bind_none, Option.bind_some]
 pure := true
 pok := fun _ args σ r σ' h => by
  split at h
  ·obtain ⟨q, h1, h2⟩ := bE_ h
   simp only [Option.some.injEq, Prod.mk.injEq] at h2
   obtain ⟨rfl, rfl⟩ := h2
   exact ⟨rfl, ⟨_, rfl⟩, fun σ2 => by simp only [h1, Option.bind_some]⟩
  ·cases h
theorem Ce : aW Try.prog 39 Cd := Eg.cJ fun args σ x h => by
 simp only [Cd] at h
 split at h
 ·rename_i a0 a1 a2 a3 a4 a5 a6 a7 a8 a9 a10 a11 a12 a13 a14 a15
  obtain ⟨r, h1, h2⟩ := bE_ h
  simp only [rT, So h1, Option.bind_some]
  exact h2
 ·cases h
theorem Sp {a0 a1 a2 a3 a4 a5 a6 a7 a8 a9 a10 a11 a12 a13 a14 a15 r : Int} (h : wQ a0 a1 a2 a3 a4 a5 a6 a7 a8 a9 a10 a11 a12 a13 a14 a15 = some r) : mH a0 a1 a2 a3 a4 a5 a6 a7 a8 a9 a10 a11 a12 a13 a14 a15 = some (t8 r) := by
 simp only [mH, h, Option.bind_some, t8]
def Ci : HK where
 call := fun args σ k => match args with
  | [.agg [.int .u64 a0, .int .u64 a1, .int .u64 a2, .int .u64 a3, .int .u64 a4, .int .u64 a5, .int .u64 a6, .int .u64 a7], .agg [.int .u64 a8, .int .u64 a9, .int .u64 a10, .int .u64 a11, .int .u64 a12, .int .u64 a13, .int .u64 a14, .int .u64 a15]] => Option.bind (wQ a0 a1 a2 a3 a4 a5 a6 a7 a8 a9 a10 a11 a12 a13 a14 a15) fun r => k (.ret (.agg [.int .u64 (aa r 0), .int .u64 (aa r 1), .int .u64 (aa r 2), .int .u64 (aa r 3), .int .u64 (aa r 4), .int .u64 (aa r 5), .int .u64 (aa r 6), .int .u64 (aa r 7)])) σ
  | _ => none
 nat := fun args σ k => by
  repeat' split
  all_goals simp only [Option.bind_assoc, Option.bind_none, Option.bind_some]
 pure := true
 pok := fun _ args σ r σ' h => by
  split at h
  ·obtain ⟨q, h1, h2⟩ := bE_ h
   simp only [Option.some.injEq, Prod.mk.injEq] at h2
   obtain ⟨rfl, rfl⟩ := h2
   exact ⟨rfl, ⟨_, rfl⟩, fun σ2 => by simp only [h1, Option.bind_some]⟩
  ·cases h
theorem Cj : aW Try.prog 70 Ci := Ec.cJ fun args σ x h => by
 simp only [Ci] at h
 split at h
 ·rename_i a0 a1 a2 a3 a4 a5 a6 a7 a8 a9 a10 a11 a12 a13 a14 a15
  obtain ⟨r, h1, h2⟩ := bE_ h
  simp only [rN, Sp h1, Option.bind_some]
  exact h2
 ·cases h
def ba (a0 a1 a2 a3 a4 a5 : Int) : Option Int := af (aZ a0 && aZ a1 && aZ a2 && aZ a3 && aZ a4 && aZ a5) (some (a0 * a3 + a1 * a4 + a2 * a5))
theorem TH {a0 a1 a2 a3 a4 a5 r : Int} (h : ba a0 a1 a2 a3 a4 a5 = some r) : pP a0 a1 a2 a3 a4 a5 = some (t8 r) := by
 unfold ba at h
 obtain ⟨h1, h2⟩ := aH h
 simp only [Bool.and_eq_true] at h1
 simp only [Option.some.injEq] at h2
 subst h2
 exact Ud h1.1.1.1.1.1 h1.1.1.1.1.2 h1.1.1.1.2 h1.1.1.2 h1.1.2 h1.2
theorem R5 {a0 a1 a2 a3 a4 a5 : Int} (h0 : aZ a0 = true) (h1 : aZ a1 = true) (h2 : aZ a2 = true) (h3 : aZ a3 = true) (h4 : aZ a4 = true) (h5 : aZ a5 = true) : ba a0 a1 a2 a3 a4 a5 = some (a0 * a3 + a1 * a4 + a2 * a5) := by
 unfold ba; rw [h0, h1, h2, h3, h4, h5]; rfl
def Gu : HK where
 call := fun args σ k => match args with
  | [.agg [.int .i64 a0, .int .i64 a1, .int .i64 a2], .agg [.int .i64 a3, .int .i64 a4, .int .i64 a5]] => Option.bind (ba a0 a1 a2 a3 a4 a5) fun r => k (.ret (.agg [.int .u64 (aa r 0), .int .u64 (aa r 1), .int .u64 (aa r 2), .int .u64 (aa r 3), .int .u64 (aa r 4), .int .u64 (aa r 5), .int .u64 (aa r 6), .int .u64 (aa r 7)])) σ
  | _ => none
 nat := fun args σ k => by
  repeat' split
  all_goals simp only [Option.bind_assoc, Option.bind_none, Option.bind_some]
 pure := true
 pok := fun _ args σ r σ' h => by
  split at h
  ·obtain ⟨q, h1, h2⟩ := bE_ h
   simp only [Option.some.injEq, Prod.mk.injEq] at h2
   obtain ⟨rfl, rfl⟩ := h2
   exact ⟨rfl, ⟨_, rfl⟩, fun σ2 => by simp only [h1, Option.bind_some]⟩
  ·cases h
theorem Fh : aW Try.prog 68 Gu := JI.cJ fun args σ x h => by
 simp only [Gu] at h
 split at h
 ·rename_i a0 a1 a2 a3 a4 a5
  obtain ⟨r, h1, h2⟩ := bE_ h
  simp only [zF, TH h1, Option.bind_some]
  exact h2
 ·cases h
def mC (a0 a1 a2 a3 a4 a5 a6 a7 a8 a9 a10 a11 a12 a13 a14 a15 a16 a17 a18 a19 a20 a21 a22 a23 a24 a25 a26 : Int) : Option Int := af (ok8 a0 a1 a2 a3 a4 a5 a6 a7 && ok8 a8 a9 a10 a11 a12 a13 a14 a15 && ok8 a16 a17 a18 a19 a20 a21 a22 a23 && aZ a24 && aZ a25 && aZ a26 && fE ((num a0 a1 a2 a3 a4 a5 a6 a7) * a24) && fE ((num a8 a9 a10 a11 a12 a13 a14 a15) * a25) && fE ((num a16 a17 a18 a19 a20 a21 a22 a23) * a26) && fE ((num a0 a1 a2 a3 a4 a5 a6 a7) * a24 + (num a8 a9 a10 a11 a12 a13 a14 a15) * a25) && fE ((num a0 a1 a2 a3 a4 a5 a6 a7) * a24 + (num a8 a9 a10 a11 a12 a13 a14 a15) * a25 + (num a16 a17 a18 a19 a20 a21 a22 a23) * a26)) (some ((num a0 a1 a2 a3 a4 a5 a6 a7) * a24 + (num a8 a9 a10 a11 a12 a13 a14 a15) * a25 + (num a16 a17 a18 a19 a20 a21 a22 a23) * a26))
theorem O8 {a0 a1 a2 a3 a4 a5 a6 a7 a8 a9 a10 a11 a12 a13 a14 a15 a16 a17 a18 a19 a20 a21 a22 a23 a24 a25 a26 r : Int} (h : mC a0 a1 a2 a3 a4 a5 a6 a7 a8 a9 a10 a11 a12 a13 a14 a15 a16 a17 a18 a19 a20 a21 a22 a23 a24 a25 a26 = some r) : gN a0 a1 a2 a3 a4 a5 a6 a7 a8 a9 a10 a11 a12 a13 a14 a15 a16 a17 a18 a19 a20 a21 a22 a23 a24 a25 a26 = some (t9 r true) := by
 unfold mC at h
 obtain ⟨h1, h2⟩ := aH h
 simp only [Bool.and_eq_true, and_assoc] at h1
 obtain ⟨o1, o2, o3, r1, r2, r3, f1, f2, f3, f4, f5⟩ := h1
 simp only [Option.some.injEq] at h2
 subst h2
 have q := IV (fF o1) (fF o2) (fF o3) r1 r2 r3 (bV.1 f1) (bV.1 f2) (bV.1 f3) (bV.1 f4) (bV.1 f5)
 obtain ⟨e10, e11, e12, e13, e14, e15, e16, e17⟩ := aQ o1
 obtain ⟨e20, e21, e22, e23, e24, e25, e26, e27⟩ := aQ o2
 obtain ⟨e30, e31, e32, e33, e34, e35, e36, e37⟩ := aQ o3
 rw [e10, e11, e12, e13, e14, e15, e16, e17, e20, e21, e22, e23, e24, e25, e26, e27, e30, e31, e32, e33, e34, e35, e36, e37] at q
 exact q
def O9 (x y z a b c : Int) : Option Int := mC (aa x 0) (aa x 1) (aa x 2) (aa x 3) (aa x 4) (aa x 5) (aa x 6) (aa x 7) (aa y 0) (aa y 1) (aa y 2) (aa y 3) (aa y 4) (aa y 5) (aa y 6) (aa y 7) (aa z 0) (aa z 1) (aa z 2) (aa z 3) (aa z 4) (aa z 5) (aa z 6) (aa z 7) a b c
theorem Jv {x y z a b c : Int} (hx : fit x) (hy : fit y) (hz : fit z) (ha : aZ a = true) (hb : aZ b = true) (hc : aZ c = true) (h1 : fit (x * a)) (h2 : fit (y * b)) (h3 : fit (z * c)) (h4 : fit (x * a + y * b)) (h5 : fit (x * a + y * b + z * c)) : O9 x y z a b c = some (x * a + y * b + z * c) := by
 unfold O9 mC; rw [bz, bz, bz, aG hx, aG hy, aG hz, ha, hb, hc, bV.2 h1, bV.2 h2, bV.2 h3, bV.2 h4, bV.2 h5]; rfl
def zD : HK where
 call := fun args σ k => match args with
  | [.agg [.int .u64 a0, .int .u64 a1, .int .u64 a2, .int .u64 a3, .int .u64 a4, .int .u64 a5, .int .u64 a6, .int .u64 a7, .int .u64 a8, .int .u64 a9, .int .u64 a10, .int .u64 a11, .int .u64 a12, .int .u64 a13, .int .u64 a14, .int .u64 a15, .int .u64 a16, .int .u64 a17, .int .u64 a18, .int .u64 a19, .int .u64 a20, .int .u64 a21, .int .u64 a22, .int .u64 a23], .agg [.int .i64 a24, .int .i64 a25, .int .i64 a26]] => Option.bind (mC a0 a1 a2 a3 a4 a5 a6 a7 a8 a9 a10 a11 a12 a13 a14 a15 a16 a17 a18 a19 a20 a21 a22 a23 a24 a25 a26) fun r => k (.ret (.tup [.agg [.int .u64 (aa r 0), .int .u64 (aa r 1), .int .u64 (aa r 2), .int .u64 (aa r 3), .int .u64 (aa r 4), .int .u64 (aa r 5), .int .u64 (aa r 6), .int .u64 (aa r 7)], .bool true])) σ
  | _ => none
 nat := fun args σ k => by
  repeat' split
  all_goals simp only [Option.bind_assoc, Option.bind_none, Option.bind_some]
 pure := true
 pok := fun _ args σ r σ' h => by
  split at h
  ·obtain ⟨q, h1, h2⟩ := bE_ h
   simp only [Option.some.injEq, Prod.mk.injEq] at h2
   obtain ⟨rfl, rfl⟩ := h2
   exact ⟨rfl, ⟨_, rfl⟩, fun σ2 => by simp only [h1, Option.bind_some]⟩
  ·cases h
theorem Ez : aW Try.prog 20 zD := pM.cJ fun args σ x h => by
 simp only [zD] at h
 split at h
 ·rename_i a0 a1 a2 a3 a4 a5 a6 a7 a8 a9 a10 a11 a12 a13 a14 a15 a16 a17 a18 a19 a20 a21 a22 a23 a24 a25 a26
  obtain ⟨r, h1, h2⟩ := bE_ h
  simp only [lF, O8 h1, Option.bind_some]
  exact h2
 ·cases h
abbrev nv := (I8 (LA_ × Nat))
def mZ : CH := (CH.add 19 Ic CH.none)
def nM : CH := vm Try.prog jm [69] 60 mZ 5
theorem tP : aE Try.prog mZ := (CH.aj Dc CH.aB)
theorem uJ : aE Try.prog nM := iF aJ mixed bG tP 5
def rA (u0 u1 u2 : Int) : Option (nv) :=
 (Option.bind (cOf 1) fun r1 => (some (aX r1 (((v8 (aa r1 0) (aa r1 1) (aa r1 2) (aa r1 3) (aa r1 4) (aa r1 5) (aa r1 6) (aa r1 7) []) : LA_), 1))))
def jH : FD where
 X := nv
 k := 1
 pre := [(2, 8)]
 F := fun s => [0, nameAt s 0 [.c 0]]
 M := .tup [.vec 1, .agg (rl (.int .u64) 8 [])]
 B := [.vec 8 true]
 toL := fun x => [.I x.1, .I x.2.1, .I x.2.2.1, .I x.2.2.2.1, .I x.s4.1, .I x.s4.2.1, .I x.s4.2.2.1, .I x.s4.2.2.2.1, .C x.s8.1, .N x.s8.2]
 ofL := fun ls => match ls with
  | [.I x0, .I x1, .I x2, .I x3, .I x4, .I x5, .I x6, .I x7, .C x8, .N x9] => some (x0, x1, x2, x3, x4, x5, x6, x7, x8, x9)
  | _ => none
 au := fun ls x h => by
  split at h
  ·cases h; rfl
  ·cases h
theorem wE (u0 u1 u2 : Int) (x : nv) (h : rA u0 u1 u2 = some x) : bc Try.prog 44 1 [.vec 0] [.vec [.int .i64 u0, .int .i64 u1, .int .i64 u2] 1 3 false] jH x :=
 FD.sem (ch := nM) (A := bt) (fn := Try.f44) (c := bq Try.f44) (fuel := 60) aJ uJ mixed bG jH Try.func44 (by kernel_rfl) (aI (l := [aK Try.f44 0, aK Try.f44 1]) (by kernel_rfl) ⟨(eh (by kernel_rfl)), (eh (by kernel_rfl)), trivial⟩)
  (by kernel_rfl) (Eq.trans (by kernel_rfl) h)
def Ea : CH := CH.none
theorem zM : aE Try.prog Ea := CH.aB
def cG (a0 a1 a2 a3 a4 a5 : Int) : Option (Int × Int × Int) :=
 (some ((IntKind.wrap .i64 (a0 - a3)), (IntKind.wrap .i64 (a1 - a4)), (IntKind.wrap .i64 (a2 - a5))))
def kf : FD where
 X := Int × Int × Int
 k := 0
 pre := []
 F := fun s => []
 M := .agg [.int .i64, .int .i64, .int .i64]
 B := []
 toL := fun x => [.I x.1, .I x.2.1, .I x.2.2]
 ofL := fun ls => match ls with
  | [.I x0, .I x1, .I x2] => some (x0, x1, x2)
  | _ => none
 au := fun ls x h => by
  split at h
  ·cases h; rfl
  ·cases h
theorem B7 (a0 a1 a2 a3 a4 a5 : Int) (x : Int × Int × Int) (h : cG a0 a1 a2 a3 a4 a5 = some x) : bc Try.prog 65 0 [.agg [.int .i64 a0, .int .i64 a1, .int .i64 a2], .agg [.int .i64 a3, .int .i64 a4, .int .i64 a5]] [] kf x :=
 FD.semA kf zM Try.func65 (fuel := 60) (by kernel_rfl) (by kernel_rfl)
  (by kernel_rfl) (Eq.trans (by kernel_rfl) h)
def jD : HK where
 call := fun args σ k => match args with
  | [.agg [.int .i64 a0, .int .i64 a1, .int .i64 a2], .agg [.int .i64 a3, .int .i64 a4, .int .i64 a5]] => Option.bind (cG a0 a1 a2 a3 a4 a5) fun y => aA σ 0 (kf.val y) (kf.aL y) k
  | _ => none
 nat := fun args σ k => by
  repeat' split
  all_goals simp only [aw, ai, Option.bind_assoc, Option.bind_none, aA, Option.bind_some]
 pure := true
 pok := fun _ args σ r σ' h => by
  split at h
  ·exact bp h (fun y => rfl) (fun y f => rfl)
  ·cases h
theorem nr : aW Try.prog 65 jD := by
 intro args σ r σ' h
 simp only [jD] at h
 split at h
 ·rename_i a0 a1 a2 a3 a4 a5
  obtain ⟨y, hy, h⟩ := bE_ h
  exact lifted (xs := []) (ls := []) (cargs := [.agg [.int .i64 a0, .int .i64 a1, .int .i64 a2], .agg [.int .i64 a3, .int .i64 a4, .int .i64 a5]]) (bv.of trivial) rfl (B7 a0 a1 a2 a3 a4 a5 y hy) rfl rfl rfl rfl h
 ·cases h
abbrev nw := (I8 (LA_ × Nat))
def m7 : CH := (CH.add 65 jD (CH.add 70 Ci (CH.add 68 Gu (CH.add 67 yJ CH.none))))
def nN : CH := vm Try.prog jm [66, 69, 84] 60 m7 5
theorem tQ : aE Try.prog m7 := (CH.aj nr (CH.aj Cj (CH.aj Fh (CH.aj wR CH.aB))))
theorem uK : aE Try.prog nN := iF aJ mixed bG tQ 5
def hF (u0 u1 u2 u3 u4 u5 : Int) : Option (nw) :=
 (Option.bind (cG u3 u4 u5 u0 u1 u2) fun r1 => (Option.bind (ba r1.1 r1.2.1 r1.2.2 r1.1 r1.2.1 r1.2.2) fun r2 => (Option.bind (ba r1.1 r1.2.1 r1.2.2 u0 u1 u2) fun r3 => (Option.bind (gc r3) fun r4 => (Option.bind (eO r2 r4) fun r5 => (some (aX r2 (((v8 (aa r5 0) (aa r5 1) (aa r5 2) (aa r5 3) (aa r5 4) (aa r5 5) (aa r5 6) (aa r5 7) (v8 (aa r4 0) (aa r4 1) (aa r4 2) (aa r4 3) (aa r4 4) (aa r4 5) (aa r4 6) (aa r4 7) [])) : LA_), 2))))))))
def ph : FD where
 X := nw
 k := 1
 pre := [(2, 8)]
 F := fun s => [0, nameAt s 0 [.c 0]]
 M := .tup [.vec 1, .agg (rl (.int .u64) 8 [])]
 B := [.vec 8 true]
 toL := fun x => [.I x.1, .I x.2.1, .I x.2.2.1, .I x.2.2.2.1, .I x.s4.1, .I x.s4.2.1, .I x.s4.2.2.1, .I x.s4.2.2.2.1, .C x.s8.1, .N x.s8.2]
 ofL := fun ls => match ls with
  | [.I x0, .I x1, .I x2, .I x3, .I x4, .I x5, .I x6, .I x7, .C x8, .N x9] => some (x0, x1, x2, x3, x4, x5, x6, x7, x8, x9)
  | _ => none
 au := fun ls x h => by
  split at h
  ·cases h; rfl
  ·cases h
theorem wF (u0 u1 u2 u3 u4 u5 : Int) (x : nw) (h : hF u0 u1 u2 u3 u4 u5 = some x) : bc Try.prog 44 1 [.vec 0] [.vec [.int .i64 u0, .int .i64 u1, .int .i64 u2, .int .i64 u3, .int .i64 u4, .int .i64 u5] 2 3 false] ph x :=
 FD.sem (ch := nN) (A := bt) (fn := Try.f44) (c := bq Try.f44) (fuel := 60) aJ uK mixed bG ph Try.func44 (by kernel_rfl) (aI (l := [aK Try.f44 0, aK Try.f44 1]) (by kernel_rfl) ⟨(eh (by kernel_rfl)), (eh (by kernel_rfl)), trivial⟩)
  (by kernel_rfl) (Eq.trans (by kernel_rfl) h)
abbrev nx := (I8 (LA_ × Nat))
def m8 : CH := (CH.add 65 jD (CH.add 70 Ci (CH.add 68 Gu (CH.add 67 yJ (CH.add 22 rS CH.none)))))
def nO : CH := vm Try.prog jm [66, 69, 84, 85] 60 m8 5
theorem tR : aE Try.prog m8 := (CH.aj nr (CH.aj Cj (CH.aj Fh (CH.aj wR (CH.aj pZ CH.aB)))))
theorem uL : aE Try.prog nO := iF aJ mixed bG tR 5
def hU (u0 u1 u2 u3 u4 u5 u6 u7 u8 : Int) : Option (nx) :=
 (Option.bind (cG u3 u4 u5 u0 u1 u2) fun r1 => (Option.bind (cG u6 u7 u8 u0 u1 u2) fun r2 => (Option.bind (ba r1.1 r1.2.1 r1.2.2 r1.1 r1.2.1 r1.2.2) fun r3 => (Option.bind (ba r2.1 r2.2.1 r2.2.2 r2.1 r2.2.1 r2.2.2) fun r4 => (Option.bind (cq r3 r4) fun r5 => (Option.bind (ba r1.1 r1.2.1 r1.2.2 r2.1 r2.2.1 r2.2.2) fun r6 => (Option.bind (ba r2.1 r2.2.1 r2.2.2 r1.1 r1.2.1 r1.2.2) fun r7 => (Option.bind (cq r6 r7) fun r8 => (Option.bind (eO r5 r8) fun r9 => (Option.bind (ba r1.1 r1.2.1 r1.2.2 u0 u1 u2) fun r10 => (Option.bind (gc r10) fun r11 => (Option.bind (ba r2.1 r2.2.1 r2.2.2 r2.1 r2.2.1 r2.2.2) fun r12 => (Option.bind (cq r11 r12) fun r13 => (Option.bind (ba r1.1 r1.2.1 r1.2.2 r2.1 r2.2.1 r2.2.2) fun r14 => (Option.bind (ba r2.1 r2.2.1 r2.2.2 u0 u1 u2) fun r15 => (Option.bind (gc r15) fun r16 => (Option.bind (cq r14 r16) fun r17 => (Option.bind (eO r13 r17) fun r18 => (Option.bind (eO r9 r18) fun r19 => (Option.bind (ba r1.1 r1.2.1 r1.2.2 r1.1 r1.2.1 r1.2.2) fun r20 => (Option.bind (ba r2.1 r2.2.1 r2.2.2 u0 u1 u2) fun r21 => (Option.bind (gc r21) fun r22 => (Option.bind (cq r20 r22) fun r23 => (Option.bind (ba r1.1 r1.2.1 r1.2.2 u0 u1 u2) fun r24 => (Option.bind (gc r24) fun r25 => (Option.bind (ba r2.1 r2.2.1 r2.2.2 r1.1 r1.2.1 r1.2.2) fun r26 => (Option.bind (cq r25 r26) fun r27 => (Option.bind (eO r23 r27) fun r28 => (Option.bind (eO r19 r28) fun r29 => (some (aX r9 (((v8 (aa r29 0) (aa r29 1) (aa r29 2) (aa r29 3) (aa r29 4) (aa r29 5) (aa r29 6) (aa r29 7) (v8 (aa r18 0) (aa r18 1) (aa r18 2) (aa r18 3) (aa r18 4) (aa r18 5) (aa r18 6) (aa r18 7) (v8 (aa r28 0) (aa r28 1) (aa r28 2) (aa r28 3) (aa r28 4) (aa r28 5) (aa r28 6) (aa r28 7) []))) : LA_), 3))))))))))))))))))))))))))))))))
def pi : FD where
 X := nx
 k := 1
 pre := [(2, 8)]
 F := fun s => [0, nameAt s 0 [.c 0]]
 M := .tup [.vec 1, .agg (rl (.int .u64) 8 [])]
 B := [.vec 8 true]
 toL := fun x => [.I x.1, .I x.2.1, .I x.2.2.1, .I x.2.2.2.1, .I x.s4.1, .I x.s4.2.1, .I x.s4.2.2.1, .I x.s4.2.2.2.1, .C x.s8.1, .N x.s8.2]
 ofL := fun ls => match ls with
  | [.I x0, .I x1, .I x2, .I x3, .I x4, .I x5, .I x6, .I x7, .C x8, .N x9] => some (x0, x1, x2, x3, x4, x5, x6, x7, x8, x9)
  | _ => none
 au := fun ls x h => by
  split at h
  ·cases h; rfl
  ·cases h
theorem wG (u0 u1 u2 u3 u4 u5 u6 u7 u8 : Int) (x : nx) (h : hU u0 u1 u2 u3 u4 u5 u6 u7 u8 = some x) : bc Try.prog 44 1 [.vec 0] [.vec [.int .i64 u0, .int .i64 u1, .int .i64 u2, .int .i64 u3, .int .i64 u4, .int .i64 u5, .int .i64 u6, .int .i64 u7, .int .i64 u8] 3 3 false] pi x :=
 FD.sem (ch := nO) (A := bt) (fn := Try.f44) (c := bq Try.f44) (fuel := 60) aJ uL mixed bG pi Try.func44 (by kernel_rfl) (aI (l := [aK Try.f44 0, aK Try.f44 1]) (by kernel_rfl) ⟨(eh (by kernel_rfl)), (eh (by kernel_rfl)), trivial⟩)
  (by kernel_rfl) (Eq.trans (by kernel_rfl) h)
abbrev ny := (I8 (LA_ × Nat))
def m9 : CH := (CH.add 65 jD (CH.add 70 Ci (CH.add 68 Gu (CH.add 67 yJ (CH.add 39 Cd (CH.add 22 rS CH.none))))))
def nP : CH := vm Try.prog jm [66, 69, 84, 85] 60 m9 5
theorem tS : aE Try.prog m9 := (CH.aj nr (CH.aj Cj (CH.aj Fh (CH.aj wR (CH.aj Ce (CH.aj pZ CH.aB))))))
theorem uM : aE Try.prog nP := iF aJ mixed bG tS 5
def ia (u0 u1 u2 u3 u4 u5 u6 u7 u8 u9 u10 u11 : Int) : Option (ny) :=
 (Option.bind (cG u3 u4 u5 u0 u1 u2) fun r1 => (Option.bind (cG u6 u7 u8 u0 u1 u2) fun r2 => (Option.bind (cG u9 u10 u11 u0 u1 u2) fun r3 => (Option.bind (ba r1.1 r1.2.1 r1.2.2 r1.1 r1.2.1 r1.2.2) fun r4 => (Option.bind (ba r2.1 r2.2.1 r2.2.2 r2.1 r2.2.1 r2.2.2) fun r5 => (Option.bind (ba r3.1 r3.2.1 r3.2.2 r3.1 r3.2.1 r3.2.2) fun r6 => (Option.bind (cq r5 r6) fun r7 => (Option.bind (ba r2.1 r2.2.1 r2.2.2 r3.1 r3.2.1 r3.2.2) fun r8 => (Option.bind (ba r3.1 r3.2.1 r3.2.2 r2.1 r2.2.1 r2.2.2) fun r9 => (Option.bind (cq r8 r9) fun r10 => (Option.bind (eO r7 r10) fun r11 => (Option.bind (cq r4 r11) fun r12 => (Option.bind (ba r1.1 r1.2.1 r1.2.2 r2.1 r2.2.1 r2.2.2) fun r13 => (Option.bind (ba r2.1 r2.2.1 r2.2.2 r1.1 r1.2.1 r1.2.2) fun r14 => (Option.bind (ba r3.1 r3.2.1 r3.2.2 r3.1 r3.2.1 r3.2.2) fun r15 => (Option.bind (cq r14 r15) fun r16 => (Option.bind (ba r2.1 r2.2.1 r2.2.2 r3.1 r3.2.1 r3.2.2) fun r17 => (Option.bind (ba r3.1 r3.2.1 r3.2.2 r1.1 r1.2.1 r1.2.2) fun r18 => (Option.bind (cq r17 r18) fun r19 => (Option.bind (eO r16 r19) fun r20 => (Option.bind (cq r13 r20) fun r21 => (Option.bind (eO r12 r21) fun r22 => (Option.bind (ba r1.1 r1.2.1 r1.2.2 r3.1 r3.2.1 r3.2.2) fun r23 => (Option.bind (ba r2.1 r2.2.1 r2.2.2 r1.1 r1.2.1 r1.2.2) fun r24 => (Option.bind (ba r3.1 r3.2.1 r3.2.2 r2.1 r2.2.1 r2.2.2) fun r25 => (Option.bind (cq r24 r25) fun r26 => (Option.bind (ba r2.1 r2.2.1 r2.2.2 r2.1 r2.2.1 r2.2.2) fun r27 => (Option.bind (ba r3.1 r3.2.1 r3.2.2 r1.1 r1.2.1 r1.2.2) fun r28 => (Option.bind (cq r27 r28) fun r29 => (Option.bind (eO r26 r29) fun r30 => (Option.bind (cq r23 r30) fun r31 => (Option.bind (xO r22 r31) fun r32 => (Option.bind (ba r1.1 r1.2.1 r1.2.2 u0 u1 u2) fun r33 => (Option.bind (gc r33) fun r34 => (Option.bind (ba r2.1 r2.2.1 r2.2.2 r2.1 r2.2.1 r2.2.2) fun r35 => (Option.bind (ba r3.1 r3.2.1 r3.2.2 r3.1 r3.2.1 r3.2.2) fun r36 => (Option.bind (cq r35 r36) fun r37 => (Option.bind (ba r2.1 r2.2.1 r2.2.2 r3.1 r3.2.1 r3.2.2) fun r38 => (Option.bind (ba r3.1 r3.2.1 r3.2.2 r2.1 r2.2.1 r2.2.2) fun r39 => (Option.bind (cq r38 r39) fun r40 => (Option.bind (eO r37 r40) fun r41 => (Option.bind (cq r34 r41) fun r42 => (Option.bind (ba r1.1 r1.2.1 r1.2.2 r2.1 r2.2.1 r2.2.2) fun r43 => (Option.bind (ba r2.1 r2.2.1 r2.2.2 u0 u1 u2) fun r44 => (Option.bind (gc r44) fun r45 => (Option.bind (ba r3.1 r3.2.1 r3.2.2 r3.1 r3.2.1 r3.2.2) fun r46 => (Option.bind (cq r45 r46) fun r47 => (Option.bind (ba r2.1 r2.2.1 r2.2.2 r3.1 r3.2.1 r3.2.2) fun r48 => (Option.bind (ba r3.1 r3.2.1 r3.2.2 u0 u1 u2) fun r49 => (Option.bind (gc r49) fun r50 => (Option.bind (cq r48 r50) fun r51 => (Option.bind (eO r47 r51) fun r52 => (Option.bind (cq r43 r52) fun r53 => (Option.bind (eO r42 r53) fun r54 => (Option.bind (ba r1.1 r1.2.1 r1.2.2 r3.1 r3.2.1 r3.2.2) fun r55 => (Option.bind (ba r2.1 r2.2.1 r2.2.2 u0 u1 u2) fun r56 => (Option.bind (gc r56) fun r57 => (Option.bind (ba r3.1 r3.2.1 r3.2.2 r2.1 r2.2.1 r2.2.2) fun r58 => (Option.bind (cq r57 r58) fun r59 => (Option.bind (ba r2.1 r2.2.1 r2.2.2 r2.1 r2.2.1 r2.2.2) fun r60 => (Option.bind (ba r3.1 r3.2.1 r3.2.2 u0 u1 u2) fun r61 => (Option.bind (gc r61) fun r62 => (Option.bind (cq r60 r62) fun r63 => (Option.bind (eO r59 r63) fun r64 => (Option.bind (cq r55 r64) fun r65 => (Option.bind (xO r54 r65) fun r66 => (Option.bind (eO r32 r66) fun r67 => (Option.bind (ba r1.1 r1.2.1 r1.2.2 r1.1 r1.2.1 r1.2.2) fun r68 => (Option.bind (ba r2.1 r2.2.1 r2.2.2 u0 u1 u2) fun r69 => (Option.bind (gc r69) fun r70 => (Option.bind (ba r3.1 r3.2.1 r3.2.2 r3.1 r3.2.1 r3.2.2) fun r71 => (Option.bind (cq r70 r71) fun r72 => (Option.bind (ba r2.1 r2.2.1 r2.2.2 r3.1 r3.2.1 r3.2.2) fun r73 => (Option.bind (ba r3.1 r3.2.1 r3.2.2 u0 u1 u2) fun r74 => (Option.bind (gc r74) fun r75 => (Option.bind (cq r73 r75) fun r76 => (Option.bind (eO r72 r76) fun r77 => (Option.bind (cq r68 r77) fun r78 => (Option.bind (ba r1.1 r1.2.1 r1.2.2 u0 u1 u2) fun r79 => (Option.bind (gc r79) fun r80 => (Option.bind (ba r2.1 r2.2.1 r2.2.2 r1.1 r1.2.1 r1.2.2) fun r81 => (Option.bind (ba r3.1 r3.2.1 r3.2.2 r3.1 r3.2.1 r3.2.2) fun r82 => (Option.bind (cq r81 r82) fun r83 => (Option.bind (ba r2.1 r2.2.1 r2.2.2 r3.1 r3.2.1 r3.2.2) fun r84 => (Option.bind (ba r3.1 r3.2.1 r3.2.2 r1.1 r1.2.1 r1.2.2) fun r85 => (Option.bind (cq r84 r85) fun r86 => (Option.bind (eO r83 r86) fun r87 => (Option.bind (cq r80 r87) fun r88 => (Option.bind (eO r78 r88) fun r89 => (Option.bind (ba r1.1 r1.2.1 r1.2.2 r3.1 r3.2.1 r3.2.2) fun r90 => (Option.bind (ba r2.1 r2.2.1 r2.2.2 r1.1 r1.2.1 r1.2.2) fun r91 => (Option.bind (ba r3.1 r3.2.1 r3.2.2 u0 u1 u2) fun r92 => (Option.bind (gc r92) fun r93 => (Option.bind (cq r91 r93) fun r94 => (Option.bind (ba r2.1 r2.2.1 r2.2.2 u0 u1 u2) fun r95 => (Option.bind (gc r95) fun r96 => (Option.bind (ba r3.1 r3.2.1 r3.2.2 r1.1 r1.2.1 r1.2.2) fun r97 => (Option.bind (cq r96 r97) fun r98 => (Option.bind (eO r94 r98) fun r99 => (Option.bind (cq r90 r99) fun r100 => (Option.bind (xO r89 r100) fun r101 => (Option.bind (eO r67 r101) fun r102 => (Option.bind (ba r1.1 r1.2.1 r1.2.2 r1.1 r1.2.1 r1.2.2) fun r103 => (Option.bind (ba r2.1 r2.2.1 r2.2.2 r2.1 r2.2.1 r2.2.2) fun r104 => (Option.bind (ba r3.1 r3.2.1 r3.2.2 u0 u1 u2) fun r105 => (Option.bind (gc r105) fun r106 => (Option.bind (cq r104 r106) fun r107 => (Option.bind (ba r2.1 r2.2.1 r2.2.2 u0 u1 u2) fun r108 => (Option.bind (gc r108) fun r109 => (Option.bind (ba r3.1 r3.2.1 r3.2.2 r2.1 r2.2.1 r2.2.2) fun r110 => (Option.bind (cq r109 r110) fun r111 => (Option.bind (eO r107 r111) fun r112 => (Option.bind (cq r103 r112) fun r113 => (Option.bind (ba r1.1 r1.2.1 r1.2.2 r2.1 r2.2.1 r2.2.2) fun r114 => (Option.bind (ba r2.1 r2.2.1 r2.2.2 r1.1 r1.2.1 r1.2.2) fun r115 => (Option.bind (ba r3.1 r3.2.1 r3.2.2 u0 u1 u2) fun r116 => (Option.bind (gc r116) fun r117 => (Option.bind (cq r115 r117) fun r118 => (Option.bind (ba r2.1 r2.2.1 r2.2.2 u0 u1 u2) fun r119 => (Option.bind (gc r119) fun r120 => (Option.bind (ba r3.1 r3.2.1 r3.2.2 r1.1 r1.2.1 r1.2.2) fun r121 => (Option.bind (cq r120 r121) fun r122 => (Option.bind (eO r118 r122) fun r123 => (Option.bind (cq r114 r123) fun r124 => (Option.bind (eO r113 r124) fun r125 => (Option.bind (ba r1.1 r1.2.1 r1.2.2 u0 u1 u2) fun r126 => (Option.bind (gc r126) fun r127 => (Option.bind (ba r2.1 r2.2.1 r2.2.2 r1.1 r1.2.1 r1.2.2) fun r128 => (Option.bind (ba r3.1 r3.2.1 r3.2.2 r2.1 r2.2.1 r2.2.2) fun r129 => (Option.bind (cq r128 r129) fun r130 => (Option.bind (ba r2.1 r2.2.1 r2.2.2 r2.1 r2.2.1 r2.2.2) fun r131 => (Option.bind (ba r3.1 r3.2.1 r3.2.2 r1.1 r1.2.1 r1.2.2) fun r132 => (Option.bind (cq r131 r132) fun r133 => (Option.bind (eO r130 r133) fun r134 => (Option.bind (cq r127 r134) fun r135 => (Option.bind (xO r125 r135) fun r136 => (Option.bind (eO r102 r136) fun r137 => (some (aX r32 (((v8 (aa r137 0) (aa r137 1) (aa r137 2) (aa r137 3) (aa r137 4) (aa r137 5) (aa r137 6) (aa r137 7) (v8 (aa r66 0) (aa r66 1) (aa r66 2) (aa r66 3) (aa r66 4) (aa r66 5) (aa r66 6) (aa r66 7) (v8 (aa r101 0) (aa r101 1) (aa r101 2) (aa r101 3) (aa r101 4) (aa r101 5) (aa r101 6) (aa r101 7) (v8 (aa r136 0) (aa r136 1) (aa r136 2) (aa r136 3) (aa r136 4) (aa r136 5) (aa r136 6) (aa r136 7) [])))) : LA_), 4))))))))))))))))))))))))))))))))))))))))))))))))))))))))))))))))))))))))))))))))))))))))))))))))))))))))))))))))))))))))))))))))))))))))))))
def pj : FD where
 X := ny
 k := 1
 pre := [(2, 8)]
 F := fun s => [0, nameAt s 0 [.c 0]]
 M := .tup [.vec 1, .agg (rl (.int .u64) 8 [])]
 B := [.vec 8 true]
 toL := fun x => [.I x.1, .I x.2.1, .I x.2.2.1, .I x.2.2.2.1, .I x.s4.1, .I x.s4.2.1, .I x.s4.2.2.1, .I x.s4.2.2.2.1, .C x.s8.1, .N x.s8.2]
 ofL := fun ls => match ls with
  | [.I x0, .I x1, .I x2, .I x3, .I x4, .I x5, .I x6, .I x7, .C x8, .N x9] => some (x0, x1, x2, x3, x4, x5, x6, x7, x8, x9)
  | _ => none
 au := fun ls x h => by
  split at h
  ·cases h; rfl
  ·cases h
theorem wH (u0 u1 u2 u3 u4 u5 u6 u7 u8 u9 u10 u11 : Int) (x : ny) (h : ia u0 u1 u2 u3 u4 u5 u6 u7 u8 u9 u10 u11 = some x) : bc Try.prog 44 1 [.vec 0] [.vec [.int .i64 u0, .int .i64 u1, .int .i64 u2, .int .i64 u3, .int .i64 u4, .int .i64 u5, .int .i64 u6, .int .i64 u7, .int .i64 u8, .int .i64 u9, .int .i64 u10, .int .i64 u11] 4 3 false] pj x :=
 FD.sem (ch := nP) (A := bt) (fn := Try.f44) (c := bq Try.f44) (fuel := 60) aJ uM mixed bG pj Try.func44 (by kernel_rfl) (aI (l := [aK Try.f44 0, aK Try.f44 1]) (by kernel_rfl) ⟨(eh (by kernel_rfl)), (eh (by kernel_rfl)), trivial⟩)
  (by kernel_rfl) (Eq.trans (by kernel_rfl) h)
def gt (cs0 : LA_) (n1 : Nat) : Option ((I8 (LA_ × Nat))) := match cs0, n1 with
 | [.int .i64 u0, .int .i64 u1, .int .i64 u2], 1 => rA u0 u1 u2
 | [.int .i64 u0, .int .i64 u1, .int .i64 u2, .int .i64 u3, .int .i64 u4, .int .i64 u5], 2 => hF u0 u1 u2 u3 u4 u5
 | [.int .i64 u0, .int .i64 u1, .int .i64 u2, .int .i64 u3, .int .i64 u4, .int .i64 u5, .int .i64 u6, .int .i64 u7, .int .i64 u8], 3 => hU u0 u1 u2 u3 u4 u5 u6 u7 u8
 | [.int .i64 u0, .int .i64 u1, .int .i64 u2, .int .i64 u3, .int .i64 u4, .int .i64 u5, .int .i64 u6, .int .i64 u7, .int .i64 u8, .int .i64 u9, .int .i64 u10, .int .i64 u11], 4 => ia u0 u1 u2 u3 u4 u5 u6 u7 u8 u9 u10 u11
 | _, _ => none
def dn : FD := jH
theorem yL (cs0 : LA_) (n1 : Nat) (x : (I8 (LA_ × Nat))) (h : gt cs0 n1 = some x) : bc Try.prog 44 1 [.vec 0] [.vec cs0 n1 3 false] dn x := by
 unfold gt at h
 split at h
 ·exact wE _ _ _ x h
 ·exact wF _ _ _ _ _ _ x h
 ·exact wG _ _ _ _ _ _ _ _ _ x h
 ·exact wH _ _ _ _ _ _ _ _ _ _ _ _ x h
 ·cases h
def dj (cs0 : LA_) (n1 : Nat) : Option (Int × LA_ × Nat) := Option.bind (gt cs0 n1) fun (x0, x1, x2, x3, x4, x5, x6, x7, x8, x9) => af (ok8 x0 x1 x2 x3 x4 x5 x6 x7) (some ((num x0 x1 x2 x3 x4 x5 x6 x7), x8, x9))
def lh : FD := ⟨Int × LA_ × Nat, dn.k, dn.pre, dn.F, dn.M, dn.B, fun y => dn.toL (aX y.1 (y.2.1, y.2.2)), fun _ => none, fun _ _ h => by cases h⟩
theorem Ab (cs0 : LA_) (n1 : Nat) {y : Int × LA_ × Nat} (h : dj cs0 n1 = some y) : gt cs0 n1 = some (aX y.1 (y.2.1, y.2.2)) := by
 unfold dj at h
 obtain ⟨⟨x0, x1, x2, x3, x4, x5, x6, x7, x8, x9⟩, h1, h2⟩ := bE_ h
 obtain ⟨h3, h4⟩ := aH h2
 skip
 simp only [Option.some.injEq] at h4
 subst h4
 have o0 := h3
 have q0 := aQ o0
 rw [h1]
 simp only [aX, q0]
theorem yM (cs0 : LA_) (n1 : Nat) (y : Int × LA_ × Nat) (h : dj cs0 n1 = some y) : bc Try.prog 44 1 [.vec 0] [.vec cs0 n1 3 false] lh y := yL cs0 n1 _ (Ab cs0 n1 h)
def ns : HK where
 call := fun args σ k => match args with
  | [x0] => cM σ 3 x0 fun cs0 n1 => Option.bind (dj cs0 n1) fun y => aA σ 1 (lh.val y) (lh.aL y) k
  | _ => none
 nat := fun args σ k => by
  repeat' split
  all_goals simp only [aw, ai, Option.bind_assoc, Option.bind_none, aA, Option.bind_some]
 pure := false
 pok := fun h => by cases h
theorem zS : aW Try.prog 44 ns := by
 intro args σ r σ' h
 simp only [ns] at h
 split at h
 ·rename_i x0
  obtain ⟨cs0, n1, he0, hf0, h⟩ := bA h
  obtain ⟨y, hy, h⟩ := bE_ h
  exact lifted (xs := [x0]) (ls := [.vec cs0 n1 3 false]) (cargs := [.vec 0]) (bv.of ⟨⟨rfl, he0, hf0, by decide⟩, trivial⟩) rfl (yM cs0 n1 y hy) rfl rfl rfl rfl h
 ·cases h
class Sm (k : outParam Nat) (z : Int) : Prop where
 h : sm k z
instance {a b : Nat} {x y : Int} [hx : Sm a x] [hy : Sm b y] : Sm (a + b) (x * y) := ⟨cK hx.h hy.h⟩
instance {a b : Nat} {x y : Int} [hx : Sm a x] [hy : Sm b y] : Sm (max a b + 1) (x + y) := ⟨kT (aV hx.h (Nat.le_max_left _ _)) (aV hy.h (Nat.le_max_right _ _))⟩
instance {a b : Nat} {x y : Int} [hx : Sm a x] [hy : Sm b y] : Sm (max a b + 1) (x - y) := ⟨gv (aV hx.h (Nat.le_max_left _ _)) (aV hy.h (Nat.le_max_right _ _))⟩
instance {a : Nat} {x : Int} [hx : Sm a x] : Sm a (-x) := ⟨OU hx.h⟩
theorem Sm.fit {k : Nat} {z : Int} [h : Sm k z] (hk : k ≤ 510) : fit z := be h.h hk
theorem Sm.rng {k : Nat} {z : Int} [h : Sm k z] (hk : k ≤ 62) : aZ z = true := by
 have := aV h.h hk
 rw [C6]
 unfold sm at this
 omega
class PtB (k : outParam Nat) (p : Pt) : Prop where
 h : sm k p.1 ∧ sm k p.2.1 ∧ sm k p.2.2
instance {a b : Nat} {p q : Pt} [hp : PtB a p] [hq : PtB b q] : PtB (max a b + 1) (ax p q) :=
 ⟨gv (aV hp.h.1 (Nat.le_max_left _ _)) (aV hq.h.1 (Nat.le_max_right _ _)), gv (aV hp.h.2.1 (Nat.le_max_left _ _)) (aV hq.h.2.1 (Nat.le_max_right _ _)), gv (aV hp.h.2.2 (Nat.le_max_left _ _)) (aV hq.h.2.2 (Nat.le_max_right _ _))⟩
instance {a b : Nat} {p q : Pt} [hp : PtB a p] [hq : PtB b q] : Sm (a + b + 2) (ae p q) :=
 ⟨kT (kT (cK hp.h.1 hq.h.1) (cK hp.h.2.1 hq.h.2.1)) (aV (cK hp.h.2.2 hq.h.2.2) (Nat.le_succ _))⟩
theorem PtB.of {p : Pt} (h : bP p = true) : PtB 28 p := by
 obtain ⟨h1, h2, h3⟩ := C7.1 h
 have := uY.1 h1
 have := uY.1 h2
 have := uY.1 h3
 exact ⟨by unfold sm; omega, by unfold sm; omega, by unfold sm; omega⟩
theorem OV {a b : Nat} {x y : Int} [Sm a x] [Sm b y] (h1 : a ≤ 510) (h2 : b ≤ 510) (h : a + b ≤ 510) : cq x y = some (x * y) := RY (Sm.fit h1) (Sm.fit h2) (Sm.fit h)
theorem Hx {a b : Nat} {x y : Int} [Sm a x] [Sm b y] (h1 : a ≤ 510) (h2 : b ≤ 510) (h : max a b + 1 ≤ 510) : xO x y = some (x + y) := RZ (Sm.fit h1) (Sm.fit h2) (Sm.fit h)
theorem Tp {a b : Nat} {x y : Int} [Sm a x] [Sm b y] (h1 : a ≤ 510) (h2 : b ≤ 510) (h : max a b + 1 ≤ 510) : eO x y = some (x - y) := R0 (Sm.fit h1) (Sm.fit h2) (Sm.fit h)
theorem OW {a : Nat} {x : Int} [hx : Sm a x] (h1 : a ≤ 510) : gc x = some (-x) := by
 have e : (0 : Int) - x = -x := Int.zero_sub x
 rw [R3 (Sm.fit h1) (by rw [e]; exact Sm.fit h1), e]
theorem Tq {a b : Nat} {p q : Pt} [hp : PtB a p] [hq : PtB b q] (h1 : a ≤ 62) (h2 : b ≤ 62) : ba p.1 p.2.1 p.2.2 q.1 q.2.1 q.2.2 = some (ae p q) := by
 have r : ∀ {k : Nat} {z : Int}, sm k z → k ≤ 62 → aZ z = true := fun {k z} h hk => (show Sm k z from ⟨h⟩).rng hk
 rw [R5 (r hp.h.1 h1) (r hp.h.2.1 h1) (r hp.h.2.2 h1) (r hq.h.1 h2) (r hq.h.2.1 h2) (r hq.h.2.2 h2)]
 rfl
theorem Tr {a b : Nat} {p q : Pt} [hp : PtB a p] [hq : PtB b q] (h : max a b ≤ 61) : cG p.1 p.2.1 p.2.2 q.1 q.2.1 q.2.2 = some (ax p q) := by
 have w : ∀ {x y : Int}, sm a x → sm b y → IntKind.wrap .i64 (x - y) = x - y := by
  intro x y hx hy
  have := aV (gv (aV hx (Nat.le_max_left a b)) (aV hy (Nat.le_max_right a b))) (show max a b + 1 ≤ 62 by omega)
  unfold sm at this
  exact cf (by omega)
 unfold cG
 rw [w hp.h.1 hq.h.1, w hp.h.2.1 hq.h.2.1, w hp.h.2.2 hq.h.2.2]
 rfl
def wcs : List Int → LA_
 | [] => []
 | z :: l => .int .u64 (aa z 0) :: .int .u64 (aa z 1) :: .int .u64 (aa z 2) :: .int .u64 (aa z 3) :: .int .u64 (aa z 4) :: .int .u64 (aa z 5) :: .int .u64 (aa z 6) :: .int .u64 (aa z 7) :: wcs l
section
variable {R : Type} {Q : Option R}
theorem bW {a b : Nat} {x y : Int} [Sm a x] [Sm b y] {f : Int → Option R} (h1 : a ≤ 510) (h2 : b ≤ 510) (h : a + b ≤ 510) (k : ∀ z, z = x * y → Sm (a + b) z → f z = Q) : (cq x y).bind f = Q := by
 rw [OV h1 h2 h]; exact k _ rfl inferInstance
theorem Kd {a b : Nat} {x y : Int} [Sm a x] [Sm b y] {f : Int → Option R} (h1 : a ≤ 510) (h2 : b ≤ 510) (h : max a b + 1 ≤ 510) (k : ∀ z, z = x + y → Sm (max a b + 1) z → f z = Q) : (xO x y).bind f = Q := by
 rw [Hx h1 h2 h]; exact k _ rfl inferInstance
theorem ef {a b : Nat} {x y : Int} [Sm a x] [Sm b y] {f : Int → Option R} (h1 : a ≤ 510) (h2 : b ≤ 510) (h : max a b + 1 ≤ 510) (k : ∀ z, z = x - y → Sm (max a b + 1) z → f z = Q) : (eO x y).bind f = Q := by
 rw [Tp h1 h2 h]; exact k _ rfl inferInstance
theorem f7 {a : Nat} {x : Int} [Sm a x] {f : Int → Option R} (h1 : a ≤ 510) (k : ∀ z, z = -x → Sm a z → f z = Q) : (gc x).bind f = Q := by
 rw [OW h1]; exact k _ rfl inferInstance
theorem aR {a b : Nat} {p q : Pt} [PtB a p] [PtB b q] {f : Int → Option R} (h1 : a ≤ 62) (h2 : b ≤ 62) (k : ∀ z, z = ae p q → Sm (a + b + 2) z → f z = Q) : (ba p.1 p.2.1 p.2.2 q.1 q.2.1 q.2.2).bind f = Q := by
 rw [Tq h1 h2]; exact k _ rfl inferInstance
theorem zh {a b : Nat} {p q : Pt} [PtB a p] [PtB b q] {f : Pt → Option R} (h : max a b ≤ 61) (k : ∀ z, z = ax p q → PtB (max a b + 1) z → f z = Q) : (cG p.1 p.2.1 p.2.2 q.1 q.2.1 q.2.2).bind f = Q := by
 rw [Tr h]; exact k _ rfl inferInstance
end
theorem aP {p : Pt} {l : List Pt} : bf (p :: l) = true ↔ bP p = true ∧ bf l = true := by simp [bf]
def Lr (S : List Pt) : Option ((I8 (LA_ × Nat))) :=
 some (aa (wts S).2 0, aa (wts S).2 1, aa (wts S).2 2, aa (wts S).2 3, aa (wts S).2 4, aa (wts S).2 5, aa (wts S).2 6, aa (wts S).2 7, wcs (wts S).1, S.length)
theorem Uq {p q : Pt} (hp : bP p = true) (hq : bP q = true) : hF p.1 p.2.1 p.2.2 q.1 q.2.1 q.2.2 = Lr [p, q] := by
 haveI := PtB.of hp
 haveI := PtB.of hq
 unfold hF
 refine zh (by decide) (fun _ _ _ => ?_)
 refine aR (by decide) (by decide) (fun _ _ _ => ?_)
 refine aR (by decide) (by decide) (fun _ _ _ => ?_)
 refine f7 (by decide) (fun _ _ _ => ?_)
 refine ef (by decide) (by decide) (by decide) (fun _ _ _ => ?_)
 subst_vars
 rfl
theorem Ur {p q r : Pt} (hp : bP p = true) (hq : bP q = true) (hr : bP r = true) : hU p.1 p.2.1 p.2.2 q.1 q.2.1 q.2.2 r.1 r.2.1 r.2.2 = Lr [p, q, r] := by
 haveI := PtB.of hp
 haveI := PtB.of hq
 haveI := PtB.of hr
 unfold hU
 refine zh (by decide) (fun _ _ _ => ?_)
 refine zh (by decide) (fun _ _ _ => ?_)
 refine aR (by decide) (by decide) (fun _ _ _ => ?_)
 refine aR (by decide) (by decide) (fun _ _ _ => ?_)
 refine bW (by decide) (by decide) (by decide) (fun _ _ _ => ?_)
 refine aR (by decide) (by decide) (fun _ _ _ => ?_)
 refine aR (by decide) (by decide) (fun _ _ _ => ?_)
 refine bW (by decide) (by decide) (by decide) (fun _ _ _ => ?_)
 refine ef (by decide) (by decide) (by decide) (fun _ _ _ => ?_)
 refine aR (by decide) (by decide) (fun _ _ _ => ?_)
 refine f7 (by decide) (fun _ _ _ => ?_)
 refine aR (by decide) (by decide) (fun _ _ _ => ?_)
 refine bW (by decide) (by decide) (by decide) (fun _ _ _ => ?_)
 refine aR (by decide) (by decide) (fun _ _ _ => ?_)
 refine aR (by decide) (by decide) (fun _ _ _ => ?_)
 refine f7 (by decide) (fun _ _ _ => ?_)
 refine bW (by decide) (by decide) (by decide) (fun _ _ _ => ?_)
 refine ef (by decide) (by decide) (by decide) (fun _ _ _ => ?_)
 refine ef (by decide) (by decide) (by decide) (fun _ _ _ => ?_)
 refine aR (by decide) (by decide) (fun _ _ _ => ?_)
 refine aR (by decide) (by decide) (fun _ _ _ => ?_)
 refine f7 (by decide) (fun _ _ _ => ?_)
 refine bW (by decide) (by decide) (by decide) (fun _ _ _ => ?_)
 refine aR (by decide) (by decide) (fun _ _ _ => ?_)
 refine f7 (by decide) (fun _ _ _ => ?_)
 refine aR (by decide) (by decide) (fun _ _ _ => ?_)
 refine bW (by decide) (by decide) (by decide) (fun _ _ _ => ?_)
 refine ef (by decide) (by decide) (by decide) (fun _ _ _ => ?_)
 refine ef (by decide) (by decide) (by decide) (fun _ _ _ => ?_)
 subst_vars
 rfl
theorem Us {p q r s : Pt} (hp : bP p = true) (hq : bP q = true) (hr : bP r = true) (hs : bP s = true) : ia p.1 p.2.1 p.2.2 q.1 q.2.1 q.2.2 r.1 r.2.1 r.2.2 s.1 s.2.1 s.2.2 = Lr [p, q, r, s] := by
 haveI := PtB.of hp
 haveI := PtB.of hq
 haveI := PtB.of hr
 haveI := PtB.of hs
 unfold ia
 refine zh (by decide) (fun _ _ _ => ?_)
 refine zh (by decide) (fun _ _ _ => ?_)
 refine zh (by decide) (fun _ _ _ => ?_)
 refine aR (by decide) (by decide) (fun _ _ _ => ?_)
 refine aR (by decide) (by decide) (fun _ _ _ => ?_)
 refine aR (by decide) (by decide) (fun _ _ _ => ?_)
 refine bW (by decide) (by decide) (by decide) (fun _ _ _ => ?_)
 refine aR (by decide) (by decide) (fun _ _ _ => ?_)
 refine aR (by decide) (by decide) (fun _ _ _ => ?_)
 refine bW (by decide) (by decide) (by decide) (fun _ _ _ => ?_)
 refine ef (by decide) (by decide) (by decide) (fun _ _ _ => ?_)
 refine bW (by decide) (by decide) (by decide) (fun _ _ _ => ?_)
 refine aR (by decide) (by decide) (fun _ _ _ => ?_)
 refine aR (by decide) (by decide) (fun _ _ _ => ?_)
 refine aR (by decide) (by decide) (fun _ _ _ => ?_)
 refine bW (by decide) (by decide) (by decide) (fun _ _ _ => ?_)
 refine aR (by decide) (by decide) (fun _ _ _ => ?_)
 refine aR (by decide) (by decide) (fun _ _ _ => ?_)
 refine bW (by decide) (by decide) (by decide) (fun _ _ _ => ?_)
 refine ef (by decide) (by decide) (by decide) (fun _ _ _ => ?_)
 refine bW (by decide) (by decide) (by decide) (fun _ _ _ => ?_)
 refine ef (by decide) (by decide) (by decide) (fun _ _ _ => ?_)
 refine aR (by decide) (by decide) (fun _ _ _ => ?_)
 refine aR (by decide) (by decide) (fun _ _ _ => ?_)
 refine aR (by decide) (by decide) (fun _ _ _ => ?_)
 refine bW (by decide) (by decide) (by decide) (fun _ _ _ => ?_)
 refine aR (by decide) (by decide) (fun _ _ _ => ?_)
 refine aR (by decide) (by decide) (fun _ _ _ => ?_)
 refine bW (by decide) (by decide) (by decide) (fun _ _ _ => ?_)
 refine ef (by decide) (by decide) (by decide) (fun _ _ _ => ?_)
 refine bW (by decide) (by decide) (by decide) (fun _ _ _ => ?_)
 refine Kd (by decide) (by decide) (by decide) (fun _ _ _ => ?_)
 refine aR (by decide) (by decide) (fun _ _ _ => ?_)
 refine f7 (by decide) (fun _ _ _ => ?_)
 refine aR (by decide) (by decide) (fun _ _ _ => ?_)
 refine aR (by decide) (by decide) (fun _ _ _ => ?_)
 refine bW (by decide) (by decide) (by decide) (fun _ _ _ => ?_)
 refine aR (by decide) (by decide) (fun _ _ _ => ?_)
 refine aR (by decide) (by decide) (fun _ _ _ => ?_)
 refine bW (by decide) (by decide) (by decide) (fun _ _ _ => ?_)
 refine ef (by decide) (by decide) (by decide) (fun _ _ _ => ?_)
 refine bW (by decide) (by decide) (by decide) (fun _ _ _ => ?_)
 refine aR (by decide) (by decide) (fun _ _ _ => ?_)
 refine aR (by decide) (by decide) (fun _ _ _ => ?_)
 refine f7 (by decide) (fun _ _ _ => ?_)
 refine aR (by decide) (by decide) (fun _ _ _ => ?_)
 refine bW (by decide) (by decide) (by decide) (fun _ _ _ => ?_)
 refine aR (by decide) (by decide) (fun _ _ _ => ?_)
 refine aR (by decide) (by decide) (fun _ _ _ => ?_)
 refine f7 (by decide) (fun _ _ _ => ?_)
 refine bW (by decide) (by decide) (by decide) (fun _ _ _ => ?_)
 refine ef (by decide) (by decide) (by decide) (fun _ _ _ => ?_)
 refine bW (by decide) (by decide) (by decide) (fun _ _ _ => ?_)
 refine ef (by decide) (by decide) (by decide) (fun _ _ _ => ?_)
 refine aR (by decide) (by decide) (fun _ _ _ => ?_)
 refine aR (by decide) (by decide) (fun _ _ _ => ?_)
 refine f7 (by decide) (fun _ _ _ => ?_)
 refine aR (by decide) (by decide) (fun _ _ _ => ?_)
 refine bW (by decide) (by decide) (by decide) (fun _ _ _ => ?_)
 refine aR (by decide) (by decide) (fun _ _ _ => ?_)
 refine aR (by decide) (by decide) (fun _ _ _ => ?_)
 refine f7 (by decide) (fun _ _ _ => ?_)
 refine bW (by decide) (by decide) (by decide) (fun _ _ _ => ?_)
 refine ef (by decide) (by decide) (by decide) (fun _ _ _ => ?_)
 refine bW (by decide) (by decide) (by decide) (fun _ _ _ => ?_)
 refine Kd (by decide) (by decide) (by decide) (fun _ _ _ => ?_)
 refine ef (by decide) (by decide) (by decide) (fun _ _ _ => ?_)
 refine aR (by decide) (by decide) (fun _ _ _ => ?_)
 refine aR (by decide) (by decide) (fun _ _ _ => ?_)
 refine f7 (by decide) (fun _ _ _ => ?_)
 refine aR (by decide) (by decide) (fun _ _ _ => ?_)
 refine bW (by decide) (by decide) (by decide) (fun _ _ _ => ?_)
 refine aR (by decide) (by decide) (fun _ _ _ => ?_)
 refine aR (by decide) (by decide) (fun _ _ _ => ?_)
 refine f7 (by decide) (fun _ _ _ => ?_)
 refine bW (by decide) (by decide) (by decide) (fun _ _ _ => ?_)
 refine ef (by decide) (by decide) (by decide) (fun _ _ _ => ?_)
 refine bW (by decide) (by decide) (by decide) (fun _ _ _ => ?_)
 refine aR (by decide) (by decide) (fun _ _ _ => ?_)
 refine f7 (by decide) (fun _ _ _ => ?_)
 refine aR (by decide) (by decide) (fun _ _ _ => ?_)
 refine aR (by decide) (by decide) (fun _ _ _ => ?_)
 refine bW (by decide) (by decide) (by decide) (fun _ _ _ => ?_)
 refine aR (by decide) (by decide) (fun _ _ _ => ?_)
 refine aR (by decide) (by decide) (fun _ _ _ => ?_)
 refine bW (by decide) (by decide) (by decide) (fun _ _ _ => ?_)
 refine ef (by decide) (by decide) (by decide) (fun _ _ _ => ?_)
 refine bW (by decide) (by decide) (by decide) (fun _ _ _ => ?_)
 refine ef (by decide) (by decide) (by decide) (fun _ _ _ => ?_)
 refine aR (by decide) (by decide) (fun _ _ _ => ?_)
 refine aR (by decide) (by decide) (fun _ _ _ => ?_)
 refine aR (by decide) (by decide) (fun _ _ _ => ?_)
 refine f7 (by decide) (fun _ _ _ => ?_)
 refine bW (by decide) (by decide) (by decide) (fun _ _ _ => ?_)
 refine aR (by decide) (by decide) (fun _ _ _ => ?_)
 refine f7 (by decide) (fun _ _ _ => ?_)
 refine aR (by decide) (by decide) (fun _ _ _ => ?_)
 refine bW (by decide) (by decide) (by decide) (fun _ _ _ => ?_)
 refine ef (by decide) (by decide) (by decide) (fun _ _ _ => ?_)
 refine bW (by decide) (by decide) (by decide) (fun _ _ _ => ?_)
 refine Kd (by decide) (by decide) (by decide) (fun _ _ _ => ?_)
 refine ef (by decide) (by decide) (by decide) (fun _ _ _ => ?_)
 refine aR (by decide) (by decide) (fun _ _ _ => ?_)
 refine aR (by decide) (by decide) (fun _ _ _ => ?_)
 refine aR (by decide) (by decide) (fun _ _ _ => ?_)
 refine f7 (by decide) (fun _ _ _ => ?_)
 refine bW (by decide) (by decide) (by decide) (fun _ _ _ => ?_)
 refine aR (by decide) (by decide) (fun _ _ _ => ?_)
 refine f7 (by decide) (fun _ _ _ => ?_)
 refine aR (by decide) (by decide) (fun _ _ _ => ?_)
 refine bW (by decide) (by decide) (by decide) (fun _ _ _ => ?_)
 refine ef (by decide) (by decide) (by decide) (fun _ _ _ => ?_)
 refine bW (by decide) (by decide) (by decide) (fun _ _ _ => ?_)
 refine aR (by decide) (by decide) (fun _ _ _ => ?_)
 refine aR (by decide) (by decide) (fun _ _ _ => ?_)
 refine aR (by decide) (by decide) (fun _ _ _ => ?_)
 refine f7 (by decide) (fun _ _ _ => ?_)
 refine bW (by decide) (by decide) (by decide) (fun _ _ _ => ?_)
 refine aR (by decide) (by decide) (fun _ _ _ => ?_)
 refine f7 (by decide) (fun _ _ _ => ?_)
 refine aR (by decide) (by decide) (fun _ _ _ => ?_)
 refine bW (by decide) (by decide) (by decide) (fun _ _ _ => ?_)
 refine ef (by decide) (by decide) (by decide) (fun _ _ _ => ?_)
 refine bW (by decide) (by decide) (by decide) (fun _ _ _ => ?_)
 refine ef (by decide) (by decide) (by decide) (fun _ _ _ => ?_)
 refine aR (by decide) (by decide) (fun _ _ _ => ?_)
 refine f7 (by decide) (fun _ _ _ => ?_)
 refine aR (by decide) (by decide) (fun _ _ _ => ?_)
 refine aR (by decide) (by decide) (fun _ _ _ => ?_)
 refine bW (by decide) (by decide) (by decide) (fun _ _ _ => ?_)
 refine aR (by decide) (by decide) (fun _ _ _ => ?_)
 refine aR (by decide) (by decide) (fun _ _ _ => ?_)
 refine bW (by decide) (by decide) (by decide) (fun _ _ _ => ?_)
 refine ef (by decide) (by decide) (by decide) (fun _ _ _ => ?_)
 refine bW (by decide) (by decide) (by decide) (fun _ _ _ => ?_)
 refine Kd (by decide) (by decide) (by decide) (fun _ _ _ => ?_)
 refine ef (by decide) (by decide) (by decide) (fun _ _ _ => ?_)
 subst_vars
 rfl
theorem Ke {a b c d e f g h i : Int} (ha : sm 60 a) (hb : sm 60 b) (hc : sm 60 c) (hd : sm 60 d) (he : sm 60 e) (hf : sm 60 f) (hg : sm 60 g) (hh : sm 60 h) (hi : sm 60 i) : sm 186 (m3 a b c d e f g h i) := by
 haveI : Sm 60 a := ⟨ha⟩
 haveI : Sm 60 b := ⟨hb⟩
 haveI : Sm 60 c := ⟨hc⟩
 haveI : Sm 60 d := ⟨hd⟩
 haveI : Sm 60 e := ⟨he⟩
 haveI : Sm 60 f := ⟨hf⟩
 haveI : Sm 60 g := ⟨hg⟩
 haveI : Sm 60 h := ⟨hh⟩
 haveI : Sm 60 i := ⟨hi⟩
 unfold m3
 exact aV Sm.h (by decide)
theorem Mu {S : List Pt} (hok : bf S = true) (h1 : 1 ≤ S.length) (h4 : S.length ≤ 4) : sm 190 (wts S).2 ∧ ∀ z ∈ (wts S).1, sm 190 z := by
 match S, h1, h4 with
 | [p], _, _ =>
  refine ⟨by simp only [wts]; unfold sm; omega, fun z hz => ?_⟩
  simp only [wts, List.mem_singleton] at hz
  subst hz; unfold sm; omega
 | [p, q], _, _ =>
  simp only [aP] at hok
  haveI := PtB.of hok.1
  haveI := PtB.of hok.2.1
  simp only [wts, wt1, List.mem_cons, List.not_mem_nil, or_false, forall_eq_or_imp, forall_eq]
  exact ⟨aV Sm.h (by decide), aV Sm.h (by decide), aV Sm.h (by decide)⟩
 | [p, q, r], _, _ =>
  simp only [aP] at hok
  haveI := PtB.of hok.1
  haveI := PtB.of hok.2.1
  haveI := PtB.of hok.2.2.1
  simp only [wts, wt2, List.mem_cons, List.not_mem_nil, or_false, forall_eq_or_imp, forall_eq]
  exact ⟨aV Sm.h (by decide), aV Sm.h (by decide), aV Sm.h (by decide), aV Sm.h (by decide)⟩
 | [p, q, r, s], _, _ =>
  simp only [aP] at hok
  haveI := PtB.of hok.1
  haveI := PtB.of hok.2.1
  haveI := PtB.of hok.2.2.1
  haveI := PtB.of hok.2.2.2.1
  have qq : ∀ {u v : Pt} {i j : Nat}, PtB i u → PtB j v → i ≤ 29 → j ≤ 29 → sm 60 (ae u v) := fun {u v i j} hu hv hi hj => aV (Sm.h (z := ae u v)) (by omega)
  have nn : ∀ {u v : Pt} {i j : Nat}, PtB i u → PtB j v → i ≤ 29 → j ≤ 29 → sm 60 (-ae u v) := fun {u v i j} hu hv hi hj => OU (qq hu hv hi hj)
  have e1 : PtB 29 (ax q p) := inferInstance
  have e2 : PtB 29 (ax r p) := inferInstance
  have e3 : PtB 29 (ax s p) := inferInstance
  have e0 : PtB 28 p := inferInstance
  have le : (29 : Nat) ≤ 29 := Nat.le_refl _
  have l8 : (28 : Nat) ≤ 29 := by decide
  simp only [wts, wt3, List.mem_cons, List.not_mem_nil, or_false, forall_eq_or_imp, forall_eq]
  have x1 := Ke (nn e1 e0 le l8) (qq e1 e2 le le) (qq e1 e3 le le) (nn e2 e0 le l8) (qq e2 e2 le le) (qq e2 e3 le le) (nn e3 e0 le l8) (qq e3 e2 le le) (qq e3 e3 le le)
  have x2 := Ke (qq e1 e1 le le) (nn e1 e0 le l8) (qq e1 e3 le le) (qq e2 e1 le le) (nn e2 e0 le l8) (qq e2 e3 le le) (qq e3 e1 le le) (nn e3 e0 le l8) (qq e3 e3 le le)
  have x3 := Ke (qq e1 e1 le le) (qq e1 e2 le le) (nn e1 e0 le l8) (qq e2 e1 le le) (qq e2 e2 le le) (nn e2 e0 le l8) (qq e3 e1 le le) (qq e3 e2 le le) (nn e3 e0 le l8)
  have x0 := Ke (qq e1 e1 le le) (qq e1 e2 le le) (qq e1 e3 le le) (qq e2 e1 le le) (qq e2 e2 le le) (qq e2 e3 le le) (qq e3 e1 le le) (qq e3 e2 le le) (qq e3 e3 le le)
  exact ⟨aV x0 (by decide), aV (gv (gv (gv x0 x1) (aV x2 (by decide))) (aV x3 (by decide))) (by decide), aV x1 (by decide), aV x2 (by decide), aV x3 (by decide)⟩
 | _ :: _ :: _ :: _ :: _ :: _, _, h => simp at h
theorem OX {S : List Pt} (hok : bf S = true) (h1 : 1 ≤ S.length) (h4 : S.length ≤ 4) : dj (pcs S) S.length = some ((wts S).2, wcs (wts S).1, S.length) := by
 have hf := (Mu hok h1 h4).1
 have fin : gt (pcs S) S.length = Lr S → dj (pcs S) S.length = some ((wts S).2, wcs (wts S).1, S.length) := by
  intro e
  unfold dj
  rw [e]
  simp only [Lr, Option.bind_some, bz, az]
  rw [aG (be hf (by decide))]
 apply fin
 match S, h1, h4 with
 | [p], _, _ => rfl
 | [p, q], _, _ =>
  simp only [aP] at hok
  exact Uq hok.1 hok.2.1
 | [p, q, r], _, _ =>
  simp only [aP] at hok
  exact Ur hok.1 hok.2.1 hok.2.2.1
 | [p, q, r, s], _, _ =>
  simp only [aP] at hok
  exact Us hok.1 hok.2.1 hok.2.2.1 hok.2.2.2.1
 | _ :: _ :: _ :: _ :: _ :: _, _, h => simp at h
end Go.Ev
namespace Go.Ev
open Go.Proofs
def BE : CH := (CH.add 27 Gt CH.none)
theorem xQ : aE Try.prog BE := (CH.aj I5 CH.aB)
def gU (a0 a1 a2 a3 a4 a5 a6 a7 a8 a9 a10 a11 a12 a13 a14 a15 : Int) : Option (Int × Int × Int × Int × Int × Int × Int × Int) :=
 (Option.bind (uI a0 a1 a2 a3 a4 a5 a6 a7 a8 a9 a10 a11 a12 a13 a14 a15) fun r1 => (some ((aa r1.1 0), (aa r1.1 1), (aa r1.1 2), (aa r1.1 3), (aa r1.1 4), (aa r1.1 5), (aa r1.1 6), (aa r1.1 7))))
def cT : FD where
 X := Int × Int × Int × Int × Int × Int × Int × Int
 k := 1
 pre := []
 F := fun s => [0]
 M := .agg (rl (.int .u64) 8 [])
 B := []
 toL := fun x => [.I x.1, .I x.2.1, .I x.2.2.1, .I x.2.2.2.1, .I x.s4.1, .I x.s4.2.1, .I x.s4.2.2.1, .I x.s4.2.2.2]
 ofL := fun ls => match ls with
  | [.I x0, .I x1, .I x2, .I x3, .I x4, .I x5, .I x6, .I x7] => some (x0, x1, x2, x3, x4, x5, x6, x7)
  | _ => none
 au := fun ls x h => by
  split at h
  ·cases h; rfl
  ·cases h
theorem z9 (a0 a1 a2 a3 a4 a5 a6 a7 a8 a9 a10 a11 a12 a13 a14 a15 : Int) (x : Int × Int × Int × Int × Int × Int × Int × Int) (h : gU a0 a1 a2 a3 a4 a5 a6 a7 a8 a9 a10 a11 a12 a13 a14 a15 = some x) : bc Try.prog 71 1 [.agg (v8 a0 a1 a2 a3 a4 a5 a6 a7 []), .ptr 0 0] [.cells (v8 a8 a9 a10 a11 a12 a13 a14 a15 []) false none] cT x :=
 FD.semA cT xQ Try.func71 (fuel := 60) (by kernel_rfl) (by kernel_rfl)
  (by kernel_rfl) (Eq.trans (by kernel_rfl) h)
def bI (a0 a1 a2 a3 a4 a5 a6 a7 a8 a9 a10 a11 a12 a13 a14 a15 : Int) : Option (Int) := Option.bind (gU a0 a1 a2 a3 a4 a5 a6 a7 a8 a9 a10 a11 a12 a13 a14 a15) fun (x0, x1, x2, x3, x4, x5, x6, x7) => af (ok8 x0 x1 x2 x3 x4 x5 x6 x7) (some (num x0 x1 x2 x3 x4 x5 x6 x7))
def lT : FD := ⟨Int, cT.k, cT.pre, cT.F, cT.M, cT.B, fun y => cT.toL ((aa y 0), (aa y 1), (aa y 2), (aa y 3), (aa y 4), (aa y 5), (aa y 6), (aa y 7)), fun _ => none, fun _ _ h => by cases h⟩
theorem BF (a0 a1 a2 a3 a4 a5 a6 a7 a8 a9 a10 a11 a12 a13 a14 a15 : Int) {y : Int} (h : bI a0 a1 a2 a3 a4 a5 a6 a7 a8 a9 a10 a11 a12 a13 a14 a15 = some y) : gU a0 a1 a2 a3 a4 a5 a6 a7 a8 a9 a10 a11 a12 a13 a14 a15 = some ((aa y 0), (aa y 1), (aa y 2), (aa y 3), (aa y 4), (aa y 5), (aa y 6), (aa y 7)) := by
 unfold bI at h
 obtain ⟨⟨x0, x1, x2, x3, x4, x5, x6, x7⟩, h1, h2⟩ := bE_ h
 obtain ⟨h3, h4⟩ := aH h2
 skip
 simp only [Option.some.injEq] at h4
 subst h4
 have o0 := h3
 have q0 := aQ o0
 rw [h1]
 simp only [q0]
theorem Aa (a0 a1 a2 a3 a4 a5 a6 a7 a8 a9 a10 a11 a12 a13 a14 a15 y : Int) (h : bI a0 a1 a2 a3 a4 a5 a6 a7 a8 a9 a10 a11 a12 a13 a14 a15 = some y) : bc Try.prog 71 1 [.agg (v8 a0 a1 a2 a3 a4 a5 a6 a7 []), .ptr 0 0] [.cells (v8 a8 a9 a10 a11 a12 a13 a14 a15 []) false none] lT y := z9 a0 a1 a2 a3 a4 a5 a6 a7 a8 a9 a10 a11 a12 a13 a14 a15 _ (BF a0 a1 a2 a3 a4 a5 a6 a7 a8 a9 a10 a11 a12 a13 a14 a15 h)
def oK (z0 z8 : Int) : Option (Int) := bI (aa z0 0) (aa z0 1) (aa z0 2) (aa z0 3) (aa z0 4) (aa z0 5) (aa z0 6) (aa z0 7) (aa z8 0) (aa z8 1) (aa z8 2) (aa z8 3) (aa z8 4) (aa z8 5) (aa z8 6) (aa z8 7)
def oI : HK where
 call := fun args σ k => match args with
  | [.agg [.int .u64 a0, .int .u64 a1, .int .u64 a2, .int .u64 a3, .int .u64 a4, .int .u64 a5, .int .u64 a6, .int .u64 a7], .ptr b0 0] => match σ.get b0 with | some (.vec cb0 _ _ _) => (af (aq fW cb0 0 && Nat.beq (List.length cb0) 8) (Option.bind (bI a0 a1 a2 a3 a4 a5 a6 a7 (ac cb0 0) (ac cb0 1) (ac cb0 2) (ac cb0 3) (ac cb0 4) (ac cb0 5) (ac cb0 6) (ac cb0 7)) fun y => aA σ 1 (lT.val y) (lT.aL y) k)) | _ => none
  | _ => none
 nat := fun args σ k => by
  repeat' split
  all_goals simp only [aw, ai, Option.bind_assoc, Option.bind_none, aA, Option.bind_some]
 pure := false
 pok := fun h => by cases h
theorem By : aW Try.prog 71 oI := by
 intro args σ r σ' h
 simp only [oI] at h
 split at h
 ·rename_i a0 a1 a2 a3 a4 a5 a6 a7 b0
  split at h
  ·rename_i cb0 nn0 zz0 own0 hb0
   obtain ⟨hq0, h⟩ := aH h
   obtain ⟨y, hy, h⟩ := bE_ h
   exact lifted (xs := [.ptr b0 0]) (ls := [.cells (v8 (ac cb0 0) (ac cb0 1) (ac cb0 2) (ac cb0 3) (ac cb0 4) (ac cb0 5) (ac cb0 6) (ac cb0 7) []) false none]) (cargs := [.agg (v8 a0 a1 a2 a3 a4 a5 a6 a7 []), .ptr 0 0]) (bv.of ⟨⟨rfl, rfl, by simp, rfl, b0, 0, rfl, Rg (ks := [.int .u64, .int .u64, .int .u64, .int .u64, .int .u64, .int .u64, .int .u64, .int .u64]) hb0 hq0 (by simp)⟩, trivial⟩) rfl (Aa a0 a1 a2 a3 a4 a5 a6 a7 (ac cb0 0) (ac cb0 1) (ac cb0 2) (ac cb0 3) (ac cb0 4) (ac cb0 5) (ac cb0 6) (ac cb0 7) y hy) rfl rfl rfl rfl h
  ·cases h
 ·cases h
abbrev eK := LA_ × Nat × LA_ × Nat × Nat × Nat × Int × Int × Int × Int × Int × Int × Int × Int × Int × Int × Int × Int × Int × Int × Int × Int × Int × Int × Int × Int × Int × Int × Int × Int × Int
abbrev vP := (I8 (I8 (I8 (Int × Int × Int × Int × Int × Int × Int × Int))))
abbrev eL := LA_ × Nat × LA_ × Nat × Nat × Int × Int × Int × Int × Int × Int × Int × Int × Int × Int × Int × Int × Int × Int × Int × Int × Int × Int × Int × Int × Int × Int × Int × Int
abbrev eN := LA_ × Nat × LA_ × Nat × Nat × LA_ × Nat × Int
def gT : CH := (CH.add 71 oI (CH.add 67 yJ (CH.add 39 Cd (CH.add 28 B5 (CH.add 27 Gt (CH.add 22 rS (CH.add 19 Ic CH.none)))))))
theorem g9 : aE Try.prog gT := (CH.aj By (CH.aj wR (CH.aj Ce (CH.aj B6 (CH.aj I5 (CH.aj pZ (CH.aj Dc CH.aB)))))))
def dJ {R : Type} (cc : eN) (v : LA_ × Int) (kn : (LA_ × Int) → Option R) (ke : ((LA_)) → Option R) : Option R :=
 (cond (decide (v.2 < cc.2.2.2.2.2.2.2)) (af (decide (0 ≤ v.2) && decide (v.2 < ((cc.2.2.2.2.2.2.1 : Nat) : Int))) (af (aq lC cc.2.2.2.2.2.1 (Int.toNat v.2 * 3)) (af (aq fW v.1 0) (af (decide (0 ≤ v.2) && decide (v.2 < ((cc.2.1 : Nat) : Int))) (af (aq fW cc.1 (Int.toNat v.2 * 8)) (Option.bind (cOf (ac cc.2.2.2.2.2.1 ((Int.toNat v.2 * 3) + 0))) fun r1 => (Option.bind (jp (ac cc.1 ((Int.toNat v.2 * 8) + 0)) (ac cc.1 ((Int.toNat v.2 * 8) + 1)) (ac cc.1 ((Int.toNat v.2 * 8) + 2)) (ac cc.1 ((Int.toNat v.2 * 8) + 3)) (ac cc.1 ((Int.toNat v.2 * 8) + 4)) (ac cc.1 ((Int.toNat v.2 * 8) + 5)) (ac cc.1 ((Int.toNat v.2 * 8) + 6)) (ac cc.1 ((Int.toNat v.2 * 8) + 7)) (aa r1 0) (aa r1 1) (aa r1 2) (aa r1 3) (aa r1 4) (aa r1 5) (aa r1 6) (aa r1 7)) fun r2 => (Option.bind (n8 (ac v.1 0) (ac v.1 1) (ac v.1 2) (ac v.1 3) (ac v.1 4) (ac v.1 5) (ac v.1 6) (ac v.1 7) (aa r2 0) (aa r2 1) (aa r2 2) (aa r2 3) (aa r2 4) (aa r2 5) (aa r2 6) (aa r2 7)) fun r3 => (af (decide (0 + 8 ≤ List.length v.1)) (af (aq fW (spliced v.1 0 (v8 (aa r3 0) (aa r3 1) (aa r3 2) (aa r3 3) (aa r3 4) (aa r3 5) (aa r3 6) (aa r3 7) [])) 8) (af (decide (0 ≤ v.2) && decide (v.2 < ((cc.2.1 : Nat) : Int))) (af (aq fW cc.1 (Int.toNat v.2 * 8)) (Option.bind (cOf (ac cc.2.2.2.2.2.1 ((Int.toNat v.2 * 3) + 1))) fun r4 => (Option.bind (jp (ac cc.1 ((Int.toNat v.2 * 8) + 0)) (ac cc.1 ((Int.toNat v.2 * 8) + 1)) (ac cc.1 ((Int.toNat v.2 * 8) + 2)) (ac cc.1 ((Int.toNat v.2 * 8) + 3)) (ac cc.1 ((Int.toNat v.2 * 8) + 4)) (ac cc.1 ((Int.toNat v.2 * 8) + 5)) (ac cc.1 ((Int.toNat v.2 * 8) + 6)) (ac cc.1 ((Int.toNat v.2 * 8) + 7)) (aa r4 0) (aa r4 1) (aa r4 2) (aa r4 3) (aa r4 4) (aa r4 5) (aa r4 6) (aa r4 7)) fun r5 => (Option.bind (n8 (ac (spliced v.1 0 (v8 (aa r3 0) (aa r3 1) (aa r3 2) (aa r3 3) (aa r3 4) (aa r3 5) (aa r3 6) (aa r3 7) [])) 8) (ac (spliced v.1 0 (v8 (aa r3 0) (aa r3 1) (aa r3 2) (aa r3 3) (aa r3 4) (aa r3 5) (aa r3 6) (aa r3 7) [])) 9) (ac (spliced v.1 0 (v8 (aa r3 0) (aa r3 1) (aa r3 2) (aa r3 3) (aa r3 4) (aa r3 5) (aa r3 6) (aa r3 7) [])) 10) (ac (spliced v.1 0 (v8 (aa r3 0) (aa r3 1) (aa r3 2) (aa r3 3) (aa r3 4) (aa r3 5) (aa r3 6) (aa r3 7) [])) 11) (ac (spliced v.1 0 (v8 (aa r3 0) (aa r3 1) (aa r3 2) (aa r3 3) (aa r3 4) (aa r3 5) (aa r3 6) (aa r3 7) [])) 12) (ac (spliced v.1 0 (v8 (aa r3 0) (aa r3 1) (aa r3 2) (aa r3 3) (aa r3 4) (aa r3 5) (aa r3 6) (aa r3 7) [])) 13) (ac (spliced v.1 0 (v8 (aa r3 0) (aa r3 1) (aa r3 2) (aa r3 3) (aa r3 4) (aa r3 5) (aa r3 6) (aa r3 7) [])) 14) (ac (spliced v.1 0 (v8 (aa r3 0) (aa r3 1) (aa r3 2) (aa r3 3) (aa r3 4) (aa r3 5) (aa r3 6) (aa r3 7) [])) 15) (aa r5 0) (aa r5 1) (aa r5 2) (aa r5 3) (aa r5 4) (aa r5 5) (aa r5 6) (aa r5 7)) fun r6 => (af (decide (8 + 8 ≤ List.length (spliced v.1 0 (v8 (aa r3 0) (aa r3 1) (aa r3 2) (aa r3 3) (aa r3 4) (aa r3 5) (aa r3 6) (aa r3 7) [])))) (af (aq fW (spliced (spliced v.1 0 (v8 (aa r3 0) (aa r3 1) (aa r3 2) (aa r3 3) (aa r3 4) (aa r3 5) (aa r3 6) (aa r3 7) [])) 8 (v8 (aa r6 0) (aa r6 1) (aa r6 2) (aa r6 3) (aa r6 4) (aa r6 5) (aa r6 6) (aa r6 7) [])) 16) (af (decide (0 ≤ v.2) && decide (v.2 < ((cc.2.1 : Nat) : Int))) (af (aq fW cc.1 (Int.toNat v.2 * 8)) (Option.bind (cOf (ac cc.2.2.2.2.2.1 ((Int.toNat v.2 * 3) + 2))) fun r7 => (Option.bind (jp (ac cc.1 ((Int.toNat v.2 * 8) + 0)) (ac cc.1 ((Int.toNat v.2 * 8) + 1)) (ac cc.1 ((Int.toNat v.2 * 8) + 2)) (ac cc.1 ((Int.toNat v.2 * 8) + 3)) (ac cc.1 ((Int.toNat v.2 * 8) + 4)) (ac cc.1 ((Int.toNat v.2 * 8) + 5)) (ac cc.1 ((Int.toNat v.2 * 8) + 6)) (ac cc.1 ((Int.toNat v.2 * 8) + 7)) (aa r7 0) (aa r7 1) (aa r7 2) (aa r7 3) (aa r7 4) (aa r7 5) (aa r7 6) (aa r7 7)) fun r8 => (Option.bind (n8 (ac (spliced (spliced v.1 0 (v8 (aa r3 0) (aa r3 1) (aa r3 2) (aa r3 3) (aa r3 4) (aa r3 5) (aa r3 6) (aa r3 7) [])) 8 (v8 (aa r6 0) (aa r6 1) (aa r6 2) (aa r6 3) (aa r6 4) (aa r6 5) (aa r6 6) (aa r6 7) [])) 16) (ac (spliced (spliced v.1 0 (v8 (aa r3 0) (aa r3 1) (aa r3 2) (aa r3 3) (aa r3 4) (aa r3 5) (aa r3 6) (aa r3 7) [])) 8 (v8 (aa r6 0) (aa r6 1) (aa r6 2) (aa r6 3) (aa r6 4) (aa r6 5) (aa r6 6) (aa r6 7) [])) 17) (ac (spliced (spliced v.1 0 (v8 (aa r3 0) (aa r3 1) (aa r3 2) (aa r3 3) (aa r3 4) (aa r3 5) (aa r3 6) (aa r3 7) [])) 8 (v8 (aa r6 0) (aa r6 1) (aa r6 2) (aa r6 3) (aa r6 4) (aa r6 5) (aa r6 6) (aa r6 7) [])) 18) (ac (spliced (spliced v.1 0 (v8 (aa r3 0) (aa r3 1) (aa r3 2) (aa r3 3) (aa r3 4) (aa r3 5) (aa r3 6) (aa r3 7) [])) 8 (v8 (aa r6 0) (aa r6 1) (aa r6 2) (aa r6 3) (aa r6 4) (aa r6 5) (aa r6 6) (aa r6 7) [])) 19) (ac (spliced (spliced v.1 0 (v8 (aa r3 0) (aa r3 1) (aa r3 2) (aa r3 3) (aa r3 4) (aa r3 5) (aa r3 6) (aa r3 7) [])) 8 (v8 (aa r6 0) (aa r6 1) (aa r6 2) (aa r6 3) (aa r6 4) (aa r6 5) (aa r6 6) (aa r6 7) [])) 20) (ac (spliced (spliced v.1 0 (v8 (aa r3 0) (aa r3 1) (aa r3 2) (aa r3 3) (aa r3 4) (aa r3 5) (aa r3 6) (aa r3 7) [])) 8 (v8 (aa r6 0) (aa r6 1) (aa r6 2) (aa r6 3) (aa r6 4) (aa r6 5) (aa r6 6) (aa r6 7) [])) 21) (ac (spliced (spliced v.1 0 (v8 (aa r3 0) (aa r3 1) (aa r3 2) (aa r3 3) (aa r3 4) (aa r3 5) (aa r3 6) (aa r3 7) [])) 8 (v8 (aa r6 0) (aa r6 1) (aa r6 2) (aa r6 3) (aa r6 4) (aa r6 5) (aa r6 6) (aa r6 7) [])) 22) (ac (spliced (spliced v.1 0 (v8 (aa r3 0) (aa r3 1) (aa r3 2) (aa r3 3) (aa r3 4) (aa r3 5) (aa r3 6) (aa r3 7) [])) 8 (v8 (aa r6 0) (aa r6 1) (aa r6 2) (aa r6 3) (aa r6 4) (aa r6 5) (aa r6 6) (aa r6 7) [])) 23) (aa r8 0) (aa r8 1) (aa r8 2) (aa r8 3) (aa r8 4) (aa r8 5) (aa r8 6) (aa r8 7)) fun r9 => (af (decide (16 + 8 ≤ List.length (spliced (spliced v.1 0 (v8 (aa r3 0) (aa r3 1) (aa r3 2) (aa r3 3) (aa r3 4) (aa r3 5) (aa r3 6) (aa r3 7) [])) 8 (v8 (aa r6 0) (aa r6 1) (aa r6 2) (aa r6 3) (aa r6 4) (aa r6 5) (aa r6 6) (aa r6 7) [])))) (kn ((spliced (spliced (spliced v.1 0 (v8 (aa r3 0) (aa r3 1) (aa r3 2) (aa r3 3) (aa r3 4) (aa r3 5) (aa r3 6) (aa r3 7) [])) 8 (v8 (aa r6 0) (aa r6 1) (aa r6 2) (aa r6 3) (aa r6 4) (aa r6 5) (aa r6 6) (aa r6 7) [])) 16 (v8 (aa r9 0) (aa r9 1) (aa r9 2) (aa r9 3) (aa r9 4) (aa r9 5) (aa r9 6) (aa r9 7) [])), (IntKind.wrap .i64 (v.2 + 1))))))))))))))))))))))))))) (ke v.1))
def gn (cc : eN) (v : LA_ × Int) : Option ((LA_ × Int) ⊕ ((LA_))) := dJ cc v (fun v => some (Sum.inl v)) fun e => some (Sum.inr e)
def oJ (cc : eN) (v : LA_ × Int) : Option ((LA_)) := dA (gn cc) v
def Bz (cc : eN) (v : LA_ × Int) : List ah := [.I cc.s4.2.2.2, .I v.2, .C cc.1, .N cc.2.1, .C cc.2.2.1, .N cc.2.2.2.1, .C v.1, .N cc.s4.1, .C cc.s4.2.1, .N cc.s4.2.2.1]
def rx (ls : List ah) : Option ((eN) × (LA_ × Int)) := match ls with
 | [.I x0, .I x1, .C x2, .N x3, .C x4, .N x5, .C x6, .N x7, .C x8, .N x9] => some ((x2, x3, x4, x5, x7, x8, x9, x0), (x6, x1))
 | _ => none
def ry (e : (LA_)) : an := ((fun e => .exit 0) e)
def rz (cc : eN) (e : (LA_)) : List ah := ((fun e => [.C cc.2.2.1, .N cc.2.2.2.1, .C e, .N cc.s4.1]) e)
def kr (cc : eN) (e : (LA_)) : List ah := ((fun e => [.C cc.2.2.1, .N cc.2.2.2.1, .N cc.s4.1]) e)
def lf (o : an) (ls : List ah) : Option (((LA_)) × List ah) := match o with
 | .exit 0 => (match ls with
  | [.C x0, .N x1, .C x2, .N x3] => some (x2, [.C x0, .N x1, .N x3])
  | _ => none)
 | _ => none
theorem xP : ∀ o ls e cl cc, lf o ls = some (e, cl) → cl = kr cc e → ls = rz cc e ∧ ry e = o ∧ o ≠ .normal ∧ ∀ v, o = .pan v → sc 0 v = true := by
 intro o ls e cl cc h hc
 unfold lf at h
 split at h
 ·split at h
  ·cases h
   simp only [kr, List.cons.injEq, ah.N.injEq, ah.C.injEq, and_true] at hc
   obtain ⟨rfl, rfl, rfl⟩ := hc
   exact ⟨rfl, rfl, by simp, by intro v hv; cases hv <;> rfl⟩
  ·cases h
 ·cases h
def Cf (o : an) : ExS := match o with
 | .exit 0 => ⟨5, (rl none 5 (some (.ptr 2 0) :: some (.ptr 3 0) :: some (.ptr 4 0) :: (rl none 88 []))), [(2, .vec 8 true), (3, .cells (rl (.ga .u64 0) 32 [.aO]) true none), (4, .vec 24 true)], fun s => [0, 1, nameAt s 5 [], nameAt s 6 [], nameAt s 7 []], [], []⟩
 | _ => ⟨0, [], [], fun _ => [], [], []⟩
theorem BA {R : Type} (cc : eN) (v : LA_ × Int) (kn : (LA_ × Int) → Option R) (ke : ((LA_)) → Option R) : dJ cc v kn ke = (dJ cc v (fun v => some (Sum.inl v)) fun e => some (Sum.inr e)).bind (Sum.elim kn ke) := by
 simp only [dJ, bK, ai, Option.bind_assoc, cb, bF, Option.bind_some, Option.bind_none, Sum.elim_inl, Sum.elim_inr]
def uo : LD where
 CC := eN
 V := LA_ × Int
 E := (LA_)
 n := 2
 K := 5
 M := (none :: some (.vec 1) :: none :: none :: none :: some (.ptr 2 0) :: some (.ptr 3 0) :: some (.ptr 4 0) :: (rl none 11 (some (.vec 0) :: some (.int .i64) :: some (.int .i64) :: (rl none 74 []))))
 B := [(1, .vec 8 false), (2, .vec 8 true), (3, .cells (rl (.ga .u64 0) 32 [.aO]) true none), (4, .vec 24 true), (0, .vec 3 false)]
 D := []
 pre := []
 F := fun s => [0, 1, nameAt s 5 [], nameAt s 6 [], nameAt s 7 []]
 toL := Bz
 ofL := rx
 au := fun ls c v h => by
  unfold rx at h
  split at h
  ·cases h; rfl
  ·cases h
 ck := dJ
 nat := BA
 sh := Cf
 out := ry
 toE := rz
 fp := kr
 ofE := lf
 da := xP
 post := fun cc e k => ((fun e => k (.exit 0) (bd 5 (rl none 5 (some (.ptr 2 0) :: some (.ptr 3 0) :: some (.ptr 4 0) :: (rl none 88 []))) [(2, .vec cc.2.2.1 cc.2.2.2.1 8 true), (3, .cells (rl (.int .u64 0) 32 [.aO]) true none), (4, .vec e cc.s4.1 24 true)] [])) e)
 cd := fun cc e k => by rfl
theorem BB : cF Try.prog 2 uo.la (aK Try.f45 0) :=
 LD.ok (ch := gT) (A := bt) aJ g9 mixed (fuel := 60) ⟨by kernel_rfl, fun e => by kernel_rfl, fun cc v => by kernel_rfl, aI (l := [aK Try.f45 1]) (by kernel_rfl) ⟨(eh (by kernel_rfl)), trivial⟩⟩
def dt {R : Type} (cc : eK) (v : LA_ × LA_) (kn : (LA_ × LA_) → Option R) (ke : ((LA_)) → Option R) : Option R :=
 (af (aq fW v.2 0) (cond (!((ac v.2 0) == 0 && ((ac v.2 1) == 0 && ((ac v.2 2) == 0 && ((ac v.2 3) == 0 && ((ac v.2 4) == 0 && ((ac v.2 5) == 0 && ((ac v.2 6) == 0 && ((ac v.2 7) == 0 && true))))))))) (af (aq fW v.1 0) (af (aq fW v.2 0) (Option.bind (uI (ac v.1 0) (ac v.1 1) (ac v.1 2) (ac v.1 3) (ac v.1 4) (ac v.1 5) (ac v.1 6) (ac v.1 7) (ac v.2 0) (ac v.2 1) (ac v.2 2) (ac v.2 3) (ac v.2 4) (ac v.2 5) (ac v.2 6) (ac v.2 7)) fun r14 => (af (aq fW v.2 0) (af (decide (0 + 8 ≤ List.length v.1)) (af (decide (0 + 8 ≤ List.length v.2)) (kn ((spliced v.1 0 (v8 (ac v.2 0) (ac v.2 1) (ac v.2 2) (ac v.2 3) (ac v.2 4) (ac v.2 5) (ac v.2 6) (ac v.2 7) [])), (spliced v.2 0 (v8 (aa r14.2 0) (aa r14.2 1) (aa r14.2 2) (aa r14.2 3) (aa r14.2 4) (aa r14.2 5) (aa r14.2 6) (aa r14.2 7) [])))))))))) (ke v.1)))
def et (cc : eK) (v : LA_ × LA_) : Option ((LA_ × LA_) ⊕ ((LA_))) := dt cc v (fun v => some (Sum.inl v)) fun e => some (Sum.inr e)
def gp (cc : eK) (v : LA_ × LA_) : Option ((LA_)) := dA (et cc) v
def zY (cc : eK) (v : LA_ × LA_) : List ah := [.I cc.s4.2.2.1, .I cc.s4.2.2.2.1, .I cc.s8.1, .I cc.s8.2.1, .I cc.s8.2.2.1, .I cc.s8.2.2.2.1, .I cc.s8.s4.1, .I cc.s8.s4.2.1, .I cc.s8.s4.2.2.1, .I cc.s8.s4.2.2.2.1, .I cc.s16.1, .I cc.s16.2.1, .I cc.s16.2.2.1, .I cc.s16.2.2.2.1, .I cc.s16.s4.1, .I cc.s16.s4.2.1, .I cc.s16.s4.2.2.1, .I cc.s16.s4.2.2.2.1, .I cc.s16.s8.1, .I cc.s16.s8.2.1, .I cc.s16.s8.2.2.1, .I cc.s16.s8.2.2.2.1, .I cc.s16.s8.s4.1, .I cc.s16.s8.s4.2.1, .I cc.s16.s8.s4.2.2, .C cc.1, .N cc.2.1, .C cc.2.2.1, .N cc.2.2.2.1, .C v.1, .N cc.s4.1, .C v.2, .N cc.s4.2.1]
def p7 (ls : List ah) : Option ((eK) × (LA_ × LA_)) := match ls with
 | (.I x0 :: .I x1 :: .I x2 :: .I x3 :: .I x4 :: .I x5 :: .I x6 :: .I x7 :: .I x8 :: .I x9 :: .I x10 :: .I x11 :: .I x12 :: .I x13 :: .I x14 :: .I x15 :: .I x16 :: .I x17 :: .I x18 :: .I x19 :: .I x20 :: .I x21 :: .I x22 :: .I x23 :: .I x24 :: .C x25 :: .N x26 :: .C x27 :: .N x28 :: .C x29 :: .N x30 :: .C x31 :: .N x32 :: []) => some ((x25, x26, x27, x28, x30, x32, x0, x1, x2, x3, x4, x5, x6, x7, x8, x9, x10, x11, x12, x13, x14, x15, x16, x17, x18, x19, x20, x21, x22, x23, x24), (x29, x31))
 | _ => none
def p8 (e : (LA_)) : an := ((fun e => .exit 6) e)
def p9 (cc : eK) (e : (LA_)) : List ah := ((fun e => [.I cc.s4.2.2.1, .I cc.s4.2.2.2.1, .I cc.s8.1, .I cc.s8.2.1, .I cc.s8.2.2.1, .I cc.s8.2.2.2.1, .I cc.s8.s4.1, .I cc.s8.s4.2.1, .I cc.s8.s4.2.2.1, .I cc.s8.s4.2.2.2.1, .I cc.s16.1, .I cc.s16.2.1, .I cc.s16.2.2.1, .I cc.s16.2.2.2.1, .I cc.s16.s4.1, .I cc.s16.s4.2.1, .I cc.s16.s4.2.2.1, .I cc.s16.s4.2.2.2.1, .I cc.s16.s8.1, .I cc.s16.s8.2.1, .I cc.s16.s8.2.2.1, .I cc.s16.s8.2.2.2.1, .I cc.s16.s8.s4.1, .I cc.s16.s8.s4.2.1, .I cc.s16.s8.s4.2.2, .C cc.1, .N cc.2.1, .C cc.2.2.1, .N cc.2.2.2.1, .C e, .N cc.s4.1]) e)
def jF (cc : eK) (e : (LA_)) : List ah := ((fun e => [.I cc.s4.2.2.1, .I cc.s4.2.2.2.1, .I cc.s8.1, .I cc.s8.2.1, .I cc.s8.2.2.1, .I cc.s8.2.2.2.1, .I cc.s8.s4.1, .I cc.s8.s4.2.1, .I cc.s8.s4.2.2.1, .I cc.s8.s4.2.2.2.1, .I cc.s16.1, .I cc.s16.2.1, .I cc.s16.2.2.1, .I cc.s16.2.2.2.1, .I cc.s16.s4.1, .I cc.s16.s4.2.1, .I cc.s16.s4.2.2.1, .I cc.s16.s4.2.2.2.1, .I cc.s16.s8.1, .I cc.s16.s8.2.1, .I cc.s16.s8.2.2.1, .I cc.s16.s8.2.2.2.1, .I cc.s16.s8.s4.1, .I cc.s16.s8.s4.2.1, .I cc.s16.s8.s4.2.2, .C cc.1, .N cc.2.1, .C cc.2.2.1, .N cc.2.2.2.1, .N cc.s4.1]) e)
def kw (o : an) (ls : List ah) : Option (((LA_)) × List ah) := match o with
 | .exit 6 => (match ls with
  | [.I x0, .I x1, .I x2, .I x3, .I x4, .I x5, .I x6, .I x7, .I x8, .I x9, .I x10, .I x11, .I x12, .I x13, .I x14, .I x15, .I x16, .I x17, .I x18, .I x19, .I x20, .I x21, .I x22, .I x23, .I x24, .C x25, .N x26, .C x27, .N x28, .C x29, .N x30] => some (x29, [.I x0, .I x1, .I x2, .I x3, .I x4, .I x5, .I x6, .I x7, .I x8, .I x9, .I x10, .I x11, .I x12, .I x13, .I x14, .I x15, .I x16, .I x17, .I x18, .I x19, .I x20, .I x21, .I x22, .I x23, .I x24, .C x25, .N x26, .C x27, .N x28, .N x30])
  | _ => none)
 | _ => none
theorem wC : ∀ o ls e cl cc, kw o ls = some (e, cl) → cl = jF cc e → ls = p9 cc e ∧ p8 e = o ∧ o ≠ .normal ∧ ∀ v, o = .pan v → sc 0 v = true := by
 intro o ls e cl cc h hc
 unfold kw at h
 split at h
 ·split at h
  ·cases h
   simp only [jF, List.cons.injEq, ah.I.injEq, ah.N.injEq, ah.C.injEq, and_true] at hc
   obtain ⟨rfl, rfl, rfl, rfl, rfl, rfl, rfl, rfl, rfl, rfl, rfl, rfl, rfl, rfl, rfl, rfl, rfl, rfl, rfl, rfl, rfl, rfl, rfl, rfl, rfl, rfl, rfl, rfl, rfl, rfl⟩ := hc
   exact ⟨rfl, rfl, by simp, by intro v hv; cases hv <;> rfl⟩
  ·cases h
 ·cases h
def BC (o : an) : ExS := match o with
 | .exit 6 => ⟨6, (rl none 5 (some (.ptr 2 0) :: some (.ptr 3 0) :: some (.ptr 4 0) :: none :: none :: none :: none :: some (.ptr 5 0) :: (rl none 40 (some (.agg (rl (.int .u64) 24 [])) :: some (.int .i64) :: (rl none 41 []))))), [(2, .vec 8 true), (3, .cells (rl (.ga .u64 0) 32 [.aO]) true none), (4, .vec 24 true), (5, .vec 8 true)], fun s => [0, 1, nameAt s 5 [], nameAt s 6 [], nameAt s 7 [], nameAt s 12 []], [], []⟩
 | _ => ⟨0, [], [], fun _ => [], [], []⟩
theorem zZ {R : Type} (cc : eK) (v : LA_ × LA_) (kn : (LA_ × LA_) → Option R) (ke : ((LA_)) → Option R) : dt cc v kn ke = (dt cc v (fun v => some (Sum.inl v)) fun e => some (Sum.inr e)).bind (Sum.elim kn ke) := by
 simp only [dt, bK, ai, Option.bind_assoc, cb, bF, Option.bind_some, Option.bind_none, Sum.elim_inl, Sum.elim_inr]
def lS : LD where
 CC := eK
 V := LA_ × LA_
 E := (LA_)
 n := 2
 K := 7
 M := (rl none 5 (some (.ptr 2 0) :: some (.ptr 3 0) :: some (.ptr 4 0) :: none :: none :: none :: none :: some (.ptr 5 0) :: none :: some (.ptr 6 0) :: (rl none 38 (some (.agg (rl (.int .u64) 24 [])) :: some (.int .i64) :: (rl none 41 [])))))
 B := [(2, .vec 8 true), (3, .cells (rl (.ga .u64 0) 32 [.aO]) true none), (4, .vec 24 true), (5, .vec 8 true), (6, .vec 8 true)]
 D := []
 pre := []
 F := fun s => [0, 1, nameAt s 5 [], nameAt s 6 [], nameAt s 7 [], nameAt s 12 [], nameAt s 14 []]
 toL := zY
 ofL := p7
 au := fun ls c v h => by
  unfold p7 at h
  split at h
  ·cases h; rfl
  ·cases h
 ck := dt
 nat := zZ
 sh := BC
 out := p8
 toE := p9
 fp := jF
 ofE := kw
 da := wC
 post := fun cc e k => ((fun e => k (.exit 6) (bd 6 (rl none 5 (some (.ptr 2 0) :: some (.ptr 3 0) :: some (.ptr 4 0) :: none :: none :: none :: none :: some (.ptr 5 0) :: (rl none 40 (some (.agg (v8 cc.s4.2.2.1 cc.s4.2.2.2.1 cc.s8.1 cc.s8.2.1 cc.s8.2.2.1 cc.s8.2.2.2.1 cc.s8.s4.1 cc.s8.s4.2.1 (v8 cc.s8.s4.2.2.1 cc.s8.s4.2.2.2.1 cc.s16.1 cc.s16.2.1 cc.s16.2.2.1 cc.s16.2.2.2.1 cc.s16.s4.1 cc.s16.s4.2.1 (v8 cc.s16.s4.2.2.1 cc.s16.s4.2.2.2.1 cc.s16.s8.1 cc.s16.s8.2.1 cc.s16.s8.2.2.1 cc.s16.s8.2.2.2.1 cc.s16.s8.s4.1 cc.s16.s8.s4.2.1 [])))) :: some (.int .i64 cc.s16.s8.s4.2.2) :: (rl none 41 []))))) [(2, .vec cc.1 cc.2.1 8 true), (3, .cells (rl (.int .u64 0) 32 [.aO]) true none), (4, .vec cc.2.2.1 cc.2.2.2.1 24 true), (5, .vec e cc.s4.1 8 true)] [])) e)
 cd := fun cc e k => by rfl
theorem qa : cF Try.prog 2 lS.la (aK Try.f45 3) :=
 LD.ok (ch := gT) (A := bt) aJ g9 mixed (fuel := 60) ⟨by kernel_rfl, fun e => by kernel_rfl, fun cc v => by kernel_rfl, aI (l := []) (by kernel_rfl) trivial⟩
def fQ {R : Type} (cc : eL) (v : LA_ × Int) (kn : (LA_ × Int) → Option R) (ke : ((LA_)) → Option R) : Option R :=
 (cond (decide (v.2 < 3)) (let l11 := ((v8 cc.2.2.2.2.2.1 cc.2.2.2.2.2.2.1 cc.2.2.2.2.2.2.2.1 cc.2.2.2.2.2.2.2.2.1 cc.2.2.2.2.2.2.2.2.2.1 cc.2.2.2.2.2.2.2.2.2.2.1 cc.2.2.2.2.2.2.2.2.2.2.2.1 cc.2.2.2.2.2.2.2.2.2.2.2.2.1 (v8 cc.2.2.2.2.2.2.2.2.2.2.2.2.2.1 cc.2.2.2.2.2.2.2.2.2.2.2.2.2.2.1 cc.2.2.2.2.2.2.2.2.2.2.2.2.2.2.2.1 cc.2.2.2.2.2.2.2.2.2.2.2.2.2.2.2.2.1 cc.2.2.2.2.2.2.2.2.2.2.2.2.2.2.2.2.2.1 cc.2.2.2.2.2.2.2.2.2.2.2.2.2.2.2.2.2.2.1 cc.2.2.2.2.2.2.2.2.2.2.2.2.2.2.2.2.2.2.2.1 cc.2.2.2.2.2.2.2.2.2.2.2.2.2.2.2.2.2.2.2.2.1 (v8 cc.2.2.2.2.2.2.2.2.2.2.2.2.2.2.2.2.2.2.2.2.2.1 cc.2.2.2.2.2.2.2.2.2.2.2.2.2.2.2.2.2.2.2.2.2.2.1 cc.2.2.2.2.2.2.2.2.2.2.2.2.2.2.2.2.2.2.2.2.2.2.2.1 cc.2.2.2.2.2.2.2.2.2.2.2.2.2.2.2.2.2.2.2.2.2.2.2.2.1 cc.2.2.2.2.2.2.2.2.2.2.2.2.2.2.2.2.2.2.2.2.2.2.2.2.2.1 cc.2.2.2.2.2.2.2.2.2.2.2.2.2.2.2.2.2.2.2.2.2.2.2.2.2.2.1 cc.2.2.2.2.2.2.2.2.2.2.2.2.2.2.2.2.2.2.2.2.2.2.2.2.2.2.2.1 cc.2.2.2.2.2.2.2.2.2.2.2.2.2.2.2.2.2.2.2.2.2.2.2.2.2.2.2.2 []))) : LA_); (af (decide (0 ≤ v.2) && decide (v.2 < ((3 : Nat) : Int)) && aq fW l11 (Int.toNat v.2 * 8)) (Option.bind (pU (ac l11 ((Int.toNat v.2 * 8) + 0)) (ac l11 ((Int.toNat v.2 * 8) + 1)) (ac l11 ((Int.toNat v.2 * 8) + 2)) (ac l11 ((Int.toNat v.2 * 8) + 3)) (ac l11 ((Int.toNat v.2 * 8) + 4)) (ac l11 ((Int.toNat v.2 * 8) + 5)) (ac l11 ((Int.toNat v.2 * 8) + 6)) (ac l11 ((Int.toNat v.2 * 8) + 7))) fun r12 => (cond (decide (r12 < 0)) (Option.bind (Dd (ac l11 ((Int.toNat v.2 * 8) + 0)) (ac l11 ((Int.toNat v.2 * 8) + 1)) (ac l11 ((Int.toNat v.2 * 8) + 2)) (ac l11 ((Int.toNat v.2 * 8) + 3)) (ac l11 ((Int.toNat v.2 * 8) + 4)) (ac l11 ((Int.toNat v.2 * 8) + 5)) (ac l11 ((Int.toNat v.2 * 8) + 6)) (ac l11 ((Int.toNat v.2 * 8) + 7))) fun r13 => (Option.bind (gp (cc.1, cc.2.1, cc.2.2.1, cc.2.2.2.1, cc.2.2.2.2.1, 1, cc.2.2.2.2.2.1, cc.2.2.2.2.2.2.1, cc.2.2.2.2.2.2.2.1, cc.2.2.2.2.2.2.2.2.1, cc.2.2.2.2.2.2.2.2.2.1, cc.2.2.2.2.2.2.2.2.2.2.1, cc.2.2.2.2.2.2.2.2.2.2.2.1, cc.2.2.2.2.2.2.2.2.2.2.2.2.1, cc.2.2.2.2.2.2.2.2.2.2.2.2.2.1, cc.2.2.2.2.2.2.2.2.2.2.2.2.2.2.1, cc.2.2.2.2.2.2.2.2.2.2.2.2.2.2.2.1, cc.2.2.2.2.2.2.2.2.2.2.2.2.2.2.2.2.1, cc.2.2.2.2.2.2.2.2.2.2.2.2.2.2.2.2.2.1, cc.2.2.2.2.2.2.2.2.2.2.2.2.2.2.2.2.2.2.1, cc.2.2.2.2.2.2.2.2.2.2.2.2.2.2.2.2.2.2.2.1, cc.2.2.2.2.2.2.2.2.2.2.2.2.2.2.2.2.2.2.2.2.1, cc.2.2.2.2.2.2.2.2.2.2.2.2.2.2.2.2.2.2.2.2.2.1, cc.2.2.2.2.2.2.2.2.2.2.2.2.2.2.2.2.2.2.2.2.2.2.1, cc.2.2.2.2.2.2.2.2.2.2.2.2.2.2.2.2.2.2.2.2.2.2.2.1, cc.2.2.2.2.2.2.2.2.2.2.2.2.2.2.2.2.2.2.2.2.2.2.2.2.1, cc.2.2.2.2.2.2.2.2.2.2.2.2.2.2.2.2.2.2.2.2.2.2.2.2.2.1, cc.2.2.2.2.2.2.2.2.2.2.2.2.2.2.2.2.2.2.2.2.2.2.2.2.2.2.1, cc.2.2.2.2.2.2.2.2.2.2.2.2.2.2.2.2.2.2.2.2.2.2.2.2.2.2.2.1, cc.2.2.2.2.2.2.2.2.2.2.2.2.2.2.2.2.2.2.2.2.2.2.2.2.2.2.2.2, v.2) (v.1, ((v8 (aa r13 0) (aa r13 1) (aa r13 2) (aa r13 3) (aa r13 4) (aa r13 5) (aa r13 6) (aa r13 7) []) : LA_))) fun e15 => (kn (e15, (IntKind.wrap .i64 (v.2 + 1)))))) (Option.bind (gp (cc.1, cc.2.1, cc.2.2.1, cc.2.2.2.1, cc.2.2.2.2.1, 1, cc.2.2.2.2.2.1, cc.2.2.2.2.2.2.1, cc.2.2.2.2.2.2.2.1, cc.2.2.2.2.2.2.2.2.1, cc.2.2.2.2.2.2.2.2.2.1, cc.2.2.2.2.2.2.2.2.2.2.1, cc.2.2.2.2.2.2.2.2.2.2.2.1, cc.2.2.2.2.2.2.2.2.2.2.2.2.1, cc.2.2.2.2.2.2.2.2.2.2.2.2.2.1, cc.2.2.2.2.2.2.2.2.2.2.2.2.2.2.1, cc.2.2.2.2.2.2.2.2.2.2.2.2.2.2.2.1, cc.2.2.2.2.2.2.2.2.2.2.2.2.2.2.2.2.1, cc.2.2.2.2.2.2.2.2.2.2.2.2.2.2.2.2.2.1, cc.2.2.2.2.2.2.2.2.2.2.2.2.2.2.2.2.2.2.1, cc.2.2.2.2.2.2.2.2.2.2.2.2.2.2.2.2.2.2.2.1, cc.2.2.2.2.2.2.2.2.2.2.2.2.2.2.2.2.2.2.2.2.1, cc.2.2.2.2.2.2.2.2.2.2.2.2.2.2.2.2.2.2.2.2.2.1, cc.2.2.2.2.2.2.2.2.2.2.2.2.2.2.2.2.2.2.2.2.2.2.1, cc.2.2.2.2.2.2.2.2.2.2.2.2.2.2.2.2.2.2.2.2.2.2.2.1, cc.2.2.2.2.2.2.2.2.2.2.2.2.2.2.2.2.2.2.2.2.2.2.2.2.1, cc.2.2.2.2.2.2.2.2.2.2.2.2.2.2.2.2.2.2.2.2.2.2.2.2.2.1, cc.2.2.2.2.2.2.2.2.2.2.2.2.2.2.2.2.2.2.2.2.2.2.2.2.2.2.1, cc.2.2.2.2.2.2.2.2.2.2.2.2.2.2.2.2.2.2.2.2.2.2.2.2.2.2.2.1, cc.2.2.2.2.2.2.2.2.2.2.2.2.2.2.2.2.2.2.2.2.2.2.2.2.2.2.2.2, v.2) (v.1, ([.int .u64 (ac l11 ((Int.toNat v.2 * 8) + 0)), .int .u64 (ac l11 ((Int.toNat v.2 * 8) + 1)), .int .u64 (ac l11 ((Int.toNat v.2 * 8) + 2)), .int .u64 (ac l11 ((Int.toNat v.2 * 8) + 3)), .int .u64 (ac l11 ((Int.toNat v.2 * 8) + 4)), .int .u64 (ac l11 ((Int.toNat v.2 * 8) + 5)), .int .u64 (ac l11 ((Int.toNat v.2 * 8) + 6)), .int .u64 (ac l11 ((Int.toNat v.2 * 8) + 7))] : LA_))) fun e16 => (kn (e16, (IntKind.wrap .i64 (v.2 + 1))))))))) (ke v.1))
def iH (cc : eL) (v : LA_ × Int) : Option ((LA_ × Int) ⊕ ((LA_))) := fQ cc v (fun v => some (Sum.inl v)) fun e => some (Sum.inr e)
def nu (cc : eL) (v : LA_ × Int) : Option ((LA_)) := dA (iH cc) v
def z5 (cc : eL) (v : LA_ × Int) : List ah := [.I cc.s4.2.1, .I cc.s4.2.2.1, .I cc.s4.2.2.2.1, .I cc.s8.1, .I cc.s8.2.1, .I cc.s8.2.2.1, .I cc.s8.2.2.2.1, .I cc.s8.s4.1, .I cc.s8.s4.2.1, .I cc.s8.s4.2.2.1, .I cc.s8.s4.2.2.2.1, .I cc.s16.1, .I cc.s16.2.1, .I cc.s16.2.2.1, .I cc.s16.2.2.2.1, .I cc.s16.s4.1, .I cc.s16.s4.2.1, .I cc.s16.s4.2.2.1, .I cc.s16.s4.2.2.2.1, .I cc.s16.s8.1, .I cc.s16.s8.2.1, .I cc.s16.s8.2.2.1, .I cc.s16.s8.2.2.2.1, .I cc.s16.s8.s4, .I v.2, .C cc.1, .N cc.2.1, .C cc.2.2.1, .N cc.2.2.2.1, .C v.1, .N cc.s4.1]
def qb (ls : List ah) : Option ((eL) × (LA_ × Int)) := match ls with
 | [.I x0, .I x1, .I x2, .I x3, .I x4, .I x5, .I x6, .I x7, .I x8, .I x9, .I x10, .I x11, .I x12, .I x13, .I x14, .I x15, .I x16, .I x17, .I x18, .I x19, .I x20, .I x21, .I x22, .I x23, .I x24, .C x25, .N x26, .C x27, .N x28, .C x29, .N x30] => some ((x25, x26, x27, x28, x30, x0, x1, x2, x3, x4, x5, x6, x7, x8, x9, x10, x11, x12, x13, x14, x15, x16, x17, x18, x19, x20, x21, x22, x23), (x29, x24))
 | _ => none
def qc (e : (LA_)) : an := ((fun e => .exit 4) e)
def qd (cc : eL) (e : (LA_)) : List ah := ((fun e => [.C cc.1, .N cc.2.1, .C cc.2.2.1, .N cc.2.2.2.1, .C e, .N cc.s4.1]) e)
def jG (cc : eL) (e : (LA_)) : List ah := ((fun e => [.C cc.1, .N cc.2.1, .C cc.2.2.1, .N cc.2.2.2.1, .N cc.s4.1]) e)
def ky (o : an) (ls : List ah) : Option (((LA_)) × List ah) := match o with
 | .exit 4 => (match ls with
  | [.C x0, .N x1, .C x2, .N x3, .C x4, .N x5] => some (x4, [.C x0, .N x1, .C x2, .N x3, .N x5])
  | _ => none)
 | _ => none
theorem wD : ∀ o ls e cl cc, ky o ls = some (e, cl) → cl = jG cc e → ls = qd cc e ∧ qc e = o ∧ o ≠ .normal ∧ ∀ v, o = .pan v → sc 0 v = true := by
 intro o ls e cl cc h hc
 unfold ky at h
 split at h
 ·split at h
  ·cases h
   simp only [jG, List.cons.injEq, ah.N.injEq, ah.C.injEq, and_true] at hc
   obtain ⟨rfl, rfl, rfl, rfl, rfl⟩ := hc
   exact ⟨rfl, rfl, by simp, by intro v hv; cases hv <;> rfl⟩
  ·cases h
 ·cases h
def BD (o : an) : ExS := match o with
 | .exit 4 => ⟨6, (rl none 5 (some (.ptr 2 0) :: some (.ptr 3 0) :: some (.ptr 4 0) :: none :: none :: none :: none :: some (.ptr 5 0) :: (rl none 83 []))), [(2, .vec 8 true), (3, .cells (rl (.ga .u64 0) 32 [.aO]) true none), (4, .vec 24 true), (5, .vec 8 true)], fun s => [0, 1, nameAt s 5 [], nameAt s 6 [], nameAt s 7 [], nameAt s 12 []], [], []⟩
 | _ => ⟨0, [], [], fun _ => [], [], []⟩
theorem z6 {R : Type} (cc : eL) (v : LA_ × Int) (kn : (LA_ × Int) → Option R) (ke : ((LA_)) → Option R) : fQ cc v kn ke = (fQ cc v (fun v => some (Sum.inl v)) fun e => some (Sum.inr e)).bind (Sum.elim kn ke) := by
 simp only [fQ, bK, ai, Option.bind_assoc, cb, bF, Option.bind_some, Option.bind_none, Sum.elim_inl, Sum.elim_inr]
def sV : LD where
 CC := eL
 V := LA_ × Int
 E := (LA_)
 n := 2
 K := 6
 M := (rl none 5 (some (.ptr 2 0) :: some (.ptr 3 0) :: some (.ptr 4 0) :: none :: none :: none :: none :: some (.ptr 5 0) :: (rl none 40 (some (.agg (rl (.int .u64) 24 [])) :: some (.int .i64) :: (rl none 41 [])))))
 B := [(2, .vec 8 true), (3, .cells (rl (.ga .u64 0) 32 [.aO]) true none), (4, .vec 24 true), (5, .vec 8 true)]
 D := []
 pre := []
 F := fun s => [0, 1, nameAt s 5 [], nameAt s 6 [], nameAt s 7 [], nameAt s 12 []]
 toL := z5
 ofL := qb
 au := fun ls c v h => by
  unfold qb at h
  split at h
  ·cases h; rfl
  ·cases h
 ck := fQ
 nat := z6
 sh := BD
 out := qc
 toE := qd
 fp := jG
 ofE := ky
 da := wD
 post := fun cc e k => ((fun e => k (.exit 4) (bd 6 (rl none 5 (some (.ptr 2 0) :: some (.ptr 3 0) :: some (.ptr 4 0) :: none :: none :: none :: none :: some (.ptr 5 0) :: (rl none 83 []))) [(2, .vec cc.1 cc.2.1 8 true), (3, .cells (rl (.int .u64 0) 32 [.aO]) true none), (4, .vec cc.2.2.1 cc.2.2.2.1 24 true), (5, .vec e cc.s4.1 8 true)] [])) e)
 cd := fun cc e k => by rfl
theorem z7 : cF Try.prog 2 sV.la (aK Try.f45 2) :=
 LD.ok (ch := gT) (A := eF [(17, lS.la)]) aJ g9 mixed (fuel := 60) ⟨by kernel_rfl, fun e => by kernel_rfl, fun cc v => by kernel_rfl, aI (l := [aK Try.f45 3]) (by kernel_rfl) ⟨bX (by kernel_rfl) qa, trivial⟩⟩
def kQ (cs0 : LA_) (n1 : Nat) (cs2 : LA_) (n3 : Nat) (a4 a5 a6 a7 a8 a9 a10 a11 : Int) : Option (vP) :=
 (Option.bind (oJ (cs2, n3, ((v8 a4 a5 a6 a7 a8 a9 a10 a11 []) : LA_), 1, 1, cs0, n1, ((n1 : Nat) : Int)) (((v8 0 0 0 0 0 0 0 0 (v8 0 0 0 0 0 0 0 0 (v8 0 0 0 0 0 0 0 0 []))) : LA_), 0)) fun e1 => (af (aq UE e1 0) (Option.bind (nu (((v8 a4 a5 a6 a7 a8 a9 a10 a11 []) : LA_), 1, e1, 1, 1, (ac e1 0), (ac e1 1), (ac e1 2), (ac e1 3), (ac e1 4), (ac e1 5), (ac e1 6), (ac e1 7), (ac e1 8), (ac e1 9), (ac e1 10), (ac e1 11), (ac e1 12), (ac e1 13), (ac e1 14), (ac e1 15), (ac e1 16), (ac e1 17), (ac e1 18), (ac e1 19), (ac e1 20), (ac e1 21), (ac e1 22), (ac e1 23)) (((v8 a4 a5 a6 a7 a8 a9 a10 a11 []) : LA_), 0)) fun e2 => (af (aq fW e1 0) (af (aq fW e2 0 && Nat.beq (List.length e2) 8) (Option.bind (bI (ac e1 0) (ac e1 1) (ac e1 2) (ac e1 3) (ac e1 4) (ac e1 5) (ac e1 6) (ac e1 7) (ac e2 0) (ac e2 1) (ac e2 2) (ac e2 3) (ac e2 4) (ac e2 5) (ac e2 6) (ac e2 7)) fun r3 => (af (aq fW e1 8) (af (aq fW e2 0 && Nat.beq (List.length e2) 8) (Option.bind (bI (ac e1 8) (ac e1 9) (ac e1 10) (ac e1 11) (ac e1 12) (ac e1 13) (ac e1 14) (ac e1 15) (ac e2 0) (ac e2 1) (ac e2 2) (ac e2 3) (ac e2 4) (ac e2 5) (ac e2 6) (ac e2 7)) fun r4 => (af (aq fW e1 16) (af (aq fW e2 0 && Nat.beq (List.length e2) 8) (Option.bind (bI (ac e1 16) (ac e1 17) (ac e1 18) (ac e1 19) (ac e1 20) (ac e1 21) (ac e1 22) (ac e1 23) (ac e2 0) (ac e2 1) (ac e2 2) (ac e2 3) (ac e2 4) (ac e2 5) (ac e2 6) (ac e2 7)) fun r5 => (af (aq fW e2 0 && Nat.beq (List.length e2) 8) (Option.bind (bI a4 a5 a6 a7 a8 a9 a10 a11 (ac e2 0) (ac e2 1) (ac e2 2) (ac e2 3) (ac e2 4) (ac e2 5) (ac e2 6) (ac e2 7)) fun r6 => (some (aX r3 (aX r4 (aX r5 ((aa r6 0), (aa r6 1), (aa r6 2), (aa r6 3), (aa r6 4), (aa r6 5), (aa r6 6), (aa r6 7))))))))))))))))))))
def dN : FD where
 X := vP
 k := 2
 pre := []
 F := fun s => [0, 1]
 M := .agg (rl (.int .u64) 32 [.aO])
 B := []
 toL := fun x => [.I x.1, .I x.2.1, .I x.2.2.1, .I x.2.2.2.1, .I x.s4.1, .I x.s4.2.1, .I x.s4.2.2.1, .I x.s4.2.2.2.1, .I x.s8.1, .I x.s8.2.1, .I x.s8.2.2.1, .I x.s8.2.2.2.1, .I x.s8.s4.1, .I x.s8.s4.2.1, .I x.s8.s4.2.2.1, .I x.s8.s4.2.2.2.1, .I x.s16.1, .I x.s16.2.1, .I x.s16.2.2.1, .I x.s16.2.2.2.1, .I x.s16.s4.1, .I x.s16.s4.2.1, .I x.s16.s4.2.2.1, .I x.s16.s4.2.2.2.1, .I x.s16.s8.1, .I x.s16.s8.2.1, .I x.s16.s8.2.2.1, .I x.s16.s8.2.2.2.1, .I x.s16.s8.s4.1, .I x.s16.s8.s4.2.1, .I x.s16.s8.s4.2.2.1, .I x.s16.s8.s4.2.2.2]
 ofL := fun ls => match ls with
  | [.I x0, .I x1, .I x2, .I x3, .I x4, .I x5, .I x6, .I x7, .I x8, .I x9, .I x10, .I x11, .I x12, .I x13, .I x14, .I x15, .I x16, .I x17, .I x18, .I x19, .I x20, .I x21, .I x22, .I x23, .I x24, .I x25, .I x26, .I x27, .I x28, .I x29, .I x30, .I x31] => some (x0, x1, x2, x3, x4, x5, x6, x7, x8, x9, x10, x11, x12, x13, x14, x15, x16, x17, x18, x19, x20, x21, x22, x23, x24, x25, x26, x27, x28, x29, x30, x31)
  | _ => none
 au := fun ls x h => by
  split at h
  ·cases h; rfl
  ·cases h
theorem Eh (cs0 : LA_) (n1 : Nat) (cs2 : LA_) (n3 : Nat) (a4 a5 a6 a7 a8 a9 a10 a11 : Int) (x : vP) (h : kQ cs0 n1 cs2 n3 a4 a5 a6 a7 a8 a9 a10 a11 = some x) : bc Try.prog 45 2 [.vec 0, .vec 1, .agg (v8 a4 a5 a6 a7 a8 a9 a10 a11 [])] [.vec cs0 n1 3 false, .vec cs2 n3 8 false] dN x :=
 FD.sem (ch := gT) (A := eF [(3, uo.la), (17, lS.la), (13, sV.la)]) (fn := Try.f45) (c := bq Try.f45) (fuel := 60) aJ g9 mixed bG dN Try.func45 (by kernel_rfl) (aI (l := [aK Try.f45 0, aK Try.f45 1, aK Try.f45 2, aK Try.f45 3]) (by kernel_rfl) ⟨bX (by kernel_rfl) BB, (eh (by kernel_rfl)), bX (by kernel_rfl) z7, bX (by kernel_rfl) qa, trivial⟩)
  (by kernel_rfl) (Eq.trans (by kernel_rfl) h)
def du (cs0 : LA_) (n1 : Nat) (cs2 : LA_) (n3 : Nat) (a4 a5 a6 a7 a8 a9 a10 a11 : Int) : Option (Int × Int × Int × Int) := Option.bind (kQ cs0 n1 cs2 n3 a4 a5 a6 a7 a8 a9 a10 a11) fun (x0, x1, x2, x3, x4, x5, x6, x7, x8, x9, x10, x11, x12, x13, x14, x15, x16, x17, x18, x19, x20, x21, x22, x23, x24, x25, x26, x27, x28, x29, x30, x31) => af (ok8 x0 x1 x2 x3 x4 x5 x6 x7 && ok8 x8 x9 x10 x11 x12 x13 x14 x15 && ok8 x16 x17 x18 x19 x20 x21 x22 x23 && ok8 x24 x25 x26 x27 x28 x29 x30 x31) (some ((num x0 x1 x2 x3 x4 x5 x6 x7), (num x8 x9 x10 x11 x12 x13 x14 x15), (num x16 x17 x18 x19 x20 x21 x22 x23), (num x24 x25 x26 x27 x28 x29 x30 x31)))
def qe : FD := ⟨Int × Int × Int × Int, dN.k, dN.pre, dN.F, dN.M, dN.B, fun y => dN.toL (aX y.1 (aX y.2.1 (aX y.2.2.1 ((aa y.2.2.2 0), (aa y.2.2.2 1), (aa y.2.2.2 2), (aa y.2.2.2 3), (aa y.2.2.2 4), (aa y.2.2.2 5), (aa y.2.2.2 6), (aa y.2.2.2 7))))), fun _ => none, fun _ _ h => by cases h⟩
theorem Fg (cs0 : LA_) (n1 : Nat) (cs2 : LA_) (n3 : Nat) (a4 a5 a6 a7 a8 a9 a10 a11 : Int) {y : Int × Int × Int × Int} (h : du cs0 n1 cs2 n3 a4 a5 a6 a7 a8 a9 a10 a11 = some y) : kQ cs0 n1 cs2 n3 a4 a5 a6 a7 a8 a9 a10 a11 = some (aX y.1 (aX y.2.1 (aX y.2.2.1 ((aa y.2.2.2 0), (aa y.2.2.2 1), (aa y.2.2.2 2), (aa y.2.2.2 3), (aa y.2.2.2 4), (aa y.2.2.2 5), (aa y.2.2.2 6), (aa y.2.2.2 7))))) := by
 unfold du at h
 obtain ⟨⟨x0, x1, x2, x3, x4, x5, x6, x7, x8, x9, x10, x11, x12, x13, x14, x15, x16, x17, x18, x19, x20, x21, x22, x23, x24, x25, x26, x27, x28, x29, x30, x31⟩, h1, h2⟩ := bE_ h
 obtain ⟨h3, h4⟩ := aH h2
 simp only [Bool.and_eq_true, and_assoc] at h3
 simp only [Option.some.injEq] at h4
 subst h4
 obtain ⟨o0, o1, o2, o3⟩ := h3
 have q0 := aQ o0
 have q1 := aQ o1
 have q2 := aQ o2
 have q3 := aQ o3
 rw [h1]
 simp only [aX, q0, q1, q2, q3]
theorem Ei (cs0 : LA_) (n1 : Nat) (cs2 : LA_) (n3 : Nat) (a4 a5 a6 a7 a8 a9 a10 a11 : Int) (y : Int × Int × Int × Int) (h : du cs0 n1 cs2 n3 a4 a5 a6 a7 a8 a9 a10 a11 = some y) : bc Try.prog 45 2 [.vec 0, .vec 1, .agg (v8 a4 a5 a6 a7 a8 a9 a10 a11 [])] [.vec cs0 n1 3 false, .vec cs2 n3 8 false] qe y := Eh cs0 n1 cs2 n3 a4 a5 a6 a7 a8 a9 a10 a11 _ (Fg cs0 n1 cs2 n3 a4 a5 a6 a7 a8 a9 a10 a11 h)
def tO (cs0 : LA_) (n1 : Nat) (cs2 : LA_) (n3 : Nat) (z4 : Int) : Option (Int × Int × Int × Int) := du cs0 n1 cs2 n3 (aa z4 0) (aa z4 1) (aa z4 2) (aa z4 3) (aa z4 4) (aa z4 5) (aa z4 6) (aa z4 7)
def tM : HK where
 call := fun args σ k => match args with
  | [x0, x1, .agg [.int .u64 a4, .int .u64 a5, .int .u64 a6, .int .u64 a7, .int .u64 a8, .int .u64 a9, .int .u64 a10, .int .u64 a11]] => cM σ 3 x0 fun cs0 n1 => cM σ 8 x1 fun cs2 n3 => Option.bind (du cs0 n1 cs2 n3 a4 a5 a6 a7 a8 a9 a10 a11) fun y => aA σ 2 (qe.val y) (qe.aL y) k
  | _ => none
 nat := fun args σ k => by
  repeat' split
  all_goals simp only [aw, ai, Option.bind_assoc, Option.bind_none, aA, Option.bind_some]
 pure := false
 pok := fun h => by cases h
theorem Ff : aW Try.prog 45 tM := by
 intro args σ r σ' h
 simp only [tM] at h
 split at h
 ·rename_i x0 x1 a4 a5 a6 a7 a8 a9 a10 a11
  obtain ⟨cs0, n1, he0, hf0, h⟩ := bA h
  obtain ⟨cs2, n3, he1, hf1, h⟩ := bA h
  obtain ⟨y, hy, h⟩ := bE_ h
  exact lifted (xs := [x0, x1]) (ls := [.vec cs0 n1 3 false, .vec cs2 n3 8 false]) (cargs := [.vec 0, .vec 1, .agg (v8 a4 a5 a6 a7 a8 a9 a10 a11 [])]) (bv.of ⟨⟨rfl, he0, hf0, by decide⟩, ⟨rfl, he1, hf1, by decide⟩, trivial⟩) rfl (Ei cs0 n1 cs2 n3 a4 a5 a6 a7 a8 a9 a10 a11 y hy) rfl rfl rfl rfl h
 ·cases h
end Go.Ev
