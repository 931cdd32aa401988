/- The nearest of the differences the other way round is the opposite point, moving both lists alike changes nothing, lists that have one point meet, those whose bounds do not meet do not: the row of the law GjkBoth, for every input. -/
import Derived.Test.YtbmjabafceihgaaGreatRows
import Derived.Test.YtbmjabafceihgaaGreatKao
namespace Go.Proofs.YtbmjabafceihgaaGreat.gjkBoth
open Go.ChangeShapes Go.WideShapes Go.ChangeAt Go.RowKit Go.Ev
set_option linter.unusedVariables false
set_option linter.unusedSimpArgs false
theorem own : ownKnob Tryz.prog.godebug = none := by kernel_rfl
theorem laidOut : laidOutB Tryz.prog = true := by kernel_rfl
def pc (p : Pt) : LA_ := [.int .i64 p.1, .int .i64 p.2.1, .int .i64 p.2.2]
theorem Je : ∀ l : List Pt, l.flatMap pc = pcs l
 | [] => rfl
 | p :: l => by rw [List.flatMap_cons, Je l]; rfl
def TV (Z : Nat → Int) : Pt := (Z 0, Z 1, Z 2)
theorem Qb (Z : Nat → Int) (j : Nat) (h : j < 3) : (pc (TV Z))[j]? = some (.int .i64 (Z j)) := by
 match j, h with
 | 0, _ => rfl
 | 1, _ => rfl
 | 2, _ => rfl
theorem OY {P : Program} {W : World} {base : Nat} {t e : TypeId} {a : Option Addr} {len cap : Nat} (ht : P.underlying t = some (.slice e)) (h : Value.okWide P W .any base t (.slice a len cap)) : len ≤ cap ∧ cap < 9223372036854775808 := by
 simp only [Value.okWide, ht, Cell.okWide] at h
 cases a with
 | none =>
  simp only [Cell.ok, ht] at h
  split at h <;> simp_all
 | some x =>
  simp only [Cell.ok, ht] at h
  have := h.2.1
  have e : IntKind.i64.max = 9223372036854775807 := by decide
  rw [e] at this
  exact ⟨h.1, by omega⟩
def k3 : List Bool := [true, true, true]
set_option maxRecDepth 100000 in
theorem walk (W : World) (a0 : Option Addr) (len0 cap0 : Nat) (a1 : Option Addr) (len1 cap1 : Nat) (Z2 : Nat → Int) (S2 : Nat → Option Addr × Nat × Nat) (z0 : len0 = 0 ∨ ∃ (x : Addr) (Z : Nat → Int), a0 = some x ∧ ∀ k, k < len0 * 3 → W.cell? (x.add k) = some (.int .i64 (Z k))) (b0 : len0 ≤ cap0 ∧ cap0 < 9223372036854775808) (z1 : len1 = 0 ∨ ∃ (x : Addr) (Z : Nat → Int), a1 = some x ∧ ∀ k, k < len1 * 3 → W.cell? (x.add k) = some (.int .i64 (Z k))) (b1 : len1 ≤ cap1 ∧ cap1 < 9223372036854775808) :
  Calls Tryz.prog 4 #[.slice a0 len0 cap0, .slice a1 len1 cap1, .agg (yJ Z2 S2 k3 0).toArray] W fun e w' => e = .returned (.bool true) ∧ Below W.heap.size W w' := by
 obtain ⟨l0, L0, p0, q0, s0, t0, u0, v0, w0⟩ := Oh pc TV 3 (by decide) (fun _ => rfl) Qb (cap := cap0) z0
 rw [Je] at u0 v0 w0
 obtain ⟨l1, L1, p1, q1, s1, t1, u1, v1, w1⟩ := Oh pc TV 3 (by decide) (fun _ => rfl) Qb (cap := cap1) z1
 rw [Je] at u1 v1 w1
 have k := (vy (pcs l0) l0.length (pcs l1) l1.length (Z2 0) (Z2 1) (Z2 2) true (TO l0 l1 (Z2 0, Z2 1, Z2 2))).2
 have R : Rel (W0.all W) (fun i => if i = 0 then L0 else L1) ⟨2, dh 0 [.vec (pcs l0) l0.length 3 false, .vec (pcs l1) l1.length 3 false]⟩ W := RS (ls := [.vec (pcs l0) l0.length 3 false, .vec (pcs l1) l1.length 3 false]) (by
  intro i bb hi
  match i, hi with
  | 0, hi =>
   simp only [List.getElem?_cons_zero, Yh] at hi
   subst hi
   exact ⟨u0 _, rfl, w0, fun q => v0 (L5 q)⟩
  | 1, hi =>
   simp only [List.getElem?_cons_succ, List.getElem?_cons_zero, Yh] at hi
   subst hi
   exact ⟨u1 _, rfl, w1, fun q => v1 (L5 q)⟩)
 have r := dD.row (ls := [.vec (pcs l0) l0.length 3 false, .vec (pcs l1) l1.length 3 false]) k R rfl
 simp only [γL, γ, if_true, if_neg (show ¬ 1 = 0 by decide), q0, s0, t0, q1, s1, t1] at r
 exact r
set_option maxRecDepth 100000 in
theorem aG (os : Os) (started : os.Started) (H : Type) (enc : TypeId × Value → H) :
  ReturnsInHanded {} Tryz.checked os 4 .any (Rows.gjkBothSpec.pre6 enc Tryz.prog Tryz.f4 Rows.gjkBothRow.domain false) (Rows.gjkBothSpec.post enc Tryz.prog Tryz.f4 false true false false) := by
 refine returnsInHanded_of_change_sized (C := Tryz.checked) own started (by kernel_rfl) Tryz.func4
  (ChangeSpec.witness6 (enc := enc) (C := Tryz.checked) false ⟨#[], #[.slice none 0 0, .slice none 0 0, .agg #[.int .i64 0, .int .i64 0, .int .i64 0]], []⟩ 8 (by kernel_rfl) (by kernel_rfl) (by kernel_rfl) (by kernel_rfl)) ?_
 intro W base args ds gs before hval0 hW hcnd hsz0 _
 have hval : ∀ (j : Nat) t v, Tryz.f4.params[j]? = some t → args[j]? = some v → Value.okWide Tryz.prog W .any base t v := hval0
 have hW' := hW
 obtain ⟨p, q, hA0, hV, rfl, hfz, hnd⟩ := hW
 have hA : DataW.TrodAll enc Tryz.prog W 0 (fun _ => true) true Tryz.f4.params.toList args.toList ds p := hA0
 rw [Tryz.params4] at hA hval
 obtain ⟨v0, vs0, d0, ds0, p0, q0, hargs, rfl, rfl, h0, r0⟩ := trodAll_cons hA
 obtain ⟨v1, vs1, d1, ds1, p1, q1, rfl, rfl, rfl, h1, r1⟩ := trodAll_cons r0
 obtain ⟨v2, vs2, d2, ds2, p2, q2, rfl, rfl, rfl, h2, r2⟩ := trodAll_cons r1
 obtain ⟨rfl, rfl, rfl⟩ := trodAll_nil r2
 obtain rfl : args = #[v0, v1, v2] := by cases args; simp_all
 obtain ⟨rfl, rfl⟩ := trodVars_none hV
 have k0 := h0
 have k1 := h1
 have k2 := h2
 have lt0 : ∀ x ∈ p0, x.block < W.heap.size := by obtain ⟨m, hm⟩ := k0; exact DataW.trod_lt m _ _ _ hm
 have lt1 : ∀ x ∈ p1, x.block < W.heap.size := by obtain ⟨m, hm⟩ := k1; exact DataW.trod_lt m _ _ _ hm
 have lt2 : ∀ x ∈ p2, x.block < W.heap.size := by obtain ⟨m, hm⟩ := k2; exact DataW.trod_lt m _ _ _ hm
 obtain ⟨a0, len0, cap0, rfl⟩ := okWide_slice Tryz.underlying22 (hval 0 22 v0 rfl rfl)
 have b0 := OY Tryz.underlying22 (hval 0 22 _ rfl rfl)
 have z0 := L4 (d := 8) Tryz.underlying22 (by kernel_rfl) (C := 3) (by kernel_rfl) (by decide) h0
 obtain ⟨a1, len1, cap1, rfl⟩ := okWide_slice Tryz.underlying22 (hval 1 22 v1 rfl rfl)
 have b1 := OY Tryz.underlying22 (hval 1 22 _ rfl rfl)
 have z1 := L4 (d := 8) Tryz.underlying22 (by kernel_rfl) (C := 3) (by kernel_rfl) (by decide) h1
 obtain ⟨Z2, S2, rfl⟩ := RV (ts := (Tryz.prog.cellTypes Tryz.prog.depth 44).getD []) (ks := k3) Tryz.underlying44 (by kernel_rfl) (by kernel_rfl) (by kernel_rfl) (hval 2 44 v2 rfl rfl)
 clear hA0 hval0 hsz0
 refine (walk W a0 len0 cap0 a1 len1 cap1 Z2 S2 z0 b0 z1 b1).mono fun e W' ⟨he, bel⟩ => ?_
 subst he
 exact ⟨_, rfl, _, _, _, [], _, [], hW', trodAll_mk1 (shut_bool Tryz.underlying4 _), (trodAll_cons_mk (Below.trod laidOut (by kernel_rfl) (of_decide_eq_true (by kernel_rfl)) k0 bel lt0) (trodAll_cons_mk (Below.trod laidOut (by kernel_rfl) (of_decide_eq_true (by kernel_rfl)) k1 bel lt1) (trodAll_cons_mk (Below.trod laidOut (by kernel_rfl) (of_decide_eq_true (by kernel_rfl)) k2 bel lt2) trodAll_mk0))), rfl, bel.frame _, fun h => by cases h⟩
theorem VR : Tryz.prog.funcNamed Rows.gjkBothRow.func = some 4 := by kernel_rfl
theorem Xf : Tryz.f4.isInstance Tryz.prog Rows.gjkBothRow.origin Rows.gjkBothRow.targs := of_decide_eq_true (by kernel_rfl)
theorem Xg : Tryz.f4.isWrapper Tryz.prog Rows.gjkBothRow.wrapper Rows.gjkBothRow.mainSum := by
 unfold Func.isWrapper; first | (rw [if_pos (by decide +kernel)]; kernel_rfl) | (rw [if_neg (by decide +kernel)]; exact ⟨rfl, rfl⟩)
theorem followed : Tryz.prog.unfollowed 4 = true := by kernel_rfl
theorem Xh : Tryz.prog.inPlace 4 = ["math/bits.Add64"] := by kernel_rfl
theorem named : Tryz.prog.varsNamed 4 = [] := by kernel_rfl
theorem again : Tryz.prog.recurses 4 = true := by unfold Program.recurses; rw [followed]; rfl
theorem closed : joinedFacts Tryz.prog 4 Tryz.f4 Rows.gjkBothSpec Rows.gjkBothRow = true := by
 unfold joinedFacts; rw [followed, Xh, named, again]; kernel_rfl
theorem X7 : Rows.gjkBothRow.holds Tryz.pinned (OpenSpec.ofChange Rows.gjkBothSpec) :=
 OpenClaim.holds_of_wide 4 Tryz.f4 rfl rfl rfl rfl rfl rfl rfl ⟨rfl, rfl, rfl, rfl, rfl⟩ rfl rfl rfl rfl rfl VR Tryz.func4 closed Xf Xg
  (fun os started H enc _ => aG os started H enc)
theorem proved : Rows.GjkBothSaid := X7
#print axioms proved
end Go.Proofs.YtbmjabafceihgaaGreat.gjkBoth
namespace Go.Proofs.YtbmjabafceihgaaGreat
theorem gjkBoth_holds : Rows.GjkBothSaid := gjkBoth.proved
end Go.Proofs.YtbmjabafceihgaaGreat

