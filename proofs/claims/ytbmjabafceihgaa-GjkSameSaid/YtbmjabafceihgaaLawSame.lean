/- A list turned, and with the middle of two of its points more, has the same nearest point: the row of the law GjkSame, for every input. -/
import Derived.Test.YtbmjabafceihgaaRows
import Derived.Test.YtbmjabafceihgaaKan
namespace Go.Proofs.Ytbmjabafceihgaa.gjkSame
open Go.ChangeShapes Go.WideShapes Go.ChangeAt Go.RowKit Go.Ev
set_option linter.unusedVariables false
set_option linter.unusedSimpArgs false
theorem own : ownKnob Try.prog.godebug = none := by kernel_rfl
theorem laidOut : laidOutB Try.prog = true := by kernel_rfl
def pc (p : Pt) : LA_ := [.int .i64 p.1, .int .i64 p.2.1, .int .i64 p.2.2]
theorem K6 : ∀ l : List Pt, l.flatMap pc = pcs l
 | [] => rfl
 | p :: l => by rw [List.flatMap_cons, K6 l]; rfl
def Ty (Z : Nat → Int) : Pt := (Z 0, Z 1, Z 2)
theorem Sd (Z : Nat → Int) (j : Nat) (h : j < 3) : (pc (Ty Z))[j]? = some (.int .i64 (Z j)) := by
 match j, h with
 | 0, _ => rfl
 | 1, _ => rfl
 | 2, _ => rfl
theorem Qg {P : Program} {W : World} {base : Nat} {t e : TypeId} {a : Option Addr} {len cap : Nat} (ht : P.underlying t = some (.slice e)) (h : Value.okWide P W .any base t (.slice a len cap)) : len ≤ cap ∧ cap < 9223372036854775808 := by
 simp only [Value.okWide, ht, Cell.okWide] at h
 cases a with
 | none =>
  simp only [Cell.ok, ht] at h
  split at h <;> simp_all
 | some x =>
  simp only [Cell.ok, ht] at h
  have := h.2.1
  have e : IntKind.i64.max = 9223372036854775807 := by decide
  rw [e] at this
  exact ⟨h.1, by omega⟩
set_option maxRecDepth 100000 in
theorem walk (W : World) (a0 : Option Addr) (len0 cap0 : Nat) (x1 : Int) (r1 : IntKind.i64.has x1) (z0 : len0 = 0 ∨ ∃ (x : Addr) (Z : Nat → Int), a0 = some x ∧ ∀ k, k < len0 * 3 → W.cell? (x.add k) = some (.int .i64 (Z k))) (b0 : len0 ≤ cap0 ∧ cap0 < 9223372036854775808) :
  Calls Try.prog 3 #[.slice a0 len0 cap0, .int .i64 x1] W fun e w' => e = .returned (.bool true) ∧ Below W.heap.size W w' := by
 obtain ⟨l0, L0, p0, q0, s0, t0, u0, v0, w0⟩ := Pv pc Ty 3 (by decide) (fun _ => rfl) Sd (cap := cap0) b0.1 z0
 rw [K6] at u0 v0 w0
 have k := (sZ (pcs l0) l0.length x1 true (P9 l0 x1 (by omega) r1)).2
 have R : Rel (W0.all W) (fun i => L0) ⟨1, cS 0 [.vec (pcs l0) l0.length 3 false]⟩ W := Oh (ls := [.vec (pcs l0) l0.length 3 false]) (by
  intro i bb hi
  match i, hi with
  | 0, hi =>
   simp only [List.getElem?_cons_zero, UB] at hi
   subst hi
   exact ⟨u0 _, rfl, w0, fun q => v0 (Og q)⟩)
 have r := cE.row (ls := [.vec (pcs l0) l0.length 3 false]) k R rfl
 simp only [γL, γ, if_true, q0, s0, t0] at r
 exact r
set_option maxRecDepth 100000 in
theorem lifted (os : Os) (started : os.Started) (H : Type) (enc : TypeId × Value → H) :
  ReturnsInHanded {} Try.checked os 3 .any (Rows.gjkSameSpec.pre6 enc Try.prog Try.f3 Rows.gjkSameRow.domain false) (Rows.gjkSameSpec.post enc Try.prog Try.f3 false true false false) := by
 refine returnsInHanded_of_change_sized (C := Try.checked) own started (by kernel_rfl) Try.func3
  (ChangeSpec.witness6 (enc := enc) (C := Try.checked) false ⟨#[], #[.slice none 0 0, .int .i64 0], []⟩ 8 (by kernel_rfl) (by kernel_rfl) (by kernel_rfl) (by kernel_rfl)) ?_
 intro W base args ds gs before hval0 hW hcnd hsz0 _
 have hval : ∀ (j : Nat) t v, Try.f3.params[j]? = some t → args[j]? = some v → Value.okWide Try.prog W .any base t v := hval0
 have hW' := hW
 obtain ⟨p, q, hA0, hV, rfl, hfz, hnd⟩ := hW
 have hA : DataW.TrodAll enc Try.prog W 0 (fun _ => true) true Try.f3.params.toList args.toList ds p := hA0
 rw [Try.params3] at hA hval
 obtain ⟨v0, vs0, d0, ds0, p0, q0, hargs, rfl, rfl, h0, r0⟩ := trodAll_cons hA
 obtain ⟨v1, vs1, d1, ds1, p1, q1, rfl, rfl, rfl, h1, r1⟩ := trodAll_cons r0
 obtain ⟨rfl, rfl, rfl⟩ := trodAll_nil r1
 obtain rfl : args = #[v0, v1] := by cases args; simp_all
 obtain ⟨rfl, rfl⟩ := trodVars_none hV
 have k0 := h0
 have lt0 : ∀ x ∈ p0, x.block < W.heap.size := by obtain ⟨m, hm⟩ := k0; exact DataW.trod_lt m _ _ _ hm
 obtain ⟨a0, len0, cap0, rfl⟩ := okWide_slice Try.underlying22 (hval 0 22 v0 rfl rfl)
 have b0 := Qg Try.underlying22 (hval 0 22 _ rfl rfl)
 have z0 := Of (d := 8) Try.underlying22 (by kernel_rfl) (C := 3) (by kernel_rfl) (by decide) h0
 obtain ⟨x1, rfl, rfl, rfl, w1⟩ := open_int Try.underlying3 (hval 1 3 v1 rfl rfl) h1
 clear hA0 hval0 hsz0
 refine (walk W a0 len0 cap0 x1 (by simpa [Lit.wf, IntKind.has] using w1) z0 b0).mono fun e W' ⟨he, bel⟩ => ?_
 subst he
 exact ⟨_, rfl, _, _, _, [], _, [], hW', trodAll_mk1 (shut_bool Try.underlying4 _), (trodAll_cons_mk (Below.trod laidOut (by kernel_rfl) (of_decide_eq_true (by kernel_rfl)) k0 bel lt0) (trodAll_cons_mk (shut_int Try.underlying3 w1) trodAll_mk0)), rfl, bel.frame _, fun h => by cases h⟩
theorem Se : Try.prog.funcNamed Rows.gjkSameRow.func = some 3 := by kernel_rfl
theorem Tz : Try.f3.isInstance Try.prog Rows.gjkSameRow.origin Rows.gjkSameRow.targs := of_decide_eq_true (by kernel_rfl)
theorem TA : Try.f3.isWrapper Try.prog Rows.gjkSameRow.wrapper Rows.gjkSameRow.mainSum := by
 unfold Func.isWrapper; first | (rw [if_pos (by decide +kernel)]; kernel_rfl) | (rw [if_neg (by decide +kernel)]; exact ⟨rfl, rfl⟩)
theorem followed : Try.prog.unfollowed 3 = true := by kernel_rfl
theorem TB : Try.prog.inPlace 3 = ["math/bits.Add64"] := by kernel_rfl
theorem named : Try.prog.varsNamed 3 = [] := by kernel_rfl
theorem again : Try.prog.recurses 3 = true := by unfold Program.recurses; rw [followed]; rfl
theorem closed : joinedFacts Try.prog 3 Try.f3 Rows.gjkSameSpec Rows.gjkSameRow = true := by
 unfold joinedFacts; rw [followed, TB, named, again]; kernel_rfl
theorem Ur : Rows.gjkSameRow.holds Try.pinned (OpenSpec.ofChange Rows.gjkSameSpec) :=
 OpenClaim.holds_of_wide 3 Try.f3 rfl rfl rfl rfl rfl rfl rfl ⟨rfl, rfl, rfl, rfl, rfl⟩ rfl rfl rfl rfl rfl Se Try.func3 closed Tz TA
  (fun os started H enc _ => lifted os started H enc)
theorem proved : Rows.GjkSameSaid := Ur
#print axioms proved
end Go.Proofs.Ytbmjabafceihgaa.gjkSame
namespace Go.Proofs.Ytbmjabafceihgaa
theorem gjkSame_holds : Rows.GjkSameSaid := gjkSame.proved
end Go.Proofs.Ytbmjabafceihgaa

