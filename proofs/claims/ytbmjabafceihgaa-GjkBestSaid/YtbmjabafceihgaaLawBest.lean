/- Nothing of the points is past the nearest one, it is the nearest of its own points, a simplex, found in no more steps than there are simplices: the row of the law GjkBest, for every input. -/
import Derived.Test.YtbmjabafceihgaaRows
import Derived.Test.YtbmjabafceihgaaKam
import Derived.Test.YtbmjabafceihgaaKan
namespace Go.Proofs.Ytbmjabafceihgaa.gjkBest
open Go.ChangeShapes Go.WideShapes Go.ChangeAt Go.RowKit Go.Ev
set_option linter.unusedVariables false
set_option linter.unusedSimpArgs false
theorem own : ownKnob Try.prog.godebug = none := by kernel_rfl
theorem laidOut : laidOutB Try.prog = true := by kernel_rfl
def pc (p : Pt) : LA_ := [.int .i64 p.1, .int .i64 p.2.1, .int .i64 p.2.2]
theorem LF : ∀ l : List Pt, l.flatMap pc = pcs l
 | [] => rfl
 | p :: l => by rw [List.flatMap_cons, LF l]; rfl
def TI (Z : Nat → Int) : Pt := (Z 0, Z 1, Z 2)
theorem Sq (Z : Nat → Int) (j : Nat) (h : j < 3) : (pc (TI Z))[j]? = some (.int .i64 (Z j)) := by
 match j, h with
 | 0, _ => rfl
 | 1, _ => rfl
 | 2, _ => rfl
theorem walk (W : World) (a : Option Addr) (len cap : Nat) (h : len = 0 ∨ ∃ (x : Addr) (Z : Nat → Int), a = some x ∧ ∀ k, k < len * 3 → W.cell? (x.add k) = some (.int .i64 (Z k))) :
  Calls Try.prog 4 #[.slice a len cap] W fun e w' => e = .returned (.bool true) ∧ Below W.heap.size W w' := by
 obtain ⟨l, L, h1, h2, h3, h4, h5, h6, h7⟩ := PK pc TI 3 (by decide) (fun _ => rfl) Sq (cap := cap) h
 rw [LF] at h5 h6 h7
 have k := (tJ (pcs l) l.length true (Qo l)).2
 have R : Rel (W0.all W) (fun _ => L) ⟨1, cQ 0 [.vec (pcs l) l.length 3 false]⟩ W := OH (ls := [.vec (pcs l) l.length 3 false]) (by
  intro i bb hi
  match i, hi with
  | 0, hi =>
   simp only [List.getElem?_cons_zero, Option.some.injEq] at hi
   subst hi
   exact ⟨h5 _, rfl, h7, fun q => h6 (OG q)⟩)
 have r := di.row (ls := [.vec (pcs l) l.length 3 false]) k R rfl
 simp only [γL, γ, h2, h3, h4] at r
 exact r
set_option maxRecDepth 100000 in
theorem lifted (os : Os) (started : os.Started) (H : Type) (enc : TypeId × Value → H) :
  ReturnsInHanded {} Try.checked os 4 .any (Rows.gjkBestSpec.pre6 enc Try.prog Try.f4 Rows.gjkBestRow.domain false) (Rows.gjkBestSpec.post enc Try.prog Try.f4 false true false false) := by
 refine returnsInHanded_of_change_sized (C := Try.checked) own started (by kernel_rfl) Try.func4
  (ChangeSpec.witness6 (enc := enc) (C := Try.checked) false ⟨#[], #[.slice none 0 0], []⟩ 8 (by kernel_rfl) (by kernel_rfl) (by kernel_rfl) (by kernel_rfl)) ?_
 intro W base args ds gs before hval0 hW hcnd hsz0 _
 have hval : ∀ (j : Nat) t v, Try.f4.params[j]? = some t → args[j]? = some v → Value.okWide Try.prog W .any base t v := hval0
 have hW' := hW
 obtain ⟨p, q, hA0, hV, rfl, hfz, hnd⟩ := hW
 have hA : DataW.TrodAll enc Try.prog W 0 (fun _ => true) true Try.f4.params.toList args.toList ds p := hA0
 rw [Try.params4] at hA hval
 obtain ⟨v0, vs0, d0, ds0, p0, q0, hargs, rfl, rfl, h0, r0⟩ := trodAll_cons hA
 obtain ⟨rfl, rfl, rfl⟩ := trodAll_nil r0
 obtain rfl : args = #[v0] := by cases args; simp_all
 obtain ⟨rfl, rfl⟩ := trodVars_none hV
 have k0 := h0
 have lt0 : ∀ x ∈ p0, x.block < W.heap.size := by obtain ⟨m, hm⟩ := k0; exact DataW.trod_lt m _ _ _ hm
 obtain ⟨a0, len0, cap0, rfl⟩ := okWide_slice Try.underlying22 (hval 0 22 v0 rfl rfl)
 have z0 := OF (d := 8) Try.underlying22 (by kernel_rfl) (C := 3) (by kernel_rfl) (by decide) h0
 clear hA0 hval0 hsz0
 refine (walk W a0 len0 cap0 z0).mono fun e W' ⟨he, bel⟩ => ?_
 subst he
 exact ⟨_, rfl, _, _, _, [], _, [], hW', trodAll_mk1 (shut_bool Try.underlying4 _), trodAll_cons_mk (Below.trod laidOut (by kernel_rfl) (of_decide_eq_true (by kernel_rfl)) k0 bel lt0) trodAll_mk0, rfl, bel.frame _, fun h => by cases h⟩
theorem Sr : Try.prog.funcNamed Rows.gjkBestRow.func = some 4 := by kernel_rfl
theorem TJ : Try.f4.isInstance Try.prog Rows.gjkBestRow.origin Rows.gjkBestRow.targs := of_decide_eq_true (by kernel_rfl)
theorem TL : Try.f4.isWrapper Try.prog Rows.gjkBestRow.wrapper Rows.gjkBestRow.mainSum := by
 unfold Func.isWrapper; first | (rw [if_pos (by decide +kernel)]; kernel_rfl) | (rw [if_neg (by decide +kernel)]; exact ⟨rfl, rfl⟩)
theorem followed : Try.prog.unfollowed 4 = true := by kernel_rfl
theorem TM : Try.prog.inPlace 4 = ["math/bits.Add64"] := by kernel_rfl
theorem named : Try.prog.varsNamed 4 = [] := by kernel_rfl
theorem again : Try.prog.recurses 4 = true := by unfold Program.recurses; rw [followed]; rfl
theorem closed : joinedFacts Try.prog 4 Try.f4 Rows.gjkBestSpec Rows.gjkBestRow = true := by
 unfold joinedFacts; rw [followed, TM, named, again]; kernel_rfl
theorem UB : Rows.gjkBestRow.holds Try.pinned (OpenSpec.ofChange Rows.gjkBestSpec) :=
 OpenClaim.holds_of_wide 4 Try.f4 rfl rfl rfl rfl rfl rfl rfl ⟨rfl, rfl, rfl, rfl, rfl⟩ rfl rfl rfl rfl rfl Sr Try.func4 closed TJ TL
  (fun os started H enc _ => lifted os started H enc)
theorem proved : Rows.GjkBestSaid := UB
#print axioms proved
end Go.Proofs.Ytbmjabafceihgaa.gjkBest
namespace Go.Proofs.Ytbmjabafceihgaa
theorem gjkBest_holds : Rows.GjkBestSaid := gjkBest.proved
end Go.Proofs.Ytbmjabafceihgaa

