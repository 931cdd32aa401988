/- The row of GjkLess, for every input. -/
import Derived.Test.YtbmjabafceihgaaGreatRows
import Derived.Test.YtbmjabafceihgaaGreatKao
namespace Go.Proofs.YtbmjabafceihgaaGreat.gjkLess
open Go.ChangeShapes Go.WideShapes Go.ChangeAt Go.RowKit Go.Ev
theorem own : ownKnob Tryz.prog.godebug = none := by kernel_rfl
theorem lo : laidOutB Tryz.prog = true := by kernel_rfl
def pc (p : Pt) : LA_ := [.int .i64 p.1, .int .i64 p.2.1, .int .i64 p.2.2]
theorem MN : ∀ l : List Pt, l.flatMap pc = pcs l
 | [] => rfl
 | p :: l => by rw [List.flatMap_cons, MN l]; rfl
def Rz (Z : Nat → Int) : Pt := (Z 0, Z 1, Z 2)
theorem NW (Z : Nat → Int) (j : Nat) (h : j < 3) : (pc (Rz Z))[j]? = some (.int .i64 (Z j)) := by
 match j, h with
 | 0, _ => rfl
 | 1, _ => rfl
 | 2, _ => rfl
theorem walk (W : World) (a a' : Option Addr) (len cap len' cap' : Nat) (h : len = 0 ∨ ∃ (x : Addr) (Z : Nat → Int), a = some x ∧ ∀ k, k < len * 3 → W.cell? (x.add k) = some (.int .i64 (Z k)))
  (h' : len' = 0 ∨ ∃ (x : Addr) (Z : Nat → Int), a' = some x ∧ ∀ k, k < len' * 3 → W.cell? (x.add k) = some (.int .i64 (Z k))) :
  Calls Tryz.prog 3 #[.slice a len cap, .slice a' len' cap'] W fun e w' => e = .returned (.bool true) ∧ Below W.heap.size W w' := by
 obtain ⟨l, L, h1, h2, h3, h4, h5, h6, h7⟩ := L6 pc Rz 3 (by decide) (fun _ => rfl) NW (cap := cap) h
 obtain ⟨m, K, g1, g2, g3, g4, g5, g6, g7⟩ := L6 pc Rz 3 (by decide) (fun _ => rfl) NW (cap := cap') h'
 rw [MN] at h5 h6 h7 g5 g6 g7
 have k := (uI (pcs l) l.length (pcs m) m.length true (Rt l m)).2
 have R : Rel (W0.all W) (fun i => if i = 0 then L else K) ⟨2, dk 0 [.vec (pcs l) l.length 3 false, .vec (pcs m) m.length 3 false]⟩ W := PO (ls := [.vec (pcs l) l.length 3 false, .vec (pcs m) m.length 3 false]) (by
  intro i bb hi
  match i, hi with
  | 0, hi =>
   simp only [List.getElem?_cons_zero, Option.some.injEq] at hi
   subst hi
   exact ⟨h5 _, rfl, h7, fun q => h6 (Kj q)⟩
  | 1, hi =>
   simp only [List.getElem?_cons_succ, List.getElem?_cons_zero, Option.some.injEq] at hi
   subst hi
   exact ⟨g5 _, rfl, g7, fun q => g6 (Kj q)⟩)
 have r := (k _ _ W R rfl).mono (R' := fun e w' => e = .returned (.bool true) ∧ Below W.heap.size W w') (by rintro e w' ⟨ρ', rfl, k, _⟩; exact ⟨rfl, k.rel.os, k.rel.tape, k.rel.output, k.rel.size, fun q hq => k.rel.old q hq⟩)
 simp only [γL, γ, if_true, if_neg (show ¬ 1 = 0 by decide), h2, h3, h4, g2, g3, g4] at r
 exact r
set_option maxRecDepth 100000 in
theorem lifted (os : Os) (started : os.Started) (H : Type) (enc : TypeId × Value → H) :
  ReturnsInHanded {} Tryz.checked os 3 .any (Rows.gjkLessSpec.pre6 enc Tryz.prog Tryz.f3 Rows.gjkLessRow.domain false) (Rows.gjkLessSpec.post enc Tryz.prog Tryz.f3 false true false false) := by
 refine returnsInHanded_of_change_sized (C := Tryz.checked) own started (by kernel_rfl) Tryz.func3
  (ChangeSpec.witness6 (enc := enc) (C := Tryz.checked) false ⟨#[], #[.slice none 0 0, .slice none 0 0], []⟩ 8 (by kernel_rfl) (by kernel_rfl) (by kernel_rfl) (by kernel_rfl)) ?_
 intro W base args ds gs before hval0 hW hcnd hsz0 _
 have hval : ∀ (j : Nat) t v, Tryz.f3.params[j]? = some t → args[j]? = some v → Value.okWide Tryz.prog W .any base t v := hval0
 have hW' := hW
 obtain ⟨p, q, hA0, hV, rfl, hfz, hnd⟩ := hW
 have hA : DataW.TrodAll enc Tryz.prog W 0 (fun _ => true) true Tryz.f3.params.toList args.toList ds p := hA0
 rw [Tryz.params3] at hA hval
 obtain ⟨v0, vs0, d0, ds0, p0, q0, hargs, rfl, rfl, h0, r0⟩ := trodAll_cons hA
 obtain ⟨v1, vs1, d1, ds1, p1, q1, rfl, rfl, rfl, h1, r1⟩ := trodAll_cons r0
 obtain ⟨rfl, rfl, rfl⟩ := trodAll_nil r1
 obtain rfl : args = #[v0, v1] := by cases args; simp_all
 obtain ⟨rfl, rfl⟩ := trodVars_none hV
 have k0 := h0
 have k1 := h1
 have lt0 : ∀ x ∈ p0, x.block < W.heap.size := by obtain ⟨m, hm⟩ := k0; exact DataW.trod_lt m _ _ _ hm
 have lt1 : ∀ x ∈ p1, x.block < W.heap.size := by obtain ⟨m, hm⟩ := k1; exact DataW.trod_lt m _ _ _ hm
 obtain ⟨a0, len0, cap0, rfl⟩ := okWide_slice Tryz.underlying22 (hval 0 22 v0 rfl rfl)
 have z0 := Ki (d := 8) Tryz.underlying22 (by kernel_rfl) (C := 3) (by kernel_rfl) (by decide) h0
 obtain ⟨a1, len1, cap1, rfl⟩ := okWide_slice Tryz.underlying22 (hval 1 22 v1 rfl rfl)
 have z1 := Ki (d := 8) Tryz.underlying22 (by kernel_rfl) (C := 3) (by kernel_rfl) (by decide) h1
 clear hA0 hval0 hsz0
 refine (walk W a0 a1 len0 cap0 len1 cap1 z0 z1).mono fun e W' ⟨he, bel⟩ => ?_
 subst he
 exact ⟨_, rfl, _, _, _, [], _, [], hW', trodAll_mk1 (shut_bool Tryz.underlying4 _), trodAll_cons_mk (Below.trod lo (by kernel_rfl) (of_decide_eq_true (by kernel_rfl)) k0 bel lt0) (trodAll_cons_mk (Below.trod lo (by kernel_rfl) (of_decide_eq_true (by kernel_rfl)) k1 bel lt1) trodAll_mk0), rfl, bel.frame _, fun h => by cases h⟩
theorem Tn : Tryz.prog.funcNamed Rows.gjkLessRow.func = some 3 := by kernel_rfl
theorem UH : Tryz.f3.isInstance Tryz.prog Rows.gjkLessRow.origin Rows.gjkLessRow.targs := of_decide_eq_true (by kernel_rfl)
theorem UI : Tryz.f3.isWrapper Tryz.prog Rows.gjkLessRow.wrapper Rows.gjkLessRow.mainSum := by
 unfold Func.isWrapper; first | (rw [if_pos (by decide +kernel)]; kernel_rfl) | (rw [if_neg (by decide +kernel)]; exact ⟨rfl, rfl⟩)
theorem fo : Tryz.prog.unfollowed 3 = true := by kernel_rfl
theorem UJ : Tryz.prog.inPlace 3 = ["math/bits.Add64"] := by kernel_rfl
theorem named : Tryz.prog.varsNamed 3 = [] := by kernel_rfl
theorem ag : Tryz.prog.recurses 3 = true := by unfold Program.recurses; rw [fo]; rfl
theorem cl : joinedFacts Tryz.prog 3 Tryz.f3 Rows.gjkLessSpec Rows.gjkLessRow = true := by
 unfold joinedFacts; rw [fo, UJ, named, ag]; kernel_rfl
theorem Vy : Rows.gjkLessRow.holds Tryz.pinned (OpenSpec.ofChange Rows.gjkLessSpec) :=
 OpenClaim.holds_of_wide 3 Tryz.f3 rfl rfl rfl rfl rfl rfl rfl ⟨rfl, rfl, rfl, rfl, rfl⟩ rfl rfl rfl rfl rfl Tn Tryz.func3 cl UH UI
  (fun os started H enc _ => lifted os started H enc)
theorem proved : Rows.GjkLessSaid := Vy
end Go.Proofs.YtbmjabafceihgaaGreat.gjkLess
namespace Go.Proofs.YtbmjabafceihgaaGreat
theorem gjkLess_holds : Rows.GjkLessSaid := gjkLess.proved
end Go.Proofs.YtbmjabafceihgaaGreat

