/- The row of the law CacheSame, out of its plain law and the evaluator's summary of its function. -/
import Derived.Test.YthjoljondlhhmaaRows
import Derived.Test.YthjoljondlhhmaaPlE
import Derived.Test.YthjoljondlhhmaaEvR
namespace Go.Proofs.Ythjoljondlhhmaa.cacheSame
open Go.ChangeShapes Go.WideShapes Go.ChangeAt Go.RowKit Go.Ev
set_option linter.unusedVariables false
set_option linter.unusedSimpArgs false
theorem own : ownKnob Try.prog.godebug = none := by kernel_rfl
theorem laidOut : laidOutB Try.prog = true := by kernel_rfl
def rowE (Z : Nat → Int) : En := ((Z 0, Z 1, Z 2, Z 3), Z 4, Z 5, Z 6)
theorem rowE_ok (Z : Nat → Int) (j : Nat) (h : j < 7) : (ec (rowE Z))[j]? = some (.int .i64 (Z j)) := by
  match j, h with
  | 0, _ => rfl
  | 1, _ => rfl
  | 2, _ => rfl
  | 3, _ => rfl
  | 4, _ => rfl
  | 5, _ => rfl
  | 6, _ => rfl
def rowK (Z : Nat → Int) : Ky := (Z 0, Z 1, Z 2, Z 3)
theorem rowK_ok (Z : Nat → Int) (j : Nat) (h : j < 4) : (kc (rowK Z))[j]? = some (.int .i64 (Z j)) := by
  match j, h with
  | 0, _ => rfl
  | 1, _ => rfl
  | 2, _ => rfl
  | 3, _ => rfl
theorem walk (W : World) (a a' : Option Addr) (len cap len' cap' : Nat) (m : Int) (h : len = 0 ∨ ∃ (x : Addr) (Z : Nat → Int), a = some x ∧ ∀ k, k < len * 7 → W.cell? (x.add k) = some (.int .i64 (Z k)))
    (h' : len' = 0 ∨ ∃ (x : Addr) (Z : Nat → Int), a' = some x ∧ ∀ k, k < len' * 4 → W.cell? (x.add k) = some (.int .i64 (Z k))) :
    Calls Try.prog 4 #[.slice a len cap, .slice a' len' cap', .int .i64 m] W fun e w' => e = .returned (.bool true) ∧ Below W.heap.size W w' := by
  obtain ⟨l, L, h1, h2, h3, h4, h5, h6, h7⟩ := rows_vec ec rowE 7 (by decide) (fun _ => rfl) rowE_ok (cap := cap) h
  obtain ⟨ks, K, g1, g2, g3, g4, g5, g6, g7⟩ := rows_vec kc rowK 4 (by decide) (fun _ => rfl) rowK_ok (cap := cap') h'
  have k := (f4_sem (ecs l) l.length (kcs ks) ks.length m true (f4_eq l ks m)).2
  have R : Rel (W0.all W) (fun i => if i = 0 then L else K) ⟨2, numB 0 [.vec (ecs l) l.length 7 false, .vec (kcs ks) ks.length 4 false]⟩ W := start_rel (ls := [.vec (ecs l) l.length 7 false, .vec (kcs ks) ks.length 4 false]) (by
    intro i bb hi
    match i, hi with
    | 0, hi =>
      simp only [List.getElem?_cons_zero, Option.some.injEq] at hi
      subst hi
      exact ⟨h5 _, rfl, h7, fun q => h6 (alive_vec q)⟩
    | 1, hi =>
      simp only [List.getElem?_cons_succ, List.getElem?_cons_zero, Option.some.injEq] at hi
      subst hi
      exact ⟨g5 _, rfl, g7, fun q => g6 (alive_vec q)⟩)
  have r := SemCall.row (ls := [.vec (ecs l) l.length 7 false, .vec (kcs ks) ks.length 4 false]) k R rfl
  simp only [γL, γ, if_true, if_neg (show ¬ 1 = 0 by decide), h2, h3, h4, g2, g3, g4] at r
  exact r
set_option maxRecDepth 100000 in
theorem lifted (os : Os) (started : os.Started) (H : Type) (enc : TypeId × Value → H) :
    ReturnsInHanded {} Try.checked os 4 .any (Rows.cacheSameSpec.pre6 enc Try.prog Try.f4 Rows.cacheSameRow.domain false) (Rows.cacheSameSpec.post enc Try.prog Try.f4 false true false false) := by
  refine returnsInHanded_of_change_sized (C := Try.checked) own started (by kernel_rfl) Try.func4
    (ChangeSpec.witness6 (enc := enc) (C := Try.checked) false ⟨#[], #[.slice none 0 0, .slice none 0 0, .int .i64 0], []⟩ 8 (by kernel_rfl) (by kernel_rfl) (by kernel_rfl) (by kernel_rfl)) ?_
  intro W base args ds gs before hval0 hW hcnd hsz0 _
  have hval : ∀ (j : Nat) t v, Try.f4.params[j]? = some t → args[j]? = some v → Value.okWide Try.prog W .any base t v := hval0
  have hW' := hW
  obtain ⟨p, q, hA0, hV, rfl, hfz, hnd⟩ := hW
  have hA : DataW.TrodAll enc Try.prog W 0 (fun _ => true) true Try.f4.params.toList args.toList ds p := hA0
  rw [Try.params4] at hA hval
  obtain ⟨v0, vs0, d0, ds0, p0, q0, hargs, rfl, rfl, h0, r0⟩ := trodAll_cons hA
  obtain ⟨v1, vs1, d1, ds1, p1, q1, rfl, rfl, rfl, h1, r1⟩ := trodAll_cons r0
  obtain ⟨v2, vs2, d2, ds2, p2, q2, rfl, rfl, rfl, h2, r2⟩ := trodAll_cons r1
  obtain ⟨rfl, rfl, rfl⟩ := trodAll_nil r2
  obtain rfl : args = #[v0, v1, v2] := by cases args; simp_all
  obtain ⟨rfl, rfl⟩ := trodVars_none hV
  have k0 := h0
  have k1 := h1
  have lt0 : ∀ x ∈ p0, x.block < W.heap.size := by obtain ⟨m, hm⟩ := k0; exact DataW.trod_lt m _ _ _ hm
  have lt1 : ∀ x ∈ p1, x.block < W.heap.size := by obtain ⟨m, hm⟩ := k1; exact DataW.trod_lt m _ _ _ hm
  obtain ⟨a0, len0, cap0, rfl⟩ := okWide_slice Try.underlying22 (hval 0 22 v0 rfl rfl)
  have z0 := open_rows (d := 8) Try.underlying22 (by kernel_rfl) (C := 7) (by kernel_rfl) (by decide) h0
  obtain ⟨a1, len1, cap1, rfl⟩ := okWide_slice Try.underlying23 (hval 1 23 v1 rfl rfl)
  have z1 := open_rows (d := 8) Try.underlying23 (by kernel_rfl) (C := 4) (by kernel_rfl) (by decide) h1
  obtain ⟨a2, rfl, rfl, rfl, w2⟩ := open_int Try.underlying3 (hval 2 3 v2 rfl rfl) h2
  clear hA0 hval0 hsz0
  refine (walk W a0 a1 len0 cap0 len1 cap1 a2 z0 z1).mono fun e W' ⟨he, bel⟩ => ?_
  subst he
  exact ⟨_, rfl, _, _, _, [], _, [], hW', trodAll_mk1 (shut_bool Try.underlying4 _), trodAll_cons_mk (Below.trod laidOut (by kernel_rfl) (of_decide_eq_true (by kernel_rfl)) k0 bel lt0) (trodAll_cons_mk (Below.trod laidOut (by kernel_rfl) (of_decide_eq_true (by kernel_rfl)) k1 bel lt1)
    (trodAll_cons_mk (shut_int Try.underlying3 w2) trodAll_mk0)), rfl, bel.frame _, fun h => by cases h⟩
theorem over : Rows.cacheSameRow.holds Try.pinned (OpenSpec.ofChange Rows.cacheSameSpec) :=
  OpenClaim.holds_of_wide 4 Try.f4 rfl rfl rfl rfl rfl rfl rfl ⟨rfl, rfl, rfl, rfl, rfl⟩ rfl rfl rfl rfl rfl (by kernel_rfl) Try.func4 (by kernel_rfl)
    (of_decide_eq_true (by kernel_rfl)) (by unfold Func.isWrapper; first | (rw [if_pos (by decide +kernel)]; kernel_rfl) | (rw [if_neg (by decide +kernel)]; exact ⟨rfl, rfl⟩))
    (fun os started H enc _ => lifted os started H enc)
theorem proved : Rows.CacheSameSaid := over
#print axioms proved
end Go.Proofs.Ythjoljondlhhmaa.cacheSame
namespace Go.Proofs.Ythjoljondlhhmaa
/-- The row, under a short name, for the claim. -/
theorem cacheSame_holds : Rows.CacheSameSaid := cacheSame.proved
end Go.Proofs.Ythjoljondlhhmaa
