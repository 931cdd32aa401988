/- The row of the law CacheCarry, out of its plain law and the evaluator's summary of its function. -/
import Derived.Test.YthjoljondlhhmaaRows
import Derived.Test.YthjoljondlhhmaaPlD
import Derived.Test.YthjoljondlhhmaaEvR
namespace Go.Proofs.Ythjoljondlhhmaa.cacheCarry
open Go.ChangeShapes Go.WideShapes Go.ChangeAt Go.RowKit Go.Ev
set_option linter.unusedVariables false
set_option linter.unusedSimpArgs false
theorem own : ownKnob Try.prog.godebug = none := by kernel_rfl
theorem laidOut : laidOutB Try.prog = true := by kernel_rfl
def rowE (Z : Nat → Int) : En := ((Z 0, Z 1, Z 2, Z 3), Z 4, Z 5, Z 6)
theorem rowE_ok (Z : Nat → Int) (j : Nat) (h : j < 7) : (ec (rowE Z))[j]? = some (.int .i64 (Z j)) := by
  match j, h with
  | 0, _ => rfl
  | 1, _ => rfl
  | 2, _ => rfl
  | 3, _ => rfl
  | 4, _ => rfl
  | 5, _ => rfl
  | 6, _ => rfl
def rowK (Z : Nat → Int) : Ky := (Z 0, Z 1, Z 2, Z 3)
theorem rowK_ok (Z : Nat → Int) (j : Nat) (h : j < 4) : (kc (rowK Z))[j]? = some (.int .i64 (Z j)) := by
  match j, h with
  | 0, _ => rfl
  | 1, _ => rfl
  | 2, _ => rfl
  | 3, _ => rfl
theorem walk (W : World) (a a' : Option Addr) (len cap len' cap' : Nat) (x y : List Int) (hx : x.length = 4) (hy : y.length = 4) (h : len = 0 ∨ ∃ (x : Addr) (Z : Nat → Int), a = some x ∧ ∀ k, k < len * 7 → W.cell? (x.add k) = some (.int .i64 (Z k)))
    (h' : len' = 0 ∨ ∃ (x : Addr) (Z : Nat → Int), a' = some x ∧ ∀ k, k < len' * 4 → W.cell? (x.add k) = some (.int .i64 (Z k))) :
    Calls Try.prog 3 #[.slice a len cap, .slice a' len' cap', .agg (x.map (Value.int .i64)).toArray, .agg (y.map (Value.int .i64)).toArray] W fun e w' => e = .returned (.bool true) ∧ Below W.heap.size W w' := by
  obtain ⟨l, L, h1, h2, h3, h4, h5, h6, h7⟩ := rows_vec ec rowE 7 (by decide) (fun _ => rfl) rowE_ok (cap := cap) h
  obtain ⟨ks, K, g1, g2, g3, g4, g5, g6, g7⟩ := rows_vec kc rowK 4 (by decide) (fun _ => rfl) rowK_ok (cap := cap') h'
  match x, hx with
  | [x0, x1, x2, x3], _ =>
  match y, hy with
  | [y0, y1, y2, y3], _ =>
  have k := (f3_sem (ecs l) l.length (kcs ks) ks.length x0 x1 x2 x3 y0 y1 y2 y3 true (f3_eq l ks _ _ _ _ _ _ _ _)).2
  have R : Rel (W0.all W) (fun i => if i = 0 then L else K) ⟨2, numB 0 [.vec (ecs l) l.length 7 false, .vec (kcs ks) ks.length 4 false]⟩ W := start_rel (ls := [.vec (ecs l) l.length 7 false, .vec (kcs ks) ks.length 4 false]) (by
    intro i bb hi
    match i, hi with
    | 0, hi =>
      simp only [List.getElem?_cons_zero, Option.some.injEq] at hi
      subst hi
      exact ⟨h5 _, rfl, h7, fun q => h6 (alive_vec q)⟩
    | 1, hi =>
      simp only [List.getElem?_cons_succ, List.getElem?_cons_zero, Option.some.injEq] at hi
      subst hi
      exact ⟨g5 _, rfl, g7, fun q => g6 (alive_vec q)⟩)
  have r := SemCall.row (ls := [.vec (ecs l) l.length 7 false, .vec (kcs ks) ks.length 4 false]) k R rfl
  simp only [γL, γ, if_true, if_neg (show ¬ 1 = 0 by decide), h2, h3, h4, g2, g3, g4] at r
  exact r
set_option maxRecDepth 100000 in
theorem lifted (os : Os) (started : os.Started) (H : Type) (enc : TypeId × Value → H) :
    ReturnsInHanded {} Try.checked os 3 .any (Rows.cacheCarrySpec.pre6 enc Try.prog Try.f3 Rows.cacheCarryRow.domain false) (Rows.cacheCarrySpec.post enc Try.prog Try.f3 false true false false) := by
  refine returnsInHanded_of_change_sized (C := Try.checked) own started (by kernel_rfl) Try.func3
    (ChangeSpec.witness6 (enc := enc) (C := Try.checked) false ⟨#[], #[.slice none 0 0, .slice none 0 0, .agg #[.int .i64 0, .int .i64 0, .int .i64 0, .int .i64 0], .agg #[.int .i64 0, .int .i64 0, .int .i64 0, .int .i64 0]], []⟩ 8 (by kernel_rfl) (by kernel_rfl) (by kernel_rfl) (by kernel_rfl)) ?_
  intro W base args ds gs before hval0 hW hcnd hsz0 _
  have hval : ∀ (j : Nat) t v, Try.f3.params[j]? = some t → args[j]? = some v → Value.okWide Try.prog W .any base t v := hval0
  have hW' := hW
  obtain ⟨p, q, hA0, hV, rfl, hfz, hnd⟩ := hW
  have hA : DataW.TrodAll enc Try.prog W 0 (fun _ => true) true Try.f3.params.toList args.toList ds p := hA0
  rw [Try.params3] at hA hval
  obtain ⟨v0, vs0, d0, ds0, p0, q0, hargs, rfl, rfl, h0, r0⟩ := trodAll_cons hA
  obtain ⟨v1, vs1, d1, ds1, p1, q1, rfl, rfl, rfl, h1, r1⟩ := trodAll_cons r0
  obtain ⟨v2, vs2, d2, ds2, p2, q2, rfl, rfl, rfl, h2, r2⟩ := trodAll_cons r1
  obtain ⟨v3, vs3, d3, ds3, p3, q3, rfl, rfl, rfl, h3, r3⟩ := trodAll_cons r2
  obtain ⟨rfl, rfl, rfl⟩ := trodAll_nil r3
  obtain rfl : args = #[v0, v1, v2, v3] := by cases args; simp_all
  obtain ⟨rfl, rfl⟩ := trodVars_none hV
  have k0 := h0
  have k1 := h1
  have k2 := h2
  have k3 := h3
  have lt0 : ∀ x ∈ p0, x.block < W.heap.size := by obtain ⟨m, hm⟩ := k0; exact DataW.trod_lt m _ _ _ hm
  have lt1 : ∀ x ∈ p1, x.block < W.heap.size := by obtain ⟨m, hm⟩ := k1; exact DataW.trod_lt m _ _ _ hm
  have lt2 : ∀ x ∈ p2, x.block < W.heap.size := by obtain ⟨m, hm⟩ := k2; exact DataW.trod_lt m _ _ _ hm
  have lt3 : ∀ x ∈ p3, x.block < W.heap.size := by obtain ⟨m, hm⟩ := k3; exact DataW.trod_lt m _ _ _ hm
  obtain ⟨a0, len0, cap0, rfl⟩ := okWide_slice Try.underlying22 (hval 0 22 v0 rfl rfl)
  have z0 := open_rows (d := 8) Try.underlying22 (by kernel_rfl) (C := 7) (by kernel_rfl) (by decide) h0
  obtain ⟨a1, len1, cap1, rfl⟩ := okWide_slice Try.underlying23 (hval 1 23 v1 rfl rfl)
  have z1 := open_rows (d := 8) Try.underlying23 (by kernel_rfl) (C := 4) (by kernel_rfl) (by decide) h1
  obtain ⟨x, hx, rfl⟩ := open_aggI (d := 8) (C := 4) Try.underlying25 (by kernel_rfl) (by kernel_rfl) (hval 2 25 v2 rfl rfl) h2
  obtain ⟨y, hy, rfl⟩ := open_aggI (d := 8) (C := 4) Try.underlying25 (by kernel_rfl) (by kernel_rfl) (hval 3 25 v3 rfl rfl) h3
  clear hA0 hval0 hsz0
  refine (walk W a0 a1 len0 cap0 len1 cap1 x y hx hy z0 z1).mono fun e W' ⟨he, bel⟩ => ?_
  subst he
  exact ⟨_, rfl, _, _, _, [], _, [], hW', trodAll_mk1 (shut_bool Try.underlying4 _), trodAll_cons_mk (Below.trod laidOut (by kernel_rfl) (of_decide_eq_true (by kernel_rfl)) k0 bel lt0) (trodAll_cons_mk (Below.trod laidOut (by kernel_rfl) (of_decide_eq_true (by kernel_rfl)) k1 bel lt1)
    (trodAll_cons_mk (Below.trod laidOut (by kernel_rfl) (of_decide_eq_true (by kernel_rfl)) k2 bel lt2) (trodAll_cons_mk (Below.trod laidOut (by kernel_rfl) (of_decide_eq_true (by kernel_rfl)) k3 bel lt3) trodAll_mk0))), rfl, bel.frame _, fun h => by cases h⟩
theorem over : Rows.cacheCarryRow.holds Try.pinned (OpenSpec.ofChange Rows.cacheCarrySpec) :=
  OpenClaim.holds_of_wide 3 Try.f3 rfl rfl rfl rfl rfl rfl rfl ⟨rfl, rfl, rfl, rfl, rfl⟩ rfl rfl rfl rfl rfl (by kernel_rfl) Try.func3 (by kernel_rfl)
    (of_decide_eq_true (by kernel_rfl)) (by unfold Func.isWrapper; first | (rw [if_pos (by decide +kernel)]; kernel_rfl) | (rw [if_neg (by decide +kernel)]; exact ⟨rfl, rfl⟩))
    (fun os started H enc _ => lifted os started H enc)
theorem proved : Rows.CacheCarrySaid := over
#print axioms proved
end Go.Proofs.Ythjoljondlhhmaa.cacheCarry
namespace Go.Proofs.Ythjoljondlhhmaa
/-- The row, under a short name, for the claim. -/
theorem cacheCarry_holds : Rows.CacheCarrySaid := cacheCarry.proved
end Go.Proofs.Ythjoljondlhhmaa
