/- Without a table nothing is told but ErrNil: the row of the law QueryNone, for every input. -/
import Derived.Test.YtjmefokfnehefaaGreatRows
import Derived.Test.YtjmefokfnehefaaGreatFkT4
import Derived.Test.YtjmefokfnehefaaGreatEvTp
namespace Go.Proofs.YtjmefokfnehefaaGreat.queryNone
open Go.ChangeShapes Go.WideShapes Go.ChangeAt Go.RowKit Go.Ev
set_option linter.unusedVariables false
set_option linter.unusedSimpArgs false
theorem own : ownKnob Tryz.prog.godebug = none := by kernel_rfl
theorem laidOut : laidOutB Tryz.prog = true := by kernel_rfl

/-- The law's own check is right. -/
theorem awake : okL Tryz.prog 7 [([], .bool true)] := chkF_ok (tell := fk_w11) fk_w11_ok (by kernel_rfl)
def aw : FTab := fun f => cond (Nat.beq f 7) [([], .bool true)] []
theorem aw_ok : FTabOk Tryz.prog aw := ftab_node (l := [([], .bool true)]) awake ftab_leaf
def inS : List FuncId := [4, 5, 6, 8, 29, 58]
noncomputable def ch : Nat → CH
  | 0 => CH.fc aw CH.none
  | n + 1 => CH.inl Tryz.prog tyTab inS 400 (ch n) (CH.fc aw CH.none)
theorem ch_ok : ∀ n, CHOk Tryz.prog (ch n)
  | 0 => CH.fc_ok aw_ok CH.none_ok
  | n + 1 => CH.inl_ok tab_ok mixed noNum (ch_ok n) (CH.fc_ok aw_ok CH.none_ok)
set_option maxRecDepth 100000 in
theorem run (Z Y X : Nat → Int) (n : Int) : evalN eqU tyTab (ch 5) 400 (bodyOf Tryz.f3) (initSt Tryz.f3.ntmps
    [.agg [.int .i64 (Z 0), .int .i64 (Z 1), .int .i64 (Z 2), .int .i64 (Z 3), .int .i64 (Z 4), .vec 0, .int .i64 (Z 6), .int .i64 (Z 7), .int .i64 (Z 8), .int .i64 (Z 9), .int .i64 (Z 10), .int .i64 (Z 11), .int .i64 (Z 12)],
      .agg [.int .i64 (Y 0), .int .i64 (Y 1), .int .i64 (Y 2)], .agg [.int .i64 (X 0), .int .i64 (X 1), .int .i64 (X 2)], .int .i64 n] ⟨1, []⟩) (trueK tyTab Tryz.f3.results.toList) = some () := by kernel_rfl
def k33 : List Bool := [true, true, true, true, true, false, true, true, true, true, true, true, true]
def k35 : List Bool := [true, true, true]
set_option maxRecDepth 100000 in
theorem walk (W : World) (Z : Nat → Int) (S : Nat → Option Addr × Nat × Nat) (Y : Nat → Int) (S1 : Nat → Option Addr × Nat × Nat) (X : Nat → Int) (S2 : Nat → Option Addr × Nat × Nat) (n : Int) :
    Calls Tryz.prog 3 #[.agg (valsOf Z S k33 0).toArray, .agg (valsOf Y S1 k35 0).toArray, .agg (valsOf X S2 k35 0).toArray, .int .i64 n] W fun e w' => e = .returned (.bool true) ∧ Below W.heap.size W w' :=
by
  have r := row_of_run (w := W) (g := 3) (fn := Tryz.f3) (c := bodyOf Tryz.f3) (ch := ch 5) (fuel := 400) tab_ok mixed (ch_ok 5) Tryz.func3 (by kernel_rfl) (rel_none (fun _ => ⟨0, 0, 0, ⟨0, 0, none⟩, .nilIface, (S 5).1, (S 5).2.1, (S 5).2.2, default⟩) 1) rfl (run Z Y X n)
  simp only [γL, γ] at r
  exact r
set_option maxRecDepth 100000 in
theorem lifted (os : Os) (started : os.Started) (H : Type) (enc : TypeId × Value → H) :
    ReturnsInHanded {} Tryz.checked os 3 .any (Rows.queryNoneSpec.pre6 enc Tryz.prog Tryz.f3 Rows.queryNoneRow.domain false) (Rows.queryNoneSpec.post enc Tryz.prog Tryz.f3 false true false false) := by
  refine returnsInHanded_of_change_sized (C := Tryz.checked) own started (by kernel_rfl) Tryz.func3
    (ChangeSpec.witness6 (enc := enc) (C := Tryz.checked) false ⟨#[], #[.agg #[.int .i64 0, .int .i64 0, .int .i64 0, .int .i64 0, .int .i64 0, .slice none 0 0, .int .i64 0, .int .i64 0, .int .i64 0, .int .i64 0, .int .i64 0, .int .i64 0, .int .i64 0], .agg #[.int .i64 0, .int .i64 0, .int .i64 0], .agg #[.int .i64 0, .int .i64 0, .int .i64 0], .int .i64 0], []⟩ 8 (by kernel_rfl) (by kernel_rfl) (by kernel_rfl) (by kernel_rfl)) ?_
  intro W base args ds gs before hval0 hW hcnd hsz0 _
  have hval : ∀ (j : Nat) t v, Tryz.f3.params[j]? = some t → args[j]? = some v → Value.okWide Tryz.prog W .any base t v := hval0
  have hW' := hW
  obtain ⟨p, q, hA0, hV, rfl, hfz, hnd⟩ := hW
  have hA : DataW.TrodAll enc Tryz.prog W 0 (fun _ => true) true Tryz.f3.params.toList args.toList ds p := hA0
  rw [Tryz.params3] at hA hval
  obtain ⟨v0, vs0, d0, ds0, p0, q0, hargs, rfl, rfl, h0, r0⟩ := trodAll_cons hA
  obtain ⟨v1, vs1, d1, ds1, p1, q1, rfl, rfl, rfl, h1, r1⟩ := trodAll_cons r0
  obtain ⟨v2, vs2, d2, ds2, p2, q2, rfl, rfl, rfl, h2, r2⟩ := trodAll_cons r1
  obtain ⟨v3, vs3, d3, ds3, p3, q3, rfl, rfl, rfl, h3, r3⟩ := trodAll_cons r2
  obtain ⟨rfl, rfl, rfl⟩ := trodAll_nil r3
  obtain rfl : args = #[v0, v1, v2, v3] := by cases args; simp_all
  obtain ⟨rfl, rfl⟩ := trodVars_none hV
  have k0 := h0
  have k1 := h1
  have k2 := h2
  have lt0 : ∀ x ∈ p0, x.block < W.heap.size := by obtain ⟨m, hm⟩ := k0; exact DataW.trod_lt m _ _ _ hm
  have lt1 : ∀ x ∈ p1, x.block < W.heap.size := by obtain ⟨m, hm⟩ := k1; exact DataW.trod_lt m _ _ _ hm
  have lt2 : ∀ x ∈ p2, x.block < W.heap.size := by obtain ⟨m, hm⟩ := k2; exact DataW.trod_lt m _ _ _ hm
  obtain ⟨Z, S, rfl⟩ := open_vals (ts := (Tryz.prog.cellTypes Tryz.prog.depth 33).getD []) (ks := k33) Tryz.underlying33 (by kernel_rfl) (by kernel_rfl) (by kernel_rfl) (hval 0 33 v0 rfl rfl)
  obtain ⟨Y, S1, rfl⟩ := open_vals (ts := (Tryz.prog.cellTypes Tryz.prog.depth 35).getD []) (ks := k35) Tryz.underlying35 (by kernel_rfl) (by kernel_rfl) (by kernel_rfl) (hval 1 35 v1 rfl rfl)
  obtain ⟨X, S2, rfl⟩ := open_vals (ts := (Tryz.prog.cellTypes Tryz.prog.depth 35).getD []) (ks := k35) Tryz.underlying35 (by kernel_rfl) (by kernel_rfl) (by kernel_rfl) (hval 2 35 v2 rfl rfl)
  obtain ⟨a1, rfl, rfl, rfl, w1⟩ := open_int Tryz.underlying22 (hval 3 22 v3 rfl rfl) h3
  clear hA0 hval0 hsz0
  refine (walk W Z S Y S1 X S2 a1).mono fun e W' ⟨he, bel⟩ => ?_
  subst he
  exact ⟨_, rfl, _, _, _, [], _, [], hW', trodAll_mk1 (shut_bool Tryz.underlying4 _), trodAll_cons_mk (Below.trod laidOut (by kernel_rfl) (of_decide_eq_true (by kernel_rfl)) k0 bel lt0) (trodAll_cons_mk (Below.trod laidOut (by kernel_rfl) (of_decide_eq_true (by kernel_rfl)) k1 bel lt1)
    (trodAll_cons_mk (Below.trod laidOut (by kernel_rfl) (of_decide_eq_true (by kernel_rfl)) k2 bel lt2) (trodAll_cons_mk (shut_int Tryz.underlying22 w1) trodAll_mk0))), rfl, bel.frame _, fun h => by cases h⟩
theorem over : Rows.queryNoneRow.holds Tryz.pinned (OpenSpec.ofChange Rows.queryNoneSpec) :=
  OpenClaim.holds_of_wide 3 Tryz.f3 rfl rfl rfl rfl rfl rfl rfl ⟨rfl, rfl, rfl, rfl, rfl⟩ rfl rfl rfl rfl rfl (by kernel_rfl) Tryz.func3 (by kernel_rfl)
    (of_decide_eq_true (by kernel_rfl)) (by unfold Func.isWrapper; first | (rw [if_pos (by decide +kernel)]; kernel_rfl) | (rw [if_neg (by decide +kernel)]; exact ⟨rfl, rfl⟩))
    (fun os started H enc _ => lifted os started H enc)
theorem proved : Rows.QueryNoneSaid := over
#print axioms proved
end Go.Proofs.YtjmefokfnehefaaGreat.queryNone
namespace Go.Proofs.YtjmefokfnehefaaGreat
/-- The row, under a short name, for the claim. -/
theorem queryNone_holds : Rows.QueryNoneSaid := queryNone.proved
end Go.Proofs.YtjmefokfnehefaaGreat
