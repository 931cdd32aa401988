/- A table that is not there, or that nobody made, answers ErrNil, and tells nothing: the row of the law TableNone, for every input. -/
import Derived.Test.YtegmknimddohoaaGreatRows
import Derived.Test.YtegmknimddohoaaGreatFkAw
import Derived.Test.YtegmknimddohoaaGreatEvTp
namespace Go.Proofs.YtegmknimddohoaaGreat.tableNone
open Go.ChangeShapes Go.WideShapes Go.ChangeAt Go.RowKit Go.Ev
set_option linter.unusedVariables false
set_option linter.unusedSimpArgs false
theorem own : ownKnob Tryz.prog.godebug = none := by kernel_rfl
theorem laidOut : laidOutB Tryz.prog = true := by kernel_rfl

/-- The law's own check is known to be right. -/
def aw : FTab := fun f => cond (Nat.beq f 13) [([], .bool true)] []
theorem aw_ok : FTabOk Tryz.prog aw := ftab_node (l := [([], .bool true)]) ⟨pureN_sem tab_ok mixed noNum (fk_ch_ok fk_t8_ok fk_m8_ok) fk_awake, trivial⟩ ftab_leaf
def inS : List FuncId := [4, 5, 6, 7, 8, 9, 10, 11, 12, 14, 15, 16, 17, 18]
noncomputable def ch : Nat → CH
  | 0 => CH.fc aw CH.none
  | n + 1 => CH.inl Tryz.prog tyTab inS 400 (ch n) (CH.fc aw CH.none)
theorem ch_ok : ∀ n, CHOk Tryz.prog (ch n)
  | 0 => CH.fc_ok aw_ok CH.none_ok
  | n + 1 => CH.inl_ok tab_ok mixed noNum (ch_ok n) (CH.fc_ok aw_ok CH.none_ok)
set_option maxRecDepth 100000 in
theorem run (Z : Nat → Int) (n : Int) (Y : Nat → Int) : evalN eqU tyTab (ch 4) 400 (bodyOf Tryz.f3) (initSt Tryz.f3.ntmps
    [.agg [.int .i64 (Z 0), .int .i64 (Z 1), .int .i64 (Z 2), .int .i64 (Z 3), .int .i64 (Z 4), .int .i64 (Z 5), .vec 0, .int .i64 (Z 7), .int .i64 (Z 8), .int .i64 (Z 9), .int .i64 (Z 10), .int .i64 (Z 11), .int .i64 (Z 12), .int .i64 (Z 13), .int .i64 (Z 14),
      .int .i64 (Z 15), .int .i64 (Z 16), .int .i64 (Z 17), .int .i64 (Z 18), .int .i64 (Z 19), .int .i64 (Z 20), .int .i64 (Z 21)], .int .i64 n,
      .agg [.int .i64 (Y 0), .int .i64 (Y 1), .int .i64 (Y 2), .int .i64 (Y 3), .int .i64 (Y 4), .int .i64 (Y 5)]] ⟨1, []⟩) (trueK tyTab Tryz.f3.results.toList) = some () := by kernel_rfl
def k35 : List Bool := [true, true, true, true, true, true, false, true, true, true, true, true, true, true, true, true, true, true, true, true, true, true]
def k39 : List Bool := [true, true, true, true, true, true]
set_option maxRecDepth 100000 in
theorem walk (W : World) (Z : Nat → Int) (S : Nat → Option Addr × Nat × Nat) (n : Int) (Y : Nat → Int) (S' : Nat → Option Addr × Nat × Nat) :
    Calls Tryz.prog 3 #[.agg (valsOf Z S k35 0).toArray, .int .i64 n, .agg (valsOf Y S' k39 0).toArray] W fun e w' => e = .returned (.bool true) ∧ Below W.heap.size W w' :=
by
  have r := row_of_run (w := W) (g := 3) (fn := Tryz.f3) (c := bodyOf Tryz.f3) (ch := ch 4) (fuel := 400) tab_ok mixed (ch_ok 4) Tryz.func3 (by kernel_rfl) (rel_none (fun _ => ⟨0, 0, 0, ⟨0, 0, none⟩, .nilIface, (S 6).1, (S 6).2.1, (S 6).2.2⟩) 1) rfl (run Z n Y)
  simp only [γL, γ] at r
  exact r
set_option maxRecDepth 100000 in
theorem lifted (os : Os) (started : os.Started) (H : Type) (enc : TypeId × Value → H) :
    ReturnsInHanded {} Tryz.checked os 3 .any (Rows.tableNoneSpec.pre6 enc Tryz.prog Tryz.f3 Rows.tableNoneRow.domain false) (Rows.tableNoneSpec.post enc Tryz.prog Tryz.f3 false true false false) := by
  refine returnsInHanded_of_change_sized (C := Tryz.checked) own started (by kernel_rfl) Tryz.func3
    (ChangeSpec.witness6 (enc := enc) (C := Tryz.checked) false ⟨#[], #[.agg #[.int .i64 0, .int .i64 0, .int .i64 0, .int .i64 0, .int .i64 0, .int .i64 0, .slice none 0 0, .int .i64 0, .int .i64 0, .int .i64 0, .int .i64 0, .int .i64 0, .int .i64 0, .int .i64 0, .int .i64 0, .int .i64 0, .int .i64 0, .int .i64 0, .int .i64 0, .int .i64 0, .int .i64 0, .int .i64 0], .int .i64 0, .agg #[.int .i64 0, .int .i64 0, .int .i64 0, .int .i64 0, .int .i64 0, .int .i64 0]], []⟩ 8 (by kernel_rfl) (by kernel_rfl) (by kernel_rfl) (by kernel_rfl)) ?_
  intro W base args ds gs before hval0 hW hcnd hsz0 _
  have hval : ∀ (j : Nat) t v, Tryz.f3.params[j]? = some t → args[j]? = some v → Value.okWide Tryz.prog W .any base t v := hval0
  have hW' := hW
  obtain ⟨p, q, hA0, hV, rfl, hfz, hnd⟩ := hW
  have hA : DataW.TrodAll enc Tryz.prog W 0 (fun _ => true) true Tryz.f3.params.toList args.toList ds p := hA0
  rw [Tryz.params3] at hA hval
  obtain ⟨v0, vs0, d0, ds0, p0, q0, hargs, rfl, rfl, h0, r0⟩ := trodAll_cons hA
  obtain ⟨v1, vs1, d1, ds1, p1, q1, rfl, rfl, rfl, h1, r1⟩ := trodAll_cons r0
  obtain ⟨v2, vs2, d2, ds2, p2, q2, rfl, rfl, rfl, h2, r2⟩ := trodAll_cons r1
  obtain ⟨rfl, rfl, rfl⟩ := trodAll_nil r2
  obtain rfl : args = #[v0, v1, v2] := by cases args; simp_all
  obtain ⟨rfl, rfl⟩ := trodVars_none hV
  have k0 := h0
  have k2 := h2
  have lt0 : ∀ x ∈ p0, x.block < W.heap.size := by obtain ⟨m, hm⟩ := k0; exact DataW.trod_lt m _ _ _ hm
  have lt2 : ∀ x ∈ p2, x.block < W.heap.size := by obtain ⟨m, hm⟩ := k2; exact DataW.trod_lt m _ _ _ hm
  obtain ⟨Z, S, rfl⟩ := open_vals (ts := (Tryz.prog.cellTypes Tryz.prog.depth 35).getD []) (ks := k35) Tryz.underlying35 (by kernel_rfl) (by kernel_rfl) (by kernel_rfl) (hval 0 35 v0 rfl rfl)
  obtain ⟨a1, rfl, rfl, rfl, w1⟩ := open_int Tryz.underlying3 (hval 1 3 v1 rfl rfl) h1
  obtain ⟨Y, S', rfl⟩ := open_vals (ts := (Tryz.prog.cellTypes Tryz.prog.depth 39).getD []) (ks := k39) Tryz.underlying39 (by kernel_rfl) (by kernel_rfl) (by kernel_rfl) (hval 2 39 v2 rfl rfl)
  clear hA0 hval0 hsz0
  refine (walk W Z S a1 Y S').mono fun e W' ⟨he, bel⟩ => ?_
  subst he
  exact ⟨_, rfl, _, _, _, [], _, [], hW', trodAll_mk1 (shut_bool Tryz.underlying4 _), trodAll_cons_mk (Below.trod laidOut (by kernel_rfl) (of_decide_eq_true (by kernel_rfl)) k0 bel lt0) (trodAll_cons_mk (shut_int Tryz.underlying3 w1)
    (trodAll_cons_mk (Below.trod laidOut (by kernel_rfl) (of_decide_eq_true (by kernel_rfl)) k2 bel lt2) trodAll_mk0)), rfl, bel.frame _, fun h => by cases h⟩
theorem over : Rows.tableNoneRow.holds Tryz.pinned (OpenSpec.ofChange Rows.tableNoneSpec) :=
  OpenClaim.holds_of_wide 3 Tryz.f3 rfl rfl rfl rfl rfl rfl rfl ⟨rfl, rfl, rfl, rfl, rfl⟩ rfl rfl rfl rfl rfl (by kernel_rfl) Tryz.func3 (by kernel_rfl)
    (of_decide_eq_true (by kernel_rfl)) (by unfold Func.isWrapper; first | (rw [if_pos (by decide +kernel)]; kernel_rfl) | (rw [if_neg (by decide +kernel)]; exact ⟨rfl, rfl⟩))
    (fun os started H enc _ => lifted os started H enc)
theorem proved : Rows.TableNoneSaid := over
#print axioms proved
end Go.Proofs.YtegmknimddohoaaGreat.tableNone
namespace Go.Proofs.YtegmknimddohoaaGreat
/-- The row, under a short name, for the claim. -/
theorem tableNone_holds : Rows.TableNoneSaid := tableNone.proved
end Go.Proofs.YtegmknimddohoaaGreat
