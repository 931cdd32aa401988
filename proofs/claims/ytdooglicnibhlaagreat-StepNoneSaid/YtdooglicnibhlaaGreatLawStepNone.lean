/- A world that is not there, or that nobody made, answers ErrNil, and tells nothing: the row of the law StepNone, for every input. -/
import Derived.Test.YtdooglicnibhlaaGreatRows
import Derived.Test.YtdooglicnibhlaaGreatFkT4
import Derived.Test.YtdooglicnibhlaaGreatEvTp
namespace Go.Proofs.YtdooglicnibhlaaGreat.stepNone
open Go.ChangeShapes Go.WideShapes Go.ChangeAt Go.RowKit Go.Ev
set_option linter.unusedVariables false
set_option linter.unusedSimpArgs false
theorem own : ownKnob Tryz.prog.godebug = none := by kernel_rfl
theorem laidOut : laidOutB Tryz.prog = true := by kernel_rfl
theorem awake : okL Tryz.prog 12 [([], .bool true)] := chkF_ok (tell := fk_w13) fk_w13_ok (by kernel_rfl)
def aw : FTab := fun f => cond (Nat.beq f 12) [([], .bool true)] []
theorem aw_ok : FTabOk Tryz.prog aw := ftab_node (l := [([], .bool true)]) awake ftab_leaf
def ty60 : TyI := ⟨8, 112, [.int .i64 0, .int .i64 0, .int .i64 0, .int .i64 0, .int .i64 0, .nils, .nils, .nils], true, none, .struct [(0, 39), (5, 58), (6, 40), (7, 41)]⟩
theorem ty60_ok : TyOk Tryz.prog 60 ty60 :=
  ⟨⟨Tryz.t60, by kernel_rfl, rfl, rfl, _, rfl, fun ρ => by simp [ty60, γ, γL]⟩, rfl, by first | (intro h; cases h; done) | (intro _; rfl), rfl, ⟨_, Tryz.underlying60, rfl⟩, rfl, fun ks h => by cases h⟩
def tab2 : TTab := fun t => cond (Nat.blt t 60) (tyTab t) (cond (Nat.beq t 60) (some ty60) (tyTab t))
theorem tab2_ok : TabOk Tryz.prog tab2 := fun t i => tab_node (tab_ok t i) fun e => by
  cases hb : Nat.beq t 60 with
  | false => rw [hb] at e; exact tab_ok t i e
  | true => rw [hb] at e; cases e; rw [Nat.eq_of_beq_eq_true hb]; exact ty60_ok
def inS : List FuncId := [4, 5, 6, 7, 8, 9, 10, 11, 13, 30, 31, 32, 33]
noncomputable def ch : Nat → CH
  | 0 => CH.fc aw CH.none
  | n + 1 => CH.inl Tryz.prog tab2 inS 400 (ch n) (CH.fc aw CH.none)
theorem ch_ok : ∀ n, CHOk Tryz.prog (ch n)
  | 0 => CH.fc_ok aw_ok CH.none_ok
  | n + 1 => CH.inl_ok tab2_ok mixed noNum (ch_ok n) (CH.fc_ok aw_ok CH.none_ok)
set_option maxRecDepth 100000 in
theorem run (Z Y : Nat → Int) (n : Int) : evalN eqU tab2 (ch 5) 400 (bodyOf Tryz.f3) (initSt Tryz.f3.ntmps
    [.agg [.int .i64 (Z 0), .int .i64 (Z 1), .int .i64 (Z 2), .int .i64 (Z 3), .int .i64 (Z 4), .int .i64 (Z 5), .vec 0, .int .i64 (Z 7), .int .i64 (Z 8), .int .i64 (Z 9), .int .i64 (Z 10), .int .i64 (Z 11), .int .i64 (Z 12), .int .i64 (Z 13), .int .i64 (Z 14), .int .i64 (Z 15), .int .i64 (Z 16), .int .i64 (Z 17), .int .i64 (Z 18), .int .i64 (Z 19), .int .i64 (Z 20), .int .i64 (Z 21)], .int .i64 n, .agg [.int .i64 (Y 0), .int .i64 (Y 1), .int .i64 (Y 2)]] ⟨1, []⟩) (trueK tab2 Tryz.f3.results.toList) = some () := by kernel_rfl
def k35 : List Bool := [true, true, true, true, true, true, false, true, true, true, true, true, true, true, true, true, true, true, true, true, true, true]
def k24 : List Bool := [true, true, true]
set_option maxRecDepth 100000 in
theorem walk (W : World) (Z : Nat → Int) (S : Nat → Option Addr × Nat × Nat) (Y : Nat → Int) (S1 : Nat → Option Addr × Nat × Nat) (n : Int) :
    Calls Tryz.prog 3 #[.agg (valsOf Z S k35 0).toArray, .int .i64 n, .agg (valsOf Y S1 k24 0).toArray] W fun e w' => e = .returned (.bool true) ∧ Below W.heap.size W w' :=
by
  have r := row_of_run (w := W) (g := 3) (fn := Tryz.f3) (c := bodyOf Tryz.f3) (ch := ch 5) (fuel := 400) tab2_ok mixed (ch_ok 5) Tryz.func3 (by kernel_rfl) (rel_none (fun _ => ⟨0, 0, 0, ⟨0, 0, none⟩, .nilIface, (S 6).1, (S 6).2.1, (S 6).2.2, default⟩) 1) rfl (run Z Y n)
  simp only [γL, γ] at r
  exact r
set_option maxRecDepth 100000 in
theorem lifted (os : Os) (started : os.Started) (H : Type) (enc : TypeId × Value → H) :
    ReturnsInHanded {} Tryz.checked os 3 .any (Rows.stepNoneSpec.pre6 enc Tryz.prog Tryz.f3 Rows.stepNoneRow.domain false) (Rows.stepNoneSpec.post enc Tryz.prog Tryz.f3 false true false false) := by
  refine returnsInHanded_of_change_sized (C := Tryz.checked) own started (by kernel_rfl) Tryz.func3
    (ChangeSpec.witness6 (enc := enc) (C := Tryz.checked) false ⟨#[], #[.agg #[.int .i64 0, .int .i64 0, .int .i64 0, .int .i64 0, .int .i64 0, .int .i64 0, .slice none 0 0, .int .i64 0, .int .i64 0, .int .i64 0, .int .i64 0, .int .i64 0, .int .i64 0, .int .i64 0, .int .i64 0, .int .i64 0, .int .i64 0, .int .i64 0, .int .i64 0, .int .i64 0, .int .i64 0, .int .i64 0], .int .i64 0, .agg #[.int .i64 0, .int .i64 0, .int .i64 0]], []⟩ 8 (by kernel_rfl) (by kernel_rfl) (by kernel_rfl) (by kernel_rfl)) ?_
  intro W base args ds gs before hval0 hW hcnd hsz0 _
  have hval : ∀ (j : Nat) t v, Tryz.f3.params[j]? = some t → args[j]? = some v → Value.okWide Tryz.prog W .any base t v := hval0
  have hW' := hW
  obtain ⟨p, q, hA0, hV, rfl, hfz, hnd⟩ := hW
  have hA : DataW.TrodAll enc Tryz.prog W 0 (fun _ => true) true Tryz.f3.params.toList args.toList ds p := hA0
  rw [Tryz.params3] at hA hval
  obtain ⟨v0, vs0, d0, ds0, p0, q0, hargs, rfl, rfl, h0, r0⟩ := trodAll_cons hA
  obtain ⟨v1, vs1, d1, ds1, p1, q1, rfl, rfl, rfl, h1, r1⟩ := trodAll_cons r0
  obtain ⟨v2, vs2, d2, ds2, p2, q2, rfl, rfl, rfl, h2, r2⟩ := trodAll_cons r1
  obtain ⟨rfl, rfl, rfl⟩ := trodAll_nil r2
  obtain rfl : args = #[v0, v1, v2] := by cases args; simp_all
  obtain ⟨rfl, rfl⟩ := trodVars_none hV
  have k0 := h0
  have k2 := h2
  have lt0 : ∀ x ∈ p0, x.block < W.heap.size := by obtain ⟨m, hm⟩ := k0; exact DataW.trod_lt m _ _ _ hm
  have lt2 : ∀ x ∈ p2, x.block < W.heap.size := by obtain ⟨m, hm⟩ := k2; exact DataW.trod_lt m _ _ _ hm
  obtain ⟨Z, S, rfl⟩ := open_vals (ts := (Tryz.prog.cellTypes Tryz.prog.depth 35).getD []) (ks := k35) Tryz.underlying35 (by kernel_rfl) (by kernel_rfl) (by kernel_rfl) (hval 0 35 v0 rfl rfl)
  obtain ⟨a1, rfl, rfl, rfl, w1⟩ := open_int Tryz.underlying3 (hval 1 3 v1 rfl rfl) h1
  obtain ⟨Y, S1, rfl⟩ := open_vals (ts := (Tryz.prog.cellTypes Tryz.prog.depth 24).getD []) (ks := k24) Tryz.underlying24 (by kernel_rfl) (by kernel_rfl) (by kernel_rfl) (hval 2 24 v2 rfl rfl)
  clear hA0 hval0 hsz0
  refine (walk W Z S Y S1 a1).mono fun e W' ⟨he, bel⟩ => ?_
  subst he
  exact ⟨_, rfl, _, _, _, [], _, [], hW', trodAll_mk1 (shut_bool Tryz.underlying4 _), trodAll_cons_mk (Below.trod laidOut (by kernel_rfl) (of_decide_eq_true (by kernel_rfl)) k0 bel lt0) (trodAll_cons_mk (shut_int Tryz.underlying3 w1)
    (trodAll_cons_mk (Below.trod laidOut (by kernel_rfl) (of_decide_eq_true (by kernel_rfl)) k2 bel lt2) trodAll_mk0)), rfl, bel.frame _, fun h => by cases h⟩
theorem namedIs : Tryz.prog.funcNamed Rows.stepNoneRow.func = some 3 := by kernel_rfl
theorem instIs : Tryz.f3.isInstance Tryz.prog Rows.stepNoneRow.origin Rows.stepNoneRow.targs := of_decide_eq_true (by kernel_rfl)
theorem wrapIs : Tryz.f3.isWrapper Tryz.prog Rows.stepNoneRow.wrapper Rows.stepNoneRow.mainSum := by
  unfold Func.isWrapper; first | (rw [if_pos (by decide +kernel)]; kernel_rfl) | (rw [if_neg (by decide +kernel)]; exact ⟨rfl, rfl⟩)
theorem followed : Tryz.prog.unfollowed 3 = true := by kernel_rfl
theorem places : Tryz.prog.inPlace 3 = ["math/bits.Add64"] := by kernel_rfl
theorem named : Tryz.prog.varsNamed 3 = [] := by kernel_rfl
theorem again : Tryz.prog.recurses 3 = true := by unfold Program.recurses; rw [followed]; rfl
theorem closed : joinedFacts Tryz.prog 3 Tryz.f3 Rows.stepNoneSpec Rows.stepNoneRow = true := by
  unfold joinedFacts; rw [followed, places, named, again]; kernel_rfl
theorem over : Rows.stepNoneRow.holds Tryz.pinned (OpenSpec.ofChange Rows.stepNoneSpec) :=
  OpenClaim.holds_of_wide 3 Tryz.f3 rfl rfl rfl rfl rfl rfl rfl ⟨rfl, rfl, rfl, rfl, rfl⟩ rfl rfl rfl rfl rfl namedIs Tryz.func3 closed instIs wrapIs
    (fun os started H enc _ => lifted os started H enc)
theorem proved : Rows.StepNoneSaid := over
#print axioms proved
end Go.Proofs.YtdooglicnibhlaaGreat.stepNone
namespace Go.Proofs.YtdooglicnibhlaaGreat
theorem stepNone_holds : Rows.StepNoneSaid := stepNone.proved
end Go.Proofs.YtdooglicnibhlaaGreat

