import Derived.Test.YtcgajpdhbanhaaaGreatRows
import Derived.Test.YtcgajpdhbanhaaaGreatFkT3
import Derived.Test.YtcgajpdhbanhaaaGreatEvTp
/- A script that is not there, or that nobody made, answers ErrNil alone; and too long a script is refused: the row of the law ScriptNone, for every input. -/
namespace Go.Proofs.YtcgajpdhbanhaaaGreat.scriptNone
open Go.ChangeShapes Go.WideShapes Go.ChangeAt Go.RowKit Go.Ev
set_option linter.unusedVariables false
set_option linter.unusedSimpArgs false
theorem own : ownKnob Tryz.prog.godebug = none := by kernel_rfl
theorem laidOut : laidOutB Tryz.prog = true := by kernel_rfl
theorem awake : okL Tryz.prog 6 [([], .bool true)] := fk_u12 (by kernel_rfl)
def aw : FTab := fun f => cond (Nat.beq f 6) [([], .bool true)] []
theorem aw_ok : FTabOk Tryz.prog aw := ftab_node (l := [([], .bool true)]) awake ftab_leaf
def inS : List FuncId := [4, 5, 7, 9, 10, 11, 12, 13, 16, 17, 18, 40]
noncomputable def c0 : CH := CH.fc aw (CH.puT fk_w12 (fun g => Nat.beq g 8) CH.none)
theorem c0_ok : CHOk Tryz.prog c0 := CH.fc_ok aw_ok (CH.puT_ok fk_w12_ok CH.none_ok)
noncomputable def ch : Nat → CH
  | 0 => c0
  | n + 1 => CH.inl Tryz.prog tyTab inS 400 (ch n) c0
theorem ch_ok : ∀ n, CHOk Tryz.prog (ch n)
  | 0 => c0_ok
  | n + 1 => CH.inl_ok tab_ok mixed noNum (ch_ok n) c0_ok
noncomputable def act (Z : Nat → Int) (B : Nat → ByteArray) : AVal := .agg [.int .i64 (Z 0), .int .i64 (Z 1), .int .i64 (Z 2), .int .i64 (Z 3), .int .i64 (Z 4), .int .i64 (Z 5), .int .i64 (Z 6), .vec 0, .int .i64 (Z 8), .int .i64 (Z 9), .int .i64 (Z 10), .int .i64 (Z 11), .int .i64 (Z 12), .int .i64 (Z 13), .int .i64 (Z 14), .int .i64 (Z 15), .int .i64 (Z 16), .int .i64 (Z 17), .int .i64 (Z 18), .int .i64 (Z 19), .int .i64 (Z 20), .int .i64 (Z 21), .int .i64 (Z 22), .int .i64 (Z 23), .int .i64 (Z 24), .int .i64 (Z 25), .int .i64 (Z 26), .int .i64 (Z 27), .int .i64 (Z 28), .int .i64 (Z 29), .int .i64 (Z 30), .int .i64 (Z 31), .int .i64 (Z 32), .int .i64 (Z 33), .int .i64 (Z 34), .vec 1, .int .i64 (Z 36), .int .i64 (Z 37), .int .i64 (Z 38), .int .i64 (Z 39), .int .i64 (Z 40), .int .i64 (Z 41), .int .i64 (Z 42), .int .i64 (Z 43), .int .i64 (Z 44), .int .i64 (Z 45), .int .i64 (Z 46), .int .i64 (Z 47), .int .i64 (Z 48), .int .i64 (Z 49), .str (B 50)]
def jj : TyI := (tyTab 39).getD default
set_option maxRecDepth 100000 in
theorem run (Z : Nat → Int) (B : Nat → ByteArray) (n : Int) : evalN eqU tyTab (ch 6) 400 (bodyOf Tryz.f3) (initSt Tryz.f3.ntmps [act Z B, .int .i64 n] ⟨2, []⟩) (trueK tyTab Tryz.f3.results.toList) =
    cond (decide (n < 10001)) (some ()) (cond (decide (10100 < n)) (some ()) (need (makeB jj n) (cond (decide ((10000 : Int) < (n.toNat : Int))) (some ()) none))) := by kernel_rfl
theorem runs (Z : Nat → Int) (B : Nat → ByteArray) (n : Int) : evalN eqU tyTab (ch 6) 400 (bodyOf Tryz.f3) (initSt Tryz.f3.ntmps [act Z B, .int .i64 n] ⟨2, []⟩) (trueK tyTab Tryz.f3.results.toList) = some () := by
  rw [run]
  by_cases h1 : n < 10001
  · rw [decide_eq_true h1, cond_true]
  · rw [decide_eq_false h1, cond_false]
    by_cases h2 : 10100 < n
    · rw [decide_eq_true h2, cond_true]
    · rw [decide_eq_false h2, cond_false]
      have e1 : Nat.ble jj.bytes 16777216 = true := by kernel_rfl
      have e2 : (!Nat.beq jj.size 0) = true := by kernel_rfl
      have hm : makeB jj n = true := by
        unfold makeB
        rw [e1, e2, decide_eq_true (show (0 : Int) ≤ n by omega), decide_eq_true (show n ≤ (16777216 : Int) by omega)]
        rfl
      rw [hm, decide_eq_true (show (10000 : Int) < (n.toNat : Int) by omega)]
      rfl
def k39 : List Nat := [0, 0, 0, 0, 0, 0, 0, 1, 0, 0, 0, 0, 0, 0, 0, 0, 0, 0, 0, 0, 0, 0, 0, 0, 0, 0, 0, 0, 0, 0, 0, 0, 0, 0, 0, 1, 0, 0, 0, 0, 0, 0, 0, 0, 0, 0, 0, 0, 0, 0, 2]
set_option maxRecDepth 100000 in
theorem walk (W : World) (Z : Nat → Int) (S : Nat → Option Addr × Nat × Nat) (B : Nat → ByteArray) (n : Int) :
    Calls Tryz.prog 3 #[.agg (valsO Z S B k39 0).toArray, .int .i64 n] W fun e w' => e = .returned (.bool true) ∧ Below W.heap.size W w' :=
by
  have r := row_of_run (w := W) (g := 3) (fn := Tryz.f3) (c := bodyOf Tryz.f3) (ch := ch 6) (fuel := 400) tab_ok mixed (ch_ok 6) Tryz.func3 (by kernel_rfl) (rel_none (fun i => match i with
    | 0 => ⟨0, 0, 0, ⟨0, 0, none⟩, .nilIface, (S 7).1, (S 7).2.1, (S 7).2.2, default⟩
    | _ => ⟨0, 0, 0, ⟨0, 0, none⟩, .nilIface, (S 35).1, (S 35).2.1, (S 35).2.2, default⟩) 2) rfl (runs Z B n)
  simp only [act, γL, γ] at r
  exact r
set_option maxRecDepth 100000 in
theorem lifted (os : Os) (started : os.Started) (H : Type) (enc : TypeId × Value → H) :
    ReturnsInHanded {} Tryz.checked os 3 .any (Rows.scriptNoneSpec.pre6 enc Tryz.prog Tryz.f3 Rows.scriptNoneRow.domain false) (Rows.scriptNoneSpec.post enc Tryz.prog Tryz.f3 false true false false) := by
  refine returnsInHanded_of_change_sized (C := Tryz.checked) own started (by kernel_rfl) Tryz.func3
    (ChangeSpec.witness6 (enc := enc) (C := Tryz.checked) false ⟨#[], #[.agg #[.int .i64 0, .int .i64 0, .int .i64 0, .int .i64 0, .int .i64 0, .int .i64 0, .int .i64 0, .slice none 0 0, .int .i64 0, .int .i64 0, .int .i64 0, .int .i64 0, .int .i64 0, .int .i64 0, .int .i64 0, .int .i64 0, .int .i64 0, .int .i64 0, .int .i64 0, .int .i64 0, .int .i64 0, .int .i64 0, .int .i64 0, .int .i64 0, .int .i64 0, .int .i64 0, .int .i64 0, .int .i64 0, .int .i64 0, .int .i64 0, .int .i64 0, .int .i64 0, .int .i64 0, .int .i64 0, .int .i64 0, .slice none 0 0, .int .i64 0, .int .i64 0, .int .i64 0, .int .i64 0, .int .i64 0, .int .i64 0, .int .i64 0, .int .i64 0, .int .i64 0, .int .i64 0, .int .i64 0, .int .i64 0, .int .i64 0, .int .i64 0, .string ⟨#[]⟩], .int .i64 0], []⟩ 8 (by kernel_rfl) (by kernel_rfl) (by kernel_rfl) (by kernel_rfl)) ?_
  intro W base args ds gs before hval0 hW hcnd hsz0 _
  have hval : ∀ (j : Nat) t v, Tryz.f3.params[j]? = some t → args[j]? = some v → Value.okWide Tryz.prog W .any base t v := hval0
  have hW' := hW
  obtain ⟨p, q, hA0, hV, rfl, hfz, hnd⟩ := hW
  have hA : DataW.TrodAll enc Tryz.prog W 0 (fun _ => true) true Tryz.f3.params.toList args.toList ds p := hA0
  rw [Tryz.params3] at hA hval
  obtain ⟨v0, vs0, d0, ds0, p0, q0, hargs, rfl, rfl, h0, r0⟩ := trodAll_cons hA
  obtain ⟨v1, vs1, d1, ds1, p1, q1, rfl, rfl, rfl, h1, r1⟩ := trodAll_cons r0
  obtain ⟨rfl, rfl, rfl⟩ := trodAll_nil r1
  obtain rfl : args = #[v0, v1] := by cases args; simp_all
  obtain ⟨rfl, rfl⟩ := trodVars_none hV
  have k0 := h0
  have lt0 : ∀ x ∈ p0, x.block < W.heap.size := by obtain ⟨m, hm⟩ := k0; exact DataW.trod_lt m _ _ _ hm
  obtain ⟨Z, S, B, rfl⟩ := open_valsO (ts := (Tryz.prog.cellTypes Tryz.prog.depth 39).getD []) (ks := k39) Tryz.underlying39 (by kernel_rfl) (by kernel_rfl) (by kernel_rfl) (hval 0 39 v0 rfl rfl)
  obtain ⟨a1, rfl, rfl, rfl, w1⟩ := open_int Tryz.underlying3 (hval 1 3 v1 rfl rfl) h1
  clear hA0 hval0 hsz0
  refine (walk W Z S B a1).mono fun e W' ⟨he, bel⟩ => ?_
  subst he
  exact ⟨_, rfl, _, _, _, [], _, [], hW', trodAll_mk1 (shut_bool Tryz.underlying4 _), trodAll_cons_mk (Below.trod laidOut (by kernel_rfl) (of_decide_eq_true (by kernel_rfl)) k0 bel lt0) (trodAll_cons_mk (shut_int Tryz.underlying3 w1) trodAll_mk0), rfl, bel.frame _, fun h => by cases h⟩
theorem namedIs : Tryz.prog.funcNamed Rows.scriptNoneRow.func = some 3 := by kernel_rfl
theorem instIs : Tryz.f3.isInstance Tryz.prog Rows.scriptNoneRow.origin Rows.scriptNoneRow.targs := of_decide_eq_true (by kernel_rfl)
theorem wrapIs : Tryz.f3.isWrapper Tryz.prog Rows.scriptNoneRow.wrapper Rows.scriptNoneRow.mainSum := by
  unfold Func.isWrapper; first | (rw [if_pos (by decide +kernel)]; kernel_rfl) | (rw [if_neg (by decide +kernel)]; exact ⟨rfl, rfl⟩)
theorem followed : Tryz.prog.unfollowed 3 = true := by kernel_rfl
theorem places : Tryz.prog.inPlace 3 = ["math/bits.Add64"] := by kernel_rfl
theorem named : Tryz.prog.varsNamed 3 = [] := by kernel_rfl
theorem again : Tryz.prog.recurses 3 = true := by unfold Program.recurses; rw [followed]; rfl
theorem closed : joinedFacts Tryz.prog 3 Tryz.f3 Rows.scriptNoneSpec Rows.scriptNoneRow = true := by
  unfold joinedFacts; rw [followed, places, named, again]; kernel_rfl
theorem over : Rows.scriptNoneRow.holds Tryz.pinned (OpenSpec.ofChange Rows.scriptNoneSpec) :=
  OpenClaim.holds_of_wide 3 Tryz.f3 rfl rfl rfl rfl rfl rfl rfl ⟨rfl, rfl, rfl, rfl, rfl⟩ rfl rfl rfl rfl rfl namedIs Tryz.func3 closed instIs wrapIs
    (fun os started H enc _ => lifted os started H enc)
theorem proved : Rows.ScriptNoneSaid := over
#print axioms proved
end Go.Proofs.YtcgajpdhbanhaaaGreat.scriptNone
namespace Go.Proofs.YtcgajpdhbanhaaaGreat
theorem scriptNone_holds : Rows.ScriptNoneSaid := scriptNone.proved
end Go.Proofs.YtcgajpdhbanhaaaGreat

