import Derived.Test.YtcgajpdhbanhaaaGreatEvZ
import Derived.Laws.Externs
namespace Go.Ev
set_option linter.unusedVariables false
set_option linter.unusedSimpArgs false
def add64 (x y c : Int) : Option (Int × Int) :=
  need (decide (0 ≤ x) && decide (0 ≤ y) && decide (0 ≤ c) && decide (c ≤ 1)) (some ((x + y + c) % 18446744073709551616, (x + y + c) / 18446744073709551616))
def hAdd64 : HK where
  call := fun args σ k => match args with
    | [.int .u64 x, .int .u64 y, .int .u64 c] => Option.bind (add64 x y c) fun r => k (.ret (.tup [.int .u64 r.1, .int .u64 r.2])) σ
    | _ => none
  nat := fun args σ k => by
    repeat' split
    all_goals simp only [Option.bind_assoc, Option.bind_none, Option.bind_some]
  pure := true
  pok := fun _ args σ r σ' h => by
    simp only at h
    split at h
    · obtain ⟨q, h1, h2⟩ := Option.bind_eq_some_iff.1 h
      simp only [Option.some.injEq, Prod.mk.injEq] at h2
      obtain ⟨rfl, rfl⟩ := h2
      exact ⟨rfl, ⟨_, rfl⟩, fun σ2 => by simp only [h1, Option.bind_some]⟩
    · cases h
theorem hAdd64_ok {P : Program} {g : FuncId} {fn : Func} (hf : P.funcs[g]? = some fn) (hn : (fn.name == "runtime.NumGoroutine") = false) (hb : fn.body.isNone = true) (hx : Extern.findNext fn = none)
    (he : Extern.find fn = some add64Entry) : HKOk P g hAdd64 := by
  intro args σ r σ' h
  simp only [hAdd64] at h
  split at h
  · rename_i x y c
    obtain ⟨⟨s, t⟩, h1, h2⟩ := Option.bind_eq_some_iff.1 h
    simp only [Option.some.injEq, Prod.mk.injEq] at h2
    obtain ⟨rfl, rfl⟩ := h2
    unfold add64 at h1
    obtain ⟨h3, h4⟩ := need_some h1
    simp only [Bool.and_eq_true, decide_eq_true_eq] at h3
    simp only [Option.some.injEq, Prod.mk.injEq] at h4
    obtain ⟨rfl, rfl⟩ := h4
    refine ⟨.inr ⟨_, rfl, rfl, by simp [sc, scL], fun ρ w => ?_⟩, Ext.refl _⟩
    rw [run_callFunc_extern hf hn hb hx he]
    simp only [γL, γ]
    rw [run_add64 x y c h3.1.1.1 h3.1.1.2 h3.1.2 h3.2]
    rfl
  · cases h
end Go.Ev

