import Derived.Test.YtcgajpdhbanhaaaGreatWdB
import Derived.Test.YtcgajpdhbanhaaaGreatWdC
namespace Go.Ev
open Go.Proofs
set_option linter.unusedVariables false
set_option linter.unusedSimpArgs false
set_option maxRecDepth 100000
theorem HKOk.of_call {P : Program} {g : FuncId} {h c : HK} (hk : HKOk P g h) (e : ∀ args σ x, (c.call args σ fun r σ' => some (r, σ')) = some x → (h.call args σ fun r σ' => some (r, σ')) = some x) : HKOk P g c := fun args σ r σ' q => hk args σ r σ' (e args σ _ q)
theorem cOf_f {a0 : Int} {r} (h : cOf a0 = some r) : f_wide_Of a0 = some (t8 r) := by
  unfold cOf at h
  obtain ⟨h1, h2⟩ := need_some h
  simp only [Option.some.injEq] at h2
  subst h2
  exact f_Of h1
def hcOf : HK where
  call := fun args σ k => match args with
    | [.int .i64 a0] => Option.bind (cOf a0) fun r => k (.ret (.agg [.int .u64 (limb r 0), .int .u64 (limb r 1), .int .u64 (limb r 2), .int .u64 (limb r 3), .int .u64 (limb r 4), .int .u64 (limb r 5), .int .u64 (limb r 6), .int .u64 (limb r 7)])) σ
    | _ => none
  nat := fun args σ k => by
    repeat' split
    all_goals simp only [Option.bind_assoc, Option.bind_none, Option.bind_some]
  pure := true
  pok := fun _ args σ r σ' h => by
    split at h
    · obtain ⟨q, h1, h2⟩ := Option.bind_eq_some_iff.1 h
      simp only [Option.some.injEq, Prod.mk.injEq] at h2
      obtain ⟨rfl, rfl⟩ := h2
      exact ⟨rfl, ⟨_, rfl⟩, fun σ2 => by simp only [h1, Option.bind_some]⟩
    · cases h
theorem hcOf_ok : HKOk Tryz.prog 74 hcOf := h_wide_Of_ok.of_call fun args σ x h => by
  simp only [hcOf] at h
  split at h
  · rename_i a0
    obtain ⟨r, h1, h2⟩ := Option.bind_eq_some_iff.1 h
    simp only [h_wide_Of, cOf_f h1, Option.bind_some]
    exact h2
  · cases h
theorem cCmp_f {a0 a1 a2 a3 a4 a5 a6 a7 a8 a9 a10 a11 a12 a13 a14 a15 : Int} {r} (h : cCmp a0 a1 a2 a3 a4 a5 a6 a7 a8 a9 a10 a11 a12 a13 a14 a15 = some r) : f_wide_Cmp a0 a1 a2 a3 a4 a5 a6 a7 a8 a9 a10 a11 a12 a13 a14 a15 = some (r) := by
  unfold cCmp at h
  obtain ⟨h1, h2⟩ := need_some h
  simp only [Option.some.injEq] at h2
  subst h2
  rw [Bool.and_eq_true] at h1
  obtain ⟨h1, h3⟩ := h1
  have hf := num_fit h1
  have hg := num_fit h3
  obtain ⟨e0, e1, e2, e3, e4, e5, e6, e7⟩ := limb_num h1
  obtain ⟨d0, d1, d2, d3, d4, d5, d6, d7⟩ := limb_num h3
  have q := f_Cmp hf hg
  rw [e0, e1, e2, e3, e4, e5, e6, e7, d0, d1, d2, d3, d4, d5, d6, d7] at q
  exact q
def hcCmp : HK where
  call := fun args σ k => match args with
    | [.agg [.int .u64 a0, .int .u64 a1, .int .u64 a2, .int .u64 a3, .int .u64 a4, .int .u64 a5, .int .u64 a6, .int .u64 a7], .agg [.int .u64 a8, .int .u64 a9, .int .u64 a10, .int .u64 a11, .int .u64 a12, .int .u64 a13, .int .u64 a14, .int .u64 a15]] => Option.bind (cCmp a0 a1 a2 a3 a4 a5 a6 a7 a8 a9 a10 a11 a12 a13 a14 a15) fun r => k (.ret (.int .i64 r)) σ
    | _ => none
  nat := fun args σ k => by
    repeat' split
    all_goals simp only [Option.bind_assoc, Option.bind_none, Option.bind_some]
  pure := true
  pok := fun _ args σ r σ' h => by
    split at h
    · obtain ⟨q, h1, h2⟩ := Option.bind_eq_some_iff.1 h
      simp only [Option.some.injEq, Prod.mk.injEq] at h2
      obtain ⟨rfl, rfl⟩ := h2
      exact ⟨rfl, ⟨_, rfl⟩, fun σ2 => by simp only [h1, Option.bind_some]⟩
    · cases h
theorem hcCmp_ok : HKOk Tryz.prog 143 hcCmp := h_wide_Cmp_ok.of_call fun args σ x h => by
  simp only [hcCmp] at h
  split at h
  · rename_i a0 a1 a2 a3 a4 a5 a6 a7 a8 a9 a10 a11 a12 a13 a14 a15
    obtain ⟨r, h1, h2⟩ := Option.bind_eq_some_iff.1 h
    simp only [h_wide_Cmp, cCmp_f h1, Option.bind_some]
    exact h2
  · cases h
theorem cAdd_f {a0 a1 a2 a3 a4 a5 a6 a7 a8 a9 a10 a11 a12 a13 a14 a15 : Int} {r} (h : cAdd a0 a1 a2 a3 a4 a5 a6 a7 a8 a9 a10 a11 a12 a13 a14 a15 = some r) : f_wide_Add a0 a1 a2 a3 a4 a5 a6 a7 a8 a9 a10 a11 a12 a13 a14 a15 = some (t9 r.1 r.2) := by
  unfold cAdd at h
  obtain ⟨h1, h2⟩ := need_some h
  simp only [Option.some.injEq] at h2
  subst h2
  rw [Bool.and_eq_true] at h1
  obtain ⟨h1, h3⟩ := h1
  have hf := num_fit h1
  have hg := num_fit h3
  obtain ⟨e0, e1, e2, e3, e4, e5, e6, e7⟩ := limb_num h1
  obtain ⟨d0, d1, d2, d3, d4, d5, d6, d7⟩ := limb_num h3
  have q := f_Add hf hg
  rw [e0, e1, e2, e3, e4, e5, e6, e7, d0, d1, d2, d3, d4, d5, d6, d7] at q
  exact q
def hcAdd : HK where
  call := fun args σ k => match args with
    | [.agg [.int .u64 a0, .int .u64 a1, .int .u64 a2, .int .u64 a3, .int .u64 a4, .int .u64 a5, .int .u64 a6, .int .u64 a7], .agg [.int .u64 a8, .int .u64 a9, .int .u64 a10, .int .u64 a11, .int .u64 a12, .int .u64 a13, .int .u64 a14, .int .u64 a15]] => Option.bind (cAdd a0 a1 a2 a3 a4 a5 a6 a7 a8 a9 a10 a11 a12 a13 a14 a15) fun r => k (.ret (.tup [.agg [.int .u64 (limb r.1 0), .int .u64 (limb r.1 1), .int .u64 (limb r.1 2), .int .u64 (limb r.1 3), .int .u64 (limb r.1 4), .int .u64 (limb r.1 5), .int .u64 (limb r.1 6), .int .u64 (limb r.1 7)], .bool r.2])) σ
    | _ => none
  nat := fun args σ k => by
    repeat' split
    all_goals simp only [Option.bind_assoc, Option.bind_none, Option.bind_some]
  pure := true
  pok := fun _ args σ r σ' h => by
    split at h
    · obtain ⟨q, h1, h2⟩ := Option.bind_eq_some_iff.1 h
      simp only [Option.some.injEq, Prod.mk.injEq] at h2
      obtain ⟨rfl, rfl⟩ := h2
      exact ⟨rfl, ⟨_, rfl⟩, fun σ2 => by simp only [h1, Option.bind_some]⟩
    · cases h
theorem hcAdd_ok : HKOk Tryz.prog 75 hcAdd := h_wide_Add_ok.of_call fun args σ x h => by
  simp only [hcAdd] at h
  split at h
  · rename_i a0 a1 a2 a3 a4 a5 a6 a7 a8 a9 a10 a11 a12 a13 a14 a15
    obtain ⟨r, h1, h2⟩ := Option.bind_eq_some_iff.1 h
    simp only [h_wide_Add, cAdd_f h1, Option.bind_some]
    exact h2
  · cases h
theorem cMul_f {a0 a1 a2 a3 a4 a5 a6 a7 a8 a9 a10 a11 a12 a13 a14 a15 : Int} {r} (h : cMul a0 a1 a2 a3 a4 a5 a6 a7 a8 a9 a10 a11 a12 a13 a14 a15 = some r) : f_wide_Mul a0 a1 a2 a3 a4 a5 a6 a7 a8 a9 a10 a11 a12 a13 a14 a15 = some (t9 r.1 r.2) := by
  unfold cMul at h
  obtain ⟨h1, h2⟩ := need_some h
  simp only [Option.some.injEq] at h2
  subst h2
  rw [Bool.and_eq_true] at h1
  obtain ⟨h1, h3⟩ := h1
  have hf := num_fit h1
  have hg := num_fit h3
  obtain ⟨e0, e1, e2, e3, e4, e5, e6, e7⟩ := limb_num h1
  obtain ⟨d0, d1, d2, d3, d4, d5, d6, d7⟩ := limb_num h3
  have q := f_Mul hf hg
  rw [e0, e1, e2, e3, e4, e5, e6, e7, d0, d1, d2, d3, d4, d5, d6, d7] at q
  exact q
def hcMul : HK where
  call := fun args σ k => match args with
    | [.agg [.int .u64 a0, .int .u64 a1, .int .u64 a2, .int .u64 a3, .int .u64 a4, .int .u64 a5, .int .u64 a6, .int .u64 a7], .agg [.int .u64 a8, .int .u64 a9, .int .u64 a10, .int .u64 a11, .int .u64 a12, .int .u64 a13, .int .u64 a14, .int .u64 a15]] => Option.bind (cMul a0 a1 a2 a3 a4 a5 a6 a7 a8 a9 a10 a11 a12 a13 a14 a15) fun r => k (.ret (.tup [.agg [.int .u64 (limb r.1 0), .int .u64 (limb r.1 1), .int .u64 (limb r.1 2), .int .u64 (limb r.1 3), .int .u64 (limb r.1 4), .int .u64 (limb r.1 5), .int .u64 (limb r.1 6), .int .u64 (limb r.1 7)], .bool r.2])) σ
    | _ => none
  nat := fun args σ k => by
    repeat' split
    all_goals simp only [Option.bind_assoc, Option.bind_none, Option.bind_some]
  pure := true
  pok := fun _ args σ r σ' h => by
    split at h
    · obtain ⟨q, h1, h2⟩ := Option.bind_eq_some_iff.1 h
      simp only [Option.some.injEq, Prod.mk.injEq] at h2
      obtain ⟨rfl, rfl⟩ := h2
      exact ⟨rfl, ⟨_, rfl⟩, fun σ2 => by simp only [h1, Option.bind_some]⟩
    · cases h
theorem hcMul_ok : HKOk Tryz.prog 73 hcMul := h_wide_Mul_ok.of_call fun args σ x h => by
  simp only [hcMul] at h
  split at h
  · rename_i a0 a1 a2 a3 a4 a5 a6 a7 a8 a9 a10 a11 a12 a13 a14 a15
    obtain ⟨r, h1, h2⟩ := Option.bind_eq_some_iff.1 h
    simp only [h_wide_Mul, cMul_f h1, Option.bind_some]
    exact h2
  · cases h
theorem cDiv_f {a0 a1 a2 a3 a4 a5 a6 a7 a8 a9 a10 a11 a12 a13 a14 a15 : Int} {r} (h : cDiv a0 a1 a2 a3 a4 a5 a6 a7 a8 a9 a10 a11 a12 a13 a14 a15 = some r) : f_wide_Div a0 a1 a2 a3 a4 a5 a6 a7 a8 a9 a10 a11 a12 a13 a14 a15 = some (t17 r.1 r.2.1 r.2.2) := by
  unfold cDiv at h
  obtain ⟨h1, h2⟩ := need_some h
  simp only [Option.some.injEq] at h2
  subst h2
  simp only [Bool.and_eq_true] at h1
  obtain ⟨h1, h3⟩ := h1
  obtain ⟨h1, h4⟩ := h1
  have hf := num_fit h1
  have hg := num_fit h4
  obtain ⟨e0, e1, e2, e3, e4, e5, e6, e7⟩ := limb_num h1
  obtain ⟨d0, d1, d2, d3, d4, d5, d6, d7⟩ := limb_num h4
  by_cases h0 : num a8 a9 a10 a11 a12 a13 a14 a15 = 0
  · have q := f_Div0 (a := num a0 a1 a2 a3 a4 a5 a6 a7) hg h0
    rw [e0, e1, e2, e3, e4, e5, e6, e7, d0, d1, d2, d3, d4, d5, d6, d7] at q
    unfold divR
    rw [decide_eq_true h0]
    exact q
  · rw [decide_eq_false h0, Bool.false_or] at h3
    have q := f_Div hf hg h0 (fitB_iff.1 h3)
    rw [e0, e1, e2, e3, e4, e5, e6, e7, d0, d1, d2, d3, d4, d5, d6, d7] at q
    unfold divR
    rw [decide_eq_false h0, h3]
    exact q
def hcDiv : HK where
  call := fun args σ k => match args with
    | [.agg [.int .u64 a0, .int .u64 a1, .int .u64 a2, .int .u64 a3, .int .u64 a4, .int .u64 a5, .int .u64 a6, .int .u64 a7], .agg [.int .u64 a8, .int .u64 a9, .int .u64 a10, .int .u64 a11, .int .u64 a12, .int .u64 a13, .int .u64 a14, .int .u64 a15]] => Option.bind (cDiv a0 a1 a2 a3 a4 a5 a6 a7 a8 a9 a10 a11 a12 a13 a14 a15) fun r => k (.ret (.tup [.agg [.int .u64 (limb r.1 0), .int .u64 (limb r.1 1), .int .u64 (limb r.1 2), .int .u64 (limb r.1 3), .int .u64 (limb r.1 4), .int .u64 (limb r.1 5), .int .u64 (limb r.1 6), .int .u64 (limb r.1 7)], .agg [.int .u64 (limb r.2.1 0), .int .u64 (limb r.2.1 1), .int .u64 (limb r.2.1 2), .int .u64 (limb r.2.1 3), .int .u64 (limb r.2.1 4), .int .u64 (limb r.2.1 5), .int .u64 (limb r.2.1 6), .int .u64 (limb r.2.1 7)], .bool r.2.2])) σ
    | _ => none
  nat := fun args σ k => by
    repeat' split
    all_goals simp only [Option.bind_assoc, Option.bind_none, Option.bind_some]
  pure := true
  pok := fun _ args σ r σ' h => by
    split at h
    · obtain ⟨q, h1, h2⟩ := Option.bind_eq_some_iff.1 h
      simp only [Option.some.injEq, Prod.mk.injEq] at h2
      obtain ⟨rfl, rfl⟩ := h2
      exact ⟨rfl, ⟨_, rfl⟩, fun σ2 => by simp only [h1, Option.bind_some]⟩
    · cases h
theorem hcDiv_ok : HKOk Tryz.prog 182 hcDiv := h_wide_Div_ok.of_call fun args σ x h => by
  simp only [hcDiv] at h
  split at h
  · rename_i a0 a1 a2 a3 a4 a5 a6 a7 a8 a9 a10 a11 a12 a13 a14 a15
    obtain ⟨r, h1, h2⟩ := Option.bind_eq_some_iff.1 h
    simp only [h_wide_Div, cDiv_f h1, Option.bind_some]
    exact h2
  · cases h
theorem cInt_f {a0 a1 a2 a3 a4 a5 a6 a7 : Int} {r} (h : cInt a0 a1 a2 a3 a4 a5 a6 a7 = some r) : f_wide_Int a0 a1 a2 a3 a4 a5 a6 a7 = some (r) := by
  unfold cInt at h
  obtain ⟨h1, h2⟩ := need_some h
  simp only [Option.some.injEq] at h2
  subst h2
  have hf := num_fit h1
  have q := f_Int hf
  obtain ⟨e0, e1, e2, e3, e4, e5, e6, e7⟩ := limb_num h1
  rw [e0, e1, e2, e3, e4, e5, e6, e7] at q
  exact q
def hcInt : HK where
  call := fun args σ k => match args with
    | [.agg [.int .u64 a0, .int .u64 a1, .int .u64 a2, .int .u64 a3, .int .u64 a4, .int .u64 a5, .int .u64 a6, .int .u64 a7]] => Option.bind (cInt a0 a1 a2 a3 a4 a5 a6 a7) fun r => k (.ret (.tup [.int .i64 r.1, .bool r.2])) σ
    | _ => none
  nat := fun args σ k => by
    repeat' split
    all_goals simp only [Option.bind_assoc, Option.bind_none, Option.bind_some]
  pure := true
  pok := fun _ args σ r σ' h => by
    split at h
    · obtain ⟨q, h1, h2⟩ := Option.bind_eq_some_iff.1 h
      simp only [Option.some.injEq, Prod.mk.injEq] at h2
      obtain ⟨rfl, rfl⟩ := h2
      exact ⟨rfl, ⟨_, rfl⟩, fun σ2 => by simp only [h1, Option.bind_some]⟩
    · cases h
theorem hcInt_ok : HKOk Tryz.prog 269 hcInt := h_wide_Int_ok.of_call fun args σ x h => by
  simp only [hcInt] at h
  split at h
  · rename_i a0 a1 a2 a3 a4 a5 a6 a7
    obtain ⟨r, h1, h2⟩ := Option.bind_eq_some_iff.1 h
    simp only [h_wide_Int, cInt_f h1, Option.bind_some]
    exact h2
  · cases h
theorem cShl_f {a0 a1 a2 a3 a4 a5 a6 a7 a8 : Int} {r} (h : cShl a0 a1 a2 a3 a4 a5 a6 a7 a8 = some r) : f_wide_Shl a0 a1 a2 a3 a4 a5 a6 a7 a8 = some (t9 r.1 r.2) := by
  unfold cShl at h
  obtain ⟨h1, h2⟩ := need_some h
  simp only [Option.some.injEq] at h2
  subst h2
  simp only [Bool.and_eq_true] at h1
  obtain ⟨h1, h3⟩ := h1
  have hf := num_fit h1
  have q := f_Shl hf h3
  obtain ⟨e0, e1, e2, e3, e4, e5, e6, e7⟩ := limb_num h1
  rw [e0, e1, e2, e3, e4, e5, e6, e7] at q
  exact q
def hcShl : HK where
  call := fun args σ k => match args with
    | [.agg [.int .u64 a0, .int .u64 a1, .int .u64 a2, .int .u64 a3, .int .u64 a4, .int .u64 a5, .int .u64 a6, .int .u64 a7], .int .i64 a8] => Option.bind (cShl a0 a1 a2 a3 a4 a5 a6 a7 a8) fun r => k (.ret (.tup [.agg [.int .u64 (limb r.1 0), .int .u64 (limb r.1 1), .int .u64 (limb r.1 2), .int .u64 (limb r.1 3), .int .u64 (limb r.1 4), .int .u64 (limb r.1 5), .int .u64 (limb r.1 6), .int .u64 (limb r.1 7)], .bool r.2])) σ
    | _ => none
  nat := fun args σ k => by
    repeat' split
    all_goals simp only [Option.bind_assoc, Option.bind_none, Option.bind_some]
  pure := true
  pok := fun _ args σ r σ' h => by
    split at h
    · obtain ⟨q, h1, h2⟩ := Option.bind_eq_some_iff.1 h
      simp only [Option.some.injEq, Prod.mk.injEq] at h2
      obtain ⟨rfl, rfl⟩ := h2
      exact ⟨rfl, ⟨_, rfl⟩, fun σ2 => by simp only [h1, Option.bind_some]⟩
    · cases h
theorem hcShl_ok : HKOk Tryz.prog 142 hcShl := h_wide_Shl_ok.of_call fun args σ x h => by
  simp only [hcShl] at h
  split at h
  · rename_i a0 a1 a2 a3 a4 a5 a6 a7 a8
    obtain ⟨r, h1, h2⟩ := Option.bind_eq_some_iff.1 h
    simp only [h_wide_Shl, cShl_f h1, Option.bind_some]
    exact h2
  · cases h
theorem cShr_f {a0 a1 a2 a3 a4 a5 a6 a7 a8 : Int} {r} (h : cShr a0 a1 a2 a3 a4 a5 a6 a7 a8 = some r) : f_wide_Shr a0 a1 a2 a3 a4 a5 a6 a7 a8 = some (t8 r) := by
  unfold cShr at h
  obtain ⟨h1, h2⟩ := need_some h
  simp only [Option.some.injEq] at h2
  subst h2
  simp only [Bool.and_eq_true] at h1
  obtain ⟨h1, h3⟩ := h1
  have hf := num_fit h1
  have q := f_Shr hf h3
  obtain ⟨e0, e1, e2, e3, e4, e5, e6, e7⟩ := limb_num h1
  rw [e0, e1, e2, e3, e4, e5, e6, e7] at q
  exact q
def hcShr : HK where
  call := fun args σ k => match args with
    | [.agg [.int .u64 a0, .int .u64 a1, .int .u64 a2, .int .u64 a3, .int .u64 a4, .int .u64 a5, .int .u64 a6, .int .u64 a7], .int .i64 a8] => Option.bind (cShr a0 a1 a2 a3 a4 a5 a6 a7 a8) fun r => k (.ret (.agg [.int .u64 (limb r 0), .int .u64 (limb r 1), .int .u64 (limb r 2), .int .u64 (limb r 3), .int .u64 (limb r 4), .int .u64 (limb r 5), .int .u64 (limb r 6), .int .u64 (limb r 7)])) σ
    | _ => none
  nat := fun args σ k => by
    repeat' split
    all_goals simp only [Option.bind_assoc, Option.bind_none, Option.bind_some]
  pure := true
  pok := fun _ args σ r σ' h => by
    split at h
    · obtain ⟨q, h1, h2⟩ := Option.bind_eq_some_iff.1 h
      simp only [Option.some.injEq, Prod.mk.injEq] at h2
      obtain ⟨rfl, rfl⟩ := h2
      exact ⟨rfl, ⟨_, rfl⟩, fun σ2 => by simp only [h1, Option.bind_some]⟩
    · cases h
theorem hcShr_ok : HKOk Tryz.prog 267 hcShr := h_wide_Shr_ok.of_call fun args σ x h => by
  simp only [hcShr] at h
  split at h
  · rename_i a0 a1 a2 a3 a4 a5 a6 a7 a8
    obtain ⟨r, h1, h2⟩ := Option.bind_eq_some_iff.1 h
    simp only [h_wide_Shr, cShr_f h1, Option.bind_some]
    exact h2
  · cases h
end Go.Ev

