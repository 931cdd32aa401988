import Derived.Test.YtcgajpdhbanhaaaGreatEvF
import Derived.Laws.IdiomStrings
namespace Go.Ev
set_option linter.unusedVariables false
set_option linter.unusedSimpArgs false
section
variable {P : Program} {T : TTab} {ρ : Nat → Loc} {w0 : W0} {w : World} {σ : Mem}
theorem get_moved {b i : Nat} {B x : ABlk} (hi : ((σ.set b .dead).push B).get i = some x) :
    (i = σ.next ∧ x = B) ∨ (i ≠ σ.next ∧ i = b ∧ x = .dead) ∨ (i ≠ σ.next ∧ i ≠ b ∧ σ.get i = some x) := by
  rw [get_push, get_set, next_set] at hi
  by_cases e : σ.next = i
  · rw [if_pos e] at hi; exact .inl ⟨e.symm, (Option.some.inj hi).symm⟩
  · rw [if_neg e] at hi
    by_cases e2 : b = i
    · rw [if_pos e2] at hi; exact .inr (.inl ⟨fun q => e q.symm, e2.symm, (Option.some.inj hi).symm⟩)
    · rw [if_neg e2] at hi; exact .inr (.inr ⟨fun q => e q.symm, fun q => e2 q.symm, hi⟩)
theorem Rel.rename (h : Rel w0 ρ σ w) {b g o c : Nat} {bs : List AVal} (hg : σ.get b = some (.cells bs true (some g))) (ho : o ≤ bs.length) (hoc : o = c * g) (hg0 : g ≠ 0) :
    Rel w0 (upd ρ σ.next (Loc.mk3 ((ρ b).blk) ((ρ b).base + o) ((ρ b).capE - c))) ((σ.set b .dead).push (.cells (bs.drop o) true (some g))) w := by
  have hgt : ∀ i x, ((σ.set b .dead).push (.cells (bs.drop o) true (some g))).get i = some x →
      (i = σ.next ∧ x = .cells (bs.drop o) true (some g)) ∨ (i ≠ σ.next ∧ i = b ∧ x = .dead) ∨ (i ≠ σ.next ∧ i ≠ b ∧ σ.get i = some x ∧ i < σ.next) := by
    intro i x hi
    rcases get_moved hi with h1 | h1 | ⟨h1, h2, h3⟩
    · exact .inl h1
    · exact .inr (.inl h1)
    · exact .inr (.inr ⟨h1, h2, h3, h.lt i x h3⟩)
  have hρ : ∀ i, i < σ.next → upd ρ σ.next (Loc.mk3 ((ρ b).blk) ((ρ b).base + o) ((ρ b).capE - c)) i = ρ i := fun i hi => upd_lt hi
  have hbn : b < σ.next := h.lt b _ hg
  have hsb := h.sco b _ hg
  simp only [scB] at hsb
  refine ⟨?_, ?_, ?_, ?_, ?_, ?_, h.os, h.tape, h.output, h.size, h.old⟩
  · intro i x hi
    simp only [next_push, next_set]
    rcases hgt i x hi with ⟨e, _⟩ | ⟨_, e, _⟩ | ⟨_, _, _, e⟩ <;> omega
  · intro i x hi
    simp only [next_push, next_set]
    rcases hgt i x hi with ⟨_, rfl⟩ | ⟨_, _, rfl⟩ | ⟨_, _, e, _⟩
    · exact scC_mono (Nat.le_succ _) _ (scC_drop hsb)
    · rfl
    · exact scB_mono (Nat.le_succ _) _ (h.sco i x e)
  · intro i x hi
    rcases hgt i x hi with ⟨rfl, rfl⟩ | ⟨_, _, rfl⟩ | ⟨_, _, e, e2⟩
    · rw [upd_self]
      obtain ⟨cc, e, fz, h1, ⟨pre, post, h2, h3⟩, h4, h5⟩ := h.ok b _ hg
      obtain ⟨_, h6, h7⟩ := h5 g rfl
      refine ⟨cc, e, fz, h1, ⟨pre ++ γL ρ (bs.take o), post, ?_, ?_⟩, h4, ?_⟩
      · rw [γC_congr hρ _ (scC_drop hsb), h2]
        simp only [List.append_assoc, γL_take, γL_drop]
        rw [← List.append_assoc ((γL ρ bs).take o), List.take_append_drop]
      · simp [h3]; omega
      · intro g' hg'
        cases hg'
        have hc : c ≤ (ρ b).capE := by
          rcases Nat.lt_or_ge (ρ b).capE c with hlt | hge
          · have := Nat.mul_lt_mul_of_pos_right hlt (Nat.pos_of_ne_zero hg0); omega
          · exact hge
        have hcg := Nat.mul_le_mul_right g hc
        refine ⟨rfl, ?_, ?_⟩
        · show (ρ b).base + o + ((ρ b).capE - c) * g ≤ cc.size
          rw [Nat.sub_mul]
          omega
        · show (bs.drop o).length ≤ ((ρ b).capE - c) * g
          rw [Nat.sub_mul, List.length_drop]
          omega
    · trivial
    · rw [hρ i e2]; exact BOk_congr hρ rfl x (h.sco i x e) (h.ok i x e)
  · intro i x hi ha
    rcases hgt i x hi with ⟨rfl, rfl⟩ | ⟨_, _, rfl⟩ | ⟨_, _, e, e2⟩
    · rw [upd_self]; exact h.inb b _ hg rfl
    · simp [ABlk.alive] at ha
    · rw [hρ i e2]; exact h.inb i x e ha
  · intro i j x y hi hj hij hox hay
    rcases hgt i x hi with ⟨rfl, rfl⟩ | ⟨_, _, rfl⟩ | ⟨_, i1, e, e2⟩
    · rcases hgt j y hj with ⟨rfl, rfl⟩ | ⟨_, _, rfl⟩ | ⟨_, j1, f, f2⟩
      · exact absurd rfl hij
      · simp [ABlk.alive] at hay
      · rw [upd_self, hρ j f2]; exact h.ap b j _ y hg f (Ne.symm j1) rfl hay
    · simp [ABlk.owned] at hox
    · rcases hgt j y hj with ⟨rfl, rfl⟩ | ⟨_, _, rfl⟩ | ⟨_, j1, f, f2⟩
      · rw [upd_self, hρ i e2]; exact h.ap i b x _ e hg i1 hox rfl
      · simp [ABlk.alive] at hay
      · rw [hρ i e2, hρ j f2]; exact h.ap i j x y e f hij hox hay
  · intro i x hi ho
    rcases hgt i x hi with ⟨rfl, rfl⟩ | ⟨_, _, rfl⟩ | ⟨_, _, e, e2⟩
    · rw [upd_self]; exact h.own b _ hg rfl
    · simp [ABlk.owned] at ho
    · rw [hρ i e2]; exact h.own i x e ho
theorem Rel.run_behind (h : Rel w0 ρ σ w) {b g : Nat} {bs ds : List AVal} (hg : σ.get b = some (.cells bs true (some g))) (hs : scC σ.next ds = true)
    (hroom : bs.length + ds.length ≤ (ρ b).capE * g) :
    ∃ w', (storeCells ⟨(ρ b).blk, (ρ b).base + bs.length, none⟩ (γL ρ ds)).run P w = .ok () w' ∧ Rel w0 ρ (σ.set b (.cells (bs ++ ds) true (some g))) w' := by
  obtain ⟨c, e, fz, h1, ⟨pre, post, h2, h3⟩, h4, h5⟩ := h.ok b _ hg
  have hz := h4 rfl
  obtain ⟨_, h6, h7⟩ := h5 g rfl
  have hcl : c.size = pre.length + bs.length + post.length := by
    have := congrArg List.length h2
    simp at this; omega
  have hst := run_storeCells_atZ (P := P) (ρ b).blk ((ρ b).base + bs.length) e fz (γL ρ ds) 0 c w h1 hz (by rw [γL_length]; omega)
    (fun v hv => by
      rw [γL_map] at hv
      obtain ⟨u, hu, rfl⟩ := List.mem_map.1 hv
      exact oneCell_γ ((scC_iff _ _).1 hs u hu).1)
  refine ⟨_, hst, ?_⟩
  have hsb := h.sco b _ hg
  simp only [scB] at hsb
  refine h.set hg rfl (scC_append.2 ⟨hsb, hs⟩) ?_ (by simp [World.setRow]) (fun k hk => setRow_other w _ k _ hk) rfl rfl rfl
  refine ⟨_, e, fz, setRow_heap w _ c _ e _ h1, ⟨pre, post.drop ds.length, ?_, h3⟩, fun _ => ?_, ?_⟩
  · simp only [γL_append, Nat.add_zero]
    rw [h2, γL_length, ← h3]
    have e1 : (pre ++ γL ρ bs ++ post).take (pre.length + bs.length) = pre ++ γL ρ bs := by
      rw [List.take_append_of_le_length (by simp), List.take_of_length_le (by simp)]
    have e2 : (pre ++ γL ρ bs ++ post).drop (pre.length + bs.length + ds.length) = post.drop ds.length := by
      rw [List.drop_append, List.drop_of_length_le (by simp), List.nil_append]
      congr 1; simp
    rw [e1, e2]
    simp only [List.append_assoc]
  · have e0 : (List.take ((ρ b).base + bs.length + 0) c.toList ++ γL ρ ds ++ List.drop ((ρ b).base + bs.length + 0 + (γL ρ ds).length) c.toList).toArray.size = c.size := by
      simp only [List.size_toArray, List.length_append, List.length_take, List.length_drop, Array.length_toList, γL_length, Nat.add_zero]; omega
    rw [e0]
    exact hz
  · intro g' hgr
    cases hgr
    refine ⟨rfl, ?_, ?_⟩
    · simp only [List.size_toArray, List.length_append, List.length_take, List.length_drop, Array.length_toList, γL_length, Nat.add_zero]; omega
    · simp only [List.length_append]; omega
theorem stay_run (h : Rel w0 ρ σ w) (hT : TabOk P T) {t u e : TypeId} {i j k : TyI} (ht : T t = some i) (hik : i.k = .slice e) (he : T e = some j) (hu : T u = some k)
    {e' : TypeId} (hkk : k.k = .slice e') {s x : AVal} {ds : List AVal} {l m : Nat} {base : Option Addr} {cap : Nat} (hs : γ ρ s = .slice base l cap)
    (hds : elemsA σ j.size x = some (ds, m)) (hcap : l + m ≤ cap) {w' : World}
    (hst : (base.elim (pure ()) fun a => storeCells (a.add (l * j.size)) (γL ρ ds) : Sem Unit).run P w = .ok () w') (ty : TypeId) :
    (Builtin.append_ #[t, u] ty #[γ ρ s, γ ρ x]).run P w = .ok (.slice base (l + m) cap) w' := by
  have kt := (hT _ _ ht).k; rw [hik] at kt; simp only [KOk] at kt
  have ku := (hT _ _ hu).k; rw [hkk] at ku; simp only [KOk] at ku
  obtain ⟨b1, b2, b3, b4⟩ := elemsA_run (P := P) h hds
  rw [hs]
  simp only [Builtin.append_, List.getElem?_toArray, List.getElem?_cons_zero, List.getElem?_cons_succ, Sem.run_bind, run_underlying kt, run_underlying ku, Result.andThen_ok, (hT _ _ he).run_size,
    Sem.run_pure, Sem.run_ite, Bool.false_eq_true, if_false, b1, if_pos hcap, Bool.not_false, if_true, b2]
  cases base with
  | none =>
    simp only [Option.elim, Sem.run_pure, Result.ok.injEq, true_and] at hst ⊢
    rw [hst]
  | some a =>
    simp only [Option.elim] at hst
    simp only [Sem.run_bind, hst, Result.andThen_ok, Sem.run_pure]
theorem Rel.name (h : Rel w0 ρ σ w) {B : ABlk} {L : Loc} (hs : scB σ.next B = true) (hb : BOk ρ L w B) (hin : B.alive = true → L.blk < w.heap.size)
    (ho : B.owned = true → ¬ w0.prot L.blk ∧ ∀ j bj, σ.get j = some bj → bj.alive = true → (ρ j).blk ≠ L.blk)
    (ha : B.alive = true → ∀ j bj, σ.get j = some bj → bj.owned = true → (ρ j).blk ≠ L.blk) : Rel w0 (upd ρ σ.next L) (σ.push B) w := by
  have hρ : ∀ i, i < σ.next → upd ρ σ.next L i = ρ i := fun i hi => upd_lt hi
  have cases' : ∀ i b, (σ.push B).get i = some b → (i = σ.next ∧ b = B) ∨ (i < σ.next ∧ σ.get i = some b) := by
    intro i b hi
    rw [get_push] at hi
    by_cases e : σ.next = i
    · rw [if_pos e] at hi; exact .inl ⟨e.symm, (Option.some.inj hi).symm⟩
    · rw [if_neg e] at hi; exact .inr ⟨h.lt i b hi, hi⟩
  refine ⟨?_, ?_, ?_, ?_, ?_, ?_, h.os, h.tape, h.output, h.size, h.old⟩
  · intro i b hi
    rcases cases' i b hi with ⟨rfl, _⟩ | ⟨q, _⟩ <;> simp <;> omega
  · intro i b hi
    rcases cases' i b hi with ⟨rfl, rfl⟩ | ⟨_, q⟩
    · exact scB_mono (Nat.le_succ _) _ hs
    · exact scB_mono (Nat.le_succ _) _ (h.sco i b q)
  · intro i b hi
    rcases cases' i b hi with ⟨rfl, rfl⟩ | ⟨q0, q⟩
    · rw [upd_self]; exact BOk_congr hρ rfl _ hs hb
    · rw [hρ i q0]; exact BOk_congr hρ rfl b (h.sco i b q) (h.ok i b q)
  · intro i b hi hal
    rcases cases' i b hi with ⟨rfl, rfl⟩ | ⟨q0, q⟩
    · rw [upd_self]; exact hin hal
    · rw [hρ i q0]; exact h.inb i b q hal
  · intro i j bi bj hi hj hij hoi haj
    rcases cases' i bi hi with ⟨rfl, rfl⟩ | ⟨q0, q⟩ <;> rcases cases' j bj hj with ⟨rfl, rfl⟩ | ⟨p0, p⟩
    · exact absurd rfl hij
    · rw [upd_self, hρ j p0]; exact ((ho hoi).2 j bj p haj).symm
    · rw [upd_self, hρ i q0]; exact ha haj i bi q hoi
    · rw [hρ i q0, hρ j p0]; exact h.ap i j bi bj q p hij hoi haj
  · intro i b hi hob
    rcases cases' i b hi with ⟨rfl, rfl⟩ | ⟨q0, q⟩
    · rw [upd_self]; exact (ho hob).1
    · rw [hρ i q0]; exact h.own i b q hob
theorem Rel.nameNil (h : Rel w0 ρ σ w) (n sz : Nat) (own : Bool) (L : Loc) (hn : n = 0) (hl : L.sl = 0) (hk : L.sk = 0) : Rel w0 (upd ρ σ.next L) (σ.push (.vec [] n sz own)) w := by
  subst hn
  exact h.name rfl ⟨hl, .inl ⟨rfl, rfl, fun _ => hk⟩⟩ (by simp [ABlk.alive]) (by simp [ABlk.owned]) (by simp [ABlk.alive])
theorem vec_of_row {σd : Mem} {xs : List AVal} {n g : Nat} {ρ' : Nat → Loc} {w' : World} (hp : Post w0 ρ σ.next ρ' (σ.push (.cells xs true (some g))) w') (h : Rel w0 ρ σ w)
    (hd : σd.next = σ.next) (hg : ∀ j b, σd.get j = some b → b = .dead ∧ j < σ.next ∨ σ.get j = some b) (hx : scC 0 xs = true) (hn : xs.length = n * g) (h0 : n * g ≠ 0) :
    ∃ ρ2, γ ρ2 (.vec σ.next) = γ ρ' (.slice σ.next 0 n false 0) ∧ Post w0 ρ σ.next ρ2 (σd.push (.vec xs n g true)) w' := by
  have R := hp.rel
  have hold : ∀ j b, σ.get j = some b → j < σ.next ∧ (σ.push (.cells xs true (some g))).get j = some b := fun j b hj =>
    ⟨h.lt j b hj, by rw [get_push, if_neg (by have := h.lt j b hj; omega)]; exact hj⟩
  have hnew : (σ.push (.cells xs true (some g))).get σ.next = some (.cells xs true (some g)) := by rw [get_push, if_pos rfl]
  have R1 : Rel w0 ρ' σd w' := by
    refine R.weaken ?_ ?_ ?_
    · intro j b hj hbd
      rcases hg j b hj with ⟨q, _⟩ | q
      · exact absurd q hbd
      · exact (hold j b q).2
    · intro j b hj
      rw [hd]
      rcases hg j b hj with ⟨_, q⟩ | q
      · exact q
      · exact h.lt j b q
    · intro j b hj
      rw [hd]
      rcases hg j b hj with ⟨q, _⟩ | q
      · rw [q]; rfl
      · exact h.sco j b q
  obtain ⟨c, e, fz, h1, h2, h4, h5⟩ := R.ok _ _ hnew
  obtain ⟨_, h6, h7⟩ := h5 g rfl
  have hxs : xs ≠ [] := by rintro rfl; simp at hn; omega
  have hcap : n ≤ (ρ' σ.next).capE := by
    rw [hn] at h7
    exact Nat.le_of_mul_le_mul_right h7 (Nat.pos_of_ne_zero fun q => h0 (by rw [q, Nat.mul_zero]))
  let L : Loc := { ρ' σ.next with sp := some ⟨(ρ' σ.next).blk, (ρ' σ.next).base, none⟩, sl := n, sk := (ρ' σ.next).capE }
  have e1 : L.blk = (ρ' σ.next).blk := rfl
  have R2 := R1.name (B := .vec xs n g true) (L := L) hx
    ⟨rfl, .inr ⟨hxs, rfl, hn, c, e, fz, h1, h2, fun _ => ⟨h4 rfl, hcap, h6⟩⟩⟩ (fun _ => R.inb _ _ hnew rfl)
    (fun _ => ⟨R.own _ _ hnew rfl, fun j bj hj haj => ?_⟩) (fun _ j bj hj hoj => ?_)
  · refine ⟨upd ρ' σ.next L, ?_, by rw [← hd]; exact R2, fun i hi => (upd_lt hi).trans (hp.ext i hi), by simp [hd]⟩
    simp only [γ, upd_self, L, Nat.add_zero, Nat.sub_zero, Bool.false_eq_true, if_false]
  · rcases hg j bj hj with ⟨q, _⟩ | q
    · rw [q] at haj; cases haj
    · have := h.lt j bj q
      exact (R.ap σ.next j _ bj hnew (hold j bj q).2 (by omega) rfl haj).symm
  · rcases hg j bj hj with ⟨q, _⟩ | q
    · rw [q] at hoj; cases hoj
    · have := h.lt j bj q
      exact R.ap j σ.next bj _ (hold j bj q).2 hnew (by omega) hoj rfl
theorem append_vec (h : Rel w0 ρ σ w) (hT : TabOk P T) {t u e : TypeId} {it j k : TyI} (ht : T t = some it) (hik : it.k = .slice e) (he : T e = some j) (hu : T u = some k)
    {e' : TypeId} (hkk : k.k = .slice e') {i n m : Nat} {x : AVal} {cs ds : List AVal} (hg : σ.get i = some (.vec cs n j.size true)) (hds : elemsA σ j.size x = some (ds, m))
    (hf : scC 0 ds = true) (q1 : j.size ≠ 0) (q2 : j.bytes ≠ 0) (q3 : 2 * (n + m) * j.bytes ≤ 2 ^ 48) (ty : TypeId) :
    ∃ ρ' w', (Builtin.append_ #[t, u] ty #[γ ρ (.vec i), γ ρ x]).run P w = .ok (γ ρ' (.vec σ.next)) w' ∧ Post w0 ρ σ.next ρ' ((σ.set i .dead).push (.vec (cs ++ ds) (n + m) j.size true)) w' := by
  have hcs : elemsA σ j.size (.vec i) = some (cs, n) := by simp [elemsA, hg]
  have b3 := (elemsA_run (P := P) h hds).2.2
  have c3 := (elemsA_run (P := P) h hcs).2.2
  have hfc : scC 0 cs = true := h.sco _ _ hg
  have hi := h.lt i _ hg
  obtain ⟨g0, g1⟩ := h.ok i _ hg
  have hgd : ∀ jj b, (σ.set i .dead).get jj = some b → b = .dead ∧ jj < σ.next ∨ σ.get jj = some b := by
    intro jj b hj
    rw [get_set] at hj
    split at hj
    · rename_i q; cases hj; exact .inl ⟨rfl, q ▸ hi⟩
    · exact .inr hj
  have hlen : (cs ++ ds).length = (n + m) * j.size := by rw [List.length_append, c3.1, b3.1, Nat.add_mul]
  have growCase : (ρ i).sk < n + m → ∃ ρ' w', (Builtin.append_ #[t, u] ty #[γ ρ (.vec i), γ ρ x]).run P w = .ok (γ ρ' (.vec σ.next)) w' ∧
      Post w0 ρ σ.next ρ' ((σ.set i .dead).push (.vec (cs ++ ds) (n + m) j.size true)) w' := by
    intro hcap
    obtain ⟨ρ', w', r1, r2⟩ := grow_run h hT ht hik he hu hkk (s := .vec i) (base := (ρ i).sp) (cap := (ρ i).sk) (by rw [← g0]; rfl) hcs hds hcap q2 q3 ty
    obtain ⟨ρ2, r3, r4⟩ := vec_of_row (σd := σ.set i .dead) (n := n + m) r2 h rfl hgd (scC_append.2 ⟨hfc, hf⟩) hlen (by have := Nat.mul_pos (show 0 < n + m by omega) (Nat.pos_of_ne_zero q1); omega)
    exact ⟨ρ2, w', by rw [r1, r3], r4⟩
  by_cases hcap : n + m ≤ (ρ i).sk
  · have hsl : γ ρ (.vec i) = .slice (ρ i).sp n (ρ i).sk := by rw [← g0]; rfl
    rcases g1 with ⟨rfl, rfl, g2⟩ | ⟨g1, g2, g3, c, e2, fz, h1, ⟨pre, post, h2, h3⟩, h4⟩
    · have g2' := g2 rfl
      have hm : m = 0 := by omega
      subst hm
      have hd0 : ds = [] := by have := b3.1; simpa using this
      subst hd0
      have hst := stay_run h hT ht hik he hu hkk (s := .vec i) (l := 0) (m := 0) (base := (ρ i).sp) (cap := (ρ i).sk) hsl hds hcap (w' := w)
        (by cases (ρ i).sp <;> simp [γL, storeCells]) ty
      have R := (h.kill hg).nameNil 0 j.size true { ρ i with sl := 0 } rfl rfl (g2 rfl)
      refine ⟨_, w, ?_, ⟨R, fun i hi => upd_lt hi, by simp⟩⟩
      rw [hst]
      simp only [γ, next_set, upd_self, Nat.add_zero]
    · obtain ⟨hz, g4, h5⟩ := h4 rfl
      have hroom : ds.length ≤ post.length := by
        have hl := congrArg List.length h2
        simp only [List.length_append, γL_length, Array.length_toList, g3, h3] at hl
        have := Nat.mul_le_mul_right j.size hcap
        rw [Nat.add_mul] at this
        have := b3.1
        omega
      have hsplit : post = post.take ds.length ++ post.drop ds.length := (List.take_append_drop _ _).symm
      have hstore := run_storeCells_atZ (P := P) (ρ i).blk ((ρ i).base + cs.length) e2 fz (γL ρ ds) 0 c w h1 hz (by
          have hl := congrArg List.length h2
          simp only [List.length_append, γL_length, Array.length_toList, h3] at hl
          rw [γL_length]; omega)
        (fun v hv => by
          rw [γL_map] at hv
          obtain ⟨uu, huu, rfl⟩ := List.mem_map.1 hv
          exact oneCell_γ ((scC_iff _ _).1 b3.2 uu huu).1)
      generalize hw1 : World.setRow w _ _ = w1 at hstore
      have hst := stay_run h hT ht hik he hu hkk (s := .vec i) (l := n) (m := m) (base := (ρ i).sp) (cap := (ρ i).sk) hsl hds hcap (w' := w1)
        (by simp only [g2, Option.elim, add_none, ← g3]; exact hstore) ty
      have hheap : w1.heap[(ρ i).blk]? = some (.cells (c.toList.take ((ρ i).base + cs.length + 0) ++ γL ρ ds ++ c.toList.drop ((ρ i).base + cs.length + 0 + (γL ρ ds).length)).toArray e2 fz) := by
        rw [← hw1]; exact setRow_heap w _ c _ e2 _ h1
      have hal : (ABlk.vec cs n j.size true).owned = true := by
        simp only [ABlk.owned, Bool.true_and, Bool.not_eq_true', List.isEmpty_eq_false_iff]; exact g1
      have hoth : ∀ kk, kk ≠ (ρ i).blk → w1.heap[kk]? = w.heap[kk]? := by rw [← hw1]; exact fun kk hk => setRow_other w _ kk _ hk
      have R1 : Rel w0 ρ (σ.set i .dead) w1 := h.set hg hal rfl trivial (by rw [← hw1]; simp [World.setRow]) hoth (by rw [← hw1]; rfl) (by rw [← hw1]; rfl) (by rw [← hw1]; rfl)
      have hne : cs ++ ds ≠ [] := by simp [g1]
      have R2 := R1.name (B := .vec (cs ++ ds) (n + m) j.size true) (L := { ρ i with sl := n + m }) (scC_append.2 ⟨hfc, hf⟩) ?_ ?_ ?_ ?_
      · refine ⟨_, w1, ?_, ⟨R2, fun i hi => upd_lt hi, by simp⟩⟩
        rw [hst]
        simp only [γ, next_set, upd_self]
      · refine ⟨rfl, .inr ⟨hne, g2, hlen, _, e2, fz, hheap, ⟨pre, post.drop ds.length, ?_, h3⟩, fun _ => ⟨?_, hcap, ?_⟩⟩⟩
        · simp only [γL_append, Nat.add_zero, γL_length]
          rw [h2, ← h3]
          have e1 : (pre ++ γL ρ cs ++ post).take (pre.length + cs.length) = pre ++ γL ρ cs := by
            rw [List.take_append_of_le_length (by simp), List.take_of_length_le (by simp)]
          have e2 : (pre ++ γL ρ cs ++ post).drop (pre.length + cs.length + ds.length) = post.drop ds.length := by
            rw [List.drop_append, List.drop_of_length_le (by simp), List.nil_append]
            congr 1; simp
          rw [e1, e2]
          simp only [List.append_assoc]
        · have e0 : (List.take ((ρ i).base + cs.length + 0) c.toList ++ γL ρ ds ++ List.drop ((ρ i).base + cs.length + 0 + (γL ρ ds).length) c.toList).toArray.size = c.size := by
            have hl := congrArg List.length h2
            simp only [List.length_append, γL_length, Array.length_toList, h3] at hl
            simp only [List.size_toArray, List.length_append, List.length_take, List.length_drop, Array.length_toList, γL_length, Nat.add_zero]; omega
          rw [e0]
          exact hz
        · have hl := congrArg List.length h2
          simp only [List.length_append, γL_length, Array.length_toList, h3] at hl
          simp only [List.size_toArray, List.length_append, List.length_take, List.length_drop, Array.length_toList, γL_length, Nat.add_zero]
          show (ρ i).base + (ρ i).sk * j.size ≤ _
          omega
      · intro _
        rw [show ({ ρ i with sl := n + m } : Loc).blk = (ρ i).blk from rfl]
        have : w1.heap.size = w.heap.size := by rw [← hw1]; simp [World.setRow]
        rw [this]; exact h.inb i _ hg (ABlk.owned_alive hal)
      · intro _
        refine ⟨h.own i _ hg hal, fun jj bj hj haj => ?_⟩
        rcases hgd jj bj hj with ⟨q, _⟩ | q
        · rw [q] at haj; cases haj
        · have hji : jj ≠ i := by
            rintro rfl
            rw [get_set, if_pos rfl] at hj
            cases hj; cases haj
          exact (h.ap i jj _ bj hg q (Ne.symm hji) hal haj).symm
      · intro _ jj bj hj hoj
        rcases hgd jj bj hj with ⟨q, _⟩ | q
        · rw [q] at hoj; cases hoj
        · have hji : jj ≠ i := by
            rintro rfl
            rw [get_set, if_pos rfl] at hj
            cases hj; cases hoj
          exact h.ap jj i bj _ q hg hji hoj (ABlk.owned_alive hal)
  · exact growCase (by omega)
theorem append_nilvec (h : Rel w0 ρ σ w) (hT : TabOk P T) {t u e : TypeId} {it j k : TyI} (ht : T t = some it) (hik : it.k = .slice e) (he : T e = some j) (hu : T u = some k)
    {e' : TypeId} (hkk : k.k = .slice e') {m : Nat} {s x : AVal} {ds : List AVal} {base : Option Addr} (hs : γ ρ s = .slice base 0 0) (hcs : elemsA σ j.size s = some ([], 0))
    (hds : elemsA σ j.size x = some (ds, m)) (hf : scC 0 ds = true) (q1 : j.size ≠ 0) (q2 : j.bytes ≠ 0) (q3 : 2 * (0 + m) * j.bytes ≤ 2 ^ 48) (ty : TypeId) :
    ∃ ρ' w', (Builtin.append_ #[t, u] ty #[γ ρ s, γ ρ x]).run P w = .ok (γ ρ' (.vec σ.next)) w' ∧ Post w0 ρ σ.next ρ' (σ.push (.vec ds m j.size true)) w' := by
  have b3 := (elemsA_run (P := P) h hds).2.2
  by_cases hm : m = 0
  · subst hm
    have hd0 : ds = [] := by have := b3.1; simpa using this
    subst hd0
    have hst := stay_run h hT ht hik he hu hkk (s := s) (l := 0) (m := 0) (base := base) (cap := 0) hs hds (by omega) (w' := w) (by cases base <;> simp [γL, storeCells]) ty
    have R := h.nameNil 0 j.size true { blk := 0, base := 0, capE := 0, sp := base } rfl rfl rfl
    refine ⟨_, w, ?_, ⟨R, fun i hi => upd_lt hi, by simp⟩⟩
    rw [hst]
    simp only [γ, upd_self, Nat.add_zero]
  · obtain ⟨ρ', w', r1, r2⟩ := grow_run h hT ht hik he hu hkk (s := s) (base := base) (cap := 0) (cs := []) hs hcs hds (by omega) q2 q3 ty
    rw [List.nil_append] at r2
    obtain ⟨ρ2, r3, r4⟩ := vec_of_row (σd := σ) (n := m) r2 h rfl (fun j b hj => .inr hj) hf b3.1 (by have := Nat.mul_pos (Nat.pos_of_ne_zero hm) (Nat.pos_of_ne_zero q1); omega)
    exact ⟨ρ2, w', by rw [r1, r3, Nat.zero_add], r4⟩
theorem append_run (h : Rel w0 ρ σ w) (hT : TabOk P T) {t u : TypeId} {k : TyI} (hu : T u = some k) {e' : TypeId} (hkk : k.k = .slice e') {s x v : AVal} {σ' : Mem}
    (hs : sc σ.next s = true) (ha : appendA T σ t s x = some (v, σ')) (ty : TypeId) :
    ∃ ρ' w', (Builtin.append_ #[t, u] ty #[γ ρ s, γ ρ x]).run P w = .ok (γ ρ' v) w' ∧ Post w0 ρ σ.next ρ' σ' w' ∧ sc σ'.next v = true := by
  unfold appendA at ha
  split at ha
  · rename_i e hTt
    split at ha
    · cases ha
    · rename_i j hTe
      split at ha
      · rename_i cs l ds m hcs hds
        split at ha
        · cases ha
        · rename_i hq
          have q1 : j.size ≠ 0 := fun q => hq (.inl q)
          have q2 : j.bytes ≠ 0 := fun q => hq (.inr (.inl q))
          have q3 : 2 * (l + m) * j.bytes ≤ 2 ^ 48 := by
            rcases Nat.lt_or_ge (2 ^ 48) (2 * (l + m) * j.bytes) with q | q
            · exact absurd (.inr (.inr q)) hq
            · exact q
          have b3 := (elemsA_run (P := P) h hds).2.2
          have c3 := (elemsA_run (P := P) h hcs).2.2
          unfold appendB at ha
          split at ha
          ·
            rename_i i0
            split at ha
            · rename_i cs' n' sz' hg0
              split at ha
              · rename_i hfl
                cases ha
                have hq2 : cs' = cs ∧ n' = l ∧ sz' = j.size := by
                  simp only [elemsA, hg0] at hcs
                  split at hcs
                  · rename_i hsz
                    simp only [Option.some.injEq, Prod.mk.injEq] at hcs
                    exact ⟨hcs.1, hcs.2, hsz⟩
                  · cases hcs
                obtain ⟨rfl, rfl, rfl⟩ := hq2
                obtain ⟨ρ', w', r1, r2⟩ := append_vec h hT hTt rfl hTe hu hkk hg0 hds (flatA_sc h hds hfl) q1 q2 q3 ty
                exact ⟨ρ', w', r1, r2, by simp [sc]⟩
              · cases ha
            · cases ha
          ·
            simp only [elemsA, Option.some.injEq, Prod.mk.injEq] at hcs
            obtain ⟨rfl, rfl⟩ := hcs
            split at ha
            · rename_i hfl
              cases ha
              obtain ⟨ρ', w', r1, r2⟩ := append_nilvec h hT hTt rfl hTe hu hkk (s := .nils) (base := none) rfl (by simp [elemsA]) hds (flatA_sc h hds hfl) q1 q2 q3 ty
              exact ⟨ρ', w', r1, r2, by simp [sc]⟩
            split at ha
            · rename_i hm
              cases ha
              subst hm
              refine ⟨ρ, w, ?_, Post.refl h, rfl⟩
              have := stay_run h hT hTt rfl hTe hu hkk (s := .nils) (l := 0) (m := 0) (base := none) (cap := 0) rfl hds (by omega) (w' := w) rfl ty
              simpa only [γ] using this
            · rename_i hm
              cases ha
              obtain ⟨ρ', w', r1, r2⟩ := grow_run h hT hTt rfl hTe hu hkk (s := .nils) (base := none) (cap := 0) (cs := []) rfl (by simp [elemsA]) hds (by omega) q2 q3 ty
              exact ⟨ρ', w', r1, r2, by simp [sc]⟩
          ·
            rename_i i0
            simp only [elemsA, Option.some.injEq, Prod.mk.injEq] at hcs
            obtain ⟨rfl, rfl⟩ := hcs
            split at ha
            · rename_i hfl
              cases ha
              obtain ⟨ρ', w', r1, r2⟩ := append_nilvec h hT hTt rfl hTe hu hkk (s := .emp i0) (base := some (ρ i0).odd) rfl (by simp [elemsA]) hds (flatA_sc h hds hfl) q1 q2 q3 ty
              exact ⟨ρ', w', r1, r2, by simp [sc]⟩
            split at ha
            · rename_i hm
              cases ha
              subst hm
              have hd0 : ds = [] := by have := b3.1; simpa using this
              subst hd0
              refine ⟨ρ, w, ?_, Post.refl h, hs⟩
              have := stay_run h hT hTt rfl hTe hu hkk (s := .emp i0) (l := 0) (m := 0) (base := some (ρ i0).odd) (cap := 0) rfl hds (by omega) (w' := w) (by simp [γL, storeCells]) ty
              simpa only [γ] using this
            · rename_i hm
              cases ha
              obtain ⟨ρ', w', r1, r2⟩ := grow_run h hT hTt rfl hTe hu hkk (s := .emp i0) (base := some (ρ i0).odd) (cap := 0) (cs := []) rfl (by simp [elemsA]) hds (by omega) q2 q3 ty
              exact ⟨ρ', w', r1, r2, by simp [sc]⟩
          ·
            rename_i b o l' c
            have hll : l' = l := by
              simp only [elemsA, Option.map_eq_some_iff, Prod.mk.injEq] at hcs
              obtain ⟨_, _, _, r⟩ := hcs; exact r
            subst hll
            split at ha
            · rename_i hq0
              obtain ⟨rfl, rfl, hfl⟩ := hq0
              cases ha
              have hcs0 : cs = [] := by have := c3.1; simpa using this
              subst hcs0
              obtain ⟨ρ', w', r1, r2⟩ := append_nilvec h hT hTt rfl hTe hu hkk (s := .slice b o 0 true 0) rfl hcs hds (flatA_sc h hds hfl) q1 q2 q3 ty
              exact ⟨ρ', w', r1, r2, by simp [sc]⟩
            split at ha
            · rename_i hroom
              split at ha
              · rename_i hm
                cases ha
                subst hm
                have hd0 : ds = [] := by have := b3.1; simpa using this
                subst hd0
                refine ⟨ρ, w, ?_, Post.refl h, hs⟩
                have := stay_run h hT hTt rfl hTe hu hkk (s := .slice b o l' true c) rfl hds (by simpa using hroom) (w' := w) (by simp [γL, storeCells]) ty
                simpa only [γ, Nat.add_zero] using this
              · cases hp : putA σ b (o + l' * j.size) ds with
                | none => rw [hp] at ha; cases ha
                | some σ1 =>
                  rw [hp] at ha; cases ha
                  obtain ⟨w', r1, r2, r3⟩ := h.run_putA (P := P) hp b3.2
                  refine ⟨ρ, w', ?_, ⟨r2, fun _ _ => rfl, by omega⟩, by simpa [sc, r3] using hs⟩
                  have := stay_run h hT hTt rfl hTe hu hkk (s := .slice b o l' true c) rfl hds (by simpa using hroom) (w' := w') (by simpa only [Option.elim, add_none, Nat.add_assoc] using r1) ty
                  simpa only [γ] using this
            · rename_i hroom
              split at ha
              · rename_i hfl
                rw [Bool.and_eq_true] at hfl
                cases ha
                obtain ⟨ρ', w', r1, r2⟩ := grow_run h hT hTt rfl hTe hu hkk (s := .slice b o l' true c) rfl hcs hds (by simpa using hroom) q2 q3 ty
                obtain ⟨ρ2, r3, r4⟩ := vec_of_row (σd := σ) (n := l' + m) r2 h rfl (fun j b hj => .inr hj) (scC_append.2 ⟨flatA_sc h hcs hfl.1, flatA_sc h hds hfl.2⟩)
                  (by rw [List.length_append, b3.1, c3.1, Nat.add_mul]) (by have := Nat.mul_pos (show 0 < l' + m by omega) (Nat.pos_of_ne_zero q1); omega)
                exact ⟨ρ2, w', by rw [r1, r3], r4, by simp [sc]⟩
              · cases ha
                obtain ⟨ρ', w', r1, r2⟩ := grow_run h hT hTt rfl hTe hu hkk (s := .slice b o l' true c) rfl hcs hds (by simpa using hroom) q2 q3 ty
                exact ⟨ρ', w', r1, r2, by simp [sc]⟩
          ·
            rename_i b o l' c
            have hll : l' = l := by
              simp only [elemsA, Option.map_eq_some_iff, Prod.mk.injEq] at hcs
              obtain ⟨_, _, _, r⟩ := hcs; exact r
            subst hll
            split at ha
            · rename_i bs g hgb
              split at ha
              · rename_i hcond
                obtain ⟨rfl, ho, hend⟩ := hcond
                cases ha
                have hcs2 : cs = bs.drop o := by
                  simp only [elemsA, Option.map_eq_some_iff, Prod.mk.injEq] at hcs
                  obtain ⟨x1, x2, x3, _⟩ := hcs
                  obtain ⟨y1, y2, y3, y4, y5, y6⟩ := cellsAt_some x2
                  rw [hgb] at y3; cases y3; cases y4
                  rw [← x3, y6, List.take_of_length_le (by rw [List.length_drop]; omega)]
                by_cases hroom : l' + m ≤ (ρ b).capE - c
                ·
                  have hroom2 : bs.length + ds.length ≤ (ρ b).capE * j.size := by
                    have h8 := Nat.mul_le_mul_right j.size hroom
                    rw [Nat.sub_mul, Nat.add_mul] at h8
                    have hc0 : c * j.size ≤ (ρ b).capE * j.size := by
                      obtain ⟨_, _, _, _, _, _, h5⟩ := h.ok b _ hgb
                      have := (h5 _ rfl).2.2; omega
                    have := b3.1; omega
                  obtain ⟨w', r1, r2⟩ := h.run_behind (P := P) hgb b3.2 hroom2
                  have r3 := r2.rename (b := b) (o := o) (c := c) (g := j.size) (bs := bs ++ ds) (by rw [get_set, if_pos rfl]) (by simp; omega) ho q1
                  refine ⟨_, w', ?_, ⟨r3.weaken ?_ ?_ ?_, fun i hi => upd_lt hi, by simp⟩, by simp [sc]⟩
                  · have := stay_run h hT hTt rfl hTe hu hkk (s := .slice b o l' false c) rfl hds (by simpa using hroom) (w' := w') (by
                      simp only [Option.elim, add_none]; rw [Nat.add_assoc, hend]; exact r1) ty
                    rw [this]
                    simp only [γ, upd_self, next_set, Nat.add_zero, Nat.sub_zero, Bool.false_eq_true, if_false]
                  · intro i x hi _
                    rw [get_push, get_set, get_set, next_set, next_set]
                    rcases get_moved hi with ⟨e1, rfl⟩ | ⟨e1, e2, rfl⟩ | ⟨e1, e2, e3⟩
                    · rw [if_pos e1.symm, hcs2, List.drop_append_of_le_length (by omega)]
                    · rw [if_neg (Ne.symm e1), if_pos e2.symm]
                    · rw [if_neg (Ne.symm e1), if_neg (Ne.symm e2), if_neg (Ne.symm e2), e3]
                  · intro i x hi
                    simp only [next_push, next_set]
                    rcases get_moved hi with ⟨e1, rfl⟩ | ⟨e1, e2, rfl⟩ | ⟨e1, e2, e3⟩
                    · omega
                    · have := h.lt b _ hgb; omega
                    · have := h.lt i x e3; omega
                  · intro i x hi
                    simp only [next_push, next_set]
                    rcases get_moved hi with ⟨e1, rfl⟩ | ⟨e1, e2, rfl⟩ | ⟨e1, e2, e3⟩
                    · exact scC_mono (Nat.le_succ _) _ (scC_append.2 ⟨c3.2, b3.2⟩)
                    · rfl
                    · exact scB_mono (Nat.le_succ _) _ (h.sco i x e3)
                · obtain ⟨ρ', w', r1, r2⟩ := grow_run h hT hTt rfl hTe hu hkk (s := .slice b o l' false c) rfl hcs hds (by simp; omega) q2 q3 ty
                  refine ⟨ρ', w', r1, ⟨r2.rel.weaken ?_ ?_ ?_, r2.ext, by simp⟩, by simp [sc]⟩
                  · intro i x hi ha
                    rw [get_push]
                    rcases get_moved hi with ⟨e1, rfl⟩ | ⟨e1, e2, rfl⟩ | ⟨e1, e2, e3⟩
                    · rw [if_pos e1.symm]
                    · simp [ABlk.alive] at ha
                    · rw [if_neg (Ne.symm e1), e3]
                  · intro i x hi
                    simp only [next_push, next_set]
                    rcases get_moved hi with ⟨e1, rfl⟩ | ⟨e1, e2, rfl⟩ | ⟨e1, e2, e3⟩
                    · omega
                    · have := h.lt b _ hgb; omega
                    · have := h.lt i x e3; omega
                  · intro i x hi
                    simp only [next_push, next_set]
                    rcases get_moved hi with ⟨e1, rfl⟩ | ⟨e1, e2, rfl⟩ | ⟨e1, e2, e3⟩
                    · exact scC_mono (Nat.le_succ _) _ (scC_append.2 ⟨c3.2, b3.2⟩)
                    · rfl
                    · exact scB_mono (Nat.le_succ _) _ (h.sco i x e3)
              · cases ha
            · cases ha
          · cases ha
      · cases ha
  · cases ha
end
section
variable {P : Program} {T : TTab} {w0 : W0} {ρ : Nat → Loc} {σ : Mem} {w : World}
theorem isByteT_ok (hT : TabOk P T) {e : TypeId} (h : isByteT (T e) = true) : P.underlying e = some (.int .u8) := by
  unfold isByteT at h
  split at h
  · rename_i i hi
    have := (hT _ _ hi).k
    simpa only [KOk] using this
  · cases h
theorem run_convert_same (w : World) {t e : TypeId} (ht : P.underlying t = some (.slice e)) (he : P.underlying e = some (.int .u8)) (a : Addr) (n c : Nat) {C : Array Value} {el : TypeId} {fz : Nat × Nat}
    (hb : w.heap[a.block]? = some (.cells C el fz)) : (convert t t (.slice (some a) n c)).run P w = .ok (.slice (some a) n c) (w.freeze ⟨a.block, C.size, none⟩ 1) := by
  have hsh : w.shape? a.block = some (el, C.size) := by unfold World.shape?; rw [hb]
  simp [convert, run_underlying ht, run_underlying he, markStringish, hsh, freeze]
  rfl
theorem freeze_at (w : World) {b n : Nat} {C : Array Value} {el : TypeId} {fz : Nat × Nat} (hb : w.heap[b]? = some (.cells C el fz)) :
    (w.freeze ⟨b, n, none⟩ 1).heap[b]? = some (.cells C el (if fz.1 == fz.2 then (n, n + 1) else (min fz.1 n, max fz.2 (n + 1)))) := by
  obtain ⟨lo, hi⟩ := fz
  have hlt : b < w.heap.size := by
    rcases Nat.lt_or_ge b w.heap.size with h | h
    · exact h
    · rw [Array.getElem?_eq_none h] at hb; cases hb
  unfold World.freeze
  rw [if_neg (by decide)]
  simp only [Array.getElem?_modify, if_pos, hb, Option.map_some]
theorem freeze_other (w : World) {b n k : Nat} (hk : k ≠ b) : (w.freeze ⟨b, n, none⟩ 1).heap[k]? = w.heap[k]? := by
  unfold World.freeze
  rw [if_neg (by decide)]
  simp only [Array.getElem?_modify, if_neg (Ne.symm hk)]
theorem strBytes_run (h : Rel w0 ρ σ w) (hT : TabOk P T) {src dst : TypeId} {x v : AVal} {σ' : Mem} (hb : strBytesA T σ src dst x = some (v, σ')) :
    ∃ ρ' w', (convert src dst (γ ρ x)).run P w = .ok (γ ρ' v) w' ∧ Post w0 ρ σ.next ρ' σ' w' ∧ sc σ'.next v = true := by
  unfold strBytesA at hb
  split at hb
  rotate_left
  · rename_i e i o l ex c hd0
    cases hc : (isByteT (T e) && Nat.beq src dst) with
    | false => rw [hc] at hb; cases hb
    | true =>
    rw [hc, cond_true] at hb
    rw [Bool.and_eq_true] at hc
    obtain ⟨hbt, hsd⟩ := hc
    obtain rfl := Nat.eq_of_beq_eq_true hsd
    split at hb
    · rename_i cs g hg
      simp only [Option.some.injEq, Prod.mk.injEq] at hb
      obtain ⟨rfl, rfl⟩ := hb
      have hd := (hT _ _ hd0).k
      simp only [KOk] at hd
      have he := isByteT_ok hT hbt
      obtain ⟨C, el, fz, h1, h2, h3, h4⟩ := h.ok i _ hg
      have hr := run_convert_same (P := P) w hd he ⟨(ρ i).blk, (ρ i).base + o, none⟩ l (if ex then c else (ρ i).capE - c) h1
      have R := h.set (w' := w.freeze ⟨(ρ i).blk, C.size, none⟩ 1) hg rfl (h.sco i _ hg) ⟨C, el, _, freeze_at w h1, h2, fun ho => by
          right
          rcases h3 ho with e | e
          · subst e; simp
          · split
            · exact Nat.le_refl _
            · exact Nat.le_min.2 ⟨e, Nat.le_refl _⟩, h4⟩ (by simp [World.freeze]) (fun k hk => freeze_other w hk) (by simp [World.freeze]) (by simp [World.freeze]) (by simp [World.freeze])
      refine ⟨ρ, _, ?_, ⟨R, fun j _ => rfl, by simp⟩, ?_⟩
      · simp only [γ]
        exact hr
      · have := h.lt i _ hg
        exact decide_eq_true this
    · cases hb
  · cases hb
  rename_i e s hs0 hd0
  cases hbt : isByteT (T e) with
  | false => rw [hbt] at hb; cases hb
  | true =>
    rw [hbt] at hb
    simp only [cond_true, Option.some.injEq, Prod.mk.injEq] at hb
    obtain ⟨rfl, rfl⟩ := hb
    have hs := (hT _ _ hs0).k
    have hd := (hT _ _ hd0).k
    simp only [KOk] at hs hd
    have he := isByteT_ok hT hbt
    have hr := run_bytes_of_string (P := P) w src dst e s hs hd he
    have hcap := grownCap_ge w s.size 0 e
    generalize grownCap w s.size 0 e = cap at hr hcap
    have hl : (bytesRow s cap).toList = γL ρ (bytesOf s) ++ List.replicate (cap - s.size) (Value.int .u8 0) := by
      simp [bytesRow, bytesOf, γL_map, γ, Function.comp_def]
    have hsc : scC σ.next (bytesOf s) = true := by
      rw [scC_iff]
      intro v hv
      obtain ⟨b, _, rfl⟩ := List.mem_map.1 hv
      exact ⟨rfl, rfl⟩
    have hlen : (bytesOf s).length = s.size := by unfold bytesOf; rw [List.length_map, Array.length_toList]; rfl
    have hsz : (bytesRow s cap).size = cap := by
      have := congrArg List.length hl
      simp only [Array.length_toList, List.length_append, γL_length, List.length_replicate, hlen] at this
      omega
    have R := (h.drew (w.drawn + 1)).push (o := .cells (bytesRow s cap) e ((bytesRow s cap).size, (bytesRow s cap).size + 1)) (L := Loc.mk3 w.heap.size 0 cap) (b := .cells (bytesOf s) true (some 1)) rfl hsc fun ρ' hρ => by
      refine ⟨bytesRow s cap, e, ((bytesRow s cap).size, (bytesRow s cap).size + 1), ?_, ⟨[], List.replicate (cap - s.size) (.int .u8 0), ?_, rfl⟩, fun _ => .inr (Nat.le_refl _), fun g hg => ?_⟩
      · show (w.heap.push _)[w.heap.size]? = _
        simp
      · rw [hl, γC_congr hρ _ hsc]; simp
      · cases hg
        refine ⟨rfl, ?_, ?_⟩
        · rw [hsz]; simp
        · rw [hlen]; simp only [Nat.mul_one]; exact hcap
    refine ⟨_, _, ?_, ⟨R, fun i hi => upd_lt hi, by simp⟩, by simp [sc]⟩
    rw [show γ ρ (.str s) = .string s by simp [γ], hr]
    simp only [γ, upd_self, Nat.add_zero, Bool.false_eq_true, if_false, Nat.sub_zero]
    rfl
theorem byteL_spec {ρ : Nat → Loc} : ∀ {cs : List AVal} {l : List UInt8}, byteL cs = some l → ∃ ns : List Int, γL ρ cs = ns.map (Value.int .u8) ∧ l = ns.map fun n => UInt8.ofNat n.toNat
  | [], l, h => by
    simp only [byteL, Option.some.injEq] at h
    subst h
    exact ⟨[], rfl, rfl⟩
  | v :: r, l, h => by
    unfold byteL at h
    split at h
    · rename_i he; cases he
    · rename_i n r' he
      cases he
      obtain ⟨l', h1, rfl⟩ := Option.map_eq_some_iff.1 h
      obtain ⟨ns, q1, q2⟩ := byteL_spec (ρ := ρ) h1
      exact ⟨n :: ns, by simp [γL, γ, q1], by simp [q2]⟩
    · cases h
theorem foldl_push_bytes : ∀ (ns : List Int) (r : ByteArray), ns.foldl (fun r n => r.push (UInt8.ofNat n.toNat)) r = ⟨r.data ++ (ns.map fun n => UInt8.ofNat n.toNat).toArray⟩
  | [], r => by simp
  | n :: ns, r => by
    simp only [List.foldl_cons, List.map_cons]
    rw [foldl_push_bytes ns]
    simp [ByteArray.push]
theorem bytesStr_run (h : Rel w0 ρ σ w) (hT : TabOk P T) {src dst : TypeId} {x v : AVal} (hb : bytesStrA T σ src dst x = some v) : (convert src dst (γ ρ x)).run P w = .ok (γ ρ v) w ∧ sc σ.next v = true := by
  unfold bytesStrA at hb
  split at hb
  rotate_left
  · cases hb
  rename_i _ _ _ _ _ e _ _ _ _ _ hs0 hd0
  cases hbt : isByteT (T e) with
  | false => rw [hbt] at hb; cases hb
  | true =>
    rw [hbt] at hb
    simp only [cond_true] at hb
    split at hb
    rotate_left
    · cases hb
    rename_i cs n hel
    obtain ⟨l, hl, rfl⟩ := Option.map_eq_some_iff.1 hb
    have hs := (hT _ _ hs0).k
    have hd := (hT _ _ hd0).k
    simp only [KOk] at hs hd
    have he := isByteT_ok hT hbt
    obtain ⟨r1, r2, r3, r4⟩ := elemsA_run (P := P) h hel
    obtain ⟨ns, q1, rfl⟩ := byteL_spec (ρ := ρ) hl
    have hx : ∃ a k c, γ ρ x = .slice a k c := by
      unfold elemsA at hel
      split at hel <;> first
        | exact ⟨_, _, _, rfl⟩
        | cases hel
    obtain ⟨a, k, c, hx⟩ := hx
    rw [hx] at r1 r2 ⊢
    refine ⟨?_, by simp [sc]⟩
    rw [run_convert_bytes_string w src dst e a k c hs he hd]
    simp only [Builtin.lenOf, Sem.run_pure, Result.ok.injEq, and_true] at r1
    subst r1
    cases a with
    | none =>
      simp only [Builtin.firstCells, Sem.run_pure, Result.ok.injEq, and_true] at r2
      have : ns = [] := by
        have := congrArg Array.toList r2
        rw [q1] at this
        simpa using this.symm
      subst this
      rfl
    | some a =>
      simp only [Builtin.firstCells, Nat.mul_one] at r2
      rw [q1] at r2
      rw [run_bytesToString w a k c ns r2, foldl_push_bytes]
      simp [γ]
end
end Go.Ev

