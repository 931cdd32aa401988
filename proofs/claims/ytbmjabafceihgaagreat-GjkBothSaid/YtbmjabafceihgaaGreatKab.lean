import Derived.Test.YtbmjabafceihgaaGreatKaa
import Derived.Laws.IdiomStrings
import Derived.MapKept
set_option linter.unusedVariables false
set_option linter.unusedSimpArgs false
set_option maxRecDepth 100000
noncomputable section
namespace Go.Ev
section
variable {P : Program} {T : aA} {ρ : Nat → Loc} {w0 : W0} {w : World} {σ : Mem}
theorem nI {b i : Nat} {B x : aq} (hi : ((σ.set b .dead).push B).get i = some x) :
  (i = σ.next ∧ x = B) ∨ (i ≠ σ.next ∧ i = b ∧ x = .dead) ∨ (i ≠ σ.next ∧ i ≠ b ∧ σ.get i = some x) := by
 rw [cf, aW, eP] at hi
 by_cases e : σ.next = i
 ·rw [if_pos e] at hi; exact .inl ⟨e.symm, (Option.some.inj hi).symm⟩
 ·rw [if_neg e] at hi
  by_cases e2 : b = i
  ·rw [if_pos e2] at hi; exact .inr (.inl ⟨fun q => e q.symm, e2.symm, (Option.some.inj hi).symm⟩)
  ·rw [if_neg e2] at hi; exact .inr (.inr ⟨fun q => e q.symm, fun q => e2 q.symm, hi⟩)
theorem Rel.rename (h : Rel w0 ρ σ w) {b g o c : Nat} {bs : LA_} (hg : σ.get b = some (.cells bs true (some g))) (ho : o ≤ bs.length) (hoc : o = c * g) (hg0 : g ≠ 0) :
  Rel w0 (upd ρ σ.next (Loc.mk3 ((ρ b).blk) ((ρ b).base + o) ((ρ b).fy - c))) ((σ.set b .dead).push (.cells (bs.drop o) true (some g))) w := by
 have hgt : ∀ i x, ((σ.set b .dead).push (.cells (bs.drop o) true (some g))).get i = some x →
   (i = σ.next ∧ x = .cells (bs.drop o) true (some g)) ∨ (i ≠ σ.next ∧ i = b ∧ x = .dead) ∨ (i ≠ σ.next ∧ i ≠ b ∧ σ.get i = some x ∧ i < σ.next) := by
  intro i x hi
  rcases nI hi with h1 | h1 | ⟨h1, h2, h3⟩
  ·exact .inl h1
  ·exact .inr (.inl h1)
  ·exact .inr (.inr ⟨h1, h2, h3, h.lt i x h3⟩)
 have hρ : ∀ i, i < σ.next → upd ρ σ.next (Loc.mk3 ((ρ b).blk) ((ρ b).base + o) ((ρ b).fy - c)) i = ρ i := fun i hi => eE hi
 have hbn : b < σ.next := h.lt b _ hg
 have hsb := h.sco b _ hg
 simp only [scB] at hsb
 refine ⟨?_, ?_, ?_, ?_, ?_, ?_, h.os, h.tape, h.output, h.size, h.old⟩
 ·intro i x hi
  simp only [en, eP]
  rcases hgt i x hi with ⟨e, _⟩ | ⟨_, e, _⟩ | ⟨_, _, _, e⟩ <;> omega
 ·intro i x hi
  simp only [en, eP]
  rcases hgt i x hi with ⟨_, rfl⟩ | ⟨_, _, rfl⟩ | ⟨_, _, e, _⟩
  ·exact gS (Nat.le_succ _) _ (tZ hsb)
  ·rfl
  ·exact gU (Nat.le_succ _) _ (h.sco i x e)
 ·intro i x hi
  rcases hgt i x hi with ⟨rfl, rfl⟩ | ⟨_, _, rfl⟩ | ⟨_, _, e, e2⟩
  ·rw [bF]
   obtain ⟨cc, e, fz, h1, ⟨pre, post, h2, h3⟩, h4, h5⟩ := h.ok b _ hg
   obtain ⟨_, h6, h7⟩ := h5 g rfl
   refine ⟨cc, e, fz, h1, ⟨pre ++ γL ρ (bs.take o), post, ?_, ?_⟩, h4, ?_⟩
   ·rw [jA hρ _ (tZ hsb), h2]
    simp only [YB, Cx, Cy]
    rw [← YB ((γL ρ bs).take o), List.take_append_drop]
   ·simp [h3]; omega
   ·intro g' hg'
    cases hg'
    have hc : c ≤ (ρ b).fy := by
     rcases Nat.lt_or_ge (ρ b).fy c with hlt | hge
     ·have := Nat.mul_lt_mul_of_pos_right hlt (Nat.pos_of_ne_zero hg0); omega
     ·exact hge
    have hcg := Nat.mul_le_mul_right g hc
    refine ⟨rfl, ?_, ?_⟩
    ·show (ρ b).base + o + ((ρ b).fy - c) * g ≤ cc.size
     rw [Nat.sub_mul]
     omega
    ·show (bs.drop o).length ≤ ((ρ b).fy - c) * g
     rw [Nat.sub_mul, List.length_drop]
     omega
  ·trivial
  ·rw [hρ i e2]; exact cG hρ rfl x (h.sco i x e) (h.ok i x e)
 ·intro i x hi ha
  rcases hgt i x hi with ⟨rfl, rfl⟩ | ⟨_, _, rfl⟩ | ⟨_, _, e, e2⟩
  ·rw [bF]; exact h.inb b _ hg rfl
  ·simp [aq.alive] at ha
  ·rw [hρ i e2]; exact h.inb i x e ha
 ·intro i j x y hi hj hij hox hay
  rcases hgt i x hi with ⟨rfl, rfl⟩ | ⟨_, _, rfl⟩ | ⟨_, i1, e, e2⟩
  ·rcases hgt j y hj with ⟨rfl, rfl⟩ | ⟨_, _, rfl⟩ | ⟨_, j1, f, f2⟩
   ·exact absurd rfl hij
   ·simp [aq.alive] at hay
   ·rw [bF, hρ j f2]; exact h.ap b j _ y hg f (Ne.symm j1) rfl hay
  ·simp [aq.owned] at hox
  ·rcases hgt j y hj with ⟨rfl, rfl⟩ | ⟨_, _, rfl⟩ | ⟨_, j1, f, f2⟩
   ·rw [bF, hρ i e2]; exact h.ap i b x _ e hg i1 hox rfl
   ·simp [aq.alive] at hay
   ·rw [hρ i e2, hρ j f2]; exact h.ap i j x y e f hij hox hay
 ·intro i x hi ho
  rcases hgt i x hi with ⟨rfl, rfl⟩ | ⟨_, _, rfl⟩ | ⟨_, _, e, e2⟩
  ·rw [bF]; exact h.own b _ hg rfl
  ·simp [aq.owned] at ho
  ·rw [hρ i e2]; exact h.own i x e ho
theorem Rel.Qp (h : Rel w0 ρ σ w) {b g : Nat} {bs ds : LA_} (hg : σ.get b = some (.cells bs true (some g))) (hs : scC σ.next ds = true)
  (hroom : bs.length + ds.length ≤ (ρ b).fy * g) :
  ∃ w', (storeCells ⟨(ρ b).blk, (ρ b).base + bs.length, none⟩ (γL ρ ds)).run P w = .ok () w' ∧ Rel w0 ρ (σ.set b (.cells (bs ++ ds) true (some g))) w' := by
 obtain ⟨c, e, fz, h1, ⟨pre, post, h2, h3⟩, h4, h5⟩ := h.ok b _ hg
 have hz := h4 rfl
 obtain ⟨_, h6, h7⟩ := h5 g rfl
 have hcl : c.size = pre.length + bs.length + post.length := by
  have := congrArg List.length h2
  simp at this; omega
 have hst := jB (P := P) (ρ b).blk ((ρ b).base + bs.length) e fz (γL ρ ds) 0 c w h1 hz (by rw [aX]; omega)
  (fun v hv => by
   rw [jd] at hv
   obtain ⟨u, hu, rfl⟩ := List.mem_map.1 hv
   exact CA ((gN _ _).1 hs u hu).1)
 refine ⟨_, hst, ?_⟩
 have hsb := h.sco b _ hg
 simp only [scB] at hsb
 refine h.set hg rfl (eJ.2 ⟨hsb, hs⟩) ?_ (by simp [World.setRow]) (fun k hk => setRow_other w _ k _ hk) rfl rfl rfl
 refine ⟨_, e, fz, setRow_heap w _ c _ e _ h1, ⟨pre, post.drop ds.length, ?_, h3⟩, fun _ => ?_, ?_⟩
 ·simp only [cL, Nat.add_zero]
  rw [h2, aX, ← h3]
  have e1 : (pre ++ γL ρ bs ++ post).take (pre.length + bs.length) = pre ++ γL ρ bs := by
   rw [List.take_append_of_le_length (by simp), List.take_of_length_le (by simp)]
  have e2 : (pre ++ γL ρ bs ++ post).drop (pre.length + bs.length + ds.length) = post.drop ds.length := by
   rw [List.drop_append, List.drop_of_length_le (by simp), List.nil_append]
   congr 1; simp
  rw [e1, e2]
  simp only [YB]
 ·have e0 : (List.take ((ρ b).base + bs.length + 0) c.toList ++ γL ρ ds ++ List.drop ((ρ b).base + bs.length + 0 + (γL ρ ds).length) c.toList).toArray.size = c.size := by
   simp only [List.size_toArray, Yw, List.length_take, List.length_drop, Array.length_toList, aX, Nat.add_zero]; omega
  rw [e0]
  exact hz
 ·intro g' hgr
  cases hgr
  refine ⟨rfl, ?_, ?_⟩
  ·simp only [List.size_toArray, Yw, List.length_take, List.length_drop, Array.length_toList, aX, Nat.add_zero]; omega
  ·simp only [Yw]; omega
theorem nJ (h : Rel w0 ρ σ w) (hT : bh P T) {t u e : TypeId} {i j k : TyI} (ht : T t = some i) (hik : i.k = .slice e) (he : T e = some j) (hu : T u = some k)
  {e' : TypeId} (hkk : k.k = .slice e') {s x : ab} {ds : LA_} {l m : Nat} {base : Option Addr} {cap : Nat} (hs : γ ρ s = .slice base l cap)
  (hds : ca σ j.size x = some (ds, m)) (hcap : l + m ≤ cap) {w' : World}
  (hst : (base.elim (pure ()) fun a => storeCells (a.add (l * j.size)) (γL ρ ds) : Sem Unit).run P w = .ok () w') (ty : TypeId) :
  (Builtin.append_ #[t, u] ty #[γ ρ s, γ ρ x]).run P w = .ok (.slice base (l + m) cap) w' := by
 have kt := (hT _ _ ht).k; rw [hik] at kt; simp only [KOk] at kt
 have ku := (hT _ _ hu).k; rw [hkk] at ku; simp only [KOk] at ku
 obtain ⟨b1, b2, b3, b4⟩ := gi (P := P) h hds
 rw [hs]
 simp only [Builtin.append_, List.getElem?_toArray, List.getElem?_cons_zero, List.getElem?_cons_succ, Yu, run_underlying kt, run_underlying ku, Yt, (hT _ _ he).eh,
  Yv, Sem.run_ite, Yk, if_false, b1, if_pos hcap, Bool.not_false, if_true, b2]
 cases base with
 | none =>
  simp only [Option.elim, Yv, Result.ok.injEq, true_and] at hst ⊢
  rw [hst]
 | some a =>
  simp only [Option.elim] at hst
  simp only [Yu, hst, Yt, Yv]
theorem Rel.name (h : Rel w0 ρ σ w) {B : aq} {L : Loc} (hs : scB σ.next B = true) (hb : BOk ρ L w B) (hin : B.alive = true → L.blk < w.heap.size)
  (ho : B.owned = true → ¬ w0.gA L.blk ∧ ∀ j bj, σ.get j = some bj → bj.alive = true → (ρ j).blk ≠ L.blk)
  (ha : B.alive = true → ∀ j bj, σ.get j = some bj → bj.owned = true → (ρ j).blk ≠ L.blk) : Rel w0 (upd ρ σ.next L) (σ.push B) w := by
 have hρ : ∀ i, i < σ.next → upd ρ σ.next L i = ρ i := fun i hi => eE hi
 have cases' : ∀ i b, (σ.push B).get i = some b → (i = σ.next ∧ b = B) ∨ (i < σ.next ∧ σ.get i = some b) := by
  intro i b hi
  rw [cf] at hi
  by_cases e : σ.next = i
  ·rw [if_pos e] at hi; exact .inl ⟨e.symm, (Option.some.inj hi).symm⟩
  ·rw [if_neg e] at hi; exact .inr ⟨h.lt i b hi, hi⟩
 refine ⟨?_, ?_, ?_, ?_, ?_, ?_, h.os, h.tape, h.output, h.size, h.old⟩
 ·intro i b hi
  rcases cases' i b hi with ⟨rfl, _⟩ | ⟨q, _⟩ <;> simp <;> omega
 ·intro i b hi
  rcases cases' i b hi with ⟨rfl, rfl⟩ | ⟨_, q⟩
  ·exact gU (Nat.le_succ _) _ hs
  ·exact gU (Nat.le_succ _) _ (h.sco i b q)
 ·intro i b hi
  rcases cases' i b hi with ⟨rfl, rfl⟩ | ⟨q0, q⟩
  ·rw [bF]; exact cG hρ rfl _ hs hb
  ·rw [hρ i q0]; exact cG hρ rfl b (h.sco i b q) (h.ok i b q)
 ·intro i b hi hal
  rcases cases' i b hi with ⟨rfl, rfl⟩ | ⟨q0, q⟩
  ·rw [bF]; exact hin hal
  ·rw [hρ i q0]; exact h.inb i b q hal
 ·intro i j bi bj hi hj hij hoi haj
  rcases cases' i bi hi with ⟨rfl, rfl⟩ | ⟨q0, q⟩ <;> rcases cases' j bj hj with ⟨rfl, rfl⟩ | ⟨p0, p⟩
  ·exact absurd rfl hij
  ·rw [bF, hρ j p0]; exact ((ho hoi).2 j bj p haj).symm
  ·rw [bF, hρ i q0]; exact ha haj i bi q hoi
  ·rw [hρ i q0, hρ j p0]; exact h.ap i j bi bj q p hij hoi haj
 ·intro i b hi hob
  rcases cases' i b hi with ⟨rfl, rfl⟩ | ⟨q0, q⟩
  ·rw [bF]; exact (ho hob).1
  ·rw [hρ i q0]; exact h.own i b q hob
theorem Rel.F6 (h : Rel w0 ρ σ w) (n sz : Nat) (own : Bool) (L : Loc) (hn : n = 0) (hl : L.sl = 0) (hk : L.sk = 0) : Rel w0 (upd ρ σ.next L) (σ.push (.vec [] n sz own)) w := by
 subst hn
 exact h.name rfl ⟨hl, .inl ⟨rfl, rfl, fun _ => hk⟩⟩ (by simp [aq.alive]) (by simp [aq.owned]) (by simp [aq.alive])
theorem CJ {σd : Mem} {xs : LA_} {n g : Nat} {ρ' : Nat → Loc} {w' : World} (hp : bV w0 ρ σ.next ρ' (σ.push (.cells xs true (some g))) w') (h : Rel w0 ρ σ w)
  (hd : σd.next = σ.next) (hg : ∀ j b, σd.get j = some b → b = .dead ∧ j < σ.next ∨ σ.get j = some b) (hx : scC 0 xs = true) (hn : xs.length = n * g) (h0 : n * g ≠ 0) :
  ∃ ρ2, γ ρ2 (.vec σ.next) = γ ρ' (.slice σ.next 0 n false 0) ∧ bV w0 ρ σ.next ρ2 (σd.push (.vec xs n g true)) w' := by
 have R := hp.rel
 have hold : ∀ j b, σ.get j = some b → j < σ.next ∧ (σ.push (.cells xs true (some g))).get j = some b := fun j b hj =>
  ⟨h.lt j b hj, by rw [cf, if_neg (by have := h.lt j b hj; omega)]; exact hj⟩
 have hnew : (σ.push (.cells xs true (some g))).get σ.next = some (.cells xs true (some g)) := by rw [cf, if_pos rfl]
 have R1 : Rel w0 ρ' σd w' := by
  refine R.weaken ?_ ?_ ?_
  ·intro j b hj hbd
   rcases hg j b hj with ⟨q, _⟩ | q
   ·exact absurd q hbd
   ·exact (hold j b q).2
  ·intro j b hj
   rw [hd]
   rcases hg j b hj with ⟨_, q⟩ | q
   ·exact q
   ·exact h.lt j b q
  ·intro j b hj
   rw [hd]
   rcases hg j b hj with ⟨q, _⟩ | q
   ·rw [q]; rfl
   ·exact h.sco j b q
 obtain ⟨c, e, fz, h1, h2, h4, h5⟩ := R.ok _ _ hnew
 obtain ⟨_, h6, h7⟩ := h5 g rfl
 have hxs : xs ≠ [] := by rintro rfl; simp at hn; omega
 have hcap : n ≤ (ρ' σ.next).fy := by
  rw [hn] at h7
  exact Nat.le_of_mul_le_mul_right h7 (Nat.pos_of_ne_zero fun q => h0 (by rw [q, Nat.mul_zero]))
 let L : Loc := { ρ' σ.next with sp := some ⟨(ρ' σ.next).blk, (ρ' σ.next).base, none⟩, sl := n, sk := (ρ' σ.next).fy }
 have e1 : L.blk = (ρ' σ.next).blk := rfl
 have R2 := R1.name (B := .vec xs n g true) (L := L) hx
  ⟨rfl, .inr ⟨hxs, rfl, hn, c, e, fz, h1, h2, fun _ => ⟨h4 rfl, hcap, h6⟩⟩⟩ (fun _ => R.inb _ _ hnew rfl)
  (fun _ => ⟨R.own _ _ hnew rfl, fun j bj hj haj => ?_⟩) (fun _ j bj hj hoj => ?_)
 ·refine ⟨upd ρ' σ.next L, ?_, by rw [← hd]; exact R2, fun i hi => (eE hi).trans (hp.ext i hi), by simp [hd]⟩
  simp only [γ, bF, L, Nat.add_zero, Nat.sub_zero, Yk, if_false]
 ·rcases hg j bj hj with ⟨q, _⟩ | q
  ·rw [q] at haj; cases haj
  ·have := h.lt j bj q
   exact (R.ap σ.next j _ bj hnew (hold j bj q).2 (by omega) rfl haj).symm
 ·rcases hg j bj hj with ⟨q, _⟩ | q
  ·rw [q] at hoj; cases hoj
  ·have := h.lt j bj q
   exact R.ap j σ.next bj _ (hold j bj q).2 hnew (by omega) hoj rfl
theorem Qq (h : Rel w0 ρ σ w) (hT : bh P T) {t u e : TypeId} {it j k : TyI} (ht : T t = some it) (hik : it.k = .slice e) (he : T e = some j) (hu : T u = some k)
  {e' : TypeId} (hkk : k.k = .slice e') {i n m : Nat} {x : ab} {cs ds : LA_} (hg : σ.get i = some (.vec cs n j.size true)) (hds : ca σ j.size x = some (ds, m))
  (hf : scC 0 ds = true) (q1 : j.size ≠ 0) (q2 : j.bytes ≠ 0) (q3 : 2 * (n + m) * j.bytes ≤ 2 ^ 48) (ty : TypeId) :
  ∃ ρ' w', (Builtin.append_ #[t, u] ty #[γ ρ (.vec i), γ ρ x]).run P w = .ok (γ ρ' (.vec σ.next)) w' ∧ bV w0 ρ σ.next ρ' ((σ.set i .dead).push (.vec (cs ++ ds) (n + m) j.size true)) w' := by
 have hcs : ca σ j.size (.vec i) = some (cs, n) := by simp [ca, hg]
 have b3 := (gi (P := P) h hds).2.2
 have c3 := (gi (P := P) h hcs).2.2
 have hfc : scC 0 cs = true := h.sco _ _ hg
 have hi := h.lt i _ hg
 obtain ⟨g0, g1⟩ := h.ok i _ hg
 have hgd : ∀ jj b, (σ.set i .dead).get jj = some b → b = .dead ∧ jj < σ.next ∨ σ.get jj = some b := by
  intro jj b hj
  rw [aW] at hj
  split at hj
  ·rename_i q; cases hj; exact .inl ⟨rfl, q ▸ hi⟩
  ·exact .inr hj
 have hlen : (cs ++ ds).length = (n + m) * j.size := by rw [Yw, c3.1, b3.1, Nat.add_mul]
 have growCase : (ρ i).sk < n + m → ∃ ρ' w', (Builtin.append_ #[t, u] ty #[γ ρ (.vec i), γ ρ x]).run P w = .ok (γ ρ' (.vec σ.next)) w' ∧
   bV w0 ρ σ.next ρ' ((σ.set i .dead).push (.vec (cs ++ ds) (n + m) j.size true)) w' := by
  intro hcap
  obtain ⟨ρ', w', r1, r2⟩ := qA h hT ht hik he hu hkk (s := .vec i) (base := (ρ i).sp) (cap := (ρ i).sk) (by rw [← g0]; rfl) hcs hds hcap q2 q3 ty
  obtain ⟨ρ2, r3, r4⟩ := CJ (σd := σ.set i .dead) (n := n + m) r2 h rfl hgd (eJ.2 ⟨hfc, hf⟩) hlen (by have := Nat.mul_pos (show 0 < n + m by omega) (Nat.pos_of_ne_zero q1); omega)
  exact ⟨ρ2, w', by rw [r1, r3], r4⟩
 by_cases hcap : n + m ≤ (ρ i).sk
 ·have hsl : γ ρ (.vec i) = .slice (ρ i).sp n (ρ i).sk := by rw [← g0]; rfl
  rcases g1 with ⟨rfl, rfl, g2⟩ | ⟨g1, g2, g3, c, e2, fz, h1, ⟨pre, post, h2, h3⟩, h4⟩
  ·have g2' := g2 rfl
   have hm : m = 0 := by omega
   subst hm
   have hd0 : ds = [] := by have := b3.1; simpa using this
   subst hd0
   have hst := nJ h hT ht hik he hu hkk (s := .vec i) (l := 0) (m := 0) (base := (ρ i).sp) (cap := (ρ i).sk) hsl hds hcap (w' := w)
    (by cases (ρ i).sp <;> simp [γL, storeCells]) ty
   have R := (h.kill hg).F6 0 j.size true { ρ i with sl := 0 } rfl rfl (g2 rfl)
   refine ⟨_, w, ?_, ⟨R, fun i hi => eE hi, by simp⟩⟩
   rw [hst]
   simp only [γ, eP, bF, Nat.add_zero]
  ·obtain ⟨hz, g4, h5⟩ := h4 rfl
   have hroom : ds.length ≤ post.length := by
    have hl := congrArg List.length h2
    simp only [Yw, aX, Array.length_toList, g3, h3] at hl
    have := Nat.mul_le_mul_right j.size hcap
    rw [Nat.add_mul] at this
    have := b3.1
    omega
   have hsplit : post = post.take ds.length ++ post.drop ds.length := (List.take_append_drop _ _).symm
   have hstore := jB (P := P) (ρ i).blk ((ρ i).base + cs.length) e2 fz (γL ρ ds) 0 c w h1 hz (by
     have hl := congrArg List.length h2
     simp only [Yw, aX, Array.length_toList, h3] at hl
     rw [aX]; omega)
    (fun v hv => by
     rw [jd] at hv
     obtain ⟨uu, huu, rfl⟩ := List.mem_map.1 hv
     exact CA ((gN _ _).1 b3.2 uu huu).1)
   generalize hw1 : World.setRow w _ _ = w1 at hstore
   have hst := nJ h hT ht hik he hu hkk (s := .vec i) (l := n) (m := m) (base := (ρ i).sp) (cap := (ρ i).sk) hsl hds hcap (w' := w1)
    (by simp only [g2, Option.elim, nD, ← g3]; exact hstore) ty
   have hheap : w1.heap[(ρ i).blk]? = some (.cells (c.toList.take ((ρ i).base + cs.length + 0) ++ γL ρ ds ++ c.toList.drop ((ρ i).base + cs.length + 0 + (γL ρ ds).length)).toArray e2 fz) := by
    rw [← hw1]; exact setRow_heap w _ c _ e2 _ h1
   have hal : (aq.vec cs n j.size true).owned = true := by
    simp only [aq.owned, Bool.true_and, Bool.not_eq_true', List.isEmpty_eq_false_iff]; exact g1
   have hoth : ∀ kk, kk ≠ (ρ i).blk → w1.heap[kk]? = w.heap[kk]? := by rw [← hw1]; exact fun kk hk => setRow_other w _ kk _ hk
   have R1 : Rel w0 ρ (σ.set i .dead) w1 := h.set hg hal rfl trivial (by rw [← hw1]; simp [World.setRow]) hoth (by rw [← hw1]; rfl) (by rw [← hw1]; rfl) (by rw [← hw1]; rfl)
   have hne : cs ++ ds ≠ [] := by simp [g1]
   have R2 := R1.name (B := .vec (cs ++ ds) (n + m) j.size true) (L := { ρ i with sl := n + m }) (eJ.2 ⟨hfc, hf⟩) ?_ ?_ ?_ ?_
   ·refine ⟨_, w1, ?_, ⟨R2, fun i hi => eE hi, by simp⟩⟩
    rw [hst]
    simp only [γ, eP, bF]
   ·refine ⟨rfl, .inr ⟨hne, g2, hlen, _, e2, fz, hheap, ⟨pre, post.drop ds.length, ?_, h3⟩, fun _ => ⟨?_, hcap, ?_⟩⟩⟩
    ·simp only [cL, Nat.add_zero, aX]
     rw [h2, ← h3]
     have e1 : (pre ++ γL ρ cs ++ post).take (pre.length + cs.length) = pre ++ γL ρ cs := by
      rw [List.take_append_of_le_length (by simp), List.take_of_length_le (by simp)]
     have e2 : (pre ++ γL ρ cs ++ post).drop (pre.length + cs.length + ds.length) = post.drop ds.length := by
      rw [List.drop_append, List.drop_of_length_le (by simp), List.nil_append]
      congr 1; simp
     rw [e1, e2]
     simp only [YB]
    ·have e0 : (List.take ((ρ i).base + cs.length + 0) c.toList ++ γL ρ ds ++ List.drop ((ρ i).base + cs.length + 0 + (γL ρ ds).length) c.toList).toArray.size = c.size := by
      have hl := congrArg List.length h2
      simp only [Yw, aX, Array.length_toList, h3] at hl
      simp only [List.size_toArray, Yw, List.length_take, List.length_drop, Array.length_toList, aX, Nat.add_zero]; omega
     rw [e0]
     exact hz
    ·have hl := congrArg List.length h2
     simp only [Yw, aX, Array.length_toList, h3] at hl
     simp only [List.size_toArray, Yw, List.length_take, List.length_drop, Array.length_toList, aX, Nat.add_zero]
     show (ρ i).base + (ρ i).sk * j.size ≤ _
     omega
   ·intro _
    rw [show ({ ρ i with sl := n + m } : Loc).blk = (ρ i).blk from rfl]
    have : w1.heap.size = w.heap.size := by rw [← hw1]; simp [World.setRow]
    rw [this]; exact h.inb i _ hg (aq.eC hal)
   ·intro _
    refine ⟨h.own i _ hg hal, fun jj bj hj haj => ?_⟩
    rcases hgd jj bj hj with ⟨q, _⟩ | q
    ·rw [q] at haj; cases haj
    ·have hji : jj ≠ i := by
      rintro rfl
      rw [aW, if_pos rfl] at hj
      cases hj; cases haj
     exact (h.ap i jj _ bj hg q (Ne.symm hji) hal haj).symm
   ·intro _ jj bj hj hoj
    rcases hgd jj bj hj with ⟨q, _⟩ | q
    ·rw [q] at hoj; cases hoj
    ·have hji : jj ≠ i := by
      rintro rfl
      rw [aW, if_pos rfl] at hj
      cases hj; cases hoj
     exact h.ap jj i bj _ q hg hji hoj (aq.eC hal)
 ·exact growCase (by omega)
theorem vR (h : Rel w0 ρ σ w) (hT : bh P T) {t u e : TypeId} {it j k : TyI} (ht : T t = some it) (hik : it.k = .slice e) (he : T e = some j) (hu : T u = some k)
  {e' : TypeId} (hkk : k.k = .slice e') {m : Nat} {s x : ab} {ds : LA_} {base : Option Addr} (hs : γ ρ s = .slice base 0 0) (hcs : ca σ j.size s = some ([], 0))
  (hds : ca σ j.size x = some (ds, m)) (hf : scC 0 ds = true) (q1 : j.size ≠ 0) (q2 : j.bytes ≠ 0) (q3 : 2 * (0 + m) * j.bytes ≤ 2 ^ 48) (ty : TypeId) :
  ∃ ρ' w', (Builtin.append_ #[t, u] ty #[γ ρ s, γ ρ x]).run P w = .ok (γ ρ' (.vec σ.next)) w' ∧ bV w0 ρ σ.next ρ' (σ.push (.vec ds m j.size true)) w' := by
 have b3 := (gi (P := P) h hds).2.2
 by_cases hm : m = 0
 ·subst hm
  have hd0 : ds = [] := by have := b3.1; simpa using this
  subst hd0
  have hst := nJ h hT ht hik he hu hkk (s := s) (l := 0) (m := 0) (base := base) (cap := 0) hs hds (by omega) (w' := w) (by cases base <;> simp [γL, storeCells]) ty
  have R := h.F6 0 j.size true { blk := 0, base := 0, fy := 0, sp := base } rfl rfl rfl
  refine ⟨_, w, ?_, ⟨R, fun i hi => eE hi, by simp⟩⟩
  rw [hst]
  simp only [γ, bF, Nat.add_zero]
 ·obtain ⟨ρ', w', r1, r2⟩ := qA h hT ht hik he hu hkk (s := s) (base := base) (cap := 0) (cs := []) hs hcs hds (by omega) q2 q3 ty
  rw [List.nil_append] at r2
  obtain ⟨ρ2, r3, r4⟩ := CJ (σd := σ) (n := m) r2 h rfl (fun j b hj => .inr hj) hf b3.1 (by have := Nat.mul_pos (Nat.pos_of_ne_zero hm) (Nat.pos_of_ne_zero q1); omega)
  exact ⟨ρ2, w', by rw [r1, r3, Nat.zero_add], r4⟩
theorem Qr (h : Rel w0 ρ σ w) (hT : bh P T) {t u : TypeId} {k : TyI} (hu : T u = some k) {e' : TypeId} (hkk : k.k = .slice e') {s x v : ab} {σ' : Mem}
  (hs : sc σ.next s = true) (ha : qS T σ t s x = some (v, σ')) (ty : TypeId) :
  ∃ ρ' w', (Builtin.append_ #[t, u] ty #[γ ρ s, γ ρ x]).run P w = .ok (γ ρ' v) w' ∧ bV w0 ρ σ.next ρ' σ' w' ∧ sc σ'.next v = true := by
 unfold qS at ha
 split at ha
 ·rename_i e hTt
  split at ha
  ·cases ha
  ·rename_i j hTe
   split at ha
   ·rename_i cs l ds m hcs hds
    split at ha
    ·cases ha
    ·rename_i hq
     have q1 : j.size ≠ 0 := fun q => hq (.inl q)
     have q2 : j.bytes ≠ 0 := fun q => hq (.inr (.inl q))
     have q3 : 2 * (l + m) * j.bytes ≤ 2 ^ 48 := by
      rcases Nat.lt_or_ge (2 ^ 48) (2 * (l + m) * j.bytes) with q | q
      ·exact absurd (.inr (.inr q)) hq
      ·exact q
     have b3 := (gi (P := P) h hds).2.2
     have c3 := (gi (P := P) h hcs).2.2
     unfold F3 at ha
     split at ha
     ·
      rename_i i0
      split at ha
      ·rename_i cs' n' sz' hg0
       split at ha
       ·rename_i hfl
        cases ha
        have hq2 : cs' = cs ∧ n' = l ∧ sz' = j.size := by
         simp only [ca, hg0] at hcs
         split at hcs
         ·rename_i hsz
          simp only [Yh, Yj] at hcs
          exact ⟨hcs.1, hcs.2, hsz⟩
         ·cases hcs
        obtain ⟨rfl, rfl, rfl⟩ := hq2
        obtain ⟨ρ', w', r1, r2⟩ := Qq h hT hTt rfl hTe hu hkk hg0 hds (qz h hds hfl) q1 q2 q3 ty
        exact ⟨ρ', w', r1, r2, by simp [sc]⟩
       ·cases ha
      ·cases ha
     ·
      simp only [ca, Yh, Yj] at hcs
      obtain ⟨rfl, rfl⟩ := hcs
      split at ha
      ·rename_i hfl
       cases ha
       obtain ⟨ρ', w', r1, r2⟩ := vR h hT hTt rfl hTe hu hkk (s := .aM) (base := none) rfl (by simp [ca]) hds (qz h hds hfl) q1 q2 q3 ty
       exact ⟨ρ', w', r1, r2, by simp [sc]⟩
      split at ha
      ·rename_i hm
       cases ha
       subst hm
       refine ⟨ρ, w, ?_, bV.refl h, rfl⟩
       have := nJ h hT hTt rfl hTe hu hkk (s := .aM) (l := 0) (m := 0) (base := none) (cap := 0) rfl hds (by omega) (w' := w) rfl ty
       simpa only [γ] using this
      ·rename_i hm
       cases ha
       obtain ⟨ρ', w', r1, r2⟩ := qA h hT hTt rfl hTe hu hkk (s := .aM) (base := none) (cap := 0) (cs := []) rfl (by simp [ca]) hds (by omega) q2 q3 ty
       exact ⟨ρ', w', r1, r2, by simp [sc]⟩
     ·
      rename_i i0
      simp only [ca, Yh, Yj] at hcs
      obtain ⟨rfl, rfl⟩ := hcs
      split at ha
      ·rename_i hfl
       cases ha
       obtain ⟨ρ', w', r1, r2⟩ := vR h hT hTt rfl hTe hu hkk (s := .emp i0) (base := some (ρ i0).odd) rfl (by simp [ca]) hds (qz h hds hfl) q1 q2 q3 ty
       exact ⟨ρ', w', r1, r2, by simp [sc]⟩
      split at ha
      ·rename_i hm
       cases ha
       subst hm
       have hd0 : ds = [] := by have := b3.1; simpa using this
       subst hd0
       refine ⟨ρ, w, ?_, bV.refl h, hs⟩
       have := nJ h hT hTt rfl hTe hu hkk (s := .emp i0) (l := 0) (m := 0) (base := some (ρ i0).odd) (cap := 0) rfl hds (by omega) (w' := w) (by simp [γL, storeCells]) ty
       simpa only [γ] using this
      ·rename_i hm
       cases ha
       obtain ⟨ρ', w', r1, r2⟩ := qA h hT hTt rfl hTe hu hkk (s := .emp i0) (base := some (ρ i0).odd) (cap := 0) (cs := []) rfl (by simp [ca]) hds (by omega) q2 q3 ty
       exact ⟨ρ', w', r1, r2, by simp [sc]⟩
     ·
      rename_i b o l' c
      have hll : l' = l := by
       simp only [ca, Ys, Yj] at hcs
       obtain ⟨_, _, _, r⟩ := hcs; exact r
      subst hll
      split at ha
      ·rename_i hq0
       obtain ⟨rfl, rfl, hfl⟩ := hq0
       cases ha
       have hcs0 : cs = [] := by have := c3.1; simpa using this
       subst hcs0
       obtain ⟨ρ', w', r1, r2⟩ := vR h hT hTt rfl hTe hu hkk (s := .slice b o 0 true 0) rfl hcs hds (qz h hds hfl) q1 q2 q3 ty
       exact ⟨ρ', w', r1, r2, by simp [sc]⟩
      split at ha
      ·rename_i hroom
       split at ha
       ·rename_i hm
        cases ha
        subst hm
        have hd0 : ds = [] := by have := b3.1; simpa using this
        subst hd0
        refine ⟨ρ, w, ?_, bV.refl h, hs⟩
        have := nJ h hT hTt rfl hTe hu hkk (s := .slice b o l' true c) rfl hds (by simpa using hroom) (w' := w) (by simp [γL, storeCells]) ty
        simpa only [γ, Nat.add_zero] using this
       ·cases hp : An σ b (o + l' * j.size) ds with
        | none => rw [hp] at ha; cases ha
        | some σ1 =>
         rw [hp] at ha; cases ha
         obtain ⟨w', r1, r2, r3⟩ := h.NA (P := P) hp b3.2
         refine ⟨ρ, w', ?_, ⟨r2, fun _ _ => rfl, by omega⟩, by simpa [sc, r3] using hs⟩
         have := nJ h hT hTt rfl hTe hu hkk (s := .slice b o l' true c) rfl hds (by simpa using hroom) (w' := w') (by simpa only [Option.elim, nD, Nat.add_assoc] using r1) ty
         simpa only [γ] using this
      ·rename_i hroom
       split at ha
       ·rename_i hfl
        rw [Yi] at hfl
        cases ha
        obtain ⟨ρ', w', r1, r2⟩ := qA h hT hTt rfl hTe hu hkk (s := .slice b o l' true c) rfl hcs hds (by simpa using hroom) q2 q3 ty
        obtain ⟨ρ2, r3, r4⟩ := CJ (σd := σ) (n := l' + m) r2 h rfl (fun j b hj => .inr hj) (eJ.2 ⟨qz h hcs hfl.1, qz h hds hfl.2⟩)
         (by rw [Yw, b3.1, c3.1, Nat.add_mul]) (by have := Nat.mul_pos (show 0 < l' + m by omega) (Nat.pos_of_ne_zero q1); omega)
        exact ⟨ρ2, w', by rw [r1, r3], r4, by simp [sc]⟩
       ·cases ha
        obtain ⟨ρ', w', r1, r2⟩ := qA h hT hTt rfl hTe hu hkk (s := .slice b o l' true c) rfl hcs hds (by simpa using hroom) q2 q3 ty
        exact ⟨ρ', w', r1, r2, by simp [sc]⟩
     ·
      rename_i b o l' c
      have hll : l' = l := by
       simp only [ca, Ys, Yj] at hcs
       obtain ⟨_, _, _, r⟩ := hcs; exact r
      subst hll
      split at ha
      ·rename_i bs g hgb
       split at ha
       ·rename_i hcond
        obtain ⟨rfl, ho, hend⟩ := hcond
        cases ha
        have hcs2 : cs = bs.drop o := by
         simp only [ca, Ys, Yj] at hcs
         obtain ⟨x1, x2, x3, _⟩ := hcs
         obtain ⟨y1, y2, y3, y4, y5, y6⟩ := gB x2
         rw [hgb] at y3; cases y3; cases y4
         rw [← x3, y6, List.take_of_length_le (by rw [List.length_drop]; omega)]
        by_cases hroom : l' + m ≤ (ρ b).fy - c
        ·
         have hroom2 : bs.length + ds.length ≤ (ρ b).fy * j.size := by
          have h8 := Nat.mul_le_mul_right j.size hroom
          rw [Nat.sub_mul, Nat.add_mul] at h8
          have hc0 : c * j.size ≤ (ρ b).fy * j.size := by
           obtain ⟨_, _, _, _, _, _, h5⟩ := h.ok b _ hgb
           have := (h5 _ rfl).2.2; omega
          have := b3.1; omega
         obtain ⟨w', r1, r2⟩ := h.Qp (P := P) hgb b3.2 hroom2
         have r3 := r2.rename (b := b) (o := o) (c := c) (g := j.size) (bs := bs ++ ds) (by rw [aW, if_pos rfl]) (by simp; omega) ho q1
         refine ⟨_, w', ?_, ⟨r3.weaken ?_ ?_ ?_, fun i hi => eE hi, by simp⟩, by simp [sc]⟩
         ·have := nJ h hT hTt rfl hTe hu hkk (s := .slice b o l' false c) rfl hds (by simpa using hroom) (w' := w') (by
           simp only [Option.elim, nD]; rw [Nat.add_assoc, hend]; exact r1) ty
          rw [this]
          simp only [γ, bF, eP, Nat.add_zero, Nat.sub_zero, Yk, if_false]
         ·intro i x hi _
          rw [cf, aW, aW, eP, eP]
          rcases nI hi with ⟨e1, rfl⟩ | ⟨e1, e2, rfl⟩ | ⟨e1, e2, e3⟩
          ·rw [if_pos e1.symm, hcs2, List.drop_append_of_le_length (by omega)]
          ·rw [if_neg (Ne.symm e1), if_pos e2.symm]
          ·rw [if_neg (Ne.symm e1), if_neg (Ne.symm e2), if_neg (Ne.symm e2), e3]
         ·intro i x hi
          simp only [en, eP]
          rcases nI hi with ⟨e1, rfl⟩ | ⟨e1, e2, rfl⟩ | ⟨e1, e2, e3⟩
          ·omega
          ·have := h.lt b _ hgb; omega
          ·have := h.lt i x e3; omega
         ·intro i x hi
          simp only [en, eP]
          rcases nI hi with ⟨e1, rfl⟩ | ⟨e1, e2, rfl⟩ | ⟨e1, e2, e3⟩
          ·exact gS (Nat.le_succ _) _ (eJ.2 ⟨c3.2, b3.2⟩)
          ·rfl
          ·exact gU (Nat.le_succ _) _ (h.sco i x e3)
        ·obtain ⟨ρ', w', r1, r2⟩ := qA h hT hTt rfl hTe hu hkk (s := .slice b o l' false c) rfl hcs hds (by simp; omega) q2 q3 ty
         refine ⟨ρ', w', r1, ⟨r2.rel.weaken ?_ ?_ ?_, r2.ext, by simp⟩, by simp [sc]⟩
         ·intro i x hi ha
          rw [cf]
          rcases nI hi with ⟨e1, rfl⟩ | ⟨e1, e2, rfl⟩ | ⟨e1, e2, e3⟩
          ·rw [if_pos e1.symm]
          ·simp [aq.alive] at ha
          ·rw [if_neg (Ne.symm e1), e3]
         ·intro i x hi
          simp only [en, eP]
          rcases nI hi with ⟨e1, rfl⟩ | ⟨e1, e2, rfl⟩ | ⟨e1, e2, e3⟩
          ·omega
          ·have := h.lt b _ hgb; omega
          ·have := h.lt i x e3; omega
         ·intro i x hi
          simp only [en, eP]
          rcases nI hi with ⟨e1, rfl⟩ | ⟨e1, e2, rfl⟩ | ⟨e1, e2, e3⟩
          ·exact gS (Nat.le_succ _) _ (eJ.2 ⟨c3.2, b3.2⟩)
          ·rfl
          ·exact gU (Nat.le_succ _) _ (h.sco i x e3)
       ·cases ha
      ·cases ha
     ·cases ha
   ·cases ha
 ·cases ha
end
section
variable {P : Program} {T : aA} {w0 : W0} {ρ : Nat → Loc} {σ : Mem} {w : World}
theorem NP (h : Rel w0 ρ σ w) (hT : bh P T) {src dst : TypeId} {x v : ab} {σ' : Mem} (hb : zx T σ src dst x = some (v, σ')) :
  ∃ ρ' w', (convert src dst (γ ρ x)).run P w = .ok (γ ρ' v) w' ∧ bV w0 ρ σ.next ρ' σ' w' ∧ sc σ'.next v = true := by unfold zx at hb; cases hb
theorem NQ (h : Rel w0 ρ σ w) (hT : bh P T) {src dst : TypeId} {x v : ab} (hb : zA T σ src dst x = some v) : (convert src dst (γ ρ x)).run P w = .ok (γ ρ v) w ∧ sc σ.next v = true := by unfold zA at hb; cases hb
end
end Go.Ev
namespace Go.Ev
section
variable {P : Program} {T : aA} {ρ : Nat → Loc} {w0 : W0} {w : World} {σ : Mem}
def PG (ρ : Nat → Loc) (m : MapEntry) (e : ab × ab × Nat) : Prop := m.key = γ ρ e.1 ∧ m.val = γ ρ e.2.1 ∧ m.born = e.2.2
inductive CK (ρ : Nat → Loc) : List MapEntry → List (ab × ab × Nat) → Prop
 | nil : CK ρ [] []
 | cons {m : MapEntry} {e : ab × ab × Nat} {ms : List MapEntry} {es : List (ab × ab × Nat)} : PG ρ m e → CK ρ ms es → CK ρ (m :: ms) (e :: es)
theorem Qs {mes : List MapEntry} {es : List (ab × ab × Nat)} (h : mes.map (fun e => (e.key, e.val, e.born)) = es.map fun e => (γ ρ e.1, γ ρ e.2.1, e.2.2)) :
  CK ρ mes es := by
 induction mes generalizing es with
 | nil => cases es with
  | nil => exact .nil
  | cons e es => simp at h
 | cons m mes ih =>
  cases es with
  | nil => simp at h
  | cons e es =>
   simp only [List.map_cons, List.cons.injEq, Yj] at h
   exact .cons ⟨h.1.1, h.1.2.1, h.1.2.2⟩ (ih h.2)
theorem NR (h : Rel w0 ρ σ w) {b : Nat} {es : List (ab × ab × Nat)} {clock : Nat} (hb : σ.get b = some (.map es clock)) :
  ∃ mes : Array MapEntry, w.heap[(ρ b).blk]? = some (.map mes clock) ∧ CK ρ mes.toList es := by
 obtain ⟨mes, h1, h2⟩ := h.ok b _ hb
 exact ⟨mes, h1, Qs h2⟩
theorem Qt (h : Rel w0 ρ σ w) (hT : bh P T) {t : TypeId} {x k v : ab} {ok : Bool} (hl : xc T σ t x k ok = some v) :
  (Instr.lookup t (γ ρ x) (γ ρ k) ok).run P w = .ok (γ ρ v) w ∧ sc σ.next v = true := by unfold xc at hl; cases hl
theorem CK.get {ms : List MapEntry} {es : List (ab × ab × Nat)} (h : CK ρ ms es) : ∀ {i : Nat} {e : ab × ab × Nat}, es[i]? = some e → ∃ m, ms[i]? = some m ∧ PG ρ m e := by
 induction h with
 | nil => intro i e hi; cases hi
 | cons h1 _ ih =>
  intro i e hi
  cases i with
  | zero => simp at hi; subst hi; exact ⟨_, rfl, h1⟩
  | succ i => simpa using ih (i := i) (by simpa using hi)
theorem Qu (h : Rel w0 ρ σ w) (hT : bh P T) {t : TypeId} {ts : Array TypeId} (ht : ts[0]? = some t) {x k : ab} {σ' : Mem} (ty : TypeId)
  (hl : F2 T σ t x k = some σ') : ∃ w', (Builtin.delete_ ts ty #[γ ρ x, γ ρ k]).run P w = .ok (.tuple #[]) w' ∧ Rel w0 ρ σ' w' ∧ σ'.next = σ.next := by unfold F2 at hl; cases hl
theorem Qv (h : Rel w0 ρ σ w) (hT : bh P T) {t : TypeId} {x k v : ab} {σ' : Mem}
  (hl : xd T σ t x k v = some σ') : ∃ w', (Instr.mapUpdate t (γ ρ x) (γ ρ k) (γ ρ v)).run P w = .ok () w' ∧ Rel w0 ρ σ' w' ∧ σ'.next = σ.next := by unfold xd at hl; cases hl
theorem NS (h : Rel w0 ρ σ w) (hT : bh P T) {t : TypeId} {x k v : ab} {σ' : Mem}
  (hl : zy T σ t x k = some (v, σ')) : ∃ w', (Instr.mapEntry t (γ ρ x) (γ ρ k)).run P w = .ok (γ ρ v) w' ∧ Rel w0 ρ σ' w' ∧ σ'.next = σ.next ∧ sc σ.next v = true := by unfold zy at hl; cases hl
theorem Lp (t : TypeId) (h : Rel w0 ρ σ w) {x n v : ab} {σ' : Mem} (hl : uq σ x n v = some σ') :
  ∃ w', (Instr.entryStore t (γ ρ x) (γ ρ n) (γ ρ v)).run P w = .ok () w' ∧ Rel w0 ρ σ' w' ∧ σ'.next = σ.next := by unfold uq at hl; cases hl
theorem CK.length {ms : List MapEntry} {es : List (ab × ab × Nat)} (h : CK ρ ms es) : ms.length = es.length := by
 induction h with
 | nil => rfl
 | cons _ _ ih => simp [ih]
theorem US (h : Rel w0 ρ σ w) (hT : bh P T) {t : TypeId} {x v : ab} (hl : Lj T σ t x = some v) (ts : Array TypeId) (xs : Array Value) (ht : ts[0]? = some t) (hx : xs[0]? = some (γ ρ x)) (ty : TypeId) :
  (Builtin.len_ ts ty xs).run P w = .ok (γ ρ v) w ∧ sc σ.next v = true := by
 unfold Lj at hl
 split at hl
 ·cases hl
 ·rename_i i hTt
  have hu := (hT _ _ hTt).k
  split at hl
  ·rename_i hik; rw [hik] at hu; simp only [KOk] at hu; cases hl
   exact ⟨by simp only [Builtin.len_, ht, hx, Yu, run_underlying hu, Yt, γ, Yv, goInt], by simp [sc]⟩
  ·rename_i hik; rw [hik] at hu; simp only [KOk] at hu; cases hl
   exact ⟨by simp only [Builtin.len_, ht, hx, Yu, run_underlying hu, Yt, γ, Yv, goInt], by simp [sc]⟩
  ·rename_i hik; rw [hik] at hu; simp only [KOk] at hu; cases hl
   exact ⟨by simp only [Builtin.len_, ht, hx, Yu, run_underlying hu, Yt, γ, Yv, goInt], by simp [sc]⟩
  ·rename_i hik; rw [hik] at hu; simp only [KOk] at hu; cases hl
   exact ⟨by simp only [Builtin.len_, ht, hx, Yu, run_underlying hu, Yt, γ, Yv, goInt]; rfl, by simp [sc]⟩
  ·rename_i hik; rw [hik] at hu; simp only [KOk] at hu; cases hl
   exact ⟨by simp only [Builtin.len_, ht, hx, Yu, run_underlying hu, Yt, γ, Yv, goInt]; rfl, by simp [sc]⟩
  ·rename_i b hik; rw [hik] at hu; simp only [KOk] at hu
   split at hl
   ·rename_i cs n sz own hg
    cases hl
    obtain ⟨g0, _⟩ := h.ok _ _ hg
    exact ⟨by simp only [Builtin.len_, ht, hx, Yu, run_underlying hu, Yt, γ, Yv, goInt, g0], by simp [sc]⟩
   ·cases hl
  ·rename_i hik; rw [hik] at hu; simp only [KOk] at hu; cases hl
   exact ⟨by simp only [Builtin.len_, ht, hx, Yu, run_underlying hu, Yt, γ, Yv, goInt], by simp [sc]⟩
  ·rename_i b hik; rw [hik] at hu; simp only [KOk] at hu
   split at hl
   ·rename_i es clock hb
    cases hl
    obtain ⟨mes, m1, m2⟩ := NR h hb
    exact ⟨by simp only [Builtin.len_, ht, hx, Yu, run_underlying hu, Yt, γ, Yv, goInt, run_getObj_map w _ _ _ m1, ← m2.length, Array.length_toList], by simp [sc]⟩
   ·cases hl
  ·cases hl
theorem NT (mx : Bool) : ∀ {r : LA_} {x v : ab}, mmA mx x r = some v → sc σ.next x = true →
    ((γL ρ r).foldlM (if mx then Builtin.max2 else Builtin.min2) (γ ρ x)).run P w = .ok (γ ρ v) w ∧ sc σ.next v = true
  | [], x, v, h, hs => by simp only [mmA, Yh] at h; subst h; exact ⟨rfl, hs⟩
  | y :: r, x, v, h, hs => by
    cases x <;> cases y <;> simp only [mmA] at h <;> first
      | cases h
      | (have ih := NT mx h (by simp [sc])
         refine ⟨?_, ih.2⟩
         rw [← ih.1]
         cases mx <;> simp [γL, γ, Builtin.max2, Builtin.min2])
theorem RD (h : Rel w0 ρ σ w) (hT : bh P T) {t : TypeId} {x v : ab} {σ' : Mem} (hl : Nt T σ t x = some (v, σ')) :
  ∃ w' ρ', (Instr.range t (γ ρ x)).run P w = .ok (γ ρ' v) w' ∧ bV w0 ρ σ.next ρ' σ' w' ∧ sc σ'.next v = true := by unfold Nt at hl; cases hl
theorem NU (h : Rel w0 ρ σ w) {x : ab} {i m since clock : Nat} {seen : List Nat} {es : List (ab × ab × Nat)} (hx : JW σ x = some (i, m, since, seen, es, clock)) (ty : TypeId) :
  (JV es seen = [] ∧ (Instr.next (γ ρ x) false ty).run P w = .ok (γ ρ (.tup [.bool false])) w) ∨
  ∃ e ∈ JV es seen, ∃ w', (Instr.next (γ ρ x) false ty).run P w = .ok (γ ρ (.tup [.bool true, e.1, e.2.1])) w' ∧ Rel w0 ρ (σ.set i (.iter m since (seen ++ [e.2.2]) clock)) w' ∧ sc σ.next (.tup [.bool true, e.1, e.2.1]) = true := by unfold JW at hx; cases hx
theorem RE (h : Rel w0 ρ σ w) {x v : ab} (hl : Nu σ x = some v) : (Instr.entry (γ ρ x)).run P w = .ok (γ ρ v) w ∧ sc σ.next v = true := by unfold Nu at hl; cases hl
theorem qU {x : Option ab} {d y n : Nat} {code : BoundsCode} (h : fR x d = some n) (hy : n ≤ y) : ∀ v, x = some v → (Instr.sliceBound (γ ρ v) y code).run P w = .ok n w := by
 intro v hv
 subst hv
 unfold fR at h
 split at h
 ·rename_i e; cases e
 ·rename_i k i e
  cases e
  split at h
  ·rename_i hi
   cases h
   simp only [γ, Instr.sliceBound, asIntOf, Yu, Yv, Yt]
   rw [if_pos ⟨hi, by omega⟩]
   rfl
  ·cases h
 ·cases h
theorem Rel.renew (h : Rel w0 ρ σ w) {b : Nat} {B0 B : aq} {L : Loc} (hb : σ.get b = some B0) (ho : B0.owned = true) (hs : scB σ.next B = true) (hB : BOk ρ L w B) (hL : L.blk = (ρ b).blk) :
  Rel w0 (upd ρ σ.next L) ((σ.set b .dead).push B) w := by
 have ha := aq.eC ho
 have hown := h.own b _ hb ho
 exact (h.kill hb).name (B := B) (L := L) hs hB (fun _ => by rw [hL]; exact h.inb b _ hb ha)
  (fun _ => ⟨by rw [hL]; exact hown, fun j bj hj haj => by
   rw [aW] at hj
   split at hj
   ·cases hj; cases haj
   ·rename_i hne'
    rw [hL]
    exact fun e => h.ap b j _ bj hb hj hne' ho haj e.symm⟩)
  (fun _ j bj hj hoj => by
   rw [aW] at hj
   split at hj
   ·cases hj; cases hoj
   ·rename_i hne'
    rw [hL]
    exact h.ap j b bj _ hj hb (Ne.symm hne') hoj ha)
theorem RF (s : ByteArray) (lo hi : Nat) : Nv s lo hi = s.extract lo hi := by
 apply ByteArray.ext
 rw [ByteArray.data_extract]
 apply Array.ext'
 simp [Nv, Array.toList_extract, List.extract]
theorem RG {t : TypeId} (ht : P.underlying t = some .string) {s : ByteArray} {low high : Option ab} {lo hi : Nat} (h1 : fR low 0 = some lo) (h2 : fR high s.size = some hi) (h3 : lo ≤ hi) (h4 : hi ≤ s.size) :
  (Instr.sliceAt t (.string s) (low.map (γ ρ)) (high.map (γ ρ)) none).run P w = .ok (.string (s.extract lo hi)) w := by
 have b2 : (Instr.sliceBounds false s.size s.size (low.map (γ ρ)) (high.map (γ ρ)) none).run P w = .ok (lo, hi, s.size) w := by
  unfold Instr.sliceBounds
  cases hh : high with
  | none =>
   rw [hh] at h2
   simp only [fR, Yh] at h2
   subst h2
   cases hlw : low with
   | none =>
    rw [hlw] at h1
    simp only [fR, Yh] at h1
    subst h1
    simp [Yu, Yv]
   | some lv =>
    have := qU (P := P) (w := w) (ρ := ρ) (y := s.size) (code := .sliceB) h1 (by omega) lv hlw
    simp [Yu, Yv, this]
  | some hv =>
   have q2 := qU (P := P) (w := w) (ρ := ρ) (y := s.size) (code := .sliceAlen) h2 (by omega) hv hh
   cases hlw : low with
   | none =>
    rw [hlw] at h1
    simp only [fR, Yh] at h1
    subst h1
    simp [Yu, Yv, q2]
   | some lv =>
    have := qU (P := P) (w := w) (ρ := ρ) (y := hi) (code := .sliceB) h1 h3 lv hlw
    simp [Yu, Yv, q2, this]
 simp only [Instr.sliceAt, Instr.slice, Yu, run_underlying ht, Yt, b2, Yv]
 simp [Yv]
 rw [b2]
 rfl
theorem RH (h : Rel w0 ρ σ w) (hT : bh P T) {t : TypeId} {x v : ab} {low high : Option ab} {σ' : Mem} (hs : sc σ.next x = true) (hl : Nw T σ t x low high = some (v, σ')) :
  ∃ ρ', (Instr.sliceAt t (γ ρ x) (low.map (γ ρ)) (high.map (γ ρ)) none).run P w = .ok (γ ρ' v) w ∧ bV w0 ρ σ.next ρ' σ' w ∧ sc σ'.next v = true := by
 unfold Nw at hl
 split at hl
 rotate_left
 ·rename_i n e hTt
  have hu := (hT _ _ hTt).k
  simp only [KOk] at hu
  split at hl
  ·rename_i j b o hTe
   simp only [Yh, Yj] at hl
   obtain ⟨rfl, rfl⟩ := hl
   have hsz := (hT _ _ hTe).eh w
   refine ⟨ρ, ?_, .refl h, by simpa only [sc] using hs⟩
   simp [Instr.sliceAt, Instr.sliceBounds, Yu, Yv, run_underlying hu, Yt, γ, Instr.sureAddr, asAddr, hsz, Addr.add]
  ·cases hl
 ·rename_i hTt
  have hu := (hT _ _ hTt).k
  simp only [KOk] at hu
  split at hl
  rotate_left
  ·cases hl
  rename_i s
  split at hl
  rotate_left
  ·cases hl
  rename_i lo hi h1 h2
  split at hl
  rotate_left
  ·cases hl
  rename_i hle
  simp only [Yh, Yj] at hl
  obtain ⟨rfl, rfl⟩ := hl
  exact ⟨ρ, by rw [RF]; exact RG hu h1 h2 hle.1 hle.2, .refl h, rfl⟩
 ·cases hl
 rename_i e hTt
 have hu := (hT _ _ hTt).k
 simp only [KOk] at hu
 split at hl
 ·cases hl
 rename_i j hTe
 have hsz := (hT e j hTe).eh w
 have go : ∀ {a : Option Addr} {l cap lo hi : Nat}, fR low 0 = some lo → fR high l = some hi → lo ≤ hi → hi ≤ cap →
   (Instr.sliceAt t (.slice a l cap) (low.map (γ ρ)) (high.map (γ ρ)) none).run P w = .ok (.slice (if cap = lo then a else a.map (·.add (lo * j.size))) (hi - lo) (cap - lo)) w := by
  intro a l cap lo hi h1 h2 h3 h4
  have b2 : (Instr.sliceBounds true l cap (low.map (γ ρ)) (high.map (γ ρ)) none).run P w = .ok (lo, hi, cap) w := by
   unfold Instr.sliceBounds
   cases hh : high with
   | none =>
    rw [hh] at h2
    simp only [fR, Yh] at h2
    subst h2
    cases hlw : low with
    | none =>
     rw [hlw] at h1
     simp only [fR, Yh] at h1
     subst h1
     simp [Yu, Yv]
    | some lv =>
     have := qU (P := P) (w := w) (ρ := ρ) (y := l) (code := .sliceB) h1 (by omega) lv hlw
     simp [Yu, Yv, this]
   | some hv =>
    have q2 := qU (P := P) (w := w) (ρ := ρ) (y := cap) (code := .sliceAcap) h2 (by omega) hv hh
    cases hlw : low with
    | none =>
     rw [hlw] at h1
     simp only [fR, Yh] at h1
     subst h1
     simp [Yu, Yv, q2]
    | some lv =>
     have := qU (P := P) (w := w) (ρ := ρ) (y := hi) (code := .sliceB) h1 (by omega) lv hlw
     simp [Yu, Yv, q2, this]
  simp only [Instr.sliceAt, Instr.slice, Yu, run_underlying hu, Yt, b2, hsz, Yv]
 split at hl
 ·rename_i b o l ex c
  split at hl
  rotate_left
  ·cases hl
  rename_i lo hi h1 h2
  split at hl
  rotate_left
  ·split at hl
   rotate_left
   ·cases hl
   rename_i hc
   obtain ⟨rfl, rfl, rfl, rfl, hll⟩ := hc
   split at hl
   rotate_left
   ·cases hl
   rename_i bs g hb
   split at hl
   rotate_left
   ·cases hl
   rename_i hg
   obtain ⟨hg1, hg2, hg3⟩ := hg
   cases hl
   obtain ⟨cc, ee, fz, q1, ⟨pre, post, q2, q3⟩, q4, q5⟩ := h.ok b _ hb
   obtain ⟨_, q6, q7⟩ := q5 g rfl
   have hsc : scC σ.next bs = true := h.sco b _ hb
   have hR := h.renew (B := .cells (bs.take (hi * g)) true (some g)) (L := ρ b) hb rfl (by
     show scC σ.next (bs.take (hi * g)) = true
     rw [gN] at hsc ⊢
     exact fun v hv => hsc v (List.mem_of_mem_take hv))
    ⟨cc, ee, fz, q1, ⟨pre, γL ρ (bs.drop (hi * g)) ++ post, by
     rw [q2]
     conv => lhs; rw [← List.take_append_drop (hi * g) bs]
     simp only [cL, YB], q3⟩, q4, fun g' hg' => by
      cases hg'
      exact ⟨rfl, q6, by rw [List.length_take]; omega⟩⟩ rfl
   refine ⟨_, ?_, ⟨hR, fun i hi => eE hi, by simp⟩, by simp [sc]⟩
   have hcap : hi ≤ (ρ b).fy := Nat.le_trans hll (Nat.le_of_mul_le_mul_right (Nat.le_trans hg3 q7) hg2)
   have := go (a := some ⟨(ρ b).blk, (ρ b).base + 0, none⟩) (l := l) (cap := (ρ b).fy) h1 h2 (by omega) hcap
   simp only [γ, Yk, if_false, Nat.sub_zero]
   rw [this, bF]
   simp only [Nat.zero_mul, Nat.sub_zero, Yy, Addr.add, if_true, ite_self]
  rename_i hle
  obtain ⟨hle1, hle2, hex, hlc⟩ := hle
  subst hex
  split at hl
  ·rename_i hlo
   subst hlo
   cases hl
   refine ⟨ρ, ?_, bV.refl h, hs⟩
   have := go (a := some ⟨(ρ b).blk, (ρ b).base + o, none⟩) (l := l) (cap := c) h1 h2 (by omega) (by omega)
   simp only [γ, if_true]
   rw [this]
   congr 2
   simp only [Nat.zero_mul, Yy, Addr.add, if_true, ite_self]
  ·rename_i hlo
   split at hl
   ·rename_i hcc
    cases hl
    refine ⟨ρ, ?_, bV.refl h, hs⟩
    have := go (a := some ⟨(ρ b).blk, (ρ b).base + o, none⟩) (l := l) (cap := c) h1 h2 hle1 (by omega)
    simp only [γ, if_true]
    rw [this, if_neg (by omega)]
    simp only [Yy, Addr.add]
    split
    ·rename_i hz
     rw [hz, Nat.add_zero]
    ·simp only [Nat.add_assoc]
   ·cases hl
 ·rename_i b
  split at hl
  rotate_left
  ·cases hl
  rename_i cs n sz hb h1
  split at hl
  rotate_left
  ·cases hl
  rename_i hi h2
  split at hl
  rotate_left
  ·split at hl
   rotate_left
   ·cases hl
   rename_i hc
   obtain ⟨rfl, hem, hz⟩ := hc
   cases hl
   have hcs : cs ≠ [] := by rintro rfl; cases hem
   obtain ⟨q0, q1⟩ := h.ok b _ hb
   rcases q1 with ⟨_, q, _⟩ | ⟨_, q2, q3, cc, ee, fz, q4, ⟨pre, post, q5, q6⟩, q7⟩
   ·exact absurd q hcs
   obtain ⟨g1, g2, g3⟩ := q7 rfl
   have hR := h.renew (B := .cells [] true (some sz)) (L := { ρ b with fy := (ρ b).sk }) hb (by simp [aq.owned, hcs]) rfl
    ⟨cc, ee, fz, q4, ⟨pre, γL ρ cs ++ post, by rw [q5]; simp [γL], q6⟩, fun _ => g1, fun g' hg' => by
      cases hg'
      exact ⟨rfl, g3, by simp⟩⟩ rfl
   refine ⟨_, ?_, ⟨hR, fun i hi => eE hi, by simp⟩, by simp [sc]⟩
   have := go (a := (ρ b).sp) (l := (ρ b).sl) (cap := (ρ b).sk) (lo := 0) (hi := 0) h1 (by rw [q0]; exact h2) (by omega) (by omega)
   simp only [γ, Yk, if_false, Nat.sub_zero]
   rw [this, bF]
   simp only [Nat.zero_mul, Nat.sub_zero, q2, Yy, Addr.add, if_true, ite_self, Nat.add_zero]
  rename_i hc
  obtain ⟨c1, c2, c3, c4, c5⟩ := hc
  cases hl
  have hne : cs.take (hi * sz) ≠ [] := by
   intro e
   have := congrArg List.length e
   simp only [List.length_take, List.length_nil] at this
   have := Nat.mul_pos (Nat.pos_of_ne_zero c2) c5
   omega
  have hcs : cs ≠ [] := by rintro rfl; simp at hne
  obtain ⟨q0, q1⟩ := h.ok b _ hb
  rcases q1 with ⟨_, q, _⟩ | ⟨_, q2, q3, cc, ee, fz, q4, ⟨pre, post, q5, q6⟩, q7⟩
  ·exact absurd q hcs
  obtain ⟨g1, g2, g3⟩ := q7 rfl
  have hblt := h.lt b _ hb
  have hsc : scC 0 cs = true := h.sco b _ hb
  have hsct : scC 0 (cs.take (hi * sz)) = true := by
   rw [gN] at hsc ⊢
   exact fun v hv => hsc v (List.mem_of_mem_take hv)
  have hin := h.inb b _ hb (by simp [aq.alive, hcs])
  have hd : Rel w0 ρ (σ.set b .dead) w := h.kill hb
  have hown := h.own b _ hb (by simp [aq.owned, hcs])
  have hR := hd.name (B := .vec (cs.take (hi * sz)) hi sz true) (L := { ρ b with sl := hi }) hsct ⟨rfl, .inr ⟨hne, q2, by rw [List.length_take, Nat.min_eq_left c4], cc, ee, fz, q4, ⟨pre, γL ρ (cs.drop (hi * sz)) ++ post, by
    rw [q5]
    conv => lhs; rw [← List.take_append_drop (hi * sz) cs]
    simp only [cL, YB], q6⟩, fun _ => ⟨g1, by show hi ≤ (ρ b).sk; omega, g3⟩⟩⟩ (fun _ => hin)
   (fun _ => ⟨hown, fun j bj hj haj => by
    rw [aW] at hj
    split at hj
    ·cases hj; cases haj
    ·rename_i hne'
     exact fun e => h.ap b j _ bj hb hj hne' (by simp [aq.owned, hcs]) haj e.symm⟩)
   (fun _ j bj hj ho => by
    rw [aW] at hj
    split at hj
    ·cases hj; cases ho
    ·rename_i hne'
     exact h.ap j b bj _ hj hb (Ne.symm hne') ho (by simp [aq.alive, hcs]))
  refine ⟨_, ?_, ⟨hR, fun i hi => eE hi, by simp⟩, by simp [sc]⟩
  have := go (a := (ρ b).sp) (l := (ρ b).sl) (cap := (ρ b).sk) (lo := 0) (hi := hi) h1 (by rw [q0]; exact h2) (by omega) (by omega)
  simp only [γ]
  rw [this]
  have e1 : (σ.set b aq.dead).next = σ.next := rfl
  rw [e1, bF]
  simp only [Nat.zero_mul, Nat.sub_zero, q2, Yy, Addr.add, if_true, ite_self]
 ·cases hl
end
end Go.Ev
namespace Go.Ev
def uv (ρ : Nat → Loc) : gy → Ending
 | .ret v => .returned (γ ρ v)
 | .pan v => .panicked [{ v := γ ρ v, recovered := false }]
def gy.value : gy → ab
 | .ret v => v
 | .pan v => v
def dD (P : Program) (g : FuncId) (args : LA_) (σ : Mem) (r : gy) (σ' : Mem) : Prop :=
 ∀ w0 ρ w, Rel w0 ρ σ w → scL σ.next args = true →
  Calls P g (γL ρ args).toArray w fun e w' => ∃ ρ', e = uv ρ' r ∧ bV w0 ρ σ.next ρ' σ' w' ∧ sc σ'.next r.value = true
def pp (P : Program) (g : FuncId) : Prop := ∃ fn, P.funcs[g]? = some fn ∧ (fn.name == "runtime.NumGoroutine") = false ∧ fn.body.isNone = false
def UT (P : Program) (g : FuncId) (args : LA_) (σ : Mem) (r : gy) (σ' : Mem) : Prop :=
 ∃ v, r = .ret v ∧ σ' = σ ∧ sc 0 v = true ∧ ∀ (ρ : Nat → Loc) (w : World), (callFunc g (γL ρ args).toArray).run P w = .ok (.value (γ ρ v)) w
def J2 (P : Program) (g : FuncId) (args : LA_) (σ : Mem) (r : gy) (σ' : Mem) : Prop := (pp P g ∧ dD P g args σ r σ') ∨ UT P g args σ r σ'
theorem SV {w : World} (ρ : Nat → Loc) (n : Nat) : Rel (W0.all w) ρ ⟨n, []⟩ w :=
 ⟨fun i b h => (nomatch h), fun i b h => (nomatch h), fun i b h => (nomatch h), fun i b h => (nomatch h), fun i j bi bj h => (nomatch h), fun i b h => (nomatch h), rfl, rfl, rfl, Nat.le_refl _, fun _ _ => rfl⟩
theorem dD.none {P : Program} {g : FuncId} {args : LA_} {v : ab} (h : dD P g args ⟨0, []⟩ (.ret v) ⟨0, []⟩) (hs : scL 0 args = true) (hv : sc 0 v = true) (σ : Mem) : dD P g args σ (.ret v) σ := by
 intro w0 ρ w hr _
 refine (h (W0.all w) ρ w (SV ρ 0) hs).mono ?_
 rintro e w' ⟨ρ', k1, k2, _⟩
 have R := k2.rel
 have hold : ∀ q, q < w.heap.size → w'.heap[q]? = w.heap[q]? := fun q hq => R.old q hq
 have hsz : w.heap.size ≤ w'.heap.size := R.size
 refine ⟨ρ, ?_, ⟨⟨hr.lt, hr.sco, fun i b hi => ?_, fun i b hi ha => Nat.lt_of_lt_of_le (hr.inb i b hi ha) hsz, hr.ap, hr.own, R.os.trans hr.os, R.tape.trans hr.tape, R.output.trans hr.output, Nat.le_trans hr.size hsz,
  fun q hq => (hold q (by have := w0.lt q hq; have := hr.size; omega)).trans (hr.old q hq)⟩, fun _ _ => rfl, Nat.le_refl _⟩, mf (Nat.zero_le _) v hv⟩
 ·rw [k1]
  simp only [uv]
  rw [gT (n := 0) (ρ := ρ) (ρ' := ρ') (fun i hi => absurd hi (by omega)) v hv]
 ·by_cases ha : b.alive = true
  ·exact cG (fun _ _ => rfl) (hold _ (hr.inb i b hi ha)) b (hr.sco i b hi) (hr.ok i b hi)
  ·exact nC ha (hr.ok i b hi)
def kK (P : Program) (H : bW) : Prop := ∀ g args σ r σ', H g args σ = some (r, σ') → J2 P g args σ r σ'
section
variable {P : Program} {T : aA} {H : bW} {ρ : Nat → Loc} {w0 : W0} {w : World} {σ : Mem} {a : Act} {tm : LA_} {next : Act → World → Prop} {Q : Exit → Act → World → Prop}
theorem fA {o : Oper} {v : ab} {ρ' : Nat → Loc} {w' : World} (hr : (execOp a.eval o).run P w = .ok (.value (γ ρ' v)) w') (hn : next (a.put o.dst (γ ρ' v)) w') : o.wp P a w next Q := by
 unfold Oper.wp; rw [hr]; exact hn
theorem IO {o : Oper} {w' : World} (hr : (execOp a.eval o).run P w = .ok .skip w') (hn : next (a.put o.dst undef) w') : o.wp P a w next Q := by
 unfold Oper.wp; rw [hr]; exact hn
theorem kL {g : FuncId} (hg : pp P g) (args : Array Value) : (callFunc g args).run P w = .ok (.enter g args) w := by
 obtain ⟨fn, h1, h2, h3⟩ := hg
 simp only [callFunc, Yu, run_program, Yt, h1, h2, h3, Yk, if_false, Yv]
def dOf (f : FuncId) (cap args : List Value) : Deferred :=
 if f = zB then { target := .collected (match cap with | [.int _ n] => n.toNat | _ => 0), args := #[] } else { target := .fn (.func f) cap.toArray, args := args.toArray }
def γD (ρ : Nat → Loc) (d : qx) : Deferred := dOf d.f (γL ρ d.cap) (γL ρ d.args)
def XU (o : Oper) (a : Act) (next : Act → World → Prop) (Q : Exit → Act → World → Prop) (ρ' : Nat → Loc) (w' : World) (σ' : Mem) : c9 → Prop
 | .val v => sc σ'.next v = true → next (a.put o.dst (γ ρ' v)) w'
 | .skip => next (a.put o.dst undef) w'
 | .pan v => sc σ'.next v = true → Q (.panic [{ v := γ ρ' v, recovered := false }]) a w'
 | .dfr d => scL σ'.next d.cap = true → scL σ'.next d.args = true → next ({ a with defers := γD ρ' d :: a.defers }.put o.dst undef) w'
theorem NV (h : Rel w0 ρ σ w) {z : ab} (hz : km σ z = true) : ∃ ad l c, γ ρ z = .slice (some ad) l c := by
 unfold km at hz
 split at hz
 ·rename_i i
  split at hz
  ·rename_i c cs n sz own hg
   have hb := h.ok i _ hg
   obtain ⟨_, ⟨_, h0, _⟩ | ⟨_, h1, _⟩⟩ := hb
   ·cases h0
   ·exact ⟨_, _, _, by simp only [γ, h1]; rfl⟩
  ·cases hz
 ·cases hz
theorem SW (h : Rel w0 ρ σ w) (hT : bh P T) {c n : Bool} {op : BinOp} {t : TypeId} {x y v : ab} (hz : Fp T σ c n op t x y = some v) (xo yo : Operand) (hc : c = true → (oA xo || oA yo) = true) :
  (do eqGuard op t xo yo (γ ρ x) (γ ρ y); binOp op t (γ ρ x) (γ ρ y)).run P w = .ok (γ ρ v) w ∧ sc σ.next v = true := by
 unfold Fp at hz
 cases n with
 | false => exact NE w hT hz xo yo hc
 | true =>
  simp only [cond_true] at hz
  split at hz
  rotate_left
  ·exact NE w hT hz xo yo hc
  rename_i u hu
  cases hz
  unfold Fo at hu
  cases hb : (((iK x && km σ y) || (km σ x && iK y)) && JT (T t)) with
  | false => rw [hb] at hu; cases hu
  | true =>
   rw [hb] at hu
   simp only [cond_true] at hu
   simp only [Yi, Bool.or_eq_true] at hb
   obtain ⟨hxy, hk⟩ := hb
   obtain ⟨e, hk⟩ : ∃ e, P.underlying t = some (.slice e) := by
    unfold JT at hk
    split at hk
    ·rename_i e i hi
     have := (hT t _ hi).k
     simp only [KOk] at this
     exact ⟨_, this⟩
    ·cases hk
   have nl : ∀ z : ab, iK z = true → γ ρ z = .slice none 0 0 := by
    intro z hz
    cases z <;> first | rfl | cases hz
   have key : ∃ a l c b l' c', γ ρ x = .slice a l c ∧ γ ρ y = .slice b l' c' ∧ (a = none ∨ b = none) ∧ (a.isNone && b.isNone) = false := by
    rcases hxy with ⟨h1, h2⟩ | ⟨h1, h2⟩
    ·obtain ⟨ad, l, c, q⟩ := NV h h2
     exact ⟨_, _, _, _, _, _, nl x h1, q, .inl rfl, rfl⟩
    ·obtain ⟨ad, l, c, q⟩ := NV h h1
     exact ⟨_, _, _, _, _, _, q, nl y h2, .inr rfl, rfl⟩
   obtain ⟨a1, l1, c1, b1, l2, c2, q1, q2, q3, q4⟩ := key
   have he := mg (P := P) w hk a1 b1 l1 c1 l2 c2 q3
   rw [q4] at he
   have := eU (P := P) (t := t) w xo yo (x := .slice a1 l1 c1) (y := .slice b1 l2 c2) rfl rfl (fun _ => cb w (by simp) (by simp)) he
   rw [q1, q2]
   split at hu
   ·cases hu; exact ⟨this.1, by simp [sc]⟩
   ·cases hu; exact ⟨this.2, by simp [sc]⟩
   ·cases hu
theorem CL (hT : bh P T) (hH : kK P H) (h : Rel w0 ρ σ w) (hf : a.tmps = (γL ρ tm).toArray) (hs : scL σ.next tm = true) {o : Oper} {r : c9} {σ' : Mem}
  (hx : aS T H o.op tm σ = some (r, σ'))
  (K : ∀ ρ' w', bV w0 ρ σ.next ρ' σ' w' → XU o a next Q ρ' w' σ' r) : o.wp P a w next Q := by
 obtain ⟨dst, op, type, pos, after, guard⟩ := o
 have pure1 : ∀ {r1 : Option ab}, (r1.map fun v => ((c9.val v, σ) : c9 × Mem)) = some (r, σ') →
   (∀ v, r1 = some v → (execOp a.eval ⟨dst, op, type, pos, after, guard⟩).run P w = .ok (.value (γ ρ v)) w ∧ sc σ.next v = true) →
   Oper.wp P ⟨dst, op, type, pos, after, guard⟩ a w next Q := by
  intro r1 h1 h2
  cases r1 with
  | none => cases h1
  | some v =>
   cases h1
   obtain ⟨q1, q2⟩ := h2 v rfl
   exact fA q1 (K ρ w (bV.refl h) q2)
 have E : ∀ {x : Operand} {v : ab}, ev tm x = some v → a.eval x = γ ρ v ∧ sc σ.next v = true := fun hv => sK hf hs hv
 cases op <;> simp only [aS] at hx
 case move x => exact pure1 hx fun v hv => by obtain ⟨e1, e2⟩ := E hv; exact ⟨by simp only [execOp, e1, Yv], e2⟩
 case assign x => exact pure1 hx fun v hv => by obtain ⟨e1, e2⟩ := E hv; exact ⟨by simp only [execOp, e1, Yv], e2⟩
 case pick c x y =>
  split at hx
  ·rename_i hc
   have hc' := (E hc).1
   exact pure1 hx fun v hv => by obtain ⟨e1, e2⟩ := E hv; exact ⟨by simp only [execOp, hc', γ, asBool, Yu, Yv, Yt, if_true, e1], e2⟩
  ·rename_i hc
   have hc' := (E hc).1
   exact pure1 hx fun v hv => by obtain ⟨e1, e2⟩ := E hv; exact ⟨by simp only [execOp, hc', γ, asBool, Yu, Yv, Yt, Yk, if_false, e1], e2⟩
  ·cases hx
 case alloc t =>
  split at hx
  ·cases hx
  ·rename_i i ht
   cases hx
   obtain ⟨w', L, r1, l1, l2, r2⟩ := RC h hT ht (Bh T t)
   refine fA (v := .ptr σ.next 0) (ρ' := upd ρ σ.next L) (w' := w') ?_ (K _ _ r2 (by simp [sc]))
   simp only [execOp, Yu, r1, Yt, Yv, γ, bF, l1, l2, Nat.add_zero]
 case box t x =>
  split at hx
  ·rename_i v hv
   split at hx
   ·cases hx
   ·rename_i ht
    cases hx
    obtain ⟨e1, e2⟩ := E hv
    obtain ⟨w', L, r1, l1, l2, r2⟩ := UR (P := P) h e2 (by simpa using ht) t (Bh T t)
    refine fA (v := .ptr σ.next 0) (ρ' := upd ρ σ.next L) (w' := w') ?_ (K _ _ r2 (by simp [sc]))
    simp only [execOp, e1, Yu, r1, Yt, Yv, γ, bF, l1, l2, Nat.add_zero]
  ·cases hx
 case build t ps =>
  split at hx
  ·rename_i vs hvs
   obtain ⟨e1, e2⟩ := NC hf hs hvs
   refine pure1 hx fun v hv => ?_
   obtain ⟨r1, r2⟩ := Rw (ρ := ρ) w hT e2 hv
   refine ⟨?_, r2⟩
   have e3 : (ps.map fun (x : Nat × Operand) => (x.1, a.eval x.2)) = (vs.map fun x => (x.1, γ ρ x.2)).toArray := by
    apply Array.ext'; rw [Array.toList_map, e1]
   simp only [execOp, Yu]
   rw [show (ps.map fun (x : Nat × Operand) => match x with | (i, x) => (i, a.eval x)) = (vs.map fun x => (x.1, γ ρ x.2)).toArray from e3]
   simp only [r1, Yt, Yv]
  ·cases hx
 case buildSlice t n ps =>
  split at hx
  ·rename_i vs hvs
   obtain ⟨e1, e2⟩ := NC hf hs hvs
   cases hb : jM T σ t n vs with
   | none => rw [hb] at hx; cases hx
   | some q =>
    obtain ⟨v, σ1⟩ := q
    rw [hb] at hx; cases hx
    obtain ⟨ρ', w', r1, r2, r3⟩ := Lo h hT e2 hb
    have e3 : (ps.map fun (x : Nat × Operand) => (x.1, a.eval x.2)) = (vs.map fun x => (x.1, γ ρ x.2)).toArray := by
     apply Array.ext'; rw [Array.toList_map, e1]
    refine fA (v := v) (ρ' := ρ') (w' := w') ?_ (K _ _ r2 r3)
    simp only [execOp, Yu]
    rw [show (ps.map fun (x : Nat × Operand) => match x with | (i, x) => (i, a.eval x)) = (vs.map fun x => (x.1, γ ρ x.2)).toArray from e3]
    simp only [r1, Yt, Yv]
  ·cases hx
 case makeSlice t l c =>
  split at hx
  ·rename_i k n hl hn
   cases hb : F1 T σ t n with
   | none => rw [hb] at hx; cases hx
   | some q =>
    obtain ⟨v, σ1⟩ := q
    rw [hb] at hx; cases hx
    obtain ⟨ρ', w', r1, r2, r3⟩ := SU (k := k) h hT hb
    have ec : a.eval c = a.eval l := by
     cases l <;> cases c <;> simp only [MW, Yk] at hl
     ·rw [Yx hl]
     ·rename_i x y
      cases x <;> cases y <;> simp only [MW, Yk, Yi, Yo] at hl
      rw [hl.1, hl.2]
    refine fA (v := v) (ρ' := ρ') (w' := w') ?_ (K _ _ r2 r3)
    simp only [execOp, ec, (E hn).1, γ, Yu, r1, Yt, Yv]
  ·cases hx
 case load t x =>
  split at hx
  ·rename_i y hy
   refine pure1 hx fun v hv => ?_
   obtain ⟨b, o, rfl, r1, r2⟩ := h.Hu (P := P) hT hv
   exact ⟨by simp only [execOp, Instr.loadAt, (E hy).1, γ, Instr.sureAddr, Yu, Yv, Yt, r1], r2⟩
  ·cases hx
 case store t x y =>
  split at hx
  ·rename_i u v hu hv
   cases hp : sG T σ t u v with
   | none => rw [hp] at hx; cases hx
   | some σ1 =>
    rw [hp] at hx; cases hx
    obtain ⟨e1, e2⟩ := E hv
    obtain ⟨b, o, w', rfl, r1, r2, r3⟩ := h.NB (P := P) hT hp e2
    refine IO (w' := w') ?_ (K ρ w' ⟨r2, fun _ _ => rfl, by omega⟩)
    simp only [execOp, Instr.storeAt, (E hu).1, e1, γ, Instr.sureAddr, Yu, Yv, Yt, r1]
  ·cases hx
 case binOp op t x y t2 =>
  split at hx
  ·rename_i u v hu hv
   refine pure1 hx fun z hz => ?_
   obtain ⟨r1, r2⟩ := SW h hT hz x y id
   refine ⟨?_, r2⟩
   simp only [execOp, (E hu).1, (E hv).1, Yu] at r1 ⊢
   simp only [r1, Yt, Yv]
  ·cases hx
 case unOp op t x =>
  split at hx
  ·rename_i u hu
   refine pure1 hx fun z hz => ?_
   obtain ⟨r1, r2⟩ := UM (P := P) (ρ := ρ) (n := σ.next) w hz
   exact ⟨by simp only [execOp, (E hu).1, Yu, r1, Yt, Yv], r2⟩
  ·cases hx
 case convert src dst' x =>
  split at hx
  ·rename_i u _ hu
   cases hb : zx T σ src dst' u with
   | none => rw [hb] at hx; cases hx
   | some q =>
    obtain ⟨v, σ1⟩ := q
    rw [hb] at hx; cases hx
    obtain ⟨ρ', w', r1, r2, r3⟩ := NP h hT hb
    refine fA (v := v) (ρ' := ρ') (w' := w') ?_ (K _ _ r2 r3)
    simp only [execOp, (E hu).1, Yu, r1, Yt, Yv]
  ·rename_i u _ _ hu
   refine pure1 hx fun z hz => ?_
   obtain ⟨r1, r2⟩ := NQ (P := P) h hT hz
   exact ⟨by simp only [execOp, (E hu).1, Yu, r1, Yt, Yv], r2⟩
  ·rename_i u _ _ hu
   refine pure1 hx fun z hz => ?_
   obtain ⟨r1, r2⟩ := Rq (ρ := ρ) (n := σ.next) w hT hz
   exact ⟨by simp only [execOp, (E hu).1, Yu, r1, Yt, Yv], r2⟩
  ·cases hx
 case makeFunc fn fs cs =>
  cases fn with
  | func g =>
   simp only [] at hx
   split at hx
   ·rename_i us vs hu hv
    cases hx
    obtain ⟨e1, e2⟩ := vb hf hs hu
    obtain ⟨e3, e4⟩ := vb hf hs hv
    refine fA (v := .func g us vs) (ρ' := ρ) (w' := w) ?_ (K _ _ (bV.refl h) (by simp [sc, e2, e4]))
    have e5 : fs.map a.eval = (γL ρ us).toArray := by apply Array.ext'; rw [Array.toList_map, e1]
    have e6 : cs.map a.eval = (γL ρ vs).toArray := by apply Array.ext'; rw [Array.toList_map, e3]
    simp only [execOp, Instr.makeFunc, Yu, Yv, Yt, γ, e5, e6]
   ·cases hx
  | _ => cases hx
 case makeMap t rs =>
  cases rs <;> simp only [] at hx <;> cases hx
  refine fA (v := .map σ.next) (ρ' := upd ρ σ.next (Loc.mk3 (w.heap.size) (0) (0))) (w' := { w with heap := w.heap.push (.map #[] 0) }) ?_ (K _ _ ⟨?_, fun i hi => eE hi, by simp⟩ (by simp [sc]))
  ·simp only [execOp, Instr.makeMap, Option.map_none, Yu, run_newObj, Yv, Yt, γ, bF]
  ·exact h.push rfl (by simp [scB]) fun ρ' _ => ⟨#[], by simp, rfl⟩
 case fieldAddr s x f =>
  split at hx
  ·rename_i u hu
   refine pure1 hx fun z hz => ?_
   obtain ⟨r1, r2⟩ := ML (ρ := ρ) w hT (E hu).2 hz
   exact ⟨by simp only [execOp, (E hu).1, Yu, r1, Yt, Yv], r2⟩
  ·cases hx
 case field s x f =>
  split at hx
  ·rename_i u hu
   refine pure1 hx fun z hz => ?_
   obtain ⟨r1, r2⟩ := Rt (ρ := ρ) w hT (E hu).2 hz
   exact ⟨by simp only [execOp, (E hu).1, Yu, r1, Yt, Yv], r2⟩
  ·cases hx
 case indexAddr t x i =>
  split at hx
  ·rename_i u v hu hv
   refine pure1 hx fun z hz => ?_
   obtain ⟨r1, r2⟩ := MN (ρ := ρ) w hT h (E hu).2 hz
   exact ⟨by simp only [execOp, (E hu).1, (E hv).1, Yu, r1, Yt, Yv], r2⟩
  ·cases hx
 case index t x i =>
  split at hx
  ·rename_i u v hu hv
   refine pure1 hx fun z hz => ?_
   obtain ⟨r1, r2⟩ := Ru (ρ := ρ) w hT (E hu).2 hz
   exact ⟨by simp only [execOp, (E hu).1, (E hv).1, Yu, r1, Yt, Yv], r2⟩
  ·cases hx
 case lookup t x k ok =>
  split at hx
  ·rename_i u v hu hv
   refine pure1 hx fun z hz => ?_
   obtain ⟨r1, r2⟩ := Qt h hT hz
   exact ⟨by simp only [execOp, (E hu).1, (E hv).1, Yu, r1, Yt, Yv], r2⟩
  ·cases hx
 case mapEntry t m k =>
  split at hx
  ·rename_i u v hu hv
   cases hp : zy T σ t u v with
   | none => rw [hp] at hx; cases hx
   | some q =>
    obtain ⟨z, σ1⟩ := q
    rw [hp] at hx; cases hx
    obtain ⟨w', r1, r2, r3, r4⟩ := NS h hT hp
    refine fA (v := z) (ρ' := ρ) (w' := w') ?_ (K _ _ ⟨r2, fun _ _ => rfl, by simp only [r3]; omega⟩ (by simp only [r3]; exact r4))
    simp only [execOp, (E hu).1, (E hv).1, Yu, r1, Yt, Yv]
  ·cases hx
 case entryStore t m n x =>
  split at hx
  ·rename_i u v z hu hv hz
   cases hp : uq σ u v z with
   | none => rw [hp] at hx; cases hx
   | some σ1 =>
    rw [hp] at hx; cases hx
    obtain ⟨w', r1, r2, r3⟩ := Lp (P := P) t h hp
    refine IO (w' := w') ?_ (K ρ w' ⟨r2, fun _ _ => rfl, by omega⟩)
    simp only [execOp, (E hu).1, (E hv).1, (E hz).1, Yu, r1, Yt, Yv]
  ·cases hx
 case mapUpdate t m k x =>
  split at hx
  ·rename_i u v z hu hv hz
   cases hp : xd T σ t u v z with
   | none => rw [hp] at hx; cases hx
   | some σ1 =>
    rw [hp] at hx; cases hx
    obtain ⟨w', r1, r2, r3⟩ := Qv h hT hp
    refine IO (w' := w') ?_ (K ρ w' ⟨r2, fun _ _ => rfl, by omega⟩)
    simp only [execOp, (E hu).1, (E hv).1, (E hz).1, Yu, r1, Yt, Yv]
  ·cases hx
 case range t x =>
  split at hx
  ·rename_i u hu
   obtain ⟨q, hq, hq2⟩ := Ys.1 hx
   obtain ⟨v, σ1⟩ := q
   cases hq2
   obtain ⟨w', ρ', r1, r2, r3⟩ := RD (P := P) h hT hq
   refine fA (v := v) (ρ' := ρ') (w' := w') ?_ (K _ _ r2 r3)
   simp only [execOp, (E hu).1, Yu, r1, Yt, Yv]
  ·cases hx
 case entry x =>
  split at hx
  ·rename_i u hu
   refine pure1 hx fun z hz => ?_
   obtain ⟨r1, r2⟩ := RE (P := P) h hz
   exact ⟨by simp only [execOp, (E hu).1, Yu, r1, Yt, Yv], r2⟩
  ·cases hx
 case next x b =>
  cases b with
  | true => cases hx
  | false =>
   simp only [] at hx
   split at hx
   ·rename_i u hu
    obtain ⟨q, hq, hq2⟩ := Ys.1 hx
    obtain ⟨v, σ1⟩ := q
    cases hq2
    unfold Ub at hq
    split at hq
    ·rename_i i m since seen es clock hit
     rcases NU (P := P) h hit type with ⟨q1, q2⟩ | ⟨e, q1, w', q2, q3, q4⟩
     ·rw [q1] at hq
      cases hq
      refine fA (v := .tup [.bool false]) (ρ' := ρ) (w' := w) ?_ (K ρ w (bV.refl h) (by simp [sc, scL]))
      simp only [execOp, (E hu).1, Yu, q2, Yt, Yv]
     ·split at hq
      ·rename_i hl; rw [hl] at q1; cases q1
      ·rename_i e' hl
       cases hq
       rw [hl] at q1
       obtain rfl : e = e' := by simpa using q1
       refine fA (v := .tup [.bool true, e.1, e.2.1]) (ρ' := ρ) (w' := w') ?_ (K ρ w' ⟨q3, fun _ _ => rfl, Nat.le_refl _⟩ q4)
       simp only [execOp, (E hu).1, Yu, q2, Yt, Yv]
      ·cases hq
    ·cases hq
   ·cases hx
 case slice t x l hi mx =>
  cases mx with
  | some _ => cases hx
  | none =>
   simp only [] at hx
   split at hx
   ·rename_i u lo hg hu hlo hhi
    obtain ⟨q, hq, hq2⟩ := Ys.1 hx
    obtain ⟨v, σ1⟩ := q
    cases hq2
    obtain ⟨ρ', r1, r2, r3⟩ := RH (P := P) h hT (E hu).2 hq
    have ho : ∀ {y : Option Operand} {z : Option ab}, evO tm y = some z → y.map a.eval = z.map (γ ρ) := by
     intro y z hy
     cases y with
     | none => cases hy; rfl
     | some y =>
      obtain ⟨v, hv, rfl⟩ := Ys.1 hy
      simp only [Yy, (E hv).1]
    refine fA (v := v) (ρ' := ρ') (w' := w) ?_ (K _ _ r2 r3)
    simp only [execOp, (E hu).1, ho hlo, ho hhi, Option.map_none, Yu, r1, Yt, Yv]
   ·cases hx
 case extract x i =>
  split at hx
  ·rename_i vs hu
   refine pure1 hx fun z hz => ?_
   obtain ⟨e1, e2⟩ := E hu
   simp only [sc] at e2
   refine ⟨?_, (iy _ _).1 e2 z (List.mem_of_getElem? hz)⟩
   simp only [execOp, e1, γ, Instr.extract, List.getElem?_toArray, je, hz, Yy, Yu, Yv, Yt]
  ·cases hx
 case nilCheck x =>
  split at hx
  ·rename_i u hu
   refine pure1 hx fun z hz => ?_
   obtain ⟨e1, e2⟩ := E hu
   unfold LR at hz
   split at hz
   ·rename_i hn
    cases hz
    refine ⟨?_, e2⟩
    simp only [execOp, e1]
    cases u <;> first | (cases hn; done) | rfl
   ·cases hz
  ·cases hx
 case makeInterface t x =>
  split at hx
  ·rename_i u hu
   refine pure1 hx fun z hz => ?_
   obtain ⟨e1, e2⟩ := E hu
   unfold Ri at hz
   split at hz
   ·cases hz
   ·rename_i i ht
    split at hz
    ·cases hz
    ·rename_i hn
     cases hz
     refine ⟨?_, by simpa only [sc] using e2⟩
     have hk := (hT t i ht).k
     simp only [execOp, e1, Yu, γ]
     cases hi : i.k <;> rw [hi] at hk <;> simp only [KOk] at hk
     case iface => exact absurd (.inl hi) hn
     all_goals
      simp only [Instr.makeInterface, Yu]
      first
       | (obtain ⟨_, _, _, hk⟩ := hk; simp only [run_underlying hk, Yt, Yv]; done)
       | (obtain ⟨_, hk, _⟩ := hk; simp only [run_underlying hk, Yt, Yv]; done)
       | (simp only [run_underlying hk, Yt, Yv]; done)
  ·cases hx
 case typeAssert x xt t ok => split at hx <;> simp [Pz] at hx
 case panic x =>
  split at hx
  ·rename_i t v hv
   cases hx
   obtain ⟨e1, e2⟩ := E hv
   have hK := K ρ w (bV.refl h) e2
   have hr : (execOp a.eval ⟨dst, .panic x, type, pos, after, guard⟩).run P w = .halt (.panic (γ ρ (.iface t v))) w := by
    simp only [execOp, e1, γ, Instr.panic]; rfl
   unfold Oper.wp
   rw [hr]
   exact hK
  ·cases hx
 case defer c =>
  obtain ⟨callee, args, argTypes⟩ := c
  cases callee with
  | invoke r m => simp only [] at hx; cases hx
  | builtin b => simp only [] at hx; cases hx
  | value f =>
   simp only [] at hx
   split at hx
   ·rename_i g fs cs vs hg hvs
    split at hx
    ·cases hx
    rename_i hgm
    cases hx
    obtain ⟨e1, e2⟩ := vb hf hs hvs
    have e3 : args.map a.eval = (γL ρ vs).toArray := by apply Array.ext'; rw [Array.toList_map, e1]
    obtain ⟨q1, q2⟩ := E hg
    simp only [sc, Yi] at q2
    have hK := K ρ w (bV.refl h) q2.2 (lG.2 ⟨q2.1, e2⟩)
    have hr : (execOp a.eval ⟨dst, .defer ⟨.value f, args, argTypes⟩, type, pos, after, guard⟩).run P w = .ok (.defer (γD ρ ⟨g, cs, fs ++ vs⟩)) w := by
     have e4 : (γL ρ fs).toArray ++ (γL ρ vs).toArray = (γL ρ (fs ++ vs)).toArray := by
      apply Array.ext'; simp [cL]
     simp only [execOp, resolve, e3, q1, γ, Deferred.ofValue, Yu, Yv, Yt, γD, dOf, if_neg hgm, e4]
    unfold Oper.wp
    rw [hr]
    exact hK
   ·cases hx
 case call c =>
  obtain ⟨callee, args, argTypes⟩ := c
  cases callee with
  | invoke r m => simp only [] at hx; cases hx
  | builtin b =>
   simp only [] at hx
   split at hx
   ·rename_i vs hvs
    obtain ⟨e1, e2⟩ := vb hf hs hvs
    have e3 : args.map a.eval = (γL ρ vs).toArray := by apply Array.ext'; rw [Array.toList_map, e1]
    unfold jN at hx
    split at hx
    ·rename_i t ts x xs hts
     refine pure1 hx fun z hz => ?_
     obtain ⟨r1, r2⟩ := US h hT hz argTypes (γL ρ (x :: xs)).toArray (by rw [← YD, hts]; rfl) (by simp [γL]) type
     refine ⟨?_, r2⟩
     simp only [execOp, resolve, e3, Yu, Yv, Yt, invoke, builtin, r1]
    ·rename_i t u s x hts
     split at hx
     ·rename_i e _ _ _ _ _ hu
      cases hb : qS T σ t s x with
      | none => rw [hb] at hx; cases hx
      | some q =>
       obtain ⟨v, σ1⟩ := q
       rw [hb] at hx; cases hx
       simp only [scL, Yi] at e2
       obtain ⟨ρ', w', r1, r2, r3⟩ := Qr (P := P) h hT hu rfl e2.1 hb type
       refine fA (v := v) (ρ' := ρ') (w' := w') ?_ (K _ _ r2 r3)
       have e4 : argTypes = #[t, u] := by apply Array.ext'; rw [hts]
       simp only [execOp, resolve, e3, Yu, Yv, Yt, invoke, builtin, e4, γL]
       rw [r1]; rfl
     ·cases hx
    ·rename_i t ts x k hts
     cases hb : F2 T σ t x k with
     | none => rw [hb] at hx; cases hx
     | some σ1 =>
      rw [hb] at hx; cases hx
      obtain ⟨w', r1, r2, r3⟩ := Qu (P := P) h hT (ts := argTypes) (by rw [← YD, hts]; rfl) type hb
      refine fA (v := .tup []) (ρ' := ρ) (w' := w') ?_ (K _ _ ⟨r2, fun _ _ => rfl, by omega⟩ (by simp [sc, scL]))
      simp only [execOp, resolve, e3, Yu, Yv, Yt, invoke, builtin, γL]
      rw [r1]; rfl
    ·refine pure1 hx fun z hz => ?_
     unfold F4 at hz
     split at hz
     ·rename_i x r
      simp only [scL, Yi] at e2
      obtain ⟨r1, r2⟩ := NT (P := P) (ρ := ρ) (w := w) true hz e2.1
      refine ⟨?_, r2⟩
      simp only [if_true] at r1
      simp only [execOp, resolve, e3, Yu, Yv, Yt, invoke, builtin, Builtin.max_, γL, r1]
     ·cases hz
    ·refine pure1 hx fun z hz => ?_
     unfold F4 at hz
     split at hz
     ·rename_i x r
      simp only [scL, Yi] at e2
      obtain ⟨r1, r2⟩ := NT (P := P) (ρ := ρ) (w := w) false hz e2.1
      refine ⟨?_, r2⟩
      simp only [Yk, if_false] at r1
      simp only [execOp, resolve, e3, Yu, Yv, Yt, invoke, builtin, Builtin.min_, γL, r1]
     ·cases hz
    ·cases hx
   ·cases hx
  | value f =>
   simp only [] at hx
   split at hx
   ·rename_i g vs hg hvs
    obtain ⟨e1, e2⟩ := vb hf hs hvs
    have e3 : args.map a.eval = (γL ρ vs).toArray := by apply Array.ext'; rw [Array.toList_map, e1]
    cases hd : pV f argTypes.toList with
    | true =>
     rw [hd] at hx
     obtain ⟨rfl, v, rfl, hy, hv0, hg0, hvs0⟩ := uZ hx
     unfold io at hy
     split at hy
     ·rename_i g fs cs
      obtain ⟨q1, q2⟩ := E hg
      simp only [sc, Yi] at hg0
      have hargs : scL 0 (fs ++ vs ++ cs) = true := lG.2 ⟨lG.2 ⟨hg0.1, hvs0⟩, hg0.2⟩
      have e4 : (γL ρ fs).toArray ++ (γL ρ vs).toArray ++ (γL ρ cs).toArray = (γL ρ (fs ++ vs ++ cs)).toArray := by
       apply Array.ext'; simp [cL]
      split at hy
      ·rename_i v1 σ1 hh
       cases hy
       rcases hH _ _ _ _ _ hh with ⟨hfn, hc⟩ | ⟨v', e5, e6, e7, e8⟩
       ·unfold Oper.wp
        rw [show (execOp a.eval ⟨dst, .call ⟨.value f, args, argTypes⟩, type, pos, after, guard⟩).run P w = .ok (.enter g (γL ρ (fs ++ vs ++ cs)).toArray) w by
         simp only [execOp, resolve, e3, q1, γ, Deferred.ofValue, Yu, Yv, Yt, invoke, e4, kL hfn]]
        refine ((hc.none hargs hv0 σ') w0 ρ w h (cv (Nat.zero_le _) _ hargs)).mono ?_
        rintro e w' ⟨ρ', rfl, hp, hv⟩
        exact K ρ' w' hp hv
       ·cases e5
        refine fA (v := v) (ρ' := ρ) (w' := w) ?_ (K _ _ (bV.refl h) (mf (Nat.zero_le _) v e7))
        simp only [execOp, resolve, e3, q1, γ, Deferred.ofValue, Yu, Yv, Yt, invoke, e4, e8 ρ w]
      ·cases hy
      ·cases hy
     ·cases hy
    | false =>
     rw [hd] at hx
     simp only [sI, cond_false] at hx
     unfold io at hx
     split at hx
     ·rename_i g fs cs
      obtain ⟨q1, q2⟩ := E hg
      simp only [sc, Yi] at q2
      have hargs : scL σ.next (fs ++ vs ++ cs) = true := lG.2 ⟨lG.2 ⟨q2.1, e2⟩, q2.2⟩
      have hrun : ∀ (hfn : pp P g), (execOp a.eval ⟨dst, .call ⟨.value f, args, argTypes⟩, type, pos, after, guard⟩).run P w = .ok (.enter g (γL ρ (fs ++ vs ++ cs)).toArray) w := by
       intro hfn
       have e4 : (γL ρ fs).toArray ++ (γL ρ vs).toArray ++ (γL ρ cs).toArray = (γL ρ (fs ++ vs ++ cs)).toArray := by
        apply Array.ext'; simp [cL]
       simp only [execOp, resolve, e3, q1, γ, Deferred.ofValue, Yu, Yv, Yt, invoke, e4, kL hfn]
      split at hx
      ·rename_i v σ1 hh
       cases hx
       rcases hH _ _ _ _ _ hh with ⟨hfn, hc⟩ | ⟨v', e5, e6, e7, e8⟩
       ·unfold Oper.wp
        rw [hrun hfn]
        refine (hc w0 ρ w h hargs).mono ?_
        rintro e w' ⟨ρ', rfl, hp, hv⟩
        exact K ρ' w' hp hv
       ·cases e5
        subst e6
        refine fA (v := v) (ρ' := ρ) (w' := w) ?_ (K _ _ (bV.refl h) (mf (Nat.zero_le _) v e7))
        have e4 : (γL ρ fs).toArray ++ (γL ρ vs).toArray ++ (γL ρ cs).toArray = (γL ρ (fs ++ vs ++ cs)).toArray := by
         apply Array.ext'; simp [cL]
        simp only [execOp, resolve, e3, q1, γ, Deferred.ofValue, Yu, Yv, Yt, invoke, e4, e8 ρ w]
      ·rename_i v σ1 hh
       cases hx
       rcases hH _ _ _ _ _ hh with ⟨hfn, hc⟩ | ⟨v', e5, e6, e7, e8⟩
       ·unfold Oper.wp
        rw [hrun hfn]
        refine (hc w0 ρ w h hargs).mono ?_
        rintro e w' ⟨ρ', rfl, hp, hv⟩
        exact K ρ' w' hp hv
       ·cases e5
      ·cases hx
     ·cases hx
   ·cases hx
 all_goals cases hx
end
end Go.Ev
namespace Go.Ev
structure St where
 tm : LA_
 df : List qx
 mem : Mem
 deriving Inhabited
inductive an where
 | normal
 | exit (id : Nat)
 | goto (l : Nat)
 | ret
 | pan (v : ab)
 deriving Inhabited
def Fx (ρ : Nat → Loc) : an → Exit
 | .normal => .normal
 | .exit id => .exit id
 | .goto l => .goto l
 | .ret => .ret
 | .pan v => .panic [{ v := γ ρ v, recovered := false }]
structure bJ (w0 : W0) (ρ : Nat → Loc) (s : St) (a : Act) (w : World) : Prop where
 rel : Rel w0 ρ s.mem w
 tm : a.tmps = (γL ρ s.tm).toArray
 sct : scL s.mem.next s.tm = true
 df : a.defers = s.df.map (γD ρ)
 scd : ∀ d ∈ s.df, scL s.mem.next d.cap = true ∧ scL s.mem.next d.args = true
structure dA (w0 : W0) (ρ : Nat → Loc) (n : Nat) (o : an) (s' : St) (e : Exit) (a' : Act) (w' : World) : Prop where
 out : ∃ ρ', e = Fx ρ' o ∧ bJ w0 ρ' s' a' w' ∧ (∀ i, i < n → ρ' i = ρ i) ∧ n ≤ s'.mem.next ∧ (∀ v, o = .pan v → sc s'.mem.next v = true)
def AWP (P : Program) (c : Code) (s : St) (Φ : an → St → Prop) : Prop :=
 ∀ w0 ρ a w, bJ w0 ρ s a w → c.wp P (fun e a' w' => ∃ o s', Φ o s' ∧ dA w0 ρ s.mem.next o s' e a' w') a w
def bO (tm : LA_) (d : Option Tmp) (v : ab) : LA_ :=
 match d with
 | some t => tm.set t v
 | none => tm
def bC (all : List Oper) (o : Oper) (tm : LA_) : Bool :=
 match o.guard with
 | none => true
 | some (j, want) => match (all[j]?).bind (·.dst) with
  | some d => match tm[d]? with
   | some (.bool b) => b == want
   | _ => false
  | none => false
def gj (all : List Oper) (o : Oper) (tm : LA_) : Bool :=
 match o.guard with
 | none => false
 | some (j, _) => match (all[j]?).bind (·.dst) with
  | some d => match tm[d]? with
   | some (.dK _) => true
   | _ => false
  | none => false
inductive CM where
 | go (s : St)
 | pan (v : ab) (s : St)
 deriving Inhabited
def eW (T : aA) (H : bW) (all : List Oper) (o : Oper) (s : St) : Option CM :=
 if gj all o s.tm then none else if bC all o s.tm then
  match aS T H o.op s.tm s.mem with
  | some (.val v, σ) => some (.go ⟨bO s.tm o.dst v, s.df, σ⟩)
  | some (.skip, σ) => some (.go ⟨bO s.tm o.dst (.tup []), s.df, σ⟩)
  | some (.pan v, σ) => some (.pan v ⟨s.tm, s.df, σ⟩)
  | some (.dfr d, σ) => some (.go ⟨bO s.tm o.dst (.tup []), d :: s.df, σ⟩)
  | none => none
 else some (.go ⟨bO s.tm o.dst (.tup []), s.df, s.mem⟩)
def eH (T : aA) (H : bW) (all : List Oper) : List Oper → St → Option CM
 | [], s => some (.go s)
 | o :: r, s => match eW T H all o s with
  | some (.go s') => eH T H all r s'
  | x => x
section
variable {P : Program} {T : aA} {H : bW} {ρ : Nat → Loc} {w0 : W0} {w : World} {s : St} {a : Act}
theorem bJ.congr (h : bJ w0 ρ s a w) {ρ' : Nat → Loc} {σ' : Mem} {w' : World} (hp : bV w0 ρ s.mem.next ρ' σ' w') : bJ w0 ρ' ⟨s.tm, s.df, σ'⟩ a w' := by
 refine ⟨hp.rel, ?_, cv hp.le _ h.sct, ?_, fun d hd => ⟨cv hp.le _ (h.scd d hd).1, cv hp.le _ (h.scd d hd).2⟩⟩
 ·rw [h.tm, cU hp.ext _ h.sct]
 ·rw [h.df]
  apply List.map_congr_left
  intro d hd
  simp only [γD, cU hp.ext _ (h.scd d hd).1, cU hp.ext _ (h.scd d hd).2]
theorem bJ.put (h : bJ w0 ρ s a w) {v : ab} (hv : sc s.mem.next v = true) (d : Option Tmp) : bJ w0 ρ ⟨bO s.tm d v, s.df, s.mem⟩ (a.put d (γ ρ v)) w := by
 cases d with
 | none => exact ⟨h.rel, h.tm, h.sct, h.df, h.scd⟩
 | some t =>
  refine ⟨h.rel, ?_, xe h.sct hv, h.df, h.scd⟩
  simp only [Act.put, h.tm, bO, Bi, List.setIfInBounds_toArray]
theorem nL (ρ : Nat → Loc) : undef = γ ρ (.tup []) := by simp [γ, γL, undef]
theorem vd {ops : Array Oper} {o : Oper} {tm : LA_} (hg : gj ops.toList o tm = false) : Region.wanted o (yielded ops (γL ρ tm).toArray) = bC ops.toList o tm := by
 unfold Region.wanted bC
 unfold gj at hg
 cases hgu : o.guard with
 | none => rfl
 | some g =>
  obtain ⟨j, want⟩ := g
  rw [hgu] at hg
  simp only [yielded, YD]
  simp only [YD] at hg
  cases hd : (ops[j]?).bind (·.dst) with
  | none => simp
  | some d =>
   rw [hd] at hg
   simp only at hg
   simp only [Ye, List.getElem?_toArray, je]
   cases htd : tm[d]? with
   | none => simp
   | some v =>
    rw [htd] at hg
    cases v <;> simp [γ]
    simp at hg
theorem kW (hT : bh P T) (hH : kK P H) (h : bJ w0 ρ s a w) {ops : Array Oper} {i : Nat} {o : Oper} (hi : ops[i]? = some o) {r : CM}
  (hx : eW T H ops.toList o s = some r) {Q : Exit → Act → World → Prop} {K : Act → World → Prop}
  (hK : match r with
   | .go s' => ∀ ρ' a' w', bJ w0 ρ' s' a' w' → (∀ i, i < s.mem.next → ρ' i = ρ i) → s.mem.next ≤ s'.mem.next → K a' w'
   | .pan v s' => ∀ ρ' a' w', bJ w0 ρ' s' a' w' → (∀ i, i < s.mem.next → ρ' i = ρ i) → s.mem.next ≤ s'.mem.next → sc s'.mem.next v = true →
     Q (.panic [{ v := γ ρ' v, recovered := false }]) a' w') : wpOp P ops Q i K a w := by
 unfold wpOp
 simp only [hi]
 unfold eW at hx
 cases hg : gj ops.toList o s.tm with
 | true => rw [hg] at hx; cases hx
 | false =>
 rw [hg] at hx
 simp only [Yk, if_false] at hx
 have hw : Region.wanted o (yielded ops a.tmps) = bC ops.toList o s.tm := by rw [h.tm]; exact vd hg
 rw [hw]
 split at hx
 ·rename_i hwa
  simp only [hwa, if_true]
  refine .inl ?_
  split at hx
  ·rename_i v σ' hx'
   cases hx
   refine CL hT hH h.rel h.tm h.sct hx' fun ρ' w' hp => ?_
   intro hv
   exact hK ρ' _ w' ((h.congr hp).put hv o.dst) hp.ext hp.le
  ·rename_i σ' hx'
   cases hx
   refine CL hT hH h.rel h.tm h.sct hx' fun ρ' w' hp => ?_
   show K (a.put o.dst undef) w'
   rw [nL ρ']
   exact hK ρ' _ w' ((h.congr hp).put (by simp [sc, scL]) o.dst) hp.ext hp.le
  ·rename_i v σ' hx'
   cases hx
   refine CL hT hH h.rel h.tm h.sct hx' fun ρ' w' hp => ?_
   intro hv
   exact hK ρ' a w' (h.congr hp) hp.ext hp.le hv
  ·rename_i d σ' hx'
   cases hx
   refine CL hT hH h.rel h.tm h.sct hx' fun ρ' w' hp => ?_
   intro hc1 hc2
   have h1 := h.congr hp
   have h2 : bJ w0 ρ' ⟨s.tm, d :: s.df, σ'⟩ { a with defers := γD ρ' d :: a.defers } w' :=
    ⟨h1.rel, h1.tm, h1.sct, by rw [List.map_cons, ← h1.df], fun d' hd' => by
     rcases List.mem_cons.1 hd' with rfl | hd'
     ·exact ⟨hc1, hc2⟩
     ·exact h1.scd d' hd'⟩
   show K ({ a with defers := γD ρ' d :: a.defers }.put o.dst undef) w'
   rw [nL ρ']
   exact hK ρ' _ w' (h2.put (by simp [sc, scL]) o.dst) hp.ext hp.le
  ·cases hx
 ·rename_i hwa
  cases hx
  have hwa' : bC ops.toList o s.tm = false := by simpa using hwa
  simp only [hwa', Yk, if_false]
  rw [nL ρ]
  exact hK ρ _ w (h.put (by simp [sc, scL]) o.dst) (fun _ _ => rfl) (Nat.le_refl _)
theorem zF (hT : bh P T) (hH : kK P H) {ops : Array Oper} {Q : Exit → Act → World → Prop} : ∀ (l pre : List Oper) (ρ : Nat → Loc) (s : St) (a : Act) (w : World) (r : CM),
  ops.toList = pre ++ l → bJ w0 ρ s a w → eH T H ops.toList l s = some r →
  (match r with
   | .go s' => ∀ ρ' a' w', bJ w0 ρ' s' a' w' → (∀ i, i < s.mem.next → ρ' i = ρ i) → s.mem.next ≤ s'.mem.next → Q .normal a' w'
   | .pan v s' => ∀ ρ' a' w', bJ w0 ρ' s' a' w' → (∀ i, i < s.mem.next → ρ' i = ρ i) → s.mem.next ≤ s'.mem.next → sc s'.mem.next v = true →
     Q (.panic [{ v := γ ρ' v, recovered := false }]) a' w') → wpOps P ops Q (List.range' pre.length l.length) a w
 | [], pre, ρ, s, a, w, r, _, h, hx, hK => by
  simp only [eH, Yh] at hx
  subst hx
  exact hK ρ a w h (fun _ _ => rfl) (Nat.le_refl _)
 | o :: l, pre, ρ, s, a, w, r, he, h, hx, hK => by
  rw [YC, List.range'_succ, wpOps_cons]
  have hi : ops[pre.length]? = some o := by
   rw [← YD, he, List.getElem?_append_right (Nat.le_refl _)]; simp
  simp only [eH] at hx
  cases hs : eW T H ops.toList o s with
  | none => rw [hs] at hx; cases hx
  | some q =>
   rw [hs] at hx
   refine kW hT hH h hi hs ?_
   cases q with
   | go s1 =>
    intro ρ1 a1 w1 h1 e1 l1
    have := zF hT hH l (pre ++ [o]) ρ1 s1 a1 w1 r (by simp [he]) h1 hx (by
     cases r with
     | go s' => exact fun ρ' a' w' h' e' l' => hK ρ' a' w' h' (fun i hi => (e' i (by omega)).trans (e1 i hi)) (by omega)
     | pan v s' => exact fun ρ' a' w' h' e' l' => hK ρ' a' w' h' (fun i hi => (e' i (by omega)).trans (e1 i hi)) (by omega))
    simpa using this
   | pan v s1 =>
    simp only [Yh] at hx
    subst hx
    exact hK
theorem wX (hT : bh P T) (hH : kK P H) {id : Nat} {ops : Array Oper} {Φ : an → St → Prop} {r : CM} (hx : eH T H ops.toList ops.toList s = some r)
  (hΦ : match r with | .go s' => Φ .normal s' | .pan v s' => Φ (.pan v) s') : AWP P (.region id ops false) s Φ := by
 intro w0 ρ a w h
 refine wp_region ?_
 have := zF (w0 := w0) hT hH (ops := ops) (Q := fun e a' w' => ∃ o s', Φ o s' ∧ dA w0 ρ s.mem.next o s' e a' w') ops.toList [] ρ s a w r (by simp) h hx (by
  cases r with
  | go s' => exact fun ρ' a' w' h' e' l' => ⟨.normal, s', hΦ, ⟨ρ', rfl, h', e', l', by simp⟩⟩
  | pan v s' => exact fun ρ' a' w' h' e' l' hv => ⟨.pan v, s', hΦ, ⟨ρ', rfl, h', e', l', by simpa using hv⟩⟩)
 rw [List.range_eq_range']
 simpa using this
theorem AWP.mono {c : Code} {Φ Ψ : an → St → Prop} (h : AWP P c s Φ) (hm : ∀ o s', Φ o s' → Ψ o s') : AWP P c s Ψ :=
 fun w0 ρ a w hr => wp_mono (h w0 ρ a w hr) fun _ _ _ ⟨o, s', h1, h2⟩ => ⟨o, s', hm o s' h1, h2⟩
theorem dA.trans {n : Nat} {o : an} {s1 s2 : St} {ρ1 : Nat → Loc} {e : Exit} {a' : Act} {w' : World} (hle : n ≤ s1.mem.next) (he : ∀ i, i < n → ρ1 i = ρ i)
  (h : dA w0 ρ1 s1.mem.next o s2 e a' w') : dA w0 ρ n o s2 e a' w' := by
 obtain ⟨ρ2, h1, h2, h3, h4, h5⟩ := h.out
 exact ⟨ρ2, h1, h2, fun i hi => (h3 i (by omega)).trans (he i hi), by omega, h5⟩
theorem SX {Φ : an → St → Prop} (h : Φ .normal s) : AWP P .skip s Φ := fun _ ρ _ _ hr => wp_skip ⟨.normal, s, h, ⟨ρ, rfl, hr, fun _ _ => rfl, Nat.le_refl _, by simp⟩⟩
theorem RK {l : Nat} {Φ : an → St → Prop} (h : Φ .normal s) : AWP P (.label l) s Φ := fun _ ρ _ _ hr => wp_label ⟨.normal, s, h, ⟨ρ, rfl, hr, fun _ _ => rfl, Nat.le_refl _, by simp⟩⟩
theorem SY {id : Nat} {Φ : an → St → Prop} (h : Φ (.exit id) s) : AWP P (.exit id) s Φ := fun _ ρ _ _ hr => wp_exit ⟨.exit id, s, h, ⟨ρ, rfl, hr, fun _ _ => rfl, Nat.le_refl _, by simp⟩⟩
theorem SZ {id : Nat} {Φ : an → St → Prop} (h : Φ (.goto id) s) : AWP P (.goto id) s Φ := fun _ ρ _ _ hr => wp_goto ⟨.goto id, s, h, ⟨ρ, rfl, hr, fun _ _ => rfl, Nat.le_refl _, by simp⟩⟩
theorem UU {Φ : an → St → Prop} (h : Φ .ret s) : AWP P .ret s Φ := fun _ ρ _ _ hr => wp_ret ⟨.ret, s, h, ⟨ρ, rfl, hr, fun _ _ => rfl, Nat.le_refl _, by simp⟩⟩
def an.andThen (Ψ : St → Prop) (Φ : an → St → Prop) : an → St → Prop
 | .normal, s => Ψ s
 | o, s => Φ o s
def an.inBlock (id : Nat) (Φ : an → St → Prop) : an → St → Prop
 | .exit id', s => if id' = id then Φ .normal s else Φ (.exit id') s
 | o, s => Φ o s
end
end Go.Ev
namespace Go.Ev
def Gb : Nat → Nat
 | 0 => 0
 | 1 => 1
 | _ => 2
theorem UV {n : Nat} (h : Gb n = 0) : n = 0 := by match n, h with | 0, _ => rfl | 1, h => cases h | n + 2, h => cases h
theorem UW {n : Nat} (h : Gb n ≠ 2) : n = 0 ∨ n = 1 := by match n, h with | 0, _ => exact .inl rfl | 1, _ => exact .inr rfl | n + 2, h => exact absurd rfl h
theorem Pg (n : Nat) : Gb n = 0 ∨ Gb n = 1 ∨ Gb n = 2 := by match n with | 0 => exact .inl rfl | 1 => exact .inr (.inl rfl) | n + 2 => exact .inr (.inr rfl)
def cu (pf : FuncId → Nat) : Op → Nat
 | .call { callee := .value (.func g), .. } => Gb (pf g)
 | .call { callee := .value (.tmp f), args := _, argTypes := ts } => cond (pV (.tmp f) ts.toList) 0 2
 | .move _ | .assign _ | .pick .. | .build .. | .unOp .. | .makeFunc .. | .fieldAddr .. | .field .. | .index .. | .extract .. | .nilCheck _ | .makeInterface .. => 0
 | .binOp _ _ x y _ => cond (pE x || pE y) 1 0
 | .convert src dst _ => cond (Nat.beq dst qR) 2 (cond (Nat.beq src qR) 1 0)
 | .load .. | .lookup .. | .indexAddr .. => 1
 | .call { callee := .builtin .len, .. } | .call { callee := .builtin .max, .. } | .call { callee := .builtin .min, .. } => 1
 | _ => 2
theorem Qy (pf : FuncId → Nat) (op : Op) : cu pf op = 0 ∨ cu pf op = 1 ∨ cu pf op = 2 := by
 have h2 : ∀ b : Bool, cond b 1 0 = 0 ∨ cond b 1 0 = 1 ∨ cond b 1 0 = 2 := by
  intro b
  cases b
  ·exact .inl rfl
  ·exact .inr (.inl rfl)
 have h3 : ∀ b c : Bool, cond b 2 (cond c 1 0) = 0 ∨ cond b 2 (cond c 1 0) = 1 ∨ cond b 2 (cond c 1 0) = 2 := by
  intro b c
  cases b
  ·exact h2 c
  ·exact .inr (.inr rfl)
 have h4 : ∀ b : Bool, cond b 0 2 = 0 ∨ cond b 0 2 = 1 ∨ cond b 0 2 = 2 := by
  intro b
  cases b
  ·exact .inr (.inr rfl)
  ·exact .inl rfl
 unfold cu
 split
 all_goals first
  | exact Pg _
  | exact h4 _
  | exact h2 _
  | exact h3 _ _
  | exact .inl rfl
  | exact .inr (.inl rfl)
  | exact .inr (.inr rfl)
def cA (pf : FuncId → Nat) (o : Oper) : Bool := cu pf o.op == 2
def J7 (acc : List Nat) (o : Oper) : Nat :=
 o.after.toList.foldl (fun s e => if Region.binds .any e then s ||| (1 <<< e.on) ||| acc.getD e.on 0 else s) 0
def bm : List Oper → List Nat → List Nat
 | [], acc => acc
 | o :: r, acc => bm r (acc ++ [J7 acc o])
def gC (xs : List Operand) : List Tmp := xs.filterMap fun
 | .tmp t => some t
 | _ => none
def mi (all : List Oper) (o : Oper) : List Tmp :=
 gC o.op.operands.toList ++ (match o.guard with
  | some (j, _) => ((all[j]?).bind (·.dst)).toList
  | none => [])
def anc (ms : List Nat) (j i : Nat) : Bool := (ms.getD i 0).testBit j
def t7 (all : List Oper) (ms : List Nat) : Bool :=
 all.zipIdx.all fun (oi, i) => all.zipIdx.all fun (oj, j) =>
  (i == j || (match oi.dst, oj.dst with | some d, some e => d != e | _, _ => true)) &&
  (i == j || (match oj.dst with | some d => !(mi all oi).contains d || (decide (j < i) && anc ms j i) || (decide (i < j) && anc ms i j) | none => true))
def mh (all : List Oper) : Bool := all.zipIdx.all fun (o, i) => o.after.toList.all fun e => !Region.binds .any e || decide (e.on < i)
def de (T : aA) (H : bW) (all : List Oper) (o : Oper) (s : St) : Option (ab × Mem) :=
 if gj all o s.tm then none else if bC all o s.tm then
  match aS T H o.op s.tm s.mem with
  | some (.val v, σ) => some (v, σ)
  | some (.skip, σ) => some (.tup [], σ)
  | _ => none
 else some (.tup [], s.mem)
def trace (T : aA) (H : bW) (all : List Oper) : List Oper → St → Option (List (St × ab) × St)
 | [], s => some ([], s)
 | o :: r, s => match de T H all o s with
  | some (v, σ) => match trace T H all r ⟨bO s.tm o.dst v, s.df, σ⟩ with
   | some (l, e) => some ((s, v) :: l, e)
   | none => none
  | none => none
def yB (pf : FuncId → Nat) (all : List Oper) : List Nat := 0 :: (all.zipIdx.filter fun x => cA pf x.1).map fun x => x.2 + 1
def qB (pf : FuncId → Nat) (all : List Oper) (ms : List Nat) (i c : Nat) : Bool :=
 all.zipIdx.any fun (o, q) => cA pf o && ((decide (c ≤ q) && anc ms q i) || (decide (q < c) && anc ms i q))
def J8 (pf : FuncId → Nat) (T : aA) (H : bW) (all : List Oper) (ms : List Nat) (mems : List Mem) (i : Nat) (o : Oper) (s : St) (v : ab) : Bool :=
  !(cu pf o.op == 1) || !(bC all o s.tm) || (yB pf all).all fun c => qB pf all ms i c ||
    (match mems[c]? with
     | some σ => match aS T H o.op s.tm σ with
       | some (.val u, _) => aeq u v
       | _ => false
     | none => false)
def ua (pf : FuncId → Nat) (T : aA) (H : bW) (all : List Oper) (ms : List Nat) (mems : List Mem) : List Oper → Nat → List (St × ab) → Bool
 | o :: r, i, (s, v) :: tr => J8 pf T H all ms mems i o s v && ua pf T H all ms mems r (i + 1) tr
 | _, _, _ => true
def eV (pf : FuncId → Nat) (H : bW) : Prop := (∀ g args σ r σ', pf g = 0 → H g args σ = some (r, σ') → σ' = σ ∧ (∃ v, r = .ret v) ∧ ∀ σ2, H g args σ2 = some (r, σ2)) ∧
 ∀ g args σ r σ', pf g = 1 → H g args σ = some (r, σ') → σ' = σ ∧ ∃ v, r = .ret v
theorem eV.two (H : bW) : eV (fun _ => 2) H := ⟨fun _ _ _ _ _ h => absurd (show 2 = 0 from h) (by decide), fun _ _ _ _ _ h => absurd (show 2 = 1 from h) (by decide)⟩
theorem eV.M2 {pf : FuncId → Nat} {H : bW} (h : eV pf H) {g : FuncId} {args : LA_} {σ σ' : Mem} {r : gy} (hk : pf g = 0 ∨ pf g = 1) (hh : H g args σ = some (r, σ')) : σ' = σ ∧ ∃ v, r = .ret v := by
 rcases hk with hk | hk
 ·obtain ⟨h1, h2, _⟩ := h.1 g args σ r σ' hk hh
  exact ⟨h1, h2⟩
 ·exact h.2 g args σ r σ' hk hh
section
variable {P : Program} {T : aA} {H : bW} {pf : FuncId → Nat}
theorem mj (hP : eV pf H) {op : Op} {tm : LA_} {σ σ' : Mem} {r : c9} (hk : cu pf op ≠ 2) (h : aS T H op tm σ = some (r, σ')) : σ' = σ ∧ ∃ v, r = .val v := by
 have p1 : ∀ {r1 : Option ab}, (r1.map fun v => ((c9.val v, σ) : c9 × Mem)) = some (r, σ') → σ' = σ ∧ ∃ v, r = .val v := by
  intro r1 h1
  cases r1 with
  | none => cases h1
  | some v => cases h1; exact ⟨rfl, v, rfl⟩
 cases op <;> simp only [aS] at h <;> first
  | exact p1 h
  | (split at h <;> first | exact p1 h | cases h)
  | skip
 case makeFunc fn fs cs =>
  cases fn <;> simp only [] at h <;> first
   | (split at h <;> first | (cases h; exact ⟨rfl, _, rfl⟩) | cases h)
   | cases h
 case call c =>
  obtain ⟨callee, args, argTypes⟩ := c
  cases callee with
  | invoke r m => cases h
  | value f =>
   cases f <;> first
    | exact absurd rfl hk
    | skip
   ·rename_i t
    simp only [cu] at hk
    simp only [] at h
    split at h
    ·cases hd : pV (.tmp t) argTypes.toList with
     | false => rw [hd] at hk; exact absurd rfl hk
     | true => rw [hd] at h; obtain ⟨h1, v, h2, _⟩ := uZ h; exact ⟨h1, v, h2⟩
    ·cases h
   rename_i g
   simp only [cu] at hk
   have hg := UW hk
   simp only [ev] at h
   split at h
   ·rename_i g' fs cs vs h1 _
    cases h1
    simp only [sI, pV, cond_false, io] at h
    split at h
    ·rename_i v σ1 hh
     cases h
     exact ⟨(hP.M2 hg hh).1, v, rfl⟩
    ·rename_i v σ1 hh
     obtain ⟨_, ⟨u, hu⟩⟩ := hP.M2 hg hh
     cases hu
    ·cases h
   ·cases h
  | builtin b =>
   simp only [] at h
   split at h
   ·unfold jN at h
    split at h
    ·exact p1 h
    ·exact absurd rfl hk
    ·exact absurd rfl hk
    ·exact p1 h
    ·exact p1 h
    ·cases h
   ·cases h
 all_goals exact absurd rfl hk
theorem Qz (hP : eV pf H) {op : Op} {tm : LA_} {σ σ' : Mem} {r : c9} (hk : cu pf op = 0) (h : aS T H op tm σ = some (r, σ')) (σ2 : Mem) : aS T H op tm σ2 = some (r, σ2) := by
 have p1 : ∀ {r1 : Option ab}, (r1.map fun v => ((c9.val v, σ) : c9 × Mem)) = some (r, σ') → (r1.map fun v => ((c9.val v, σ2) : c9 × Mem)) = some (r, σ2) := by
  intro r1 h1
  cases r1 with
  | none => cases h1
  | some v => cases h1; rfl
 cases op <;> simp only [aS] at h ⊢ <;> first
  | exact p1 h
  | (split at h <;> first | exact p1 h | cases h)
  | skip
 case binOp op t x y u =>
  have hn : (pE x || pE y) = false := by
   simp only [cu] at hk
   cases hb : pE x || pE y with
   | true => rw [hb] at hk; cases hk
   | false => rfl
  rw [hn] at h ⊢
  simp only [Fp, cond_false] at h ⊢
  split at h
  ·exact p1 h
  ·cases h
 case makeFunc fn fs cs =>
  cases fn <;> simp only [] at h ⊢ <;> first
   | (split at h <;> first | (cases h; rfl) | cases h)
   | cases h
 case call c =>
  obtain ⟨callee, args, argTypes⟩ := c
  cases callee with
  | invoke r m => cases h
  | value f =>
   cases f <;> first
    | (simp [cu] at hk; done)
    | skip
   ·rename_i t
    simp only [cu] at hk
    simp only [] at h ⊢
    split at h
    ·rename_i g vs h1 h2
     cases hd : pV (.tmp t) argTypes.toList with
     | false => rw [hd] at hk; cases hk
     | true =>
      rw [hd] at h
      obtain ⟨_, v, rfl, k1, k2, k3, k4⟩ := uZ h
      exact Ln k1 k2 k3 k4
    ·cases h
   rename_i g
   simp only [cu] at hk
   have hg := UV hk
   simp only [ev] at h ⊢
   split at h
   ·rename_i g' fs cs vs h1 hvs
    cases h1
    simp only [sI, pV, cond_false, io] at h ⊢
    split at h
    ·rename_i v σ1 hh
     cases h
     rw [(hP.1 _ _ _ _ _ hg hh).2.2 σ2]
    ·rename_i v σ1 hh
     obtain ⟨_, ⟨u, hu⟩, _⟩ := hP.1 _ _ _ _ _ hg hh
     cases hu
    ·cases h
   ·cases h
  | builtin b => cases b <;> simp [cu] at hk
 all_goals simp [cu] at hk
theorem IQ {tm tm' : LA_} {x : Operand} (h : ∀ t ∈ gC [x], tm[t]? = tm'[t]?) : ev tm x = ev tm' x := by
 cases x with
 | tmp t => simp only [ev, Yq, h t (by simp [gC])]
 | _ => rfl
theorem uw {x : Operand} {xs : List Operand} {t : Tmp} : t ∈ gC (x :: xs) ↔ t ∈ gC [x] ∨ t ∈ gC xs := by
 cases x <;> simp [gC]
theorem qV {tm tm' : LA_} : ∀ {xs : List Operand}, (∀ t ∈ gC xs, tm[t]? = tm'[t]?) → evL tm xs = evL tm' xs
 | [], _ => rfl
 | x :: xs, h => by
  simp only [evL, IQ fun t ht => h t (uw.2 (.inl ht)), qV fun t ht => h t (uw.2 (.inr ht))]
theorem Fz {tm tm' : LA_} : ∀ {xs : List (Nat × Operand)}, (∀ t ∈ gC (xs.map (·.2)), tm[t]? = tm'[t]?) → evP tm xs = evP tm' xs
 | [], _ => rfl
 | (i, x) :: xs, h => by
  simp only [evP]
  rw [IQ fun t ht => h t (uw.2 (.inl ht)), Fz fun t ht => h t (uw.2 (.inr ht))]
theorem J9 {xs : List Operand} {t : Tmp} (h : .tmp t ∈ xs) : t ∈ gC xs := List.mem_filterMap.2 ⟨_, h, rfl⟩
theorem Ph {op : Op} {tm tm' : LA_} {σ : Mem} (h : ∀ t ∈ gC op.operands.toList, tm[t]? = tm'[t]?) : aS T H op tm σ = aS T H op tm' σ := by
 have one : ∀ {x : Operand}, x ∈ op.operands.toList → ev tm x = ev tm' x := by
  intro x hx
  refine IQ fun t ht => h t ?_
  cases x <;> simp [gC] at ht
  subst ht
  exact J9 hx
 cases op <;> simp only [Op.operands] at h one <;> simp only [aS]
 case move x => rw [one (x := x) (by simp)]
 case assign x => rw [one (x := x) (by simp)]
 case pick c x y => rw [one (x := c) (by simp), one (x := x) (by simp), one (x := y) (by simp)]
 case box t x => rw [one (x := x) (by simp)]
 case build t ps => rw [Fz (tm' := tm') fun t ht => h t (by simpa using ht)]
 case buildSlice t n ps => rw [Fz (tm' := tm') fun t ht => h t (by simpa using ht)]
 case makeSlice t l c => rw [one (x := l) (by simp)]
 case load t x => rw [one (x := x) (by simp)]
 case store t x y => rw [one (x := x) (by simp), one (x := y) (by simp)]
 case binOp op t x y u => rw [one (x := x) (by simp), one (x := y) (by simp)]
 case unOp op t x => rw [one (x := x) (by simp)]
 case convert t u x => rw [one (x := x) (by simp)]
 case makeFunc fn fs cs =>
  have e1 := qV (tm := tm) (tm' := tm') (xs := fs.toList) fun t ht => h t (by rw [Array.toList_append]; simp only [gC, List.filterMap_append, YH]; exact .inl ht)
  have e2 := qV (tm := tm) (tm' := tm') (xs := cs.toList) fun t ht => h t (by rw [Array.toList_append]; simp only [gC, List.filterMap_append, YH]; exact .inr ht)
  cases fn <;> simp only [e1, e2]
 case makeMap t rs => cases rs <;> rfl
 case fieldAddr t x f => rw [one (x := x) (by simp)]
 case field t x f => rw [one (x := x) (by simp)]
 case indexAddr t x y => rw [one (x := x) (by simp), one (x := y) (by simp)]
 case index t x y => rw [one (x := x) (by simp), one (x := y) (by simp)]
 case lookup t x y ok => rw [one (x := x) (by simp), one (x := y) (by simp)]
 case mapUpdate t x y z => rw [one (x := x) (by simp), one (x := y) (by simp), one (x := z) (by simp)]
 case mapEntry t x y => rw [one (x := x) (by simp), one (x := y) (by simp)]
 case entryStore t x y z => rw [one (x := x) (by simp), one (x := y) (by simp), one (x := z) (by simp)]
 case extract x i => rw [one (x := x) (by simp)]
 case slice t x l hi m =>
  have e1 := one (x := x) (by simp)
  have e2 : ∀ {y : Option Operand}, (∀ z, y = some z → ev tm z = ev tm' z) → evO tm y = evO tm' y := by
   intro y hy
   cases y with
   | none => rfl
   | some z => simp only [evO, hy z rfl]
  cases m with
  | some m => rfl
  | none => simp only [e1, e2 (y := l) (fun z hz => one (by simp [hz])), e2 (y := hi) (fun z hz => one (by simp [hz]))]
 case range t x => rw [one (x := x) (by simp)]
 case entry x => rw [one (x := x) (by simp)]
 case next x b =>
  cases b <;> first
   | rfl
   | (simp only []; rw [one (x := x) (by simp)])
 case nilCheck x => rw [one (x := x) (by simp)]
 case makeInterface t x => rw [one (x := x) (by simp)]
 case typeAssert x t u ok => rw [one (x := x) (by simp)]
 case panic x => rw [one (x := x) (by simp)]
 case defer c =>
  obtain ⟨callee, args, argTypes⟩ := c
  cases callee with
  | invoke r m => rfl
  | builtin b => rfl
  | value f =>
   have e1 := qV (tm := tm) (tm' := tm') (xs := args.toList) fun t ht => h t (by simp only [Call.operands, Array.toList_append, gC, List.filterMap_append, YH]; exact .inr ht)
   have e2 := one (x := f) (by simp [Call.operands])
   simp only [e1, e2]
 case call c =>
  obtain ⟨callee, args, argTypes⟩ := c
  cases callee with
  | invoke r m => rfl
  | builtin b =>
   simp only [Call.operands, Array.empty_append] at h
   simp only [qV h]
  | value f =>
   have e1 := qV (tm := tm) (tm' := tm') (xs := args.toList) fun t ht => h t (by simp only [Call.operands, Array.toList_append, gC, List.filterMap_append, YH]; exact .inr ht)
   have e2 := one (x := f) (by simp [Call.operands])
   simp only [e1, e2]
theorem MQ {all : List Oper} {o : Oper} {tm tm' : LA_} (h : ∀ t ∈ mi all o, tm[t]? = tm'[t]?) : bC all o tm = bC all o tm' := by
 unfold bC
 unfold mi at h
 cases hg : o.guard with
 | none => rfl
 | some g =>
  obtain ⟨j, want⟩ := g
  rw [hg] at h
  simp only [] at h ⊢
  cases hd : (all[j]?).bind (·.dst) with
  | none => rfl
  | some d =>
   simp only []
   rw [h d (by simp [hd])]
theorem S4 {all : List Oper} {o : Oper} {tm tm' : LA_} (h : ∀ t ∈ mi all o, tm[t]? = tm'[t]?) : gj all o tm = gj all o tm' := by
 unfold gj
 unfold mi at h
 cases hg : o.guard with
 | none => rfl
 | some g =>
  obtain ⟨j, want⟩ := g
  rw [hg] at h
  simp only [] at h ⊢
  cases hd : (all[j]?).bind (·.dst) with
  | none => rfl
  | some d =>
   simp only []
   rw [h d (by simp [hd])]
theorem Ap {all : List Oper} {o : Oper} {tm tm' : LA_} {df df' : List qx} {σ : Mem} (h : ∀ t ∈ mi all o, tm[t]? = tm'[t]?) :
  de T H all o ⟨tm, df, σ⟩ = de T H all o ⟨tm', df', σ⟩ := by
 unfold de
 simp only [S4 h, MQ h, Ph (T := T) (H := H) (σ := σ) fun t ht => h t (by unfold mi; exact YH.2 (.inl ht))]
theorem CR : ∀ (l : List Oper) (acc : List Nat), (bm l acc).length = acc.length + l.length ∧ (∀ i, i < acc.length → (bm l acc)[i]? = acc[i]?) ∧
  ∀ i o, l[i]? = some o → (bm l acc)[acc.length + i]? = some (J7 ((bm l acc).take (acc.length + i)) o)
 | [], acc => by simp [bm]
 | o :: r, acc => by
  obtain ⟨h1, h2, h3⟩ := CR r (acc ++ [J7 acc o])
  simp only [bm]
  simp only [Yw, List.length_singleton] at h1 h2 h3
  refine ⟨by simp [h1]; omega, fun i hi => ?_, fun i o' hi => ?_⟩
  ·rw [h2 i (by omega), List.getElem?_append_left hi]
  ·cases i with
   | zero =>
    simp only [List.getElem?_cons_zero, Yh] at hi
    subst hi
    have e : (bm r (acc ++ [J7 acc o])).take acc.length = acc := by
     apply List.ext_getElem?
     intro k
     rw [List.getElem?_take]
     split
     ·rename_i hk; rw [h2 k (by omega), List.getElem?_append_left hk]
     ·rename_i hk; rw [List.getElem?_eq_none (by omega)]
    rw [Nat.add_zero, e, h2 acc.length (by omega), List.getElem?_append_right (Nat.le_refl _)]
    simp
   | succ i =>
    have := h3 i o' (by simpa using hi)
    rwa [show acc.length + 1 + i = acc.length + (i + 1) by omega] at this
theorem CS (acc : List Nat) (j : Nat) : ∀ (es : List Edge) (s : Nat), (es.foldl (fun s e => if Region.binds .any e then s ||| (1 <<< e.on) ||| acc.getD e.on 0 else s) s).testBit j = true →
  s.testBit j = true ∨ ∃ e ∈ es, Region.binds .any e = true ∧ (e.on = j ∨ (acc.getD e.on 0).testBit j = true)
 | [], s, h => .inl h
 | e :: es, s, h => by
  simp only [List.foldl_cons] at h
  rcases CS acc j es _ h with h | ⟨e', h1, h2, h3⟩
  ·split at h
   ·rename_i hb
    simp only [Nat.testBit_or, Bool.or_eq_true] at h
    rcases h with (h | h) | h
    ·exact .inl h
    ·refine .inr ⟨e, by simp, hb, .inl ?_⟩
     rw [Nat.one_shiftLeft, Nat.testBit_two_pow] at h
     simpa using h
    ·exact .inr ⟨e, by simp, hb, .inr h⟩
   ·exact .inl h
  ·exact .inr ⟨e', by simp [h1], h2, h3⟩
def nG (all : List Oper) (L : Nat → Bool) : Prop := ∀ i o, all[i]? = some o → L i = true → ∀ e ∈ o.after, Region.binds .any e = true → L e.on = true
theorem lI {all : List Oper} (he : mh all = true) {L : Nat → Bool} (hc : nG all L) : ∀ (n i : Nat) (o : Oper), i ≤ n → all[i]? = some o →
  (∀ e ∈ o.after, Region.binds .any e = true → L e.on = true) → ∀ j, anc (bm all []) j i = true → L j = true := by
 intro n
 induction n with
 | zero =>
  intro i o hi ho hr j hj
  obtain rfl : i = 0 := by omega
  obtain ⟨_, _, h3⟩ := CR all []
  have hm := h3 0 o ho
  simp only [List.length_nil, Nat.zero_add, List.take_zero] at hm
  simp only [anc, Yq, hm, Option.getD_some] at hj
  rcases CS _ j _ _ hj with h | ⟨e, h1, h2, h4⟩
  ·simp at h
  ·have := Ka he ho h1 h2
   omega
 | succ n ih =>
  intro i o hi ho hr j hj
  obtain ⟨_, _, h3⟩ := CR all []
  have hm := h3 i o ho
  simp only [List.length_nil, Nat.zero_add] at hm
  simp only [anc, Yq, hm, Option.getD_some] at hj
  rcases CS _ j _ _ hj with h | ⟨e, h1, h2, h4⟩
  ·simp at h
  ·have hlt := Ka he ho h1 h2
   have hl := hr e (Array.mem_def.2 h1) h2
   rcases h4 with h4 | h4
   ·exact h4 ▸ hl
   ·have hil : i < all.length := (Yr.1 ho).1
    have hoe : all[e.on]? = some all[e.on] := Yp (by omega)
    refine ih e.on all[e.on] (by omega) hoe (hc e.on _ hoe hl) j ?_
    simp only [anc, Yq]
    rw [Yq, List.getElem?_take, if_pos hlt] at h4
    exact h4
where
 Ka {all : List Oper} (he : mh all = true) {i : Nat} {o : Oper} (ho : all[i]? = some o) {e : Edge} (h1 : e ∈ o.after.toList) (h2 : Region.binds .any e = true) : e.on < i := by
  unfold mh at he
  rw [List.all_eq_true] at he
  have := he (o, i) (YG.2 ho)
  simp only [List.all_eq_true] at this
  have := this e h1
  simpa [h2] using this
theorem yC {all : List Oper} (he : mh all = true) {i : Nat} {o : Oper} (ho : all[i]? = some o) {e : Edge} (h1 : e ∈ o.after) (h2 : Region.binds .any e = true) : e.on < i := by
 unfold mh at he
 rw [List.all_eq_true] at he
 have := he (o, i) (YG.2 ho)
 simp only [List.all_eq_true] at this
 have := this e (Array.mem_def.1 h1)
 simpa [h2] using this
theorem ub {all : List Oper} {ms : List Nat} (h : t7 all ms = true) {i j : Nat} {oi oj : Oper} (hi : all[i]? = some oi) (hj : all[j]? = some oj) :
  (i ≠ j → ∀ d e, oi.dst = some d → oj.dst = some e → d ≠ e) ∧
  (i ≠ j → ∀ d, oj.dst = some d → d ∈ mi all oi → (j < i ∧ anc ms j i = true) ∨ (i < j ∧ anc ms i j = true)) := by
 unfold t7 at h
 rw [List.all_eq_true] at h
 have h := h (oi, i) (YG.2 hi)
 rw [List.all_eq_true] at h
 have h := h (oj, j) (YG.2 hj)
 simp only [Yi, Bool.or_eq_true, beq_iff_eq] at h
 obtain ⟨h1, h2⟩ := h
 refine ⟨fun hne d e hd he => ?_, fun hne d hd hm => ?_⟩
 ·rcases h1 with h1 | h1
  ·exact absurd h1 hne
  ·rw [hd, he] at h1; simpa using h1
 ·rcases h2 with h2 | h2
  ·exact absurd h2 hne
  ·rw [hd] at h2
   simp only [Bool.or_eq_true, Yi, Yo, Bool.not_eq_true', List.contains_eq_mem] at h2
   rcases h2 with (h2 | h2) | h2
   ·simp [hm] at h2
   ·exact .inl h2
   ·exact .inr h2
end
end Go.Ev
namespace Go.Ev
def Ext (σ σ' : Mem) : Prop := σ.next ≤ σ'.next ∧ ∀ i, i < σ.next → σ'.get i = σ.get i
theorem Ext.refl (σ : Mem) : Ext σ σ := ⟨Nat.le_refl _, fun _ _ => rfl⟩
theorem Ext.trans {a b c : Mem} (h : Ext a b) (k : Ext b c) : Ext a c := ⟨Nat.le_trans h.1 k.1, fun i hi => (k.2 i (Nat.lt_of_lt_of_le hi h.1)).trans (h.2 i hi)⟩
theorem Ext.push (σ : Mem) (b : aq) : Ext σ (σ.push b) := ⟨by simp, fun i hi => by rw [cf, if_neg (by omega)]⟩
def CV : Option (c9 × Mem) → Option ab
 | some (.val v, _) => some v
 | some (.skip, _) => some (.tup [])
 | _ => none
def Uh : Op → Bool
 | .call { callee := .value _, .. } => true
 | _ => false
section
variable {T : aA}
def zJ (p : Nat → Bool) : ab → Bool
 | .ptr i _ | .slice i _ _ _ _ | .vec i | .map i | .emp i => p i
 | _ => true
def IU (op : Op) (tm : LA_) (p : Nat → Bool) : Bool := !Uh op && (gC op.operands.toList).all fun t => zJ p (tm.getD t (.tup []))
theorem Pk {p : Nat → Bool} {c : Value} {v : ab} (h : ofV c = some v) : zJ p v = true := by
 unfold ofV at h
 split at h <;> first
  | (cases h; rfl)
  | cases h
theorem xh {op : Op} {tm : LA_} {p : Nat → Bool} (h : IU op tm p = true) {x : Operand} (hx : x ∈ op.operands.toList) {v : ab} (hv : ev tm x = some v) : zJ p v = true := by
 cases x with
 | tmp t =>
  simp only [ev, Yh] at hv
  subst hv
  exact (List.all_eq_true.1 (Bool.and_eq_true_iff.1 h).2) t (J9 hx)
 | const c => exact Pk hv
 | func f => simp only [ev, Yh] at hv; subst hv; rfl
 | global g => simp [ev] at hv
theorem Oq {σ σ' : Mem} {b o n : Nat} (h : σ'.get b = σ.get b) : cF σ' b o n = cF σ b o n := by simp only [cF, h]
theorem QC {σ σ' : Mem} {t : TypeId} {x : ab} {p : Nat → Bool} (hs : zJ p x = true) (hg : ∀ i, p i = true → σ'.get i = σ.get i) : sE T σ' t x = sE T σ t x := by
 unfold sE
 split
 ·rename_i i b o ht
  rw [Oq (hg b hs)]
 ·rfl
theorem Kg {σ σ' : Mem} {x : ab} {p : Nat → Bool} (hs : zJ p x = true) (hg : ∀ i, p i = true → σ'.get i = σ.get i) : km σ' x = km σ x := by
 unfold km
 split
 ·rename_i i
  rw [hg i hs]
 ·rfl
theorem Or {σ σ' : Mem} {t : TypeId} {x k : ab} {ok : Bool} {p : Nat → Bool} (hs : zJ p x = true) (hg : ∀ i, p i = true → σ'.get i = σ.get i) : xc T σ' t x k ok = xc T σ t x k ok := rfl
theorem Kh {σ σ' : Mem} {t : TypeId} {x k : ab} {p : Nat → Bool} (hs : zJ p x = true) (hg : ∀ i, p i = true → σ'.get i = σ.get i) : ge T σ' t x k = ge T σ t x k := by
 unfold ge
 split
 ·rw [hg _ hs]
 all_goals rfl
theorem RU {σ σ' : Mem} {t : TypeId} {x : ab} {p : Nat → Bool} (hs : zJ p x = true) (hg : ∀ i, p i = true → σ'.get i = σ.get i) : Lj T σ' t x = Lj T σ t x := by
 unfold Lj
 split
 ·rfl
 ·split <;> first
   | rfl
   | rw [hg _ hs]
theorem jG {σ : Mem} {r : Option ab} : CV (r.map fun v => ((c9.val v, σ) : c9 × Mem)) = r := by cases r <;> rfl
theorem PJ {pf : FuncId → Nat} {H : bW} {op : Op} {tm : LA_} {σ σ' : Mem} {p : Nat → Bool} (hk : cu pf op = 1) (hg : ∀ i, p i = true → σ'.get i = σ.get i) (hs : IU op tm p = true) : CV (aS T H op tm σ') = CV (aS T H op tm σ) := by
 cases op <;> simp only [cu] at hk <;> first | (cases hk; done) | skip
 case binOp o t x y u =>
  simp only [aS]
  cases hx : ev tm x with
  | none => rfl
  | some a =>
   cases hy : ev tm y with
   | none => rfl
   | some b =>
    simp only [jG, Fp, Fo, Kg (xh hs (by simp [Op.operands]) hx) hg, Kg (xh hs (by simp [Op.operands]) hy) hg]
 case convert src dst x =>
  have hd : Nat.beq dst qR = false := by
   cases hb : Nat.beq dst qR with
   | true => rw [hb] at hk; cases hk
   | false => rfl
  have hsr : Nat.beq src qR = true := by
   rw [hd] at hk
   cases hb : Nat.beq src qR with
   | true => rfl
   | false => rw [hb] at hk; cases hk
  simp only [aS, hd, hsr]
  cases hx : ev tm x with
  | none => rfl
  | some a => simp only [jG, zA]
 case load t x =>
  simp only [aS]
  cases hx : ev tm x with
  | none => rfl
  | some a => simp only [jG]; exact QC (xh hs (by simp [Op.operands]) hx) hg
 case indexAddr t x i =>
  simp only [aS]
  cases hx : ev tm x with
  | none => rfl
  | some a =>
   cases hi : ev tm i with
   | none => rfl
   | some b => simp only [jG]; exact Kh (xh hs (by simp [Op.operands]) hx) hg
 case lookup t x i ok =>
  simp only [aS]
  cases hx : ev tm x with
  | none => rfl
  | some a =>
   cases hi : ev tm i with
   | none => rfl
   | some b => simp only [jG]; exact Or (xh hs (by simp [Op.operands]) hx) hg
 case call c =>
  obtain ⟨callee, args, argTypes⟩ := c
  cases callee with
  | invoke r m => simp [cu] at hk
  | value f => simp [IU, Uh] at hs
  | builtin b =>
   simp only [aS]
   cases hv : evL tm args.toList with
   | none => rfl
   | some vs =>
    have hk' : b = .len ∨ b = .max ∨ b = .min := by cases b <;> simp_all [cu]
    simp only [jN]
    split
    ·rename_i t ts x xs hts
     simp only [jG]
     have hx : ∃ o ∈ args.toList, ev tm o = some x := by
      cases ha : args.toList with
      | nil => rw [ha] at hv; simp [evL] at hv
      | cons o l =>
       rw [ha] at hv
       simp only [evL] at hv
       split at hv
       ·rename_i v us h1 h2
        simp only [Yh, List.cons.injEq] at hv
        exact ⟨o, List.mem_cons_self .., by rw [h1, hv.1]⟩
       ·cases hv
     obtain ⟨o, ho, hox⟩ := hx
     refine RU (xh hs ?_ hox) hg
     simp only [Op.operands, Call.operands, Array.toList_append, YH]
     exact .inr ho
    ·rcases hk' with h | h | h <;> cases h
    ·rcases hk' with h | h | h <;> cases h
    ·simp only [jG]
    ·simp only [jG]
    ·rfl
end
def pY (pf : FuncId → Nat) (all : List Oper) (ms : List Nat) : List Nat :=
 (List.range all.length).filter fun i => match all[i]? with
  | some oi => cA pf oi && all.zipIdx.any fun (oj, j) => cA pf oj && (i != j && !(anc ms (min i j) (max i j)))
  | none => false
def Tb (o : Oper) : Bool := (match o.op with
 | .alloc _ => true
 | _ => false) && o.guard.isNone && o.dst.isSome
def S5 (all : List Oper) (g : List Nat) : Bool := g.all fun i => match all[i]? with
 | some o => Tb o
 | none => false
def Wf (σ : Mem) (b : Nat) : Option Nat := match σ.get b with
 | some (.vec _ l _ _) => some l
 | _ => none
mutual
def rn (f : Nat → Nat) : ab → ab
 | .bool b => .bool b
 | .int k n => .int k n
 | .str s => .str s
 | .ptr i o => .ptr (f i) o
 | .eZ => .eZ
 | .slice i o l e c => .slice (f i) o l e c
 | .aM => .aM
 | .emp i => .emp (f i)
 | .map i => .map (f i)
 | .fM => .fM
 | .func g fs cs => .func g (rnL f fs) (rnL f cs)
 | .cR => .cR
 | .iface t v => .iface t (rn f v)
 | .dN => .dN
 | .agg cs => .agg (rnL f cs)
 | .tup vs => .tup (rnL f vs)
 | .dK i => .dK (f i)
 | .vec i => .vec (f i)
def rnL (f : Nat → Nat) : LA_ → LA_
 | [] => []
 | v :: vs => rn f v :: rnL f vs
end
mutual
theorem M3 (ρ : Nat → Loc) (f : Nat → Nat) : ∀ v, γ ρ (rn f v) = γ (fun i => ρ (f i)) v
 | .bool _ | .int _ _ | .str _ | .ptr _ _ | .eZ | .slice _ _ _ _ _ | .aM | .emp _ | .map _ | .fM | .cR | .dN | .dK _ | .vec _ => by simp [rn, γ]
 | .func g x y => by simp only [rn, γ, vh ρ f x, vh ρ f y]
 | .iface t v => by simp only [rn, γ, M3 ρ f v]
 | .agg x => by simp only [rn, γ, vh ρ f x]
 | .tup x => by simp only [rn, γ, vh ρ f x]
theorem vh (ρ : Nat → Loc) (f : Nat → Nat) : ∀ l, γL ρ (rnL f l) = γL (fun i => ρ (f i)) l
 | [] => by simp [rnL, γL]
 | v :: vs => by simp only [rnL, γL, M3 ρ f v, vh ρ f vs]
end
theorem CZ (f : Nat → Nat) : ∀ l, (rnL f l).length = l.length
 | [] => rfl
 | v :: vs => by simp [rnL, CZ f vs]
def rnB (f : Nat → Nat) : aq → aq
 | .cells cs own gr => .cells (rnL f cs) own gr
 | .iter m a b c => .iter (f m) a b c
 | b => b
mutual
theorem J0 {f : Nat → Nat} {n : Nat} (hf : ∀ i, i < n → f i = i) : ∀ v, sc n v = true → rn f v = v
 | .bool _, _ | .int _ _, _ | .str _, _ | .eZ, _ | .aM, _ | .fM, _ | .cR, _ | .dN, _ => rfl
 | .ptr i o, h | .slice i o l e c, h | .map i, h | .emp i, h | .dK i, h | .vec i, h => by
  simp only [sc, Yo] at h
  simp only [rn, hf i h]
 | .func g x y, h => by simp only [sc, Yi] at h; simp only [rn, Gd hf x h.1, Gd hf y h.2]
 | .iface t v, h => by simp only [sc] at h; simp only [rn, J0 hf v h]
 | .agg x, h => by simp only [sc] at h; simp only [rn, PK hf x h]
 | .tup x, h => by simp only [sc] at h; simp only [rn, Gd hf x h]
theorem Gd {f : Nat → Nat} {n : Nat} (hf : ∀ i, i < n → f i = i) : ∀ l, scL n l = true → rnL f l = l
 | [], _ => rfl
 | v :: vs, h => by simp only [scL, Yi] at h; simp only [rnL, J0 hf v h.1, Gd hf vs h.2]
theorem PK {f : Nat → Nat} {n : Nat} (hf : ∀ i, i < n → f i = i) : ∀ l, scC n l = true → rnL f l = l
 | [], _ => rfl
 | v :: vs, h => by simp only [scC, Yi] at h; simp only [rnL, J0 hf v h.1.2, PK hf vs h.2]
end
theorem vf (f : Nat → Nat) (b : aq) : (rnB f b).alive = b.alive := by cases b <;> rfl
theorem vg (f : Nat → Nat) (b : aq) : (rnB f b).owned = b.owned := by cases b <;> rfl
theorem RQ {ρ : Nat → Loc} {f : Nat → Nat} {n : Nat} {L : Loc} {w : World} : ∀ {b : aq}, scB n (rnB f b) = true → BOk ρ L w (rnB f b) → BOk (fun i => ρ (f i)) L w b
 | .cells cs own gr, _, h => by
  obtain ⟨c, e, fz, h1, ⟨pre, post, h2, h3⟩, h4, h5⟩ := h
  rw [vh] at h2
  rw [CZ] at h5
  exact ⟨c, e, fz, h1, ⟨pre, post, h2, h3⟩, h4, h5⟩
 | .vec cs n sz own, hs, h => cG (n := 0) (fun i hi => by omega) rfl (.vec cs n sz own) hs h
 | .map es clock, hs, h => cG (n := 0) (fun i hi => by omega) rfl (.map es clock) hs h
 | .iter m since seen last, _, h => ⟨h.1, h.2⟩
 | .kI, _, h => h
 | .cB _ _, _, h => h
 | .dead, _, _ => trivial
theorem bJ.ren {w0 : W0} {ρ : Nat → Loc} {s s' : St} {a : Act} {w : World} (hr : bJ w0 ρ s a w) {f : Nat → Nat} {n : Nat}
  (htm : s.tm = rnL f s'.tm) (hsc : scL s'.mem.next s'.tm = true) (hdf : s'.df = s.df) (hdsc : ∀ d ∈ s.df, scL n d.cap = true ∧ scL n d.args = true) (hn : n ≤ s'.mem.next)
  (hfix : ∀ i, i < n → f i = i) (hinj : ∀ i j, i < s'.mem.next → j < s'.mem.next → f i = f j → i = j)
  (hb : ∀ i b, s'.mem.get i = some b → i < s'.mem.next ∧ s.mem.get (f i) = some (rnB f b) ∧ scB s'.mem.next b = true) : bJ w0 (fun i => ρ (f i)) s' a w := by
 have R := hr.rel
 refine ⟨⟨fun i b hi => (hb i b hi).1, fun i b hi => (hb i b hi).2.2, ?_, ?_, ?_, ?_, R.os, R.tape, R.output, R.size, R.old⟩, ?_, hsc, ?_, ?_⟩
 ·intro i b hi
  obtain ⟨_, q2, _⟩ := hb i b hi
  exact RQ (R.sco _ _ q2) (R.ok _ _ q2)
 ·intro i b hi ha
  obtain ⟨_, q2, _⟩ := hb i b hi
  exact R.inb _ _ q2 (by rw [vf]; exact ha)
 ·intro i j bi bj hi hj hij hoi haj
  obtain ⟨q1, q2, _⟩ := hb i bi hi
  obtain ⟨p1, p2, _⟩ := hb j bj hj
  exact R.ap _ _ _ _ q2 p2 (fun e => hij (hinj i j q1 p1 e)) (by rw [vg]; exact hoi) (by rw [vf]; exact haj)
 ·intro i b hi ho
  obtain ⟨_, q2, _⟩ := hb i b hi
  exact R.own _ _ q2 (by rw [vg]; exact ho)
 ·rw [hr.tm, htm, vh]
 ·rw [hr.df, hdf]
  apply List.map_congr_left
  intro d hd
  have h2 := hdsc d hd
  simp only [γD, cU (ρ := ρ) (ρ' := fun i => ρ (f i)) (n := n) (fun i hi => by rw [hfix i hi]) _ h2.1, cU (ρ := ρ) (ρ' := fun i => ρ (f i)) (n := n) (fun i hi => by rw [hfix i hi]) _ h2.2]
 ·intro d hd
  rw [hdf] at hd
  exact ⟨cv hn _ (hdsc d hd).1, cv hn _ (hdsc d hd).2⟩
end Go.Ev
