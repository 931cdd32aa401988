import Derived.Test.YtbmjabafceihgaaKaa
import Derived.Laws.IdiomStrings
import Derived.MapKept
set_option linter.unusedVariables false
set_option linter.unusedSimpArgs false
set_option maxRecDepth 100000
noncomputable section
namespace Go.Ev
section
variable {P : Program} {T : ar} {ρ : Nat → Loc} {w0 : W0} {w : World} {σ : Mem}
theorem lH {b i : Nat} {B x : am} (hi : ((σ.set b .dead).push B).get i = some x) :
  (i = σ.next ∧ x = B) ∨ (i ≠ σ.next ∧ i = b ∧ x = .dead) ∨ (i ≠ σ.next ∧ i ≠ b ∧ σ.get i = some x) := by
 rw [bU, aT, el] at hi
 by_cases e : σ.next = i
 ·rw [if_pos e] at hi; exact .inl ⟨e.symm, (Option.some.inj hi).symm⟩
 ·rw [if_neg e] at hi
  by_cases e2 : b = i
  ·rw [if_pos e2] at hi; exact .inr (.inl ⟨fun q => e q.symm, e2.symm, (Option.some.inj hi).symm⟩)
  ·rw [if_neg e2] at hi; exact .inr (.inr ⟨fun q => e q.symm, fun q => e2 q.symm, hi⟩)
theorem Rel.rename (h : Rel w0 ρ σ w) {b g o c : Nat} {bs : LA_} (hg : σ.get b = some (.cells bs true (some g))) (ho : o ≤ bs.length) (hoc : o = c * g) (hg0 : g ≠ 0) :
  Rel w0 (upd ρ σ.next (Loc.mk3 ((ρ b).blk) ((ρ b).base + o) ((ρ b).dS - c))) ((σ.set b .dead).push (.cells (bs.drop o) true (some g))) w := by
 have hgt : ∀ i x, ((σ.set b .dead).push (.cells (bs.drop o) true (some g))).get i = some x →
   (i = σ.next ∧ x = .cells (bs.drop o) true (some g)) ∨ (i ≠ σ.next ∧ i = b ∧ x = .dead) ∨ (i ≠ σ.next ∧ i ≠ b ∧ σ.get i = some x ∧ i < σ.next) := by
  intro i x hi
  rcases lH hi with h1 | h1 | ⟨h1, h2, h3⟩
  ·exact .inl h1
  ·exact .inr (.inl h1)
  ·exact .inr (.inr ⟨h1, h2, h3, h.lt i x h3⟩)
 have hρ : ∀ i, i < σ.next → upd ρ σ.next (Loc.mk3 ((ρ b).blk) ((ρ b).base + o) ((ρ b).dS - c)) i = ρ i := fun i hi => dU hi
 have hbn : b < σ.next := h.lt b _ hg
 have hsb := h.sco b _ hg
 simp only [scB] at hsb
 refine ⟨?_, ?_, ?_, ?_, ?_, ?_, h.os, h.tape, h.output, h.size, h.old⟩
 ·intro i x hi
  simp only [dJ, el]
  rcases hgt i x hi with ⟨e, _⟩ | ⟨_, e, _⟩ | ⟨_, _, _, e⟩ <;> omega
 ·intro i x hi
  simp only [dJ, el]
  rcases hgt i x hi with ⟨_, rfl⟩ | ⟨_, _, rfl⟩ | ⟨_, _, e, _⟩
  ·exact fS (Nat.le_succ _) _ (rx hsb)
  ·rfl
  ·exact fU (Nat.le_succ _) _ (h.sco i x e)
 ·intro i x hi
  rcases hgt i x hi with ⟨rfl, rfl⟩ | ⟨_, _, rfl⟩ | ⟨_, _, e, e2⟩
  ·rw [bw]
   obtain ⟨cc, e, fz, h1, ⟨pre, post, h2, h3⟩, h4, h5⟩ := h.ok b _ hg
   obtain ⟨_, h6, h7⟩ := h5 g rfl
   refine ⟨cc, e, fz, h1, ⟨pre ++ γL ρ (bs.take o), post, ?_, ?_⟩, h4, ?_⟩
   ·rw [ix hρ _ (rx hsb), h2]
    simp only [UV, zR, zS]
    rw [← UV ((γL ρ bs).take o), List.take_append_drop]
   ·simp [h3]; omega
   ·intro g' hg'
    cases hg'
    have hc : c ≤ (ρ b).dS := by
     rcases Nat.lt_or_ge (ρ b).dS c with hlt | hge
     ·have := Nat.mul_lt_mul_of_pos_right hlt (Nat.pos_of_ne_zero hg0); omega
     ·exact hge
    have hcg := Nat.mul_le_mul_right g hc
    refine ⟨rfl, ?_, ?_⟩
    ·show (ρ b).base + o + ((ρ b).dS - c) * g ≤ cc.size
     rw [Nat.sub_mul]
     omega
    ·show (bs.drop o).length ≤ ((ρ b).dS - c) * g
     rw [Nat.sub_mul, List.length_drop]
     omega
  ·trivial
  ·rw [hρ i e2]; exact cr hρ rfl x (h.sco i x e) (h.ok i x e)
 ·intro i x hi ha
  rcases hgt i x hi with ⟨rfl, rfl⟩ | ⟨_, _, rfl⟩ | ⟨_, _, e, e2⟩
  ·rw [bw]; exact h.inb b _ hg rfl
  ·simp [am.alive] at ha
  ·rw [hρ i e2]; exact h.inb i x e ha
 ·intro i j x y hi hj hij hox hay
  rcases hgt i x hi with ⟨rfl, rfl⟩ | ⟨_, _, rfl⟩ | ⟨_, i1, e, e2⟩
  ·rcases hgt j y hj with ⟨rfl, rfl⟩ | ⟨_, _, rfl⟩ | ⟨_, j1, f, f2⟩
   ·exact absurd rfl hij
   ·simp [am.alive] at hay
   ·rw [bw, hρ j f2]; exact h.ap b j _ y hg f (Ne.symm j1) rfl hay
  ·simp [am.owned] at hox
  ·rcases hgt j y hj with ⟨rfl, rfl⟩ | ⟨_, _, rfl⟩ | ⟨_, j1, f, f2⟩
   ·rw [bw, hρ i e2]; exact h.ap i b x _ e hg i1 hox rfl
   ·simp [am.alive] at hay
   ·rw [hρ i e2, hρ j f2]; exact h.ap i j x y e f hij hox hay
 ·intro i x hi ho
  rcases hgt i x hi with ⟨rfl, rfl⟩ | ⟨_, _, rfl⟩ | ⟨_, _, e, e2⟩
  ·rw [bw]; exact h.own b _ hg rfl
  ·simp [am.owned] at ho
  ·rw [hρ i e2]; exact h.own i x e ho
theorem Rel.MA (h : Rel w0 ρ σ w) {b g : Nat} {bs ds : LA_} (hg : σ.get b = some (.cells bs true (some g))) (hs : scC σ.next ds = true)
  (hroom : bs.length + ds.length ≤ (ρ b).dS * g) :
  ∃ w', (storeCells ⟨(ρ b).blk, (ρ b).base + bs.length, none⟩ (γL ρ ds)).run P w = .ok () w' ∧ Rel w0 ρ (σ.set b (.cells (bs ++ ds) true (some g))) w' := by
 obtain ⟨c, e, fz, h1, ⟨pre, post, h2, h3⟩, h4, h5⟩ := h.ok b _ hg
 have hz := h4 rfl
 obtain ⟨_, h6, h7⟩ := h5 g rfl
 have hcl : c.size = pre.length + bs.length + post.length := by
  have := congrArg List.length h2
  simp at this; omega
 have hst := iy (P := P) (ρ b).blk ((ρ b).base + bs.length) e fz (γL ρ ds) 0 c w h1 hz (by rw [aU]; omega)
  (fun v hv => by
   rw [gY] at hv
   obtain ⟨u, hu, rfl⟩ := List.mem_map.1 hv
   exact zU ((fe _ _).1 hs u hu).1)
 refine ⟨_, hst, ?_⟩
 have hsb := h.sco b _ hg
 simp only [scB] at hsb
 refine h.set hg rfl (d9.2 ⟨hsb, hs⟩) ?_ (by simp [World.setRow]) (fun k hk => setRow_other w _ k _ hk) rfl rfl rfl
 refine ⟨_, e, fz, setRow_heap w _ c _ e _ h1, ⟨pre, post.drop ds.length, ?_, h3⟩, fun _ => ?_, ?_⟩
 ·simp only [cz, Nat.add_zero]
  rw [h2, aU, ← h3]
  have e1 : (pre ++ γL ρ bs ++ post).take (pre.length + bs.length) = pre ++ γL ρ bs := by
   rw [List.take_append_of_le_length (by simp), List.take_of_length_le (by simp)]
  have e2 : (pre ++ γL ρ bs ++ post).drop (pre.length + bs.length + ds.length) = post.drop ds.length := by
   rw [List.drop_append, List.drop_of_length_le (by simp), List.nil_append]
   congr 1; simp
  rw [e1, e2]
  simp only [UV]
 ·have e0 : (List.take ((ρ b).base + bs.length + 0) c.toList ++ γL ρ ds ++ List.drop ((ρ b).base + bs.length + 0 + (γL ρ ds).length) c.toList).toArray.size = c.size := by
   simp only [List.size_toArray, UQ, List.length_take, List.length_drop, Array.length_toList, aU, Nat.add_zero]; omega
  rw [e0]
  exact hz
 ·intro g' hgr
  cases hgr
  refine ⟨rfl, ?_, ?_⟩
  ·simp only [List.size_toArray, UQ, List.length_take, List.length_drop, Array.length_toList, aU, Nat.add_zero]; omega
  ·simp only [UQ]; omega
theorem lI (h : Rel w0 ρ σ w) (hT : aZ P T) {t u e : TypeId} {i j k : TyI} (ht : T t = some i) (hik : i.k = .slice e) (he : T e = some j) (hu : T u = some k)
  {e' : TypeId} (hkk : k.k = .slice e') {s x : ab} {ds : LA_} {l m : Nat} {base : Option Addr} {cap : Nat} (hs : γ ρ s = .slice base l cap)
  (hds : bN σ j.size x = some (ds, m)) (hcap : l + m ≤ cap) {w' : World}
  (hst : (base.elim (pure ()) fun a => storeCells (a.add (l * j.size)) (γL ρ ds) : Sem Unit).run P w = .ok () w') (ty : TypeId) :
  (Builtin.append_ #[t, u] ty #[γ ρ s, γ ρ x]).run P w = .ok (.slice base (l + m) cap) w' := by
 have kt := (hT _ _ ht).k; rw [hik] at kt; simp only [KOk] at kt
 have ku := (hT _ _ hu).k; rw [hkk] at ku; simp only [KOk] at ku
 obtain ⟨b1, b2, b3, b4⟩ := fx (P := P) h hds
 rw [hs]
 simp only [Builtin.append_, List.getElem?_toArray, List.getElem?_cons_zero, List.getElem?_cons_succ, UO, run_underlying kt, run_underlying ku, UN, (hT _ _ he).dt,
  UP, Sem.run_ite, UE, if_false, b1, if_pos hcap, Bool.not_false, if_true, b2]
 cases base with
 | none =>
  simp only [Option.elim, UP, Result.ok.injEq, true_and] at hst ⊢
  rw [hst]
 | some a =>
  simp only [Option.elim] at hst
  simp only [UO, hst, UN, UP]
theorem Rel.name (h : Rel w0 ρ σ w) {B : am} {L : Loc} (hs : scB σ.next B = true) (hb : BOk ρ L w B) (hin : B.alive = true → L.blk < w.heap.size)
  (ho : B.owned = true → ¬ w0.fG L.blk ∧ ∀ j bj, σ.get j = some bj → bj.alive = true → (ρ j).blk ≠ L.blk)
  (ha : B.alive = true → ∀ j bj, σ.get j = some bj → bj.owned = true → (ρ j).blk ≠ L.blk) : Rel w0 (upd ρ σ.next L) (σ.push B) w := by
 have hρ : ∀ i, i < σ.next → upd ρ σ.next L i = ρ i := fun i hi => dU hi
 have cases' : ∀ i b, (σ.push B).get i = some b → (i = σ.next ∧ b = B) ∨ (i < σ.next ∧ σ.get i = some b) := by
  intro i b hi
  rw [bU] at hi
  by_cases e : σ.next = i
  ·rw [if_pos e] at hi; exact .inl ⟨e.symm, (Option.some.inj hi).symm⟩
  ·rw [if_neg e] at hi; exact .inr ⟨h.lt i b hi, hi⟩
 refine ⟨?_, ?_, ?_, ?_, ?_, ?_, h.os, h.tape, h.output, h.size, h.old⟩
 ·intro i b hi
  rcases cases' i b hi with ⟨rfl, _⟩ | ⟨q, _⟩ <;> simp <;> omega
 ·intro i b hi
  rcases cases' i b hi with ⟨rfl, rfl⟩ | ⟨_, q⟩
  ·exact fU (Nat.le_succ _) _ hs
  ·exact fU (Nat.le_succ _) _ (h.sco i b q)
 ·intro i b hi
  rcases cases' i b hi with ⟨rfl, rfl⟩ | ⟨q0, q⟩
  ·rw [bw]; exact cr hρ rfl _ hs hb
  ·rw [hρ i q0]; exact cr hρ rfl b (h.sco i b q) (h.ok i b q)
 ·intro i b hi hal
  rcases cases' i b hi with ⟨rfl, rfl⟩ | ⟨q0, q⟩
  ·rw [bw]; exact hin hal
  ·rw [hρ i q0]; exact h.inb i b q hal
 ·intro i j bi bj hi hj hij hoi haj
  rcases cases' i bi hi with ⟨rfl, rfl⟩ | ⟨q0, q⟩ <;> rcases cases' j bj hj with ⟨rfl, rfl⟩ | ⟨p0, p⟩
  ·exact absurd rfl hij
  ·rw [bw, hρ j p0]; exact ((ho hoi).2 j bj p haj).symm
  ·rw [bw, hρ i q0]; exact ha haj i bi q hoi
  ·rw [hρ i q0, hρ j p0]; exact h.ap i j bi bj q p hij hoi haj
 ·intro i b hi hob
  rcases cases' i b hi with ⟨rfl, rfl⟩ | ⟨q0, q⟩
  ·rw [bw]; exact (ho hob).1
  ·rw [hρ i q0]; exact h.own i b q hob
theorem Rel.CQ (h : Rel w0 ρ σ w) (n sz : Nat) (own : Bool) (L : Loc) (hn : n = 0) (hl : L.sl = 0) (hk : L.sk = 0) : Rel w0 (upd ρ σ.next L) (σ.push (.vec [] n sz own)) w := by
 subst hn
 exact h.name rfl ⟨hl, .inl ⟨rfl, rfl, fun _ => hk⟩⟩ (by simp [am.alive]) (by simp [am.owned]) (by simp [am.alive])
theorem z6 {σd : Mem} {xs : LA_} {n g : Nat} {ρ' : Nat → Loc} {w' : World} (hp : bO w0 ρ σ.next ρ' (σ.push (.cells xs true (some g))) w') (h : Rel w0 ρ σ w)
  (hd : σd.next = σ.next) (hg : ∀ j b, σd.get j = some b → b = .dead ∧ j < σ.next ∨ σ.get j = some b) (hx : scC 0 xs = true) (hn : xs.length = n * g) (h0 : n * g ≠ 0) :
  ∃ ρ2, γ ρ2 (.vec σ.next) = γ ρ' (.slice σ.next 0 n false 0) ∧ bO w0 ρ σ.next ρ2 (σd.push (.vec xs n g true)) w' := by
 have R := hp.rel
 have hold : ∀ j b, σ.get j = some b → j < σ.next ∧ (σ.push (.cells xs true (some g))).get j = some b := fun j b hj =>
  ⟨h.lt j b hj, by rw [bU, if_neg (by have := h.lt j b hj; omega)]; exact hj⟩
 have hnew : (σ.push (.cells xs true (some g))).get σ.next = some (.cells xs true (some g)) := by rw [bU, if_pos rfl]
 have R1 : Rel w0 ρ' σd w' := by
  refine R.weaken ?_ ?_ ?_
  ·intro j b hj hbd
   rcases hg j b hj with ⟨q, _⟩ | q
   ·exact absurd q hbd
   ·exact (hold j b q).2
  ·intro j b hj
   rw [hd]
   rcases hg j b hj with ⟨_, q⟩ | q
   ·exact q
   ·exact h.lt j b q
  ·intro j b hj
   rw [hd]
   rcases hg j b hj with ⟨q, _⟩ | q
   ·rw [q]; rfl
   ·exact h.sco j b q
 obtain ⟨c, e, fz, h1, h2, h4, h5⟩ := R.ok _ _ hnew
 obtain ⟨_, h6, h7⟩ := h5 g rfl
 have hxs : xs ≠ [] := by rintro rfl; simp at hn; omega
 have hcap : n ≤ (ρ' σ.next).dS := by
  rw [hn] at h7
  exact Nat.le_of_mul_le_mul_right h7 (Nat.pos_of_ne_zero fun q => h0 (by rw [q, Nat.mul_zero]))
 let L : Loc := { ρ' σ.next with sp := some ⟨(ρ' σ.next).blk, (ρ' σ.next).base, none⟩, sl := n, sk := (ρ' σ.next).dS }
 have e1 : L.blk = (ρ' σ.next).blk := rfl
 have R2 := R1.name (B := .vec xs n g true) (L := L) hx
  ⟨rfl, .inr ⟨hxs, rfl, hn, c, e, fz, h1, h2, fun _ => ⟨h4 rfl, hcap, h6⟩, hcap, rfl⟩⟩ (fun _ => R.inb _ _ hnew rfl)
  (fun _ => ⟨R.own _ _ hnew rfl, fun j bj hj haj => ?_⟩) (fun _ j bj hj hoj => ?_)
 ·refine ⟨upd ρ' σ.next L, ?_, by rw [← hd]; exact R2, fun i hi => (dU hi).trans (hp.ext i hi), by simp [hd]⟩
  simp only [γ, bw, L, Nat.add_zero, Nat.sub_zero, UE, if_false]
 ·rcases hg j bj hj with ⟨q, _⟩ | q
  ·rw [q] at haj; cases haj
  ·have := h.lt j bj q
   exact (R.ap σ.next j _ bj hnew (hold j bj q).2 (by omega) rfl haj).symm
 ·rcases hg j bj hj with ⟨q, _⟩ | q
  ·rw [q] at hoj; cases hoj
  ·have := h.lt j bj q
   exact R.ap j σ.next bj _ (hold j bj q).2 hnew (by omega) hoj rfl
theorem MB (h : Rel w0 ρ σ w) (hT : aZ P T) {t u e : TypeId} {it j k : TyI} (ht : T t = some it) (hik : it.k = .slice e) (he : T e = some j) (hu : T u = some k)
  {e' : TypeId} (hkk : k.k = .slice e') {i n m : Nat} {x : ab} {cs ds : LA_} (hg : σ.get i = some (.vec cs n j.size true)) (hds : bN σ j.size x = some (ds, m))
  (hf : scC 0 ds = true) (q1 : j.size ≠ 0) (q2 : j.bytes ≠ 0) (q3 : 2 * (n + m) * j.bytes ≤ 2 ^ 48) (ty : TypeId) :
  ∃ ρ' w', (Builtin.append_ #[t, u] ty #[γ ρ (.vec i), γ ρ x]).run P w = .ok (γ ρ' (.vec σ.next)) w' ∧ bO w0 ρ σ.next ρ' ((σ.set i .dead).push (.vec (cs ++ ds) (n + m) j.size true)) w' := by
 have hcs : bN σ j.size (.vec i) = some (cs, n) := by simp [bN, hg]
 have b3 := (fx (P := P) h hds).2.2
 have c3 := (fx (P := P) h hcs).2.2
 have hfc : scC 0 cs = true := h.sco _ _ hg
 have hi := h.lt i _ hg
 obtain ⟨g0, g1⟩ := h.ok i _ hg
 have hgd : ∀ jj b, (σ.set i .dead).get jj = some b → b = .dead ∧ jj < σ.next ∨ σ.get jj = some b := by
  intro jj b hj
  rw [aT] at hj
  split at hj
  ·rename_i q; cases hj; exact .inl ⟨rfl, q ▸ hi⟩
  ·exact .inr hj
 have hlen : (cs ++ ds).length = (n + m) * j.size := by rw [UQ, c3.1, b3.1, Nat.add_mul]
 have growCase : (ρ i).sk < n + m → ∃ ρ' w', (Builtin.append_ #[t, u] ty #[γ ρ (.vec i), γ ρ x]).run P w = .ok (γ ρ' (.vec σ.next)) w' ∧
   bO w0 ρ σ.next ρ' ((σ.set i .dead).push (.vec (cs ++ ds) (n + m) j.size true)) w' := by
  intro hcap
  obtain ⟨ρ', w', r1, r2⟩ := ov h hT ht hik he hu hkk (s := .vec i) (base := (ρ i).sp) (cap := (ρ i).sk) (by rw [← g0]; rfl) hcs hds hcap q2 q3 ty
  obtain ⟨ρ2, r3, r4⟩ := z6 (σd := σ.set i .dead) (n := n + m) r2 h rfl hgd (d9.2 ⟨hfc, hf⟩) hlen (by have := Nat.mul_pos (show 0 < n + m by omega) (Nat.pos_of_ne_zero q1); omega)
  exact ⟨ρ2, w', by rw [r1, r3], r4⟩
 by_cases hcap : n + m ≤ (ρ i).sk
 ·have hsl : γ ρ (.vec i) = .slice (ρ i).sp n (ρ i).sk := by rw [← g0]; rfl
  rcases g1 with ⟨rfl, rfl, g2⟩ | ⟨g1, g2, g3, c, e2, fz, h1, ⟨pre, post, h2, h3⟩, h4⟩
  ·have g2' := g2 rfl
   have hm : m = 0 := by omega
   subst hm
   have hd0 : ds = [] := by have := b3.1; simpa using this
   subst hd0
   have hst := lI h hT ht hik he hu hkk (s := .vec i) (l := 0) (m := 0) (base := (ρ i).sp) (cap := (ρ i).sk) hsl hds hcap (w' := w)
    (by cases (ρ i).sp <;> simp [γL, storeCells]) ty
   have R := (h.kill hg).CQ 0 j.size true { ρ i with sl := 0 } rfl rfl (g2 rfl)
   refine ⟨_, w, ?_, ⟨R, fun i hi => dU hi, by simp⟩⟩
   rw [hst]
   simp only [γ, el, bw, Nat.add_zero]
  ·obtain ⟨hz, g4, h5⟩ := h4.1 rfl
   have hroom : ds.length ≤ post.length := by
    have hl := congrArg List.length h2
    simp only [UQ, aU, Array.length_toList, g3, h3] at hl
    have := Nat.mul_le_mul_right j.size hcap
    rw [Nat.add_mul] at this
    have := b3.1
    omega
   have hsplit : post = post.take ds.length ++ post.drop ds.length := (List.take_append_drop _ _).symm
   have hstore := iy (P := P) (ρ i).blk ((ρ i).base + cs.length) e2 fz (γL ρ ds) 0 c w h1 hz (by
     have hl := congrArg List.length h2
     simp only [UQ, aU, Array.length_toList, h3] at hl
     rw [aU]; omega)
    (fun v hv => by
     rw [gY] at hv
     obtain ⟨uu, huu, rfl⟩ := List.mem_map.1 hv
     exact zU ((fe _ _).1 b3.2 uu huu).1)
   generalize hw1 : World.setRow w _ _ = w1 at hstore
   have hst := lI h hT ht hik he hu hkk (s := .vec i) (l := n) (m := m) (base := (ρ i).sp) (cap := (ρ i).sk) hsl hds hcap (w' := w1)
    (by simp only [g2, Option.elim, lC, ← g3]; exact hstore) ty
   have hheap : w1.heap[(ρ i).blk]? = some (.cells (c.toList.take ((ρ i).base + cs.length + 0) ++ γL ρ ds ++ c.toList.drop ((ρ i).base + cs.length + 0 + (γL ρ ds).length)).toArray e2 fz) := by
    rw [← hw1]; exact setRow_heap w _ c _ e2 _ h1
   have hal : (am.vec cs n j.size true).owned = true := by
    simp only [am.owned, Bool.true_and, Bool.not_eq_true', List.isEmpty_eq_false_iff]; exact g1
   have hoth : ∀ kk, kk ≠ (ρ i).blk → w1.heap[kk]? = w.heap[kk]? := by rw [← hw1]; exact fun kk hk => setRow_other w _ kk _ hk
   have R1 : Rel w0 ρ (σ.set i .dead) w1 := h.set hg hal rfl trivial (by rw [← hw1]; simp [World.setRow]) hoth (by rw [← hw1]; rfl) (by rw [← hw1]; rfl) (by rw [← hw1]; rfl)
   have hne : cs ++ ds ≠ [] := by simp [g1]
   have R2 := R1.name (B := .vec (cs ++ ds) (n + m) j.size true) (L := { ρ i with sl := n + m }) (d9.2 ⟨hfc, hf⟩) ?_ ?_ ?_ ?_
   ·refine ⟨_, w1, ?_, ⟨R2, fun i hi => dU hi, by simp⟩⟩
    rw [hst]
    simp only [γ, el, bw]
   ·refine ⟨rfl, .inr ⟨hne, g2, hlen, _, e2, fz, hheap, ⟨pre, post.drop ds.length, ?_, h3⟩, fun _ => ⟨?_, hcap, ?_⟩, hcap, h4.2.2⟩⟩
    ·simp only [cz, Nat.add_zero, aU]
     rw [h2, ← h3]
     have e1 : (pre ++ γL ρ cs ++ post).take (pre.length + cs.length) = pre ++ γL ρ cs := by
      rw [List.take_append_of_le_length (by simp), List.take_of_length_le (by simp)]
     have e2 : (pre ++ γL ρ cs ++ post).drop (pre.length + cs.length + ds.length) = post.drop ds.length := by
      rw [List.drop_append, List.drop_of_length_le (by simp), List.nil_append]
      congr 1; simp
     rw [e1, e2]
     simp only [UV]
    ·have e0 : (List.take ((ρ i).base + cs.length + 0) c.toList ++ γL ρ ds ++ List.drop ((ρ i).base + cs.length + 0 + (γL ρ ds).length) c.toList).toArray.size = c.size := by
      have hl := congrArg List.length h2
      simp only [UQ, aU, Array.length_toList, h3] at hl
      simp only [List.size_toArray, UQ, List.length_take, List.length_drop, Array.length_toList, aU, Nat.add_zero]; omega
     rw [e0]
     exact hz
    ·have hl := congrArg List.length h2
     simp only [UQ, aU, Array.length_toList, h3] at hl
     simp only [List.size_toArray, UQ, List.length_take, List.length_drop, Array.length_toList, aU, Nat.add_zero]
     show (ρ i).base + (ρ i).sk * j.size ≤ _
     omega
   ·intro _
    rw [show ({ ρ i with sl := n + m } : Loc).blk = (ρ i).blk from rfl]
    have : w1.heap.size = w.heap.size := by rw [← hw1]; simp [World.setRow]
    rw [this]; exact h.inb i _ hg (am.dT hal)
   ·intro _
    refine ⟨h.own i _ hg hal, fun jj bj hj haj => ?_⟩
    rcases hgd jj bj hj with ⟨q, _⟩ | q
    ·rw [q] at haj; cases haj
    ·have hji : jj ≠ i := by
      rintro rfl
      rw [aT, if_pos rfl] at hj
      cases hj; cases haj
     exact (h.ap i jj _ bj hg q (Ne.symm hji) hal haj).symm
   ·intro _ jj bj hj hoj
    rcases hgd jj bj hj with ⟨q, _⟩ | q
    ·rw [q] at hoj; cases hoj
    ·have hji : jj ≠ i := by
      rintro rfl
      rw [aT, if_pos rfl] at hj
      cases hj; cases hoj
     exact h.ap jj i bj _ q hg hji hoj (am.dT hal)
 ·exact growCase (by omega)
theorem tn (h : Rel w0 ρ σ w) (hT : aZ P T) {t u e : TypeId} {it j k : TyI} (ht : T t = some it) (hik : it.k = .slice e) (he : T e = some j) (hu : T u = some k)
  {e' : TypeId} (hkk : k.k = .slice e') {m : Nat} {s x : ab} {ds : LA_} {base : Option Addr} (hs : γ ρ s = .slice base 0 0) (hcs : bN σ j.size s = some ([], 0))
  (hds : bN σ j.size x = some (ds, m)) (hf : scC 0 ds = true) (q1 : j.size ≠ 0) (q2 : j.bytes ≠ 0) (q3 : 2 * (0 + m) * j.bytes ≤ 2 ^ 48) (ty : TypeId) :
  ∃ ρ' w', (Builtin.append_ #[t, u] ty #[γ ρ s, γ ρ x]).run P w = .ok (γ ρ' (.vec σ.next)) w' ∧ bO w0 ρ σ.next ρ' (σ.push (.vec ds m j.size true)) w' := by
 have b3 := (fx (P := P) h hds).2.2
 by_cases hm : m = 0
 ·subst hm
  have hd0 : ds = [] := by have := b3.1; simpa using this
  subst hd0
  have hst := lI h hT ht hik he hu hkk (s := s) (l := 0) (m := 0) (base := base) (cap := 0) hs hds (by omega) (w' := w) (by cases base <;> simp [γL, storeCells]) ty
  have R := h.CQ 0 j.size true { blk := 0, base := 0, dS := 0, sp := base } rfl rfl rfl
  refine ⟨_, w, ?_, ⟨R, fun i hi => dU hi, by simp⟩⟩
  rw [hst]
  simp only [γ, bw, Nat.add_zero]
 ·obtain ⟨ρ', w', r1, r2⟩ := ov h hT ht hik he hu hkk (s := s) (base := base) (cap := 0) (cs := []) hs hcs hds (by omega) q2 q3 ty
  rw [List.nil_append] at r2
  obtain ⟨ρ2, r3, r4⟩ := z6 (σd := σ) (n := m) r2 h rfl (fun j b hj => .inr hj) hf b3.1 (by have := Nat.mul_pos (Nat.pos_of_ne_zero hm) (Nat.pos_of_ne_zero q1); omega)
  exact ⟨ρ2, w', by rw [r1, r3, Nat.zero_add], r4⟩
theorem MC (h : Rel w0 ρ σ w) (hT : aZ P T) {t u : TypeId} {k : TyI} (hu : T u = some k) {e' : TypeId} (hkk : k.k = .slice e') {s x v : ab} {σ' : Mem}
  (hs : sc σ.next s = true) (ha : oL T σ t s x = some (v, σ')) (ty : TypeId) :
  ∃ ρ' w', (Builtin.append_ #[t, u] ty #[γ ρ s, γ ρ x]).run P w = .ok (γ ρ' v) w' ∧ bO w0 ρ σ.next ρ' σ' w' ∧ sc σ'.next v = true := by
 unfold oL at ha
 split at ha
 ·rename_i e hTt
  split at ha
  ·cases ha
  ·rename_i j hTe
   split at ha
   ·rename_i cs l ds m hcs hds
    split at ha
    ·cases ha
    ·rename_i hq
     have q1 : j.size ≠ 0 := fun q => hq (.inl q)
     have q2 : j.bytes ≠ 0 := fun q => hq (.inr (.inl q))
     have q3 : 2 * (l + m) * j.bytes ≤ 2 ^ 48 := by
      rcases Nat.lt_or_ge (2 ^ 48) (2 * (l + m) * j.bytes) with q | q
      ·exact absurd (.inr (.inr q)) hq
      ·exact q
     have b3 := (fx (P := P) h hds).2.2
     have c3 := (fx (P := P) h hcs).2.2
     unfold yu at ha
     split at ha
     ·
      rename_i i0
      split at ha
      ·rename_i cs' n' sz' hg0
       split at ha
       ·rename_i hfl
        cases ha
        have hq2 : cs' = cs ∧ n' = l ∧ sz' = j.size := by
         simp only [bN, hg0] at hcs
         split at hcs
         ·rename_i hsz
          simp only [UB, UD] at hcs
          exact ⟨hcs.1, hcs.2, hsz⟩
         ·cases hcs
        obtain ⟨rfl, rfl, rfl⟩ := hq2
        obtain ⟨ρ', w', r1, r2⟩ := MB h hT hTt rfl hTe hu hkk hg0 hds (ot h hds hfl) q1 q2 q3 ty
        exact ⟨ρ', w', r1, r2, by simp [sc]⟩
       ·cases ha
      ·cases ha
     ·
      simp only [bN, UB, UD] at hcs
      obtain ⟨rfl, rfl⟩ := hcs
      split at ha
      ·rename_i hfl
       cases ha
       obtain ⟨ρ', w', r1, r2⟩ := tn h hT hTt rfl hTe hu hkk (s := .aL) (base := none) rfl (by simp [bN]) hds (ot h hds hfl) q1 q2 q3 ty
       exact ⟨ρ', w', r1, r2, by simp [sc]⟩
      split at ha
      ·rename_i hm
       cases ha
       subst hm
       refine ⟨ρ, w, ?_, bO.refl h, rfl⟩
       have := lI h hT hTt rfl hTe hu hkk (s := .aL) (l := 0) (m := 0) (base := none) (cap := 0) rfl hds (by omega) (w' := w) rfl ty
       simpa only [γ] using this
      ·rename_i hm
       cases ha
       obtain ⟨ρ', w', r1, r2⟩ := ov h hT hTt rfl hTe hu hkk (s := .aL) (base := none) (cap := 0) (cs := []) rfl (by simp [bN]) hds (by omega) q2 q3 ty
       exact ⟨ρ', w', r1, r2, by simp [sc]⟩
     ·
      rename_i i0
      simp only [bN, UB, UD] at hcs
      obtain ⟨rfl, rfl⟩ := hcs
      split at ha
      ·rename_i hfl
       cases ha
       obtain ⟨ρ', w', r1, r2⟩ := tn h hT hTt rfl hTe hu hkk (s := .emp i0) (base := some (ρ i0).odd) rfl (by simp [bN]) hds (ot h hds hfl) q1 q2 q3 ty
       exact ⟨ρ', w', r1, r2, by simp [sc]⟩
      split at ha
      ·rename_i hm
       cases ha
       subst hm
       have hd0 : ds = [] := by have := b3.1; simpa using this
       subst hd0
       refine ⟨ρ, w, ?_, bO.refl h, hs⟩
       have := lI h hT hTt rfl hTe hu hkk (s := .emp i0) (l := 0) (m := 0) (base := some (ρ i0).odd) (cap := 0) rfl hds (by omega) (w' := w) (by simp [γL, storeCells]) ty
       simpa only [γ] using this
      ·rename_i hm
       cases ha
       obtain ⟨ρ', w', r1, r2⟩ := ov h hT hTt rfl hTe hu hkk (s := .emp i0) (base := some (ρ i0).odd) (cap := 0) (cs := []) rfl (by simp [bN]) hds (by omega) q2 q3 ty
       exact ⟨ρ', w', r1, r2, by simp [sc]⟩
     ·
      rename_i b o l' c
      have hll : l' = l := by
       simp only [bN, UM, UD] at hcs
       obtain ⟨_, _, _, r⟩ := hcs; exact r
      subst hll
      split at ha
      ·rename_i hq0
       obtain ⟨rfl, rfl, hfl⟩ := hq0
       cases ha
       have hcs0 : cs = [] := by have := c3.1; simpa using this
       subst hcs0
       obtain ⟨ρ', w', r1, r2⟩ := tn h hT hTt rfl hTe hu hkk (s := .slice b o 0 true 0) rfl hcs hds (ot h hds hfl) q1 q2 q3 ty
       exact ⟨ρ', w', r1, r2, by simp [sc]⟩
      split at ha
      ·rename_i hroom
       split at ha
       ·rename_i hm
        cases ha
        subst hm
        have hd0 : ds = [] := by have := b3.1; simpa using this
        subst hd0
        refine ⟨ρ, w, ?_, bO.refl h, hs⟩
        have := lI h hT hTt rfl hTe hu hkk (s := .slice b o l' true c) rfl hds (by simpa using hroom) (w' := w) (by simp [γL, storeCells]) ty
        simpa only [γ, Nat.add_zero] using this
       ·cases hp : xz σ b (o + l' * j.size) ds with
        | none => rw [hp] at ha; cases ha
        | some σ1 =>
         rw [hp] at ha; cases ha
         obtain ⟨w', r1, r2, r3⟩ := h.JW (P := P) hp b3.2
         refine ⟨ρ, w', ?_, ⟨r2, fun _ _ => rfl, by omega⟩, by simpa [sc, r3] using hs⟩
         have := lI h hT hTt rfl hTe hu hkk (s := .slice b o l' true c) rfl hds (by simpa using hroom) (w' := w') (by simpa only [Option.elim, lC, Nat.add_assoc] using r1) ty
         simpa only [γ] using this
      ·rename_i hroom
       split at ha
       ·rename_i hfl
        rw [UC] at hfl
        cases ha
        obtain ⟨ρ', w', r1, r2⟩ := ov h hT hTt rfl hTe hu hkk (s := .slice b o l' true c) rfl hcs hds (by simpa using hroom) q2 q3 ty
        obtain ⟨ρ2, r3, r4⟩ := z6 (σd := σ) (n := l' + m) r2 h rfl (fun j b hj => .inr hj) (d9.2 ⟨ot h hcs hfl.1, ot h hds hfl.2⟩)
         (by rw [UQ, b3.1, c3.1, Nat.add_mul]) (by have := Nat.mul_pos (show 0 < l' + m by omega) (Nat.pos_of_ne_zero q1); omega)
        exact ⟨ρ2, w', by rw [r1, r3], r4, by simp [sc]⟩
       ·cases ha
        obtain ⟨ρ', w', r1, r2⟩ := ov h hT hTt rfl hTe hu hkk (s := .slice b o l' true c) rfl hcs hds (by simpa using hroom) q2 q3 ty
        exact ⟨ρ', w', r1, r2, by simp [sc]⟩
     ·
      rename_i b o l' c
      have hll : l' = l := by
       simp only [bN, UM, UD] at hcs
       obtain ⟨_, _, _, r⟩ := hcs; exact r
      subst hll
      split at ha
      ·rename_i bs g hgb
       split at ha
       ·rename_i hcond
        obtain ⟨rfl, ho, hend⟩ := hcond
        cases ha
        have hcs2 : cs = bs.drop o := by
         simp only [bN, UM, UD] at hcs
         obtain ⟨x1, x2, x3, _⟩ := hcs
         obtain ⟨y1, y2, y3, y4, y5, y6⟩ := fH x2
         rw [hgb] at y3; cases y3; cases y4
         rw [← x3, y6, List.take_of_length_le (by rw [List.length_drop]; omega)]
        by_cases hroom : l' + m ≤ (ρ b).dS - c
        ·
         have hroom2 : bs.length + ds.length ≤ (ρ b).dS * j.size := by
          have h8 := Nat.mul_le_mul_right j.size hroom
          rw [Nat.sub_mul, Nat.add_mul] at h8
          have hc0 : c * j.size ≤ (ρ b).dS * j.size := by
           obtain ⟨_, _, _, _, _, _, h5⟩ := h.ok b _ hgb
           have := (h5 _ rfl).2.2; omega
          have := b3.1; omega
         obtain ⟨w', r1, r2⟩ := h.MA (P := P) hgb b3.2 hroom2
         have r3 := r2.rename (b := b) (o := o) (c := c) (g := j.size) (bs := bs ++ ds) (by rw [aT, if_pos rfl]) (by simp; omega) ho q1
         refine ⟨_, w', ?_, ⟨r3.weaken ?_ ?_ ?_, fun i hi => dU hi, by simp⟩, by simp [sc]⟩
         ·have := lI h hT hTt rfl hTe hu hkk (s := .slice b o l' false c) rfl hds (by simpa using hroom) (w' := w') (by
           simp only [Option.elim, lC]; rw [Nat.add_assoc, hend]; exact r1) ty
          rw [this]
          simp only [γ, bw, el, Nat.add_zero, Nat.sub_zero, UE, if_false]
         ·intro i x hi _
          rw [bU, aT, aT, el, el]
          rcases lH hi with ⟨e1, rfl⟩ | ⟨e1, e2, rfl⟩ | ⟨e1, e2, e3⟩
          ·rw [if_pos e1.symm, hcs2, List.drop_append_of_le_length (by omega)]
          ·rw [if_neg (Ne.symm e1), if_pos e2.symm]
          ·rw [if_neg (Ne.symm e1), if_neg (Ne.symm e2), if_neg (Ne.symm e2), e3]
         ·intro i x hi
          simp only [dJ, el]
          rcases lH hi with ⟨e1, rfl⟩ | ⟨e1, e2, rfl⟩ | ⟨e1, e2, e3⟩
          ·omega
          ·have := h.lt b _ hgb; omega
          ·have := h.lt i x e3; omega
         ·intro i x hi
          simp only [dJ, el]
          rcases lH hi with ⟨e1, rfl⟩ | ⟨e1, e2, rfl⟩ | ⟨e1, e2, e3⟩
          ·exact fS (Nat.le_succ _) _ (d9.2 ⟨c3.2, b3.2⟩)
          ·rfl
          ·exact fU (Nat.le_succ _) _ (h.sco i x e3)
        ·obtain ⟨ρ', w', r1, r2⟩ := ov h hT hTt rfl hTe hu hkk (s := .slice b o l' false c) rfl hcs hds (by simp; omega) q2 q3 ty
         refine ⟨ρ', w', r1, ⟨r2.rel.weaken ?_ ?_ ?_, r2.ext, by simp⟩, by simp [sc]⟩
         ·intro i x hi ha
          rw [bU]
          rcases lH hi with ⟨e1, rfl⟩ | ⟨e1, e2, rfl⟩ | ⟨e1, e2, e3⟩
          ·rw [if_pos e1.symm]
          ·simp [am.alive] at ha
          ·rw [if_neg (Ne.symm e1), e3]
         ·intro i x hi
          simp only [dJ, el]
          rcases lH hi with ⟨e1, rfl⟩ | ⟨e1, e2, rfl⟩ | ⟨e1, e2, e3⟩
          ·omega
          ·have := h.lt b _ hgb; omega
          ·have := h.lt i x e3; omega
         ·intro i x hi
          simp only [dJ, el]
          rcases lH hi with ⟨e1, rfl⟩ | ⟨e1, e2, rfl⟩ | ⟨e1, e2, e3⟩
          ·exact fS (Nat.le_succ _) _ (d9.2 ⟨c3.2, b3.2⟩)
          ·rfl
          ·exact fU (Nat.le_succ _) _ (h.sco i x e3)
       ·cases ha
      ·cases ha
     ·cases ha
   ·cases ha
 ·cases ha
end
section
variable {P : Program} {T : ar} {w0 : W0} {ρ : Nat → Loc} {σ : Mem} {w : World}
theorem Ka (h : Rel w0 ρ σ w) (hT : aZ P T) {src dst : TypeId} {x v : ab} {σ' : Mem} (hb : wC T σ src dst x = some (v, σ')) :
  ∃ ρ' w', (convert src dst (γ ρ x)).run P w = .ok (γ ρ' v) w' ∧ bO w0 ρ σ.next ρ' σ' w' ∧ sc σ'.next v = true := by unfold wC at hb; cases hb
theorem Kb (h : Rel w0 ρ σ w) (hT : aZ P T) {src dst : TypeId} {x v : ab} (hb : wE T σ src dst x = some v) : (convert src dst (γ ρ x)).run P w = .ok (γ ρ v) w ∧ sc σ.next v = true := by unfold wE at hb; cases hb
end
end Go.Ev
namespace Go.Ev
section
variable {P : Program} {T : ar} {ρ : Nat → Loc} {w0 : W0} {w : World} {σ : Mem}
def LR (ρ : Nat → Loc) (m : MapEntry) (e : ab × ab × Nat) : Prop := m.key = γ ρ e.1 ∧ m.val = γ ρ e.2.1 ∧ m.born = e.2.2
inductive z7 (ρ : Nat → Loc) : List MapEntry → List (ab × ab × Nat) → Prop
 | nil : z7 ρ [] []
 | cons {m : MapEntry} {e : ab × ab × Nat} {ms : List MapEntry} {es : List (ab × ab × Nat)} : LR ρ m e → z7 ρ ms es → z7 ρ (m :: ms) (e :: es)
theorem MD {mes : List MapEntry} {es : List (ab × ab × Nat)} (h : mes.map (fun e => (e.key, e.val, e.born)) = es.map fun e => (γ ρ e.1, γ ρ e.2.1, e.2.2)) :
  z7 ρ mes es := by
 induction mes generalizing es with
 | nil => cases es with
  | nil => exact .nil
  | cons e es => simp at h
 | cons m mes ih =>
  cases es with
  | nil => simp at h
  | cons e es =>
   simp only [List.map_cons, List.cons.injEq, UD] at h
   exact .cons ⟨h.1.1, h.1.2.1, h.1.2.2⟩ (ih h.2)
theorem Kc (h : Rel w0 ρ σ w) {b : Nat} {es : List (ab × ab × Nat)} {clock : Nat} (hb : σ.get b = some (.map es clock)) :
  ∃ mes : Array MapEntry, w.heap[(ρ b).blk]? = some (.map mes clock) ∧ z7 ρ mes.toList es := by
 obtain ⟨mes, h1, h2⟩ := h.ok b _ hb
 exact ⟨mes, h1, MD h2⟩
theorem ME (h : Rel w0 ρ σ w) (hT : aZ P T) {t : TypeId} {x k v : ab} {ok : Bool} (hl : ur T σ t x k ok = some v) :
  (Instr.lookup t (γ ρ x) (γ ρ k) ok).run P w = .ok (γ ρ v) w ∧ sc σ.next v = true := by unfold ur at hl; cases hl
theorem z7.get {ms : List MapEntry} {es : List (ab × ab × Nat)} (h : z7 ρ ms es) : ∀ {i : Nat} {e : ab × ab × Nat}, es[i]? = some e → ∃ m, ms[i]? = some m ∧ LR ρ m e := by
 induction h with
 | nil => intro i e hi; cases hi
 | cons h1 _ ih =>
  intro i e hi
  cases i with
  | zero => simp at hi; subst hi; exact ⟨_, rfl, h1⟩
  | succ i => simpa using ih (i := i) (by simpa using hi)
theorem MG (h : Rel w0 ρ σ w) (hT : aZ P T) {t : TypeId} {ts : Array TypeId} (ht : ts[0]? = some t) {x k : ab} {σ' : Mem} (ty : TypeId)
  (hl : CN T σ t x k = some σ') : ∃ w', (Builtin.delete_ ts ty #[γ ρ x, γ ρ k]).run P w = .ok (.tuple #[]) w' ∧ Rel w0 ρ σ' w' ∧ σ'.next = σ.next := by unfold CN at hl; cases hl
theorem MH (h : Rel w0 ρ σ w) (hT : aZ P T) {t : TypeId} {x k v : ab} {σ' : Mem}
  (hl : ut T σ t x k v = some σ') : ∃ w', (Instr.mapUpdate t (γ ρ x) (γ ρ k) (γ ρ v)).run P w = .ok () w' ∧ Rel w0 ρ σ' w' ∧ σ'.next = σ.next := by unfold ut at hl; cases hl
theorem Kd (h : Rel w0 ρ σ w) (hT : aZ P T) {t : TypeId} {x k v : ab} {σ' : Mem}
  (hl : wD T σ t x k = some (v, σ')) : ∃ w', (Instr.mapEntry t (γ ρ x) (γ ρ k)).run P w = .ok (γ ρ v) w' ∧ Rel w0 ρ σ' w' ∧ σ'.next = σ.next ∧ sc σ.next v = true := by unfold wD at hl; cases hl
theorem H0 (t : TypeId) (h : Rel w0 ρ σ w) {x n v : ab} {σ' : Mem} (hl : rO σ x n v = some σ') :
  ∃ w', (Instr.entryStore t (γ ρ x) (γ ρ n) (γ ρ v)).run P w = .ok () w' ∧ Rel w0 ρ σ' w' ∧ σ'.next = σ.next := by unfold rO at hl; cases hl
theorem z7.length {ms : List MapEntry} {es : List (ab × ab × Nat)} (h : z7 ρ ms es) : ms.length = es.length := by
 induction h with
 | nil => rfl
 | cons _ _ ih => simp [ih]
theorem Rb (h : Rel w0 ρ σ w) (hT : aZ P T) {t : TypeId} {x v : ab} (hl : HU T σ t x = some v) (ts : Array TypeId) (xs : Array Value) (ht : ts[0]? = some t) (hx : xs[0]? = some (γ ρ x)) (ty : TypeId) :
  (Builtin.len_ ts ty xs).run P w = .ok (γ ρ v) w ∧ sc σ.next v = true := by
 unfold HU at hl
 split at hl
 ·cases hl
 ·rename_i i hTt
  have hu := (hT _ _ hTt).k
  split at hl
  ·rename_i hik; rw [hik] at hu; simp only [KOk] at hu; cases hl
   exact ⟨by simp only [Builtin.len_, ht, hx, UO, run_underlying hu, UN, γ, UP, goInt], by simp [sc]⟩
  ·rename_i hik; rw [hik] at hu; simp only [KOk] at hu; cases hl
   exact ⟨by simp only [Builtin.len_, ht, hx, UO, run_underlying hu, UN, γ, UP, goInt], by simp [sc]⟩
  ·rename_i hik; rw [hik] at hu; simp only [KOk] at hu; cases hl
   exact ⟨by simp only [Builtin.len_, ht, hx, UO, run_underlying hu, UN, γ, UP, goInt], by simp [sc]⟩
  ·rename_i hik; rw [hik] at hu; simp only [KOk] at hu; cases hl
   exact ⟨by simp only [Builtin.len_, ht, hx, UO, run_underlying hu, UN, γ, UP, goInt]; rfl, by simp [sc]⟩
  ·rename_i hik; rw [hik] at hu; simp only [KOk] at hu; cases hl
   exact ⟨by simp only [Builtin.len_, ht, hx, UO, run_underlying hu, UN, γ, UP, goInt]; rfl, by simp [sc]⟩
  ·rename_i b hik; rw [hik] at hu; simp only [KOk] at hu
   split at hl
   ·rename_i cs n sz own hg
    cases hl
    obtain ⟨g0, _⟩ := h.ok _ _ hg
    exact ⟨by simp only [Builtin.len_, ht, hx, UO, run_underlying hu, UN, γ, UP, goInt, g0], by simp [sc]⟩
   ·cases hl
  ·rename_i hik; rw [hik] at hu; simp only [KOk] at hu; cases hl
   exact ⟨by simp only [Builtin.len_, ht, hx, UO, run_underlying hu, UN, γ, UP, goInt], by simp [sc]⟩
  ·rename_i b hik; rw [hik] at hu; simp only [KOk] at hu
   split at hl
   ·rename_i es clock hb
    cases hl
    obtain ⟨mes, m1, m2⟩ := Kc h hb
    exact ⟨by simp only [Builtin.len_, ht, hx, UO, run_underlying hu, UN, γ, UP, goInt, run_getObj_map w _ _ _ m1, ← m2.length, Array.length_toList], by simp [sc]⟩
   ·cases hl
  ·cases hl
theorem Ke (mx : Bool) : ∀ {r : LA_} {x v : ab}, mmA mx x r = some v → sc σ.next x = true →
    ((γL ρ r).foldlM (if mx then Builtin.max2 else Builtin.min2) (γ ρ x)).run P w = .ok (γ ρ v) w ∧ sc σ.next v = true
  | [], x, v, h, hs => by simp only [mmA, UB] at h; subst h; exact ⟨rfl, hs⟩
  | y :: r, x, v, h, hs => by
    cases x <;> cases y <;> simp only [mmA] at h <;> first
      | cases h
      | (have ih := Ke mx h (by simp [sc])
         refine ⟨?_, ih.2⟩
         rw [← ih.1]
         cases mx <;> simp [γL, γ, Builtin.max2, Builtin.min2])
theorem NS (h : Rel w0 ρ σ w) (hT : aZ P T) {t : TypeId} {x v : ab} {σ' : Mem} (hl : JQ T σ t x = some (v, σ')) :
  ∃ w' ρ', (Instr.range t (γ ρ x)).run P w = .ok (γ ρ' v) w' ∧ bO w0 ρ σ.next ρ' σ' w' ∧ sc σ'.next v = true := by unfold JQ at hl; cases hl
theorem Kf (h : Rel w0 ρ σ w) {x : ab} {i m since clock : Nat} {seen : List Nat} {es : List (ab × ab × Nat)} (hx : Gc σ x = some (i, m, since, seen, es, clock)) (ty : TypeId) :
  (Gb es seen = [] ∧ (Instr.next (γ ρ x) false ty).run P w = .ok (γ ρ (.tup [.bool false])) w) ∨
  ∃ e ∈ Gb es seen, ∃ w', (Instr.next (γ ρ x) false ty).run P w = .ok (γ ρ (.tup [.bool true, e.1, e.2.1])) w' ∧ Rel w0 ρ (σ.set i (.iter m since (seen ++ [e.2.2]) clock)) w' ∧ sc σ.next (.tup [.bool true, e.1, e.2.1]) = true := by unfold Gc at hx; cases hx
theorem NT (h : Rel w0 ρ σ w) {x v : ab} (hl : JR σ x = some v) : (Instr.entry (γ ρ x)).run P w = .ok (γ ρ v) w ∧ sc σ.next v = true := by unfold JR at hl; cases hl
theorem oN {x : Option ab} {d y n : Nat} {code : BoundsCode} (h : dl x d = some n) (hy : n ≤ y) : ∀ v, x = some v → (Instr.sliceBound (γ ρ v) y code).run P w = .ok n w := by
 intro v hv
 subst hv
 unfold dl at h
 split at h
 ·rename_i e; cases e
 ·rename_i k i e
  cases e
  split at h
  ·rename_i hi
   cases h
   simp only [γ, Instr.sliceBound, asIntOf, UO, UP, UN]
   rw [if_pos ⟨hi, by omega⟩]
   rfl
  ·cases h
 ·cases h
theorem Rel.renew (h : Rel w0 ρ σ w) {b : Nat} {B0 B : am} {L : Loc} (hb : σ.get b = some B0) (ho : B0.owned = true) (hs : scB σ.next B = true) (hB : BOk ρ L w B) (hL : L.blk = (ρ b).blk) :
  Rel w0 (upd ρ σ.next L) ((σ.set b .dead).push B) w := by
 have ha := am.dT ho
 have hown := h.own b _ hb ho
 exact (h.kill hb).name (B := B) (L := L) hs hB (fun _ => by rw [hL]; exact h.inb b _ hb ha)
  (fun _ => ⟨by rw [hL]; exact hown, fun j bj hj haj => by
   rw [aT] at hj
   split at hj
   ·cases hj; cases haj
   ·rename_i hne'
    rw [hL]
    exact fun e => h.ap b j _ bj hb hj hne' ho haj e.symm⟩)
  (fun _ j bj hj hoj => by
   rw [aT] at hj
   split at hj
   ·cases hj; cases hoj
   ·rename_i hne'
    rw [hL]
    exact h.ap j b bj _ hj hb (Ne.symm hne') hoj ha)
theorem NU (s : ByteArray) (lo hi : Nat) : JS s lo hi = s.extract lo hi := by
 apply ByteArray.ext
 rw [ByteArray.data_extract]
 apply Array.ext'
 simp [JS, Array.toList_extract, List.extract]
theorem NV {t : TypeId} (ht : P.underlying t = some .string) {s : ByteArray} {low high : Option ab} {lo hi : Nat} (h1 : dl low 0 = some lo) (h2 : dl high s.size = some hi) (h3 : lo ≤ hi) (h4 : hi ≤ s.size) :
  (Instr.sliceAt t (.string s) (low.map (γ ρ)) (high.map (γ ρ)) none).run P w = .ok (.string (s.extract lo hi)) w := by
 have b2 : (Instr.sliceBounds false s.size s.size (low.map (γ ρ)) (high.map (γ ρ)) none).run P w = .ok (lo, hi, s.size) w := by
  unfold Instr.sliceBounds
  cases hh : high with
  | none =>
   rw [hh] at h2
   simp only [dl, UB] at h2
   subst h2
   cases hlw : low with
   | none =>
    rw [hlw] at h1
    simp only [dl, UB] at h1
    subst h1
    simp [UO, UP]
   | some lv =>
    have := oN (P := P) (w := w) (ρ := ρ) (y := s.size) (code := .sliceB) h1 (by omega) lv hlw
    simp [UO, UP, this]
  | some hv =>
   have q2 := oN (P := P) (w := w) (ρ := ρ) (y := s.size) (code := .sliceAlen) h2 (by omega) hv hh
   cases hlw : low with
   | none =>
    rw [hlw] at h1
    simp only [dl, UB] at h1
    subst h1
    simp [UO, UP, q2]
   | some lv =>
    have := oN (P := P) (w := w) (ρ := ρ) (y := hi) (code := .sliceB) h1 h3 lv hlw
    simp [UO, UP, q2, this]
 simp only [Instr.sliceAt, Instr.slice, UO, run_underlying ht, UN, b2, UP]
 simp [UP]
 rw [b2]
 rfl
theorem Kg {P : Program} {ρ : Nat → Loc} {w : World} {t e : TypeId} {j : TyI} {low high : Option ab} (hu : P.underlying t = some (.slice e)) (hsz : (sizeOf e).run P w = .ok j.size w)
  {a : Option Addr} {l cap lo hi : Nat} (h1 : dl low 0 = some lo) (h2 : dl high l = some hi) (h3 : lo ≤ hi) (h4 : hi ≤ cap) :
  (Instr.sliceAt t (.slice a l cap) (low.map (γ ρ)) (high.map (γ ρ)) none).run P w = .ok (.slice (if cap = lo then a else a.map (·.add (lo * j.size))) (hi - lo) (cap - lo)) w := by
 have b2 : (Instr.sliceBounds true l cap (low.map (γ ρ)) (high.map (γ ρ)) none).run P w = .ok (lo, hi, cap) w := by
  unfold Instr.sliceBounds
  cases hh : high with
  | none =>
   rw [hh] at h2
   simp only [dl, UB] at h2
   subst h2
   cases hlw : low with
   | none =>
    rw [hlw] at h1
    simp only [dl, UB] at h1
    subst h1
    simp [UO, UP]
   | some lv =>
    have := oN (P := P) (w := w) (ρ := ρ) (y := l) (code := .sliceB) h1 (by omega) lv hlw
    simp [UO, UP, this]
  | some hv =>
   have q2 := oN (P := P) (w := w) (ρ := ρ) (y := cap) (code := .sliceAcap) h2 (by omega) hv hh
   cases hlw : low with
   | none =>
    rw [hlw] at h1
    simp only [dl, UB] at h1
    subst h1
    simp [UO, UP, q2]
   | some lv =>
    have := oN (P := P) (w := w) (ρ := ρ) (y := hi) (code := .sliceB) h1 (by omega) lv hlw
    simp [UO, UP, q2, this]
 simp only [Instr.sliceAt, Instr.slice, UO, run_underlying hu, UN, b2, hsz, UP]
theorem NW (h : Rel w0 ρ σ w) (hT : aZ P T) {t : TypeId} {x v : ab} {low high : Option ab} {σ' : Mem} (hs : sc σ.next x = true) (hl : Gd T σ t x low high = some (v, σ')) :
  ∃ ρ', (Instr.sliceAt t (γ ρ x) (low.map (γ ρ)) (high.map (γ ρ)) none).run P w = .ok (γ ρ' v) w ∧ bO w0 ρ σ.next ρ' σ' w ∧ sc σ'.next v = true := by
 unfold Gd at hl
 split at hl
 rotate_left
 ·rename_i n e hTt
  have hu := (hT _ _ hTt).k
  simp only [KOk] at hu
  split at hl
  ·rename_i j b o hTe
   simp only [UB, UD] at hl
   obtain ⟨rfl, rfl⟩ := hl
   have hsz := (hT _ _ hTe).dt w
   refine ⟨ρ, ?_, .refl h, by simpa only [sc] using hs⟩
   simp [Instr.sliceAt, Instr.sliceBounds, UO, UP, run_underlying hu, UN, γ, Instr.sureAddr, asAddr, hsz, Addr.add]
  ·cases hl
 ·rename_i hTt
  have hu := (hT _ _ hTt).k
  simp only [KOk] at hu
  split at hl
  rotate_left
  ·cases hl
  rename_i s
  split at hl
  rotate_left
  ·cases hl
  rename_i lo hi h1 h2
  split at hl
  rotate_left
  ·cases hl
  rename_i hle
  simp only [UB, UD] at hl
  obtain ⟨rfl, rfl⟩ := hl
  exact ⟨ρ, by rw [NU]; exact NV hu h1 h2 hle.1 hle.2, .refl h, rfl⟩
 ·cases hl
 rename_i e hTt
 have hu := (hT _ _ hTt).k
 simp only [KOk] at hu
 split at hl
 ·cases hl
 rename_i j hTe
 have hsz := (hT e j hTe).dt w
 have go : ∀ {a : Option Addr} {l cap lo hi : Nat}, dl low 0 = some lo → dl high l = some hi → lo ≤ hi → hi ≤ cap →
   (Instr.sliceAt t (.slice a l cap) (low.map (γ ρ)) (high.map (γ ρ)) none).run P w = .ok (.slice (if cap = lo then a else a.map (·.add (lo * j.size))) (hi - lo) (cap - lo)) w := fun h1 h2 h3 h4 => Kg hu hsz h1 h2 h3 h4
 split at hl
 ·rename_i b o l ex c
  split at hl
  rotate_left
  ·cases hl
  rename_i lo hi h1 h2
  split at hl
  rotate_left
  ·split at hl
   rotate_left
   ·cases hl
   rename_i hc
   obtain ⟨rfl, rfl, rfl, rfl, hll⟩ := hc
   split at hl
   rotate_left
   ·cases hl
   rename_i bs g hb
   split at hl
   rotate_left
   ·cases hl
   rename_i hg
   obtain ⟨hg1, hg2, hg3⟩ := hg
   cases hl
   obtain ⟨cc, ee, fz, q1, ⟨pre, post, q2, q3⟩, q4, q5⟩ := h.ok b _ hb
   obtain ⟨_, q6, q7⟩ := q5 g rfl
   have hsc : scC σ.next bs = true := h.sco b _ hb
   have hR := h.renew (B := .cells (bs.take (hi * g)) true (some g)) (L := ρ b) hb rfl (by
     show scC σ.next (bs.take (hi * g)) = true
     rw [fe] at hsc ⊢
     exact fun v hv => hsc v (List.mem_of_mem_take hv))
    ⟨cc, ee, fz, q1, ⟨pre, γL ρ (bs.drop (hi * g)) ++ post, by
     rw [q2]
     conv => lhs; rw [← List.take_append_drop (hi * g) bs]
     simp only [cz, UV], q3⟩, q4, fun g' hg' => by
      cases hg'
      exact ⟨rfl, q6, by rw [List.length_take]; omega⟩⟩ rfl
   refine ⟨_, ?_, ⟨hR, fun i hi => dU hi, by simp⟩, by simp [sc]⟩
   have hcap : hi ≤ (ρ b).dS := Nat.le_trans hll (Nat.le_of_mul_le_mul_right (Nat.le_trans hg3 q7) hg2)
   have := go (a := some ⟨(ρ b).blk, (ρ b).base + 0, none⟩) (l := l) (cap := (ρ b).dS) h1 h2 (by omega) hcap
   simp only [γ, UE, if_false, Nat.sub_zero]
   rw [this, bw]
   simp only [Nat.zero_mul, Nat.sub_zero, US, Addr.add, if_true, ite_self]
  rename_i hle
  obtain ⟨hle1, hle2, hex, hlc⟩ := hle
  subst hex
  split at hl
  ·rename_i hlo
   subst hlo
   cases hl
   refine ⟨ρ, ?_, bO.refl h, hs⟩
   have := go (a := some ⟨(ρ b).blk, (ρ b).base + o, none⟩) (l := l) (cap := c) h1 h2 (by omega) (by omega)
   simp only [γ, if_true]
   rw [this]
   congr 2
   simp only [Nat.zero_mul, US, Addr.add, if_true, ite_self]
  ·rename_i hlo
   split at hl
   ·rename_i hcc
    cases hl
    refine ⟨ρ, ?_, bO.refl h, hs⟩
    have := go (a := some ⟨(ρ b).blk, (ρ b).base + o, none⟩) (l := l) (cap := c) h1 h2 hle1 (by omega)
    simp only [γ, if_true]
    rw [this, if_neg (by omega)]
    simp only [US, Addr.add]
    split
    ·rename_i hz
     rw [hz, Nat.add_zero]
    ·simp only [Nat.add_assoc]
   ·cases hl
 ·rename_i b
  split at hl
  rotate_left
  ·cases hl
  rename_i cs n sz hb h1
  split at hl
  rotate_left
  ·cases hl
  rename_i hi h2
  split at hl
  rotate_left
  ·split at hl
   rotate_left
   ·cases hl
   rename_i hc
   obtain ⟨rfl, hem, hz⟩ := hc
   cases hl
   have hcs : cs ≠ [] := by rintro rfl; cases hem
   obtain ⟨q0, q1⟩ := h.ok b _ hb
   rcases q1 with ⟨_, q, _⟩ | ⟨_, q2, q3, cc, ee, fz, q4, ⟨pre, post, q5, q6⟩, q7⟩
   ·exact absurd q hcs
   obtain ⟨g1, g2, g3⟩ := q7.1 rfl
   have hR := h.renew (B := .cells [] true (some sz)) (L := { ρ b with dS := (ρ b).sk }) hb (by simp [am.owned, hcs]) rfl
    ⟨cc, ee, fz, q4, ⟨pre, γL ρ cs ++ post, by rw [q5]; simp [γL], q6⟩, fun _ => g1, fun g' hg' => by
      cases hg'
      exact ⟨rfl, g3, by simp⟩⟩ rfl
   refine ⟨_, ?_, ⟨hR, fun i hi => dU hi, by simp⟩, by simp [sc]⟩
   have := go (a := (ρ b).sp) (l := (ρ b).sl) (cap := (ρ b).sk) (lo := 0) (hi := 0) h1 (by rw [q0]; exact h2) (by omega) (by omega)
   simp only [γ, UE, if_false, Nat.sub_zero]
   rw [this, bw]
   simp only [Nat.zero_mul, Nat.sub_zero, q2, US, Addr.add, if_true, ite_self, Nat.add_zero]
  rename_i hc
  obtain ⟨c1, c2, c3, c4, c5⟩ := hc
  cases hl
  have hne : cs.take (hi * sz) ≠ [] := by
   intro e
   have := congrArg List.length e
   simp only [List.length_take, List.length_nil] at this
   have := Nat.mul_pos (Nat.pos_of_ne_zero c2) c5
   omega
  have hcs : cs ≠ [] := by rintro rfl; simp at hne
  obtain ⟨q0, q1⟩ := h.ok b _ hb
  rcases q1 with ⟨_, q, _⟩ | ⟨_, q2, q3, cc, ee, fz, q4, ⟨pre, post, q5, q6⟩, q7⟩
  ·exact absurd q hcs
  obtain ⟨g1, g2, g3⟩ := q7.1 rfl
  have hblt := h.lt b _ hb
  have hsc : scC 0 cs = true := h.sco b _ hb
  have hsct : scC 0 (cs.take (hi * sz)) = true := by
   rw [fe] at hsc ⊢
   exact fun v hv => hsc v (List.mem_of_mem_take hv)
  have hin := h.inb b _ hb (by simp [am.alive, hcs])
  have hd : Rel w0 ρ (σ.set b .dead) w := h.kill hb
  have hown := h.own b _ hb (by simp [am.owned, hcs])
  have hR := hd.name (B := .vec (cs.take (hi * sz)) hi sz true) (L := { ρ b with sl := hi }) hsct ⟨rfl, .inr ⟨hne, q2, by rw [List.length_take, Nat.min_eq_left c4], cc, ee, fz, q4, ⟨pre, γL ρ (cs.drop (hi * sz)) ++ post, by
    rw [q5]
    conv => lhs; rw [← List.take_append_drop (hi * sz) cs]
    simp only [cz, UV], q6⟩, fun _ => ⟨g1, by show hi ≤ (ρ b).sk; omega, g3⟩, by show hi ≤ (ρ b).sk; omega, q7.2.2⟩⟩ (fun _ => hin)
   (fun _ => ⟨hown, fun j bj hj haj => by
    rw [aT] at hj
    split at hj
    ·cases hj; cases haj
    ·rename_i hne'
     exact fun e => h.ap b j _ bj hb hj hne' (by simp [am.owned, hcs]) haj e.symm⟩)
   (fun _ j bj hj ho => by
    rw [aT] at hj
    split at hj
    ·cases hj; cases ho
    ·rename_i hne'
     exact h.ap j b bj _ hj hb (Ne.symm hne') ho (by simp [am.alive, hcs]))
  refine ⟨_, ?_, ⟨hR, fun i hi => dU hi, by simp⟩, by simp [sc]⟩
  have := go (a := (ρ b).sp) (l := (ρ b).sl) (cap := (ρ b).sk) (lo := 0) (hi := hi) h1 (by rw [q0]; exact h2) (by omega) (by omega)
  simp only [γ]
  rw [this]
  have e1 : (σ.set b am.dead).next = σ.next := rfl
  rw [e1, bw]
  simp only [Nat.zero_mul, Nat.sub_zero, q2, US, Addr.add, if_true, ite_self]
 ·cases hl
theorem MI (h : Rel w0 ρ σ w) (hT : aZ P T) {t : TypeId} {x v : ab} {low high : Option ab} (hs : sc σ.next x = true) (hl : sB T σ t x low high = some v) :
  (Instr.sliceAt t (γ ρ x) (low.map (γ ρ)) (high.map (γ ρ)) none).run P w = .ok (γ ρ v) w ∧ sc σ.next v = true := by
 unfold sB at hl
 split at hl
 rotate_left
 ·cases hl
 rename_i e b hTt
 have hu := (hT _ _ hTt).k
 simp only [KOk] at hu
 split at hl
 rotate_left
 ·cases hl
 rename_i j cs n sz hTe hg
 have hsz := (hT e j hTe).dt w
 split at hl
 rotate_left
 ·cases hl
 rename_i lo hi h1 h2
 split at hl
 rotate_left
 ·cases hl
 rename_i hc
 obtain ⟨c1, c2, c3, c4⟩ := hc
 cases hl
 obtain ⟨q0, q1⟩ := h.ok b _ hg
 rcases q1 with ⟨q, _⟩ | ⟨_, q2, _, _, _, _, _, _, _, q3, q4⟩
 ·omega
 refine ⟨?_, hs⟩
 have := Kg (ρ := ρ) (w := w) (low := low) (high := high) (a := (ρ b).sp) (l := (ρ b).sl) (cap := (ρ b).sk) hu hsz h1 (by rw [q0]; exact h2) c1 (by omega)
 simp only [γ, UE, if_false]
 rw [this, if_neg (by omega), q2, q4, c4]
 simp only [US, Addr.add]
 split
 ·rename_i hz
  rw [hz, Nat.add_zero]
 ·rfl
end
end Go.Ev
namespace Go.Ev
def rR (ρ : Nat → Loc) : fc → Ending
 | .ret v => .returned (γ ρ v)
 | .pan v => .panicked [{ v := γ ρ v, recovered := false }]
def fc.value : fc → ab
 | .ret v => v
 | .pan v => v
def cE (P : Program) (g : FuncId) (args : LA_) (σ : Mem) (r : fc) (σ' : Mem) : Prop :=
 ∀ w0 ρ w, Rel w0 ρ σ w → scL σ.next args = true →
  Calls P g (γL ρ args).toArray w fun e w' => ∃ ρ', e = rR ρ' r ∧ bO w0 ρ σ.next ρ' σ' w' ∧ sc σ'.next r.value = true
def mZ (P : Program) (g : FuncId) : Prop := ∃ fn, P.funcs[g]? = some fn ∧ (fn.name == "runtime.NumGoroutine") = false ∧ fn.body.isNone = false
def Rc (P : Program) (g : FuncId) (args : LA_) (σ : Mem) (r : fc) (σ' : Mem) : Prop :=
 ∃ v, r = .ret v ∧ σ' = σ ∧ sc 0 v = true ∧ ∀ (ρ : Nat → Loc) (w : World), (callFunc g (γL ρ args).toArray).run P w = .ok (.value (γ ρ v)) w
def Gj (P : Program) (g : FuncId) (args : LA_) (σ : Mem) (r : fc) (σ' : Mem) : Prop := (mZ P g ∧ cE P g args σ r σ') ∨ Rc P g args σ r σ'
theorem Pg {w : World} (ρ : Nat → Loc) (n : Nat) : Rel (W0.all w) ρ ⟨n, []⟩ w :=
 ⟨fun i b h => (nomatch h), fun i b h => (nomatch h), fun i b h => (nomatch h), fun i b h => (nomatch h), fun i j bi bj h => (nomatch h), fun i b h => (nomatch h), rfl, rfl, rfl, Nat.le_refl _, fun _ _ => rfl⟩
theorem cE.none {P : Program} {g : FuncId} {args : LA_} {v : ab} (h : cE P g args ⟨0, []⟩ (.ret v) ⟨0, []⟩) (hs : scL 0 args = true) (hv : sc 0 v = true) (σ : Mem) : cE P g args σ (.ret v) σ := by
 intro w0 ρ w hr _
 refine (h (W0.all w) ρ w (Pg ρ 0) hs).mono ?_
 rintro e w' ⟨ρ', k1, k2, _⟩
 have R := k2.rel
 have hold : ∀ q, q < w.heap.size → w'.heap[q]? = w.heap[q]? := fun q hq => R.old q hq
 have hsz : w.heap.size ≤ w'.heap.size := R.size
 refine ⟨ρ, ?_, ⟨⟨hr.lt, hr.sco, fun i b hi => ?_, fun i b hi ha => Nat.lt_of_lt_of_le (hr.inb i b hi ha) hsz, hr.ap, hr.own, R.os.trans hr.os, R.tape.trans hr.tape, R.output.trans hr.output, Nat.le_trans hr.size hsz,
  fun q hq => (hold q (by have := w0.lt q hq; have := hr.size; omega)).trans (hr.old q hq)⟩, fun _ _ => rfl, Nat.le_refl _⟩, ko (Nat.zero_le _) v hv⟩
 ·rw [k1]
  simp only [rR]
  rw [fT (n := 0) (ρ := ρ) (ρ' := ρ') (fun i hi => absurd hi (by omega)) v hv]
 ·by_cases ha : b.alive = true
  ·exact cr (fun _ _ => rfl) (hold _ (hr.inb i b hi ha)) b (hr.sco i b hi) (hr.ok i b hi)
  ·exact lB ha (hr.ok i b hi)
def jo (P : Program) (H : bT) : Prop := ∀ g args σ r σ', H g args σ = some (r, σ') → Gj P g args σ r σ'
section
variable {P : Program} {T : ar} {H : bT} {ρ : Nat → Loc} {w0 : W0} {w : World} {σ : Mem} {a : Act} {tm : LA_} {next : Act → World → Prop} {Q : Exit → Act → World → Prop}
theorem eu {o : Oper} {v : ab} {ρ' : Nat → Loc} {w' : World} (hr : (execOp a.eval o).run P w = .ok (.value (γ ρ' v)) w') (hn : next (a.put o.dst (γ ρ' v)) w') : o.wp P a w next Q := by
 unfold Oper.wp; rw [hr]; exact hn
theorem Fc {o : Oper} {w' : World} (hr : (execOp a.eval o).run P w = .ok .skip w') (hn : next (a.put o.dst undef) w') : o.wp P a w next Q := by
 unfold Oper.wp; rw [hr]; exact hn
theorem jp {g : FuncId} (hg : mZ P g) (args : Array Value) : (callFunc g args).run P w = .ok (.enter g args) w := by
 obtain ⟨fn, h1, h2, h3⟩ := hg
 simp only [callFunc, UO, run_program, UN, h1, h2, h3, UE, if_false, UP]
def dOf (f : FuncId) (cap args : List Value) : Deferred :=
 if f = wG then { target := .collected (match cap with | [.int _ n] => n.toNat | _ => 0), args := #[] } else { target := .fn (.func f) cap.toArray, args := args.toArray }
def γD (ρ : Nat → Loc) (d : oh) : Deferred := dOf d.f (γL ρ d.cap) (γL ρ d.args)
def Ue (o : Oper) (a : Act) (next : Act → World → Prop) (Q : Exit → Act → World → Prop) (ρ' : Nat → Loc) (w' : World) (σ' : Mem) : cF → Prop
 | .val v => sc σ'.next v = true → next (a.put o.dst (γ ρ' v)) w'
 | .skip => next (a.put o.dst undef) w'
 | .pan v => sc σ'.next v = true → Q (.panic [{ v := γ ρ' v, recovered := false }]) a w'
 | .dfr d => scL σ'.next d.cap = true → scL σ'.next d.args = true → next ({ a with defers := γD ρ' d :: a.defers }.put o.dst undef) w'
theorem Kh (h : Rel w0 ρ σ w) {z : ab} (hz : iX σ z = true) : ∃ ad l c, γ ρ z = .slice (some ad) l c := by
 unfold iX at hz
 split at hz
 ·rename_i i
  split at hz
  ·rename_i c cs n sz own hg
   have hb := h.ok i _ hg
   obtain ⟨_, ⟨_, h0, _⟩ | ⟨_, h1, _⟩⟩ := hb
   ·cases h0
   ·exact ⟨_, _, _, by simp only [γ, h1]; rfl⟩
  ·cases hz
 ·cases hz
theorem Ph (h : Rel w0 ρ σ w) (hT : aZ P T) {c n : Bool} {op : BinOp} {t : TypeId} {x y v : ab} (hz : Ca T σ c n op t x y = some v) (xo yo : Operand) (hc : c = true → (ml xo || ml yo) = true) :
  (do eqGuard op t xo yo (γ ρ x) (γ ρ y); binOp op t (γ ρ x) (γ ρ y)).run P w = .ok (γ ρ v) w ∧ sc σ.next v = true := by
 unfold Ca at hz
 cases n with
 | false => exact J0 w hT hz xo yo hc
 | true =>
  simp only [cond_true] at hz
  split at hz
  rotate_left
  ·exact J0 w hT hz xo yo hc
  rename_i u hu
  cases hz
  unfold B9 at hu
  cases hb : (((gJ x && iX σ y) || (iX σ x && gJ y)) && F9 (T t)) with
  | false => rw [hb] at hu; cases hu
  | true =>
   rw [hb] at hu
   simp only [cond_true] at hu
   simp only [UC, Bool.or_eq_true] at hb
   obtain ⟨hxy, hk⟩ := hb
   obtain ⟨e, hk⟩ : ∃ e, P.underlying t = some (.slice e) := by
    unfold F9 at hk
    split at hk
    ·rename_i e i hi
     have := (hT t _ hi).k
     simp only [KOk] at this
     exact ⟨_, this⟩
    ·cases hk
   have nl : ∀ z : ab, gJ z = true → γ ρ z = .slice none 0 0 := by
    intro z hz
    cases z <;> first | rfl | cases hz
   have key : ∃ a l c b l' c', γ ρ x = .slice a l c ∧ γ ρ y = .slice b l' c' ∧ (a = none ∨ b = none) ∧ (a.isNone && b.isNone) = false := by
    rcases hxy with ⟨h1, h2⟩ | ⟨h1, h2⟩
    ·obtain ⟨ad, l, c, q⟩ := Kh h h2
     exact ⟨_, _, _, _, _, _, nl x h1, q, .inl rfl, rfl⟩
    ·obtain ⟨ad, l, c, q⟩ := Kh h h1
     exact ⟨_, _, _, _, _, _, q, nl y h2, .inr rfl, rfl⟩
   obtain ⟨a1, l1, c1, b1, l2, c2, q1, q2, q3, q4⟩ := key
   have he := kq (P := P) w hk a1 b1 l1 c1 l2 c2 q3
   rw [q4] at he
   have := ep (P := P) (t := t) w xo yo (x := .slice a1 l1 c1) (y := .slice b1 l2 c2) rfl rfl (fun _ => bW w (by simp) (by simp)) he
   rw [q1, q2]
   split at hu
   ·cases hu; exact ⟨this.1, by simp [sc]⟩
   ·cases hu; exact ⟨this.2, by simp [sc]⟩
   ·cases hu
theorem z9 (hT : aZ P T) (hH : jo P H) (h : Rel w0 ρ σ w) (hf : a.tmps = (γL ρ tm).toArray) (hs : scL σ.next tm = true) {o : Oper} {r : cF} {σ' : Mem}
  (hx : aM T H o.op tm σ = some (r, σ'))
  (K : ∀ ρ' w', bO w0 ρ σ.next ρ' σ' w' → Ue o a next Q ρ' w' σ' r) : o.wp P a w next Q := by
 obtain ⟨dst, op, type, pos, after, guard⟩ := o
 have pure1 : ∀ {r1 : Option ab}, (r1.map fun v => ((cF.val v, σ) : cF × Mem)) = some (r, σ') →
   (∀ v, r1 = some v → (execOp a.eval ⟨dst, op, type, pos, after, guard⟩).run P w = .ok (.value (γ ρ v)) w ∧ sc σ.next v = true) →
   Oper.wp P ⟨dst, op, type, pos, after, guard⟩ a w next Q := by
  intro r1 h1 h2
  cases r1 with
  | none => cases h1
  | some v =>
   cases h1
   obtain ⟨q1, q2⟩ := h2 v rfl
   exact eu q1 (K ρ w (bO.refl h) q2)
 have E : ∀ {x : Operand} {v : ab}, ev tm x = some v → a.eval x = γ ρ v ∧ sc σ.next v = true := fun hv => qf hf hs hv
 cases op <;> simp only [aM] at hx
 case move x => exact pure1 hx fun v hv => by obtain ⟨e1, e2⟩ := E hv; exact ⟨by simp only [execOp, e1, UP], e2⟩
 case assign x => exact pure1 hx fun v hv => by obtain ⟨e1, e2⟩ := E hv; exact ⟨by simp only [execOp, e1, UP], e2⟩
 case pick c x y =>
  split at hx
  ·rename_i hc
   have hc' := (E hc).1
   exact pure1 hx fun v hv => by obtain ⟨e1, e2⟩ := E hv; exact ⟨by simp only [execOp, hc', γ, asBool, UO, UP, UN, if_true, e1], e2⟩
  ·rename_i hc
   have hc' := (E hc).1
   exact pure1 hx fun v hv => by obtain ⟨e1, e2⟩ := E hv; exact ⟨by simp only [execOp, hc', γ, asBool, UO, UP, UN, UE, if_false, e1], e2⟩
  ·cases hx
 case alloc t =>
  split at hx
  ·cases hx
  ·rename_i i ht
   cases hx
   obtain ⟨w', L, r1, l1, l2, r2⟩ := NR h hT ht (yw T t)
   refine eu (v := .ptr σ.next 0) (ρ' := upd ρ σ.next L) (w' := w') ?_ (K _ _ r2 (by simp [sc]))
   simp only [execOp, UO, r1, UN, UP, γ, bw, l1, l2, Nat.add_zero]
 case box t x =>
  split at hx
  ·rename_i v hv
   split at hx
   ·cases hx
   ·rename_i ht
    cases hx
    obtain ⟨e1, e2⟩ := E hv
    obtain ⟨w', L, r1, l1, l2, r2⟩ := Ra (P := P) h e2 (by simpa using ht) t (yw T t)
    refine eu (v := .ptr σ.next 0) (ρ' := upd ρ σ.next L) (w' := w') ?_ (K _ _ r2 (by simp [sc]))
    simp only [execOp, e1, UO, r1, UN, UP, γ, bw, l1, l2, Nat.add_zero]
  ·cases hx
 case build t ps =>
  split at hx
  ·rename_i vs hvs
   obtain ⟨e1, e2⟩ := JY hf hs hvs
   refine pure1 hx fun v hv => ?_
   obtain ⟨r1, r2⟩ := NK (ρ := ρ) w hT e2 hv
   refine ⟨?_, r2⟩
   have e3 : (ps.map fun (x : Nat × Operand) => (x.1, a.eval x.2)) = (vs.map fun x => (x.1, γ ρ x.2)).toArray := by
    apply Array.ext'; rw [Array.toList_map, e1]
   simp only [execOp, UO]
   rw [show (ps.map fun (x : Nat × Operand) => match x with | (i, x) => (i, a.eval x)) = (vs.map fun x => (x.1, γ ρ x.2)).toArray from e3]
   simp only [r1, UN, UP]
  ·cases hx
 case buildSlice t n ps =>
  split at hx
  ·rename_i vs hvs
   obtain ⟨e1, e2⟩ := JY hf hs hvs
   cases hb : iK T σ t n vs with
   | none => rw [hb] at hx; cases hx
   | some q =>
    obtain ⟨v, σ1⟩ := q
    rw [hb] at hx; cases hx
    obtain ⟨ρ', w', r1, r2, r3⟩ := HZ h hT e2 hb
    have e3 : (ps.map fun (x : Nat × Operand) => (x.1, a.eval x.2)) = (vs.map fun x => (x.1, γ ρ x.2)).toArray := by
     apply Array.ext'; rw [Array.toList_map, e1]
    refine eu (v := v) (ρ' := ρ') (w' := w') ?_ (K _ _ r2 r3)
    simp only [execOp, UO]
    rw [show (ps.map fun (x : Nat × Operand) => match x with | (i, x) => (i, a.eval x)) = (vs.map fun x => (x.1, γ ρ x.2)).toArray from e3]
    simp only [r1, UN, UP]
  ·cases hx
 case makeSlice t l c =>
  split at hx
  ·rename_i k n hl hn
   cases hb : CM T σ t n with
   | none => rw [hb] at hx; cases hx
   | some q =>
    obtain ⟨v, σ1⟩ := q
    rw [hb] at hx; cases hx
    obtain ⟨ρ', w', r1, r2, r3⟩ := Pf (k := k) h hT hb
    have ec : a.eval c = a.eval l := by
     cases l <;> cases c <;> simp only [Jn, UE] at hl
     ·rw [UR hl]
     ·rename_i x y
      cases x <;> cases y <;> simp only [Jn, UE, UC, UI] at hl
      rw [hl.1, hl.2]
    refine eu (v := v) (ρ' := ρ') (w' := w') ?_ (K _ _ r2 r3)
    simp only [execOp, ec, (E hn).1, γ, UO, r1, UN, UP]
  ·cases hx
 case load t x =>
  split at hx
  ·rename_i y hy
   refine pure1 hx fun v hv => ?_
   obtain ⟨b, o, rfl, r1, r2⟩ := h.DT (P := P) hT hv
   exact ⟨by simp only [execOp, Instr.loadAt, (E hy).1, γ, Instr.sureAddr, UO, UP, UN, r1], r2⟩
  ·cases hx
 case store t x y =>
  split at hx
  ·rename_i u v hu hv
   cases hp : qa T σ t u v with
   | none => rw [hp] at hx; cases hx
   | some σ1 =>
    rw [hp] at hx; cases hx
    obtain ⟨e1, e2⟩ := E hv
    obtain ⟨b, o, w', rfl, r1, r2, r3⟩ := h.JX (P := P) hT hp e2
    refine Fc (w' := w') ?_ (K ρ w' ⟨r2, fun _ _ => rfl, by omega⟩)
    simp only [execOp, Instr.storeAt, (E hu).1, e1, γ, Instr.sureAddr, UO, UP, UN, r1]
  ·cases hx
 case binOp op t x y t2 =>
  split at hx
  ·rename_i u v hu hv
   refine pure1 hx fun z hz => ?_
   obtain ⟨r1, r2⟩ := Ph h hT hz x y id
   refine ⟨?_, r2⟩
   simp only [execOp, (E hu).1, (E hv).1, UO] at r1 ⊢
   simp only [r1, UN, UP]
  ·cases hx
 case unOp op t x =>
  split at hx
  ·rename_i u hu
   refine pure1 hx fun z hz => ?_
   obtain ⟨r1, r2⟩ := Q5 (P := P) (ρ := ρ) (n := σ.next) w hz
   exact ⟨by simp only [execOp, (E hu).1, UO, r1, UN, UP], r2⟩
  ·cases hx
 case convert src dst' x =>
  split at hx
  ·rename_i u _ hu
   cases hb : wC T σ src dst' u with
   | none => rw [hb] at hx; cases hx
   | some q =>
    obtain ⟨v, σ1⟩ := q
    rw [hb] at hx; cases hx
    obtain ⟨ρ', w', r1, r2, r3⟩ := Ka h hT hb
    refine eu (v := v) (ρ' := ρ') (w' := w') ?_ (K _ _ r2 r3)
    simp only [execOp, (E hu).1, UO, r1, UN, UP]
  ·rename_i u _ _ hu
   refine pure1 hx fun z hz => ?_
   obtain ⟨r1, r2⟩ := Kb (P := P) h hT hz
   exact ⟨by simp only [execOp, (E hu).1, UO, r1, UN, UP], r2⟩
  ·rename_i u _ _ hu
   refine pure1 hx fun z hz => ?_
   obtain ⟨r1, r2⟩ := NF (ρ := ρ) (n := σ.next) w hT hz
   exact ⟨by simp only [execOp, (E hu).1, UO, r1, UN, UP], r2⟩
  ·cases hx
 case makeFunc fn fs cs =>
  cases fn with
  | func g =>
   simp only [] at hx
   split at hx
   ·rename_i us vs hu hv
    cases hx
    obtain ⟨e1, e2⟩ := sF hf hs hu
    obtain ⟨e3, e4⟩ := sF hf hs hv
    refine eu (v := .func g us vs) (ρ' := ρ) (w' := w) ?_ (K _ _ (bO.refl h) (by simp [sc, e2, e4]))
    have e5 : fs.map a.eval = (γL ρ us).toArray := by apply Array.ext'; rw [Array.toList_map, e1]
    have e6 : cs.map a.eval = (γL ρ vs).toArray := by apply Array.ext'; rw [Array.toList_map, e3]
    simp only [execOp, Instr.makeFunc, UO, UP, UN, γ, e5, e6]
   ·cases hx
  | _ => cases hx
 case makeMap t rs =>
  cases rs <;> simp only [] at hx <;> cases hx
  refine eu (v := .map σ.next) (ρ' := upd ρ σ.next (Loc.mk3 (w.heap.size) (0) (0))) (w' := { w with heap := w.heap.push (.map #[] 0) }) ?_ (K _ _ ⟨?_, fun i hi => dU hi, by simp⟩ (by simp [sc]))
  ·simp only [execOp, Instr.makeMap, Option.map_none, UO, run_newObj, UP, UN, γ, bw]
  ·exact h.push rfl (by simp [scB]) fun ρ' _ => ⟨#[], by simp, rfl⟩
 case fieldAddr s x f =>
  split at hx
  ·rename_i u hu
   refine pure1 hx fun z hz => ?_
   obtain ⟨r1, r2⟩ := Jd (ρ := ρ) w hT (E hu).2 hz
   exact ⟨by simp only [execOp, (E hu).1, UO, r1, UN, UP], r2⟩
  ·cases hx
 case field s x f =>
  split at hx
  ·rename_i u hu
   refine pure1 hx fun z hz => ?_
   obtain ⟨r1, r2⟩ := NH (ρ := ρ) w hT (E hu).2 hz
   exact ⟨by simp only [execOp, (E hu).1, UO, r1, UN, UP], r2⟩
  ·cases hx
 case indexAddr t x i =>
  split at hx
  ·rename_i u v hu hv
   refine pure1 hx fun z hz => ?_
   obtain ⟨r1, r2⟩ := Je (ρ := ρ) w hT h (E hu).2 hz
   exact ⟨by simp only [execOp, (E hu).1, (E hv).1, UO, r1, UN, UP], r2⟩
  ·cases hx
 case index t x i =>
  split at hx
  ·rename_i u v hu hv
   refine pure1 hx fun z hz => ?_
   obtain ⟨r1, r2⟩ := NI (ρ := ρ) w hT (E hu).2 hz
   exact ⟨by simp only [execOp, (E hu).1, (E hv).1, UO, r1, UN, UP], r2⟩
  ·cases hx
 case lookup t x k ok =>
  split at hx
  ·rename_i u v hu hv
   refine pure1 hx fun z hz => ?_
   obtain ⟨r1, r2⟩ := ME h hT hz
   exact ⟨by simp only [execOp, (E hu).1, (E hv).1, UO, r1, UN, UP], r2⟩
  ·cases hx
 case mapEntry t m k =>
  split at hx
  ·rename_i u v hu hv
   cases hp : wD T σ t u v with
   | none => rw [hp] at hx; cases hx
   | some q =>
    obtain ⟨z, σ1⟩ := q
    rw [hp] at hx; cases hx
    obtain ⟨w', r1, r2, r3, r4⟩ := Kd h hT hp
    refine eu (v := z) (ρ' := ρ) (w' := w') ?_ (K _ _ ⟨r2, fun _ _ => rfl, by simp only [r3]; omega⟩ (by simp only [r3]; exact r4))
    simp only [execOp, (E hu).1, (E hv).1, UO, r1, UN, UP]
  ·cases hx
 case entryStore t m n x =>
  split at hx
  ·rename_i u v z hu hv hz
   cases hp : rO σ u v z with
   | none => rw [hp] at hx; cases hx
   | some σ1 =>
    rw [hp] at hx; cases hx
    obtain ⟨w', r1, r2, r3⟩ := H0 (P := P) t h hp
    refine Fc (w' := w') ?_ (K ρ w' ⟨r2, fun _ _ => rfl, by omega⟩)
    simp only [execOp, (E hu).1, (E hv).1, (E hz).1, UO, r1, UN, UP]
  ·cases hx
 case mapUpdate t m k x =>
  split at hx
  ·rename_i u v z hu hv hz
   cases hp : ut T σ t u v z with
   | none => rw [hp] at hx; cases hx
   | some σ1 =>
    rw [hp] at hx; cases hx
    obtain ⟨w', r1, r2, r3⟩ := MH h hT hp
    refine Fc (w' := w') ?_ (K ρ w' ⟨r2, fun _ _ => rfl, by omega⟩)
    simp only [execOp, (E hu).1, (E hv).1, (E hz).1, UO, r1, UN, UP]
  ·cases hx
 case range t x =>
  split at hx
  ·rename_i u hu
   obtain ⟨q, hq, hq2⟩ := UM.1 hx
   obtain ⟨v, σ1⟩ := q
   cases hq2
   obtain ⟨w', ρ', r1, r2, r3⟩ := NS (P := P) h hT hq
   refine eu (v := v) (ρ' := ρ') (w' := w') ?_ (K _ _ r2 r3)
   simp only [execOp, (E hu).1, UO, r1, UN, UP]
  ·cases hx
 case entry x =>
  split at hx
  ·rename_i u hu
   refine pure1 hx fun z hz => ?_
   obtain ⟨r1, r2⟩ := NT (P := P) h hz
   exact ⟨by simp only [execOp, (E hu).1, UO, r1, UN, UP], r2⟩
  ·cases hx
 case next x b =>
  cases b with
  | true => cases hx
  | false =>
   simp only [] at hx
   split at hx
   ·rename_i u hu
    obtain ⟨q, hq, hq2⟩ := UM.1 hx
    obtain ⟨v, σ1⟩ := q
    cases hq2
    unfold Qw at hq
    split at hq
    ·rename_i i m since seen es clock hit
     rcases Kf (P := P) h hit type with ⟨q1, q2⟩ | ⟨e, q1, w', q2, q3, q4⟩
     ·rw [q1] at hq
      cases hq
      refine eu (v := .tup [.bool false]) (ρ' := ρ) (w' := w) ?_ (K ρ w (bO.refl h) (by simp [sc, scL]))
      simp only [execOp, (E hu).1, UO, q2, UN, UP]
     ·split at hq
      ·rename_i hl; rw [hl] at q1; cases q1
      ·rename_i e' hl
       cases hq
       rw [hl] at q1
       obtain rfl : e = e' := by simpa using q1
       refine eu (v := .tup [.bool true, e.1, e.2.1]) (ρ' := ρ) (w' := w') ?_ (K ρ w' ⟨q3, fun _ _ => rfl, Nat.le_refl _⟩ q4)
       simp only [execOp, (E hu).1, UO, q2, UN, UP]
      ·cases hq
    ·cases hq
   ·cases hx
 case slice t x l hi mx =>
  cases mx with
  | some _ => cases hx
  | none =>
   simp only [] at hx
   split at hx
   ·rename_i u lo hg hu hlo hhi
    have ho : ∀ {y : Option Operand} {z : Option ab}, evO tm y = some z → y.map a.eval = z.map (γ ρ) := by
     intro y z hy
     cases y with
     | none => cases hy; rfl
     | some y =>
      obtain ⟨v, hv, rfl⟩ := UM.1 hy
      simp only [US, (E hv).1]
    cases hsl : xA with
    | true =>
     rw [hsl] at hx
     obtain ⟨v, hq, hq2⟩ := UM.1 hx
     cases hq2
     obtain ⟨r1, r3⟩ := MI (P := P) h hT (E hu).2 hq
     refine eu (v := v) (ρ' := ρ) (w' := w) ?_ (K _ _ (bO.refl h) r3)
     simp only [execOp, (E hu).1, ho hlo, ho hhi, Option.map_none, UO, r1, UN, UP]
    | false =>
     rw [hsl] at hx
     simp only [cond_false] at hx
     obtain ⟨q, hq, hq2⟩ := UM.1 hx
     obtain ⟨v, σ1⟩ := q
     cases hq2
     obtain ⟨ρ', r1, r2, r3⟩ := NW (P := P) h hT (E hu).2 hq
     refine eu (v := v) (ρ' := ρ') (w' := w) ?_ (K _ _ r2 r3)
     simp only [execOp, (E hu).1, ho hlo, ho hhi, Option.map_none, UO, r1, UN, UP]
   ·cases hx
 case extract x i =>
  split at hx
  ·rename_i vs hu
   refine pure1 hx fun z hz => ?_
   obtain ⟨e1, e2⟩ := E hu
   simp only [sc] at e2
   refine ⟨?_, (gA _ _).1 e2 z (List.mem_of_getElem? hz)⟩
   simp only [execOp, e1, γ, Instr.extract, List.getElem?_toArray, gZ, hz, US, UO, UP, UN]
  ·cases hx
 case nilCheck x =>
  split at hx
  ·rename_i u hu
   refine pure1 hx fun z hz => ?_
   obtain ⟨e1, e2⟩ := E hu
   unfold Io at hz
   split at hz
   ·rename_i hn
    cases hz
    refine ⟨?_, e2⟩
    simp only [execOp, e1]
    cases u <;> first | (cases hn; done) | rfl
   ·cases hz
  ·cases hx
 case makeInterface t x =>
  split at hx
  ·rename_i u hu
   refine pure1 hx fun z hz => ?_
   obtain ⟨e1, e2⟩ := E hu
   unfold Nx at hz
   split at hz
   ·cases hz
   ·rename_i i ht
    split at hz
    ·cases hz
    ·rename_i hn
     cases hz
     refine ⟨?_, by simpa only [sc] using e2⟩
     have hk := (hT t i ht).k
     simp only [execOp, e1, UO, γ]
     cases hi : i.k <;> rw [hi] at hk <;> simp only [KOk] at hk
     case iface => exact absurd (.inl hi) hn
     all_goals
      simp only [Instr.makeInterface, UO]
      first
       | (obtain ⟨_, _, _, hk⟩ := hk; simp only [run_underlying hk, UN, UP]; done)
       | (obtain ⟨_, hk, _⟩ := hk; simp only [run_underlying hk, UN, UP]; done)
       | (simp only [run_underlying hk, UN, UP]; done)
  ·cases hx
 case typeAssert x xt t ok => split at hx <;> simp [LK] at hx
 case panic x =>
  split at hx
  ·rename_i t v hv
   cases hx
   obtain ⟨e1, e2⟩ := E hv
   have hK := K ρ w (bO.refl h) e2
   have hr : (execOp a.eval ⟨dst, .panic x, type, pos, after, guard⟩).run P w = .halt (.panic (γ ρ (.iface t v))) w := by
    simp only [execOp, e1, γ, Instr.panic]; rfl
   unfold Oper.wp
   rw [hr]
   exact hK
  ·cases hx
 case defer c =>
  obtain ⟨callee, args, argTypes⟩ := c
  cases callee with
  | invoke r m => simp only [] at hx; cases hx
  | builtin b => simp only [] at hx; cases hx
  | value f =>
   simp only [] at hx
   split at hx
   ·rename_i g fs cs vs hg hvs
    split at hx
    ·cases hx
    rename_i hgm
    cases hx
    obtain ⟨e1, e2⟩ := sF hf hs hvs
    have e3 : args.map a.eval = (γL ρ vs).toArray := by apply Array.ext'; rw [Array.toList_map, e1]
    obtain ⟨q1, q2⟩ := E hg
    simp only [sc, UC] at q2
    have hK := K ρ w (bO.refl h) q2.2 (jU.2 ⟨q2.1, e2⟩)
    have hr : (execOp a.eval ⟨dst, .defer ⟨.value f, args, argTypes⟩, type, pos, after, guard⟩).run P w = .ok (.defer (γD ρ ⟨g, cs, fs ++ vs⟩)) w := by
     have e4 : (γL ρ fs).toArray ++ (γL ρ vs).toArray = (γL ρ (fs ++ vs)).toArray := by
      apply Array.ext'; simp [cz]
     simp only [execOp, resolve, e3, q1, γ, Deferred.ofValue, UO, UP, UN, γD, dOf, if_neg hgm, e4]
    unfold Oper.wp
    rw [hr]
    exact hK
   ·cases hx
 case call c =>
  obtain ⟨callee, args, argTypes⟩ := c
  cases callee with
  | invoke r m => simp only [] at hx; cases hx
  | builtin b =>
   simp only [] at hx
   split at hx
   ·rename_i vs hvs
    obtain ⟨e1, e2⟩ := sF hf hs hvs
    have e3 : args.map a.eval = (γL ρ vs).toArray := by apply Array.ext'; rw [Array.toList_map, e1]
    unfold iL at hx
    split at hx
    ·rename_i t ts x xs hts
     refine pure1 hx fun z hz => ?_
     obtain ⟨r1, r2⟩ := Rb h hT hz argTypes (γL ρ (x :: xs)).toArray (by rw [← UX, hts]; rfl) (by simp [γL]) type
     refine ⟨?_, r2⟩
     simp only [execOp, resolve, e3, UO, UP, UN, invoke, builtin, r1]
    ·rename_i t u s x hts
     split at hx
     ·rename_i e _ _ _ _ _ hu
      cases hb : oL T σ t s x with
      | none => rw [hb] at hx; cases hx
      | some q =>
       obtain ⟨v, σ1⟩ := q
       rw [hb] at hx; cases hx
       simp only [scL, UC] at e2
       obtain ⟨ρ', w', r1, r2, r3⟩ := MC (P := P) h hT hu rfl e2.1 hb type
       refine eu (v := v) (ρ' := ρ') (w' := w') ?_ (K _ _ r2 r3)
       have e4 : argTypes = #[t, u] := by apply Array.ext'; rw [hts]
       simp only [execOp, resolve, e3, UO, UP, UN, invoke, builtin, e4, γL]
       rw [r1]; rfl
     ·cases hx
    ·rename_i t ts x k hts
     cases hb : CN T σ t x k with
     | none => rw [hb] at hx; cases hx
     | some σ1 =>
      rw [hb] at hx; cases hx
      obtain ⟨w', r1, r2, r3⟩ := MG (P := P) h hT (ts := argTypes) (by rw [← UX, hts]; rfl) type hb
      refine eu (v := .tup []) (ρ' := ρ) (w' := w') ?_ (K _ _ ⟨r2, fun _ _ => rfl, by omega⟩ (by simp [sc, scL]))
      simp only [execOp, resolve, e3, UO, UP, UN, invoke, builtin, γL]
      rw [r1]; rfl
    ·refine pure1 hx fun z hz => ?_
     unfold CO at hz
     split at hz
     ·rename_i x r
      simp only [scL, UC] at e2
      obtain ⟨r1, r2⟩ := Ke (P := P) (ρ := ρ) (w := w) true hz e2.1
      refine ⟨?_, r2⟩
      simp only [if_true] at r1
      simp only [execOp, resolve, e3, UO, UP, UN, invoke, builtin, Builtin.max_, γL, r1]
     ·cases hz
    ·refine pure1 hx fun z hz => ?_
     unfold CO at hz
     split at hz
     ·rename_i x r
      simp only [scL, UC] at e2
      obtain ⟨r1, r2⟩ := Ke (P := P) (ρ := ρ) (w := w) false hz e2.1
      refine ⟨?_, r2⟩
      simp only [UE, if_false] at r1
      simp only [execOp, resolve, e3, UO, UP, UN, invoke, builtin, Builtin.min_, γL, r1]
     ·cases hz
    ·cases hx
   ·cases hx
  | value f =>
   simp only [] at hx
   split at hx
   ·rename_i g vs hg hvs
    obtain ⟨e1, e2⟩ := sF hf hs hvs
    have e3 : args.map a.eval = (γL ρ vs).toArray := by apply Array.ext'; rw [Array.toList_map, e1]
    cases hd : nM f argTypes.toList with
    | true =>
     rw [hd] at hx
     obtain ⟨rfl, v, rfl, hy, hv0, hg0, hvs0⟩ := sE hx
     unfold gi at hy
     split at hy
     ·rename_i g fs cs
      obtain ⟨q1, q2⟩ := E hg
      simp only [sc, UC] at hg0
      have hargs : scL 0 (fs ++ vs ++ cs) = true := jU.2 ⟨jU.2 ⟨hg0.1, hvs0⟩, hg0.2⟩
      have e4 : (γL ρ fs).toArray ++ (γL ρ vs).toArray ++ (γL ρ cs).toArray = (γL ρ (fs ++ vs ++ cs)).toArray := by
       apply Array.ext'; simp [cz]
      split at hy
      ·rename_i v1 σ1 hh
       cases hy
       rcases hH _ _ _ _ _ hh with ⟨hfn, hc⟩ | ⟨v', e5, e6, e7, e8⟩
       ·unfold Oper.wp
        rw [show (execOp a.eval ⟨dst, .call ⟨.value f, args, argTypes⟩, type, pos, after, guard⟩).run P w = .ok (.enter g (γL ρ (fs ++ vs ++ cs)).toArray) w by
         simp only [execOp, resolve, e3, q1, γ, Deferred.ofValue, UO, UP, UN, invoke, e4, jp hfn]]
        refine ((hc.none hargs hv0 σ') w0 ρ w h (cf (Nat.zero_le _) _ hargs)).mono ?_
        rintro e w' ⟨ρ', rfl, hp, hv⟩
        exact K ρ' w' hp hv
       ·cases e5
        refine eu (v := v) (ρ' := ρ) (w' := w) ?_ (K _ _ (bO.refl h) (ko (Nat.zero_le _) v e7))
        simp only [execOp, resolve, e3, q1, γ, Deferred.ofValue, UO, UP, UN, invoke, e4, e8 ρ w]
      ·cases hy
      ·cases hy
     ·cases hy
    | false =>
     rw [hd] at hx
     simp only [qd, cond_false] at hx
     unfold gi at hx
     split at hx
     ·rename_i g fs cs
      obtain ⟨q1, q2⟩ := E hg
      simp only [sc, UC] at q2
      have hargs : scL σ.next (fs ++ vs ++ cs) = true := jU.2 ⟨jU.2 ⟨q2.1, e2⟩, q2.2⟩
      have hrun : ∀ (hfn : mZ P g), (execOp a.eval ⟨dst, .call ⟨.value f, args, argTypes⟩, type, pos, after, guard⟩).run P w = .ok (.enter g (γL ρ (fs ++ vs ++ cs)).toArray) w := by
       intro hfn
       have e4 : (γL ρ fs).toArray ++ (γL ρ vs).toArray ++ (γL ρ cs).toArray = (γL ρ (fs ++ vs ++ cs)).toArray := by
        apply Array.ext'; simp [cz]
       simp only [execOp, resolve, e3, q1, γ, Deferred.ofValue, UO, UP, UN, invoke, e4, jp hfn]
      split at hx
      ·rename_i v σ1 hh
       cases hx
       rcases hH _ _ _ _ _ hh with ⟨hfn, hc⟩ | ⟨v', e5, e6, e7, e8⟩
       ·unfold Oper.wp
        rw [hrun hfn]
        refine (hc w0 ρ w h hargs).mono ?_
        rintro e w' ⟨ρ', rfl, hp, hv⟩
        exact K ρ' w' hp hv
       ·cases e5
        subst e6
        refine eu (v := v) (ρ' := ρ) (w' := w) ?_ (K _ _ (bO.refl h) (ko (Nat.zero_le _) v e7))
        have e4 : (γL ρ fs).toArray ++ (γL ρ vs).toArray ++ (γL ρ cs).toArray = (γL ρ (fs ++ vs ++ cs)).toArray := by
         apply Array.ext'; simp [cz]
        simp only [execOp, resolve, e3, q1, γ, Deferred.ofValue, UO, UP, UN, invoke, e4, e8 ρ w]
      ·rename_i v σ1 hh
       cases hx
       rcases hH _ _ _ _ _ hh with ⟨hfn, hc⟩ | ⟨v', e5, e6, e7, e8⟩
       ·unfold Oper.wp
        rw [hrun hfn]
        refine (hc w0 ρ w h hargs).mono ?_
        rintro e w' ⟨ρ', rfl, hp, hv⟩
        exact K ρ' w' hp hv
       ·cases e5
      ·cases hx
     ·cases hx
   ·cases hx
 all_goals cases hx
end
end Go.Ev
namespace Go.Ev
structure St where
 tm : LA_
 df : List oh
 mem : Mem
 deriving Inhabited
inductive an where
 | normal
 | exit (id : Nat)
 | goto (l : Nat)
 | ret
 | pan (v : ab)
 deriving Inhabited
def Ci (ρ : Nat → Loc) : an → Exit
 | .normal => .normal
 | .exit id => .exit id
 | .goto l => .goto l
 | .ret => .ret
 | .pan v => .panic [{ v := γ ρ v, recovered := false }]
structure bF (w0 : W0) (ρ : Nat → Loc) (s : St) (a : Act) (w : World) : Prop where
 rel : Rel w0 ρ s.mem w
 tm : a.tmps = (γL ρ s.tm).toArray
 sct : scL s.mem.next s.tm = true
 df : a.defers = s.df.map (γD ρ)
 scd : ∀ d ∈ s.df, scL s.mem.next d.cap = true ∧ scL s.mem.next d.args = true
structure db (w0 : W0) (ρ : Nat → Loc) (n : Nat) (o : an) (s' : St) (e : Exit) (a' : Act) (w' : World) : Prop where
 out : ∃ ρ', e = Ci ρ' o ∧ bF w0 ρ' s' a' w' ∧ (∀ i, i < n → ρ' i = ρ i) ∧ n ≤ s'.mem.next ∧ (∀ v, o = .pan v → sc s'.mem.next v = true)
def AWP (P : Program) (c : Code) (s : St) (Φ : an → St → Prop) : Prop :=
 ∀ w0 ρ a w, bF w0 ρ s a w → c.wp P (fun e a' w' => ∃ o s', Φ o s' ∧ db w0 ρ s.mem.next o s' e a' w') a w
def bJ (tm : LA_) (d : Option Tmp) (v : ab) : LA_ :=
 match d with
 | some t => tm.set t v
 | none => tm
def br (all : List Oper) (o : Oper) (tm : LA_) : Bool :=
 match o.guard with
 | none => true
 | some (j, want) => match (all[j]?).bind (·.dst) with
  | some d => match tm[d]? with
   | some (.bool b) => b == want
   | _ => false
  | none => false
def gj (all : List Oper) (o : Oper) (tm : LA_) : Bool :=
 match o.guard with
 | none => false
 | some (j, _) => match (all[j]?).bind (·.dst) with
  | some d => match tm[d]? with
   | some (.dm _) => true
   | _ => false
  | none => false
inductive Aa where
 | go (s : St)
 | pan (v : ab) (s : St)
 deriving Inhabited
def et (T : ar) (H : bT) (all : List Oper) (o : Oper) (s : St) : Option Aa :=
 if gj all o s.tm then none else if br all o s.tm then
  match aM T H o.op s.tm s.mem with
  | some (.val v, σ) => some (.go ⟨bJ s.tm o.dst v, s.df, σ⟩)
  | some (.skip, σ) => some (.go ⟨bJ s.tm o.dst (.tup []), s.df, σ⟩)
  | some (.pan v, σ) => some (.pan v ⟨s.tm, s.df, σ⟩)
  | some (.dfr d, σ) => some (.go ⟨bJ s.tm o.dst (.tup []), d :: s.df, σ⟩)
  | none => none
 else some (.go ⟨bJ s.tm o.dst (.tup []), s.df, s.mem⟩)
def dX (T : ar) (H : bT) (all : List Oper) : List Oper → St → Option Aa
 | [], s => some (.go s)
 | o :: r, s => match et T H all o s with
  | some (.go s') => dX T H all r s'
  | x => x
section
variable {P : Program} {T : ar} {H : bT} {ρ : Nat → Loc} {w0 : W0} {w : World} {s : St} {a : Act}
theorem bF.congr (h : bF w0 ρ s a w) {ρ' : Nat → Loc} {σ' : Mem} {w' : World} (hp : bO w0 ρ s.mem.next ρ' σ' w') : bF w0 ρ' ⟨s.tm, s.df, σ'⟩ a w' := by
 refine ⟨hp.rel, ?_, cf hp.le _ h.sct, ?_, fun d hd => ⟨cf hp.le _ (h.scd d hd).1, cf hp.le _ (h.scd d hd).2⟩⟩
 ·rw [h.tm, cI hp.ext _ h.sct]
 ·rw [h.df]
  apply List.map_congr_left
  intro d hd
  simp only [γD, cI hp.ext _ (h.scd d hd).1, cI hp.ext _ (h.scd d hd).2]
theorem bF.put (h : bF w0 ρ s a w) {v : ab} (hv : sc s.mem.next v = true) (d : Option Tmp) : bF w0 ρ ⟨bJ s.tm d v, s.df, s.mem⟩ (a.put d (γ ρ v)) w := by
 cases d with
 | none => exact ⟨h.rel, h.tm, h.sct, h.df, h.scd⟩
 | some t =>
  refine ⟨h.rel, ?_, uv h.sct hv, h.df, h.scd⟩
  simp only [Act.put, h.tm, bJ, yx, List.setIfInBounds_toArray]
theorem lJ (ρ : Nat → Loc) : undef = γ ρ (.tup []) := by simp [γ, γL, undef]
theorem sH {ops : Array Oper} {o : Oper} {tm : LA_} (hg : gj ops.toList o tm = false) : Region.wanted o (yielded ops (γL ρ tm).toArray) = br ops.toList o tm := by
 unfold Region.wanted br
 unfold gj at hg
 cases hgu : o.guard with
 | none => rfl
 | some g =>
  obtain ⟨j, want⟩ := g
  rw [hgu] at hg
  simp only [yielded, UX]
  simp only [UX] at hg
  cases hd : (ops[j]?).bind (·.dst) with
  | none => simp
  | some d =>
   rw [hd] at hg
   simp only at hg
   simp only [Uy, List.getElem?_toArray, gZ]
   cases htd : tm[d]? with
   | none => simp
   | some v =>
    rw [htd] at hg
    cases v <;> simp [γ]
    simp at hg
theorem jw (hT : aZ P T) (hH : jo P H) (h : bF w0 ρ s a w) {ops : Array Oper} {i : Nat} {o : Oper} (hi : ops[i]? = some o) {r : Aa}
  (hx : et T H ops.toList o s = some r) {Q : Exit → Act → World → Prop} {K : Act → World → Prop}
  (hK : match r with
   | .go s' => ∀ ρ' a' w', bF w0 ρ' s' a' w' → (∀ i, i < s.mem.next → ρ' i = ρ i) → s.mem.next ≤ s'.mem.next → K a' w'
   | .pan v s' => ∀ ρ' a' w', bF w0 ρ' s' a' w' → (∀ i, i < s.mem.next → ρ' i = ρ i) → s.mem.next ≤ s'.mem.next → sc s'.mem.next v = true →
     Q (.panic [{ v := γ ρ' v, recovered := false }]) a' w') : wpOp P ops Q i K a w := by
 unfold wpOp
 simp only [hi]
 unfold et at hx
 cases hg : gj ops.toList o s.tm with
 | true => rw [hg] at hx; cases hx
 | false =>
 rw [hg] at hx
 simp only [UE, if_false] at hx
 have hw : Region.wanted o (yielded ops a.tmps) = br ops.toList o s.tm := by rw [h.tm]; exact sH hg
 rw [hw]
 split at hx
 ·rename_i hwa
  simp only [hwa, if_true]
  refine .inl ?_
  split at hx
  ·rename_i v σ' hx'
   cases hx
   refine z9 hT hH h.rel h.tm h.sct hx' fun ρ' w' hp => ?_
   intro hv
   exact hK ρ' _ w' ((h.congr hp).put hv o.dst) hp.ext hp.le
  ·rename_i σ' hx'
   cases hx
   refine z9 hT hH h.rel h.tm h.sct hx' fun ρ' w' hp => ?_
   show K (a.put o.dst undef) w'
   rw [lJ ρ']
   exact hK ρ' _ w' ((h.congr hp).put (by simp [sc, scL]) o.dst) hp.ext hp.le
  ·rename_i v σ' hx'
   cases hx
   refine z9 hT hH h.rel h.tm h.sct hx' fun ρ' w' hp => ?_
   intro hv
   exact hK ρ' a w' (h.congr hp) hp.ext hp.le hv
  ·rename_i d σ' hx'
   cases hx
   refine z9 hT hH h.rel h.tm h.sct hx' fun ρ' w' hp => ?_
   intro hc1 hc2
   have h1 := h.congr hp
   have h2 : bF w0 ρ' ⟨s.tm, d :: s.df, σ'⟩ { a with defers := γD ρ' d :: a.defers } w' :=
    ⟨h1.rel, h1.tm, h1.sct, by rw [List.map_cons, ← h1.df], fun d' hd' => by
     rcases List.mem_cons.1 hd' with rfl | hd'
     ·exact ⟨hc1, hc2⟩
     ·exact h1.scd d' hd'⟩
   show K ({ a with defers := γD ρ' d :: a.defers }.put o.dst undef) w'
   rw [lJ ρ']
   exact hK ρ' _ w' (h2.put (by simp [sc, scL]) o.dst) hp.ext hp.le
  ·cases hx
 ·rename_i hwa
  cases hx
  have hwa' : br ops.toList o s.tm = false := by simpa using hwa
  simp only [hwa', UE, if_false]
  rw [lJ ρ]
  exact hK ρ _ w (h.put (by simp [sc, scL]) o.dst) (fun _ _ => rfl) (Nat.le_refl _)
theorem wK (hT : aZ P T) (hH : jo P H) {ops : Array Oper} {Q : Exit → Act → World → Prop} : ∀ (l pre : List Oper) (ρ : Nat → Loc) (s : St) (a : Act) (w : World) (r : Aa),
  ops.toList = pre ++ l → bF w0 ρ s a w → dX T H ops.toList l s = some r →
  (match r with
   | .go s' => ∀ ρ' a' w', bF w0 ρ' s' a' w' → (∀ i, i < s.mem.next → ρ' i = ρ i) → s.mem.next ≤ s'.mem.next → Q .normal a' w'
   | .pan v s' => ∀ ρ' a' w', bF w0 ρ' s' a' w' → (∀ i, i < s.mem.next → ρ' i = ρ i) → s.mem.next ≤ s'.mem.next → sc s'.mem.next v = true →
     Q (.panic [{ v := γ ρ' v, recovered := false }]) a' w') → wpOps P ops Q (List.range' pre.length l.length) a w
 | [], pre, ρ, s, a, w, r, _, h, hx, hK => by
  simp only [dX, UB] at hx
  subst hx
  exact hK ρ a w h (fun _ _ => rfl) (Nat.le_refl _)
 | o :: l, pre, ρ, s, a, w, r, he, h, hx, hK => by
  rw [UW, List.range'_succ, wpOps_cons]
  have hi : ops[pre.length]? = some o := by
   rw [← UX, he, List.getElem?_append_right (Nat.le_refl _)]; simp
  simp only [dX] at hx
  cases hs : et T H ops.toList o s with
  | none => rw [hs] at hx; cases hx
  | some q =>
   rw [hs] at hx
   refine jw hT hH h hi hs ?_
   cases q with
   | go s1 =>
    intro ρ1 a1 w1 h1 e1 l1
    have := wK hT hH l (pre ++ [o]) ρ1 s1 a1 w1 r (by simp [he]) h1 hx (by
     cases r with
     | go s' => exact fun ρ' a' w' h' e' l' => hK ρ' a' w' h' (fun i hi => (e' i (by omega)).trans (e1 i hi)) (by omega)
     | pan v s' => exact fun ρ' a' w' h' e' l' => hK ρ' a' w' h' (fun i hi => (e' i (by omega)).trans (e1 i hi)) (by omega))
    simpa using this
   | pan v s1 =>
    simp only [UB] at hx
    subst hx
    exact hK
theorem uk (hT : aZ P T) (hH : jo P H) {id : Nat} {ops : Array Oper} {Φ : an → St → Prop} {r : Aa} (hx : dX T H ops.toList ops.toList s = some r)
  (hΦ : match r with | .go s' => Φ .normal s' | .pan v s' => Φ (.pan v) s') : AWP P (.region id ops false) s Φ := by
 intro w0 ρ a w h
 refine wp_region ?_
 have := wK (w0 := w0) hT hH (ops := ops) (Q := fun e a' w' => ∃ o s', Φ o s' ∧ db w0 ρ s.mem.next o s' e a' w') ops.toList [] ρ s a w r (by simp) h hx (by
  cases r with
  | go s' => exact fun ρ' a' w' h' e' l' => ⟨.normal, s', hΦ, ⟨ρ', rfl, h', e', l', by simp⟩⟩
  | pan v s' => exact fun ρ' a' w' h' e' l' hv => ⟨.pan v, s', hΦ, ⟨ρ', rfl, h', e', l', by simpa using hv⟩⟩)
 rw [List.range_eq_range']
 simpa using this
theorem AWP.mono {c : Code} {Φ Ψ : an → St → Prop} (h : AWP P c s Φ) (hm : ∀ o s', Φ o s' → Ψ o s') : AWP P c s Ψ :=
 fun w0 ρ a w hr => wp_mono (h w0 ρ a w hr) fun _ _ _ ⟨o, s', h1, h2⟩ => ⟨o, s', hm o s' h1, h2⟩
theorem db.trans {n : Nat} {o : an} {s1 s2 : St} {ρ1 : Nat → Loc} {e : Exit} {a' : Act} {w' : World} (hle : n ≤ s1.mem.next) (he : ∀ i, i < n → ρ1 i = ρ i)
  (h : db w0 ρ1 s1.mem.next o s2 e a' w') : db w0 ρ n o s2 e a' w' := by
 obtain ⟨ρ2, h1, h2, h3, h4, h5⟩ := h.out
 exact ⟨ρ2, h1, h2, fun i hi => (h3 i (by omega)).trans (he i hi), by omega, h5⟩
theorem Pi {Φ : an → St → Prop} (h : Φ .normal s) : AWP P .skip s Φ := fun _ ρ _ _ hr => wp_skip ⟨.normal, s, h, ⟨ρ, rfl, hr, fun _ _ => rfl, Nat.le_refl _, by simp⟩⟩
theorem NX {l : Nat} {Φ : an → St → Prop} (h : Φ .normal s) : AWP P (.label l) s Φ := fun _ ρ _ _ hr => wp_label ⟨.normal, s, h, ⟨ρ, rfl, hr, fun _ _ => rfl, Nat.le_refl _, by simp⟩⟩
theorem Pj {id : Nat} {Φ : an → St → Prop} (h : Φ (.exit id) s) : AWP P (.exit id) s Φ := fun _ ρ _ _ hr => wp_exit ⟨.exit id, s, h, ⟨ρ, rfl, hr, fun _ _ => rfl, Nat.le_refl _, by simp⟩⟩
theorem Pk {id : Nat} {Φ : an → St → Prop} (h : Φ (.goto id) s) : AWP P (.goto id) s Φ := fun _ ρ _ _ hr => wp_goto ⟨.goto id, s, h, ⟨ρ, rfl, hr, fun _ _ => rfl, Nat.le_refl _, by simp⟩⟩
theorem Re {Φ : an → St → Prop} (h : Φ .ret s) : AWP P .ret s Φ := fun _ ρ _ _ hr => wp_ret ⟨.ret, s, h, ⟨ρ, rfl, hr, fun _ _ => rfl, Nat.le_refl _, by simp⟩⟩
def an.andThen (Ψ : St → Prop) (Φ : an → St → Prop) : an → St → Prop
 | .normal, s => Ψ s
 | o, s => Φ o s
def an.inBlock (id : Nat) (Φ : an → St → Prop) : an → St → Prop
 | .exit id', s => if id' = id then Φ .normal s else Φ (.exit id') s
 | o, s => Φ o s
end
end Go.Ev
namespace Go.Ev
def CU : Nat → Nat
 | 0 => 0
 | 1 => 1
 | _ => 2
theorem Rf {n : Nat} (h : CU n = 0) : n = 0 := by match n, h with | 0, _ => rfl | 1, h => cases h | n + 2, h => cases h
theorem Rg {n : Nat} (h : CU n ≠ 2) : n = 0 ∨ n = 1 := by match n, h with | 0, _ => exact .inl rfl | 1, _ => exact .inr rfl | n + 2, h => exact absurd rfl h
theorem Lo (n : Nat) : CU n = 0 ∨ CU n = 1 ∨ CU n = 2 := by match n with | 0 => exact .inl rfl | 1 => exact .inr (.inl rfl) | n + 2 => exact .inr (.inr rfl)
def bV (pf : FuncId → Nat) : Op → Nat
 | .call { callee := .value (.func g), .. } => CU (pf g)
 | .call { callee := .value (.tmp f), args := _, argTypes := ts } => cond (nM (.tmp f) ts.toList) 0 2
 | .move _ | .assign _ | .pick .. | .build .. | .unOp .. | .makeFunc .. | .fieldAddr .. | .field .. | .index .. | .extract .. | .nilCheck _ | .makeInterface .. => 0
 | .binOp _ _ x y _ => cond (nu x || nu y) 1 0
 | .convert src dst _ => cond (Nat.beq dst oK) 2 (cond (Nat.beq src oK) 1 0)
 | .slice _ _ _ _ none => cond xA 1 2
 | .load .. | .lookup .. | .indexAddr .. => 1
 | .call { callee := .builtin .len, .. } | .call { callee := .builtin .max, .. } | .call { callee := .builtin .min, .. } => 1
 | _ => 2
theorem ML (pf : FuncId → Nat) (op : Op) : bV pf op = 0 ∨ bV pf op = 1 ∨ bV pf op = 2 := by
 have h2 : ∀ b : Bool, cond b 1 0 = 0 ∨ cond b 1 0 = 1 ∨ cond b 1 0 = 2 := by
  intro b
  cases b
  ·exact .inl rfl
  ·exact .inr (.inl rfl)
 have h3 : ∀ b c : Bool, cond b 2 (cond c 1 0) = 0 ∨ cond b 2 (cond c 1 0) = 1 ∨ cond b 2 (cond c 1 0) = 2 := by
  intro b c
  cases b
  ·exact h2 c
  ·exact .inr (.inr rfl)
 have h4 : ∀ b : Bool, cond b 0 2 = 0 ∨ cond b 0 2 = 1 ∨ cond b 0 2 = 2 := by
  intro b
  cases b
  ·exact .inr (.inr rfl)
  ·exact .inl rfl
 unfold bV
 split
 all_goals first
  | exact Lo _
  | exact h4 _
  | exact h2 _
  | exact h3 _ _
  | exact .inl rfl
  | exact .inr (.inl rfl)
  | exact .inr (.inr rfl)
def ck (pf : FuncId → Nat) (o : Oper) : Bool := bV pf o.op == 2
def Gp (acc : List Nat) (o : Oper) : Nat :=
 o.after.toList.foldl (fun s e => if Region.binds .any e then s ||| (1 <<< e.on) ||| acc.getD e.on 0 else s) 0
def bc : List Oper → List Nat → List Nat
 | [], acc => acc
 | o :: r, acc => bc r (acc ++ [Gp acc o])
def tmpsOf (xs : List Operand) : List Tmp := xs.filterMap fun
 | .tmp t => some t
 | _ => none
def kw (all : List Oper) (o : Oper) : List Tmp :=
 tmpsOf o.op.operands.toList ++ (match o.guard with
  | some (j, _) => ((all[j]?).bind (·.dst)).toList
  | none => [])
def anc (ms : List Nat) (j i : Nat) : Bool := (ms.getD i 0).testBit j
def rz (all : List Oper) (ms : List Nat) : Bool :=
 all.zipIdx.all fun (oi, i) => all.zipIdx.all fun (oj, j) =>
  (i == j || (match oi.dst, oj.dst with | some d, some e => d != e | _, _ => true)) &&
  (i == j || (match oj.dst with | some d => !(kw all oi).contains d || (decide (j < i) && anc ms j i) || (decide (i < j) && anc ms i j) | none => true))
def kr (all : List Oper) : Bool := all.zipIdx.all fun (o, i) => o.after.toList.all fun e => !Region.binds .any e || decide (e.on < i)
def cR (T : ar) (H : bT) (all : List Oper) (o : Oper) (s : St) : Option (ab × Mem) :=
 if gj all o s.tm then none else if br all o s.tm then
  match aM T H o.op s.tm s.mem with
  | some (.val v, σ) => some (v, σ)
  | some (.skip, σ) => some (.tup [], σ)
  | _ => none
 else some (.tup [], s.mem)
def trace (T : ar) (H : bT) (all : List Oper) : List Oper → St → Option (List (St × ab) × St)
 | [], s => some ([], s)
 | o :: r, s => match cR T H all o s with
  | some (v, σ) => match trace T H all r ⟨bJ s.tm o.dst v, s.df, σ⟩ with
   | some (l, e) => some ((s, v) :: l, e)
   | none => none
  | none => none
def vA (pf : FuncId → Nat) (all : List Oper) : List Nat := 0 :: (all.zipIdx.filter fun x => ck pf x.1).map fun x => x.2 + 1
def ox (pf : FuncId → Nat) (all : List Oper) (ms : List Nat) (i c : Nat) : Bool :=
 all.zipIdx.any fun (o, q) => ck pf o && ((decide (c ≤ q) && anc ms q i) || (decide (q < c) && anc ms i q))
def Gq (pf : FuncId → Nat) (T : ar) (H : bT) (all : List Oper) (ms : List Nat) (mems : List Mem) (i : Nat) (o : Oper) (s : St) (v : ab) : Bool :=
  !(bV pf o.op == 1) || !(br all o s.tm) || (vA pf all).all fun c => ox pf all ms i c ||
    (match mems[c]? with
     | some σ => match aM T H o.op s.tm σ with
       | some (.val u, _) => aeq u v
       | _ => false
     | none => false)
def rA (pf : FuncId → Nat) (T : ar) (H : bT) (all : List Oper) (ms : List Nat) (mems : List Mem) : List Oper → Nat → List (St × ab) → Bool
 | o :: r, i, (s, v) :: tr => Gq pf T H all ms mems i o s v && rA pf T H all ms mems r (i + 1) tr
 | _, _, _ => true
def eX (pf : FuncId → Nat) (H : bT) : Prop := (∀ g args σ r σ', pf g = 0 → H g args σ = some (r, σ') → σ' = σ ∧ (∃ v, r = .ret v) ∧ ∀ σ2, H g args σ2 = some (r, σ2)) ∧
 ∀ g args σ r σ', pf g = 1 → H g args σ = some (r, σ') → σ' = σ ∧ ∃ v, r = .ret v
theorem eX.still {pf : FuncId → Nat} {H : bT} (h : eX pf H) {g : FuncId} {args : LA_} {σ σ' : Mem} {r : fc} (hk : pf g = 0 ∨ pf g = 1) (hh : H g args σ = some (r, σ')) : σ' = σ ∧ ∃ v, r = .ret v := by
 rcases hk with hk | hk
 ·obtain ⟨h1, h2, _⟩ := h.1 g args σ r σ' hk hh
  exact ⟨h1, h2⟩
 ·exact h.2 g args σ r σ' hk hh
section
variable {P : Program} {T : ar} {H : bT} {pf : FuncId → Nat}
theorem ky (hP : eX pf H) {op : Op} {tm : LA_} {σ σ' : Mem} {r : cF} (hk : bV pf op ≠ 2) (h : aM T H op tm σ = some (r, σ')) : σ' = σ ∧ ∃ v, r = .val v := by
 have p1 : ∀ {r1 : Option ab}, (r1.map fun v => ((cF.val v, σ) : cF × Mem)) = some (r, σ') → σ' = σ ∧ ∃ v, r = .val v := by
  intro r1 h1
  cases r1 with
  | none => cases h1
  | some v => cases h1; exact ⟨rfl, v, rfl⟩
 cases op <;> simp only [aM] at h <;> first
  | exact p1 h
  | (split at h <;> first | exact p1 h | cases h)
  | skip
 case makeFunc fn fs cs =>
  cases fn <;> simp only [] at h <;> first
   | (split at h <;> first | (cases h; exact ⟨rfl, _, rfl⟩) | cases h)
   | cases h
 case slice t x l hi mx =>
  cases mx with
  | some _ => cases h
  | none =>
   simp only [] at h
   split at h
   ·cases hsl : xA with
    | true => rw [hsl] at h; exact p1 h
    | false => simp only [bV, hsl, cond_false] at hk; exact absurd rfl hk
   ·cases h
 case call c =>
  obtain ⟨callee, args, argTypes⟩ := c
  cases callee with
  | invoke r m => cases h
  | value f =>
   cases f <;> first
    | exact absurd rfl hk
    | skip
   ·rename_i t
    simp only [bV] at hk
    simp only [] at h
    split at h
    ·cases hd : nM (.tmp t) argTypes.toList with
     | false => rw [hd] at hk; exact absurd rfl hk
     | true => rw [hd] at h; obtain ⟨h1, v, h2, _⟩ := sE h; exact ⟨h1, v, h2⟩
    ·cases h
   rename_i g
   simp only [bV] at hk
   have hg := Rg hk
   simp only [ev] at h
   split at h
   ·rename_i g' fs cs vs h1 _
    cases h1
    simp only [qd, nM, cond_false, gi] at h
    split at h
    ·rename_i v σ1 hh
     cases h
     exact ⟨(hP.still hg hh).1, v, rfl⟩
    ·rename_i v σ1 hh
     obtain ⟨_, ⟨u, hu⟩⟩ := hP.still hg hh
     cases hu
    ·cases h
   ·cases h
  | builtin b =>
   simp only [] at h
   split at h
   ·unfold iL at h
    split at h
    ·exact p1 h
    ·exact absurd rfl hk
    ·exact absurd rfl hk
    ·exact p1 h
    ·exact p1 h
    ·cases h
   ·cases h
 all_goals exact absurd rfl hk
theorem MN (hP : eX pf H) {op : Op} {tm : LA_} {σ σ' : Mem} {r : cF} (hk : bV pf op = 0) (h : aM T H op tm σ = some (r, σ')) (σ2 : Mem) : aM T H op tm σ2 = some (r, σ2) := by
 have p1 : ∀ {r1 : Option ab}, (r1.map fun v => ((cF.val v, σ) : cF × Mem)) = some (r, σ') → (r1.map fun v => ((cF.val v, σ2) : cF × Mem)) = some (r, σ2) := by
  intro r1 h1
  cases r1 with
  | none => cases h1
  | some v => cases h1; rfl
 cases op <;> simp only [aM] at h ⊢ <;> first
  | exact p1 h
  | (split at h <;> first | exact p1 h | cases h)
  | skip
 case binOp op t x y u =>
  have hn : (nu x || nu y) = false := by
   simp only [bV] at hk
   cases hb : nu x || nu y with
   | true => rw [hb] at hk; cases hk
   | false => rfl
  rw [hn] at h ⊢
  simp only [Ca, cond_false] at h ⊢
  split at h
  ·exact p1 h
  ·cases h
 case makeFunc fn fs cs =>
  cases fn <;> simp only [] at h ⊢ <;> first
   | (split at h <;> first | (cases h; rfl) | cases h)
   | cases h
 case slice t x l hi mx =>
  cases mx with
  | some _ => simp [bV] at hk
  | none =>
   simp only [bV] at hk
   cases hsl : xA with
   | true => rw [hsl] at hk; cases hk
   | false => rw [hsl] at hk; cases hk
 case call c =>
  obtain ⟨callee, args, argTypes⟩ := c
  cases callee with
  | invoke r m => cases h
  | value f =>
   cases f <;> first
    | (simp [bV] at hk; done)
    | skip
   ·rename_i t
    simp only [bV] at hk
    simp only [] at h ⊢
    split at h
    ·rename_i g vs h1 h2
     cases hd : nM (.tmp t) argTypes.toList with
     | false => rw [hd] at hk; cases hk
     | true =>
      rw [hd] at h
      obtain ⟨_, v, rfl, k1, k2, k3, k4⟩ := sE h
      exact HY k1 k2 k3 k4
    ·cases h
   rename_i g
   simp only [bV] at hk
   have hg := Rf hk
   simp only [ev] at h ⊢
   split at h
   ·rename_i g' fs cs vs h1 hvs
    cases h1
    simp only [qd, nM, cond_false, gi] at h ⊢
    split at h
    ·rename_i v σ1 hh
     cases h
     rw [(hP.1 _ _ _ _ _ hg hh).2.2 σ2]
    ·rename_i v σ1 hh
     obtain ⟨_, ⟨u, hu⟩, _⟩ := hP.1 _ _ _ _ _ hg hh
     cases hu
    ·cases h
   ·cases h
  | builtin b => cases b <;> simp [bV] at hk
 all_goals simp [bV] at hk
theorem Fe {tm tm' : LA_} {x : Operand} (h : ∀ t ∈ tmpsOf [x], tm[t]? = tm'[t]?) : ev tm x = ev tm' x := by
 cases x with
 | tmp t => simp only [ev, UK, h t (by simp [tmpsOf])]
 | _ => rfl
theorem rS {x : Operand} {xs : List Operand} {t : Tmp} : t ∈ tmpsOf (x :: xs) ↔ t ∈ tmpsOf [x] ∨ t ∈ tmpsOf xs := by
 cases x <;> simp [tmpsOf]
theorem oO {tm tm' : LA_} : ∀ {xs : List Operand}, (∀ t ∈ tmpsOf xs, tm[t]? = tm'[t]?) → evL tm xs = evL tm' xs
 | [], _ => rfl
 | x :: xs, h => by
  simp only [evL, Fe fun t ht => h t (rS.2 (.inl ht)), oO fun t ht => h t (rS.2 (.inr ht))]
theorem Ck {tm tm' : LA_} : ∀ {xs : List (Nat × Operand)}, (∀ t ∈ tmpsOf (xs.map (·.2)), tm[t]? = tm'[t]?) → evP tm xs = evP tm' xs
 | [], _ => rfl
 | (i, x) :: xs, h => by
  simp only [evP]
  rw [Fe fun t ht => h t (rS.2 (.inl ht)), Ck fun t ht => h t (rS.2 (.inr ht))]
theorem Gr {xs : List Operand} {t : Tmp} (h : .tmp t ∈ xs) : t ∈ tmpsOf xs := List.mem_filterMap.2 ⟨_, h, rfl⟩
theorem Lp {op : Op} {tm tm' : LA_} {σ : Mem} (h : ∀ t ∈ tmpsOf op.operands.toList, tm[t]? = tm'[t]?) : aM T H op tm σ = aM T H op tm' σ := by
 have one : ∀ {x : Operand}, x ∈ op.operands.toList → ev tm x = ev tm' x := by
  intro x hx
  refine Fe fun t ht => h t ?_
  cases x <;> simp [tmpsOf] at ht
  subst ht
  exact Gr hx
 cases op <;> simp only [Op.operands] at h one <;> simp only [aM]
 case move x => rw [one (x := x) (by simp)]
 case assign x => rw [one (x := x) (by simp)]
 case pick c x y => rw [one (x := c) (by simp), one (x := x) (by simp), one (x := y) (by simp)]
 case box t x => rw [one (x := x) (by simp)]
 case build t ps => rw [Ck (tm' := tm') fun t ht => h t (by simpa using ht)]
 case buildSlice t n ps => rw [Ck (tm' := tm') fun t ht => h t (by simpa using ht)]
 case makeSlice t l c => rw [one (x := l) (by simp)]
 case load t x => rw [one (x := x) (by simp)]
 case store t x y => rw [one (x := x) (by simp), one (x := y) (by simp)]
 case binOp op t x y u => rw [one (x := x) (by simp), one (x := y) (by simp)]
 case unOp op t x => rw [one (x := x) (by simp)]
 case convert t u x => rw [one (x := x) (by simp)]
 case makeFunc fn fs cs =>
  have e1 := oO (tm := tm) (tm' := tm') (xs := fs.toList) fun t ht => h t (by rw [Array.toList_append]; simp only [tmpsOf, List.filterMap_append, U1]; exact .inl ht)
  have e2 := oO (tm := tm) (tm' := tm') (xs := cs.toList) fun t ht => h t (by rw [Array.toList_append]; simp only [tmpsOf, List.filterMap_append, U1]; exact .inr ht)
  cases fn <;> simp only [e1, e2]
 case makeMap t rs => cases rs <;> rfl
 case fieldAddr t x f => rw [one (x := x) (by simp)]
 case field t x f => rw [one (x := x) (by simp)]
 case indexAddr t x y => rw [one (x := x) (by simp), one (x := y) (by simp)]
 case index t x y => rw [one (x := x) (by simp), one (x := y) (by simp)]
 case lookup t x y ok => rw [one (x := x) (by simp), one (x := y) (by simp)]
 case mapUpdate t x y z => rw [one (x := x) (by simp), one (x := y) (by simp), one (x := z) (by simp)]
 case mapEntry t x y => rw [one (x := x) (by simp), one (x := y) (by simp)]
 case entryStore t x y z => rw [one (x := x) (by simp), one (x := y) (by simp), one (x := z) (by simp)]
 case extract x i => rw [one (x := x) (by simp)]
 case slice t x l hi m =>
  have e1 := one (x := x) (by simp)
  have e2 : ∀ {y : Option Operand}, (∀ z, y = some z → ev tm z = ev tm' z) → evO tm y = evO tm' y := by
   intro y hy
   cases y with
   | none => rfl
   | some z => simp only [evO, hy z rfl]
  cases m with
  | some m => rfl
  | none => simp only [e1, e2 (y := l) (fun z hz => one (by simp [hz])), e2 (y := hi) (fun z hz => one (by simp [hz]))]
 case range t x => rw [one (x := x) (by simp)]
 case entry x => rw [one (x := x) (by simp)]
 case next x b =>
  cases b <;> first
   | rfl
   | (simp only []; rw [one (x := x) (by simp)])
 case nilCheck x => rw [one (x := x) (by simp)]
 case makeInterface t x => rw [one (x := x) (by simp)]
 case typeAssert x t u ok => rw [one (x := x) (by simp)]
 case panic x => rw [one (x := x) (by simp)]
 case defer c =>
  obtain ⟨callee, args, argTypes⟩ := c
  cases callee with
  | invoke r m => rfl
  | builtin b => rfl
  | value f =>
   have e1 := oO (tm := tm) (tm' := tm') (xs := args.toList) fun t ht => h t (by simp only [Call.operands, Array.toList_append, tmpsOf, List.filterMap_append, U1]; exact .inr ht)
   have e2 := one (x := f) (by simp [Call.operands])
   simp only [e1, e2]
 case call c =>
  obtain ⟨callee, args, argTypes⟩ := c
  cases callee with
  | invoke r m => rfl
  | builtin b =>
   simp only [Call.operands, Array.empty_append] at h
   simp only [oO h]
  | value f =>
   have e1 := oO (tm := tm) (tm' := tm') (xs := args.toList) fun t ht => h t (by simp only [Call.operands, Array.toList_append, tmpsOf, List.filterMap_append, U1]; exact .inr ht)
   have e2 := one (x := f) (by simp [Call.operands])
   simp only [e1, e2]
theorem Jh {all : List Oper} {o : Oper} {tm tm' : LA_} (h : ∀ t ∈ kw all o, tm[t]? = tm'[t]?) : br all o tm = br all o tm' := by
 unfold br
 unfold kw at h
 cases hg : o.guard with
 | none => rfl
 | some g =>
  obtain ⟨j, want⟩ := g
  rw [hg] at h
  simp only [] at h ⊢
  cases hd : (all[j]?).bind (·.dst) with
  | none => rfl
  | some d =>
   simp only []
   rw [h d (by simp [hd])]
theorem Pp {all : List Oper} {o : Oper} {tm tm' : LA_} (h : ∀ t ∈ kw all o, tm[t]? = tm'[t]?) : gj all o tm = gj all o tm' := by
 unfold gj
 unfold kw at h
 cases hg : o.guard with
 | none => rfl
 | some g =>
  obtain ⟨j, want⟩ := g
  rw [hg] at h
  simp only [] at h ⊢
  cases hd : (all[j]?).bind (·.dst) with
  | none => rfl
  | some d =>
   simp only []
   rw [h d (by simp [hd])]
theorem xC {all : List Oper} {o : Oper} {tm tm' : LA_} {df df' : List oh} {σ : Mem} (h : ∀ t ∈ kw all o, tm[t]? = tm'[t]?) :
  cR T H all o ⟨tm, df, σ⟩ = cR T H all o ⟨tm', df', σ⟩ := by
 unfold cR
 simp only [Pp h, Jh h, Lp (T := T) (H := H) (σ := σ) fun t ht => h t (by unfold kw; exact U1.2 (.inl ht))]
theorem Af : ∀ (l : List Oper) (acc : List Nat), (bc l acc).length = acc.length + l.length ∧ (∀ i, i < acc.length → (bc l acc)[i]? = acc[i]?) ∧
  ∀ i o, l[i]? = some o → (bc l acc)[acc.length + i]? = some (Gp ((bc l acc).take (acc.length + i)) o)
 | [], acc => by simp [bc]
 | o :: r, acc => by
  obtain ⟨h1, h2, h3⟩ := Af r (acc ++ [Gp acc o])
  simp only [bc]
  simp only [UQ, List.length_singleton] at h1 h2 h3
  refine ⟨by simp [h1]; omega, fun i hi => ?_, fun i o' hi => ?_⟩
  ·rw [h2 i (by omega), List.getElem?_append_left hi]
  ·cases i with
   | zero =>
    simp only [List.getElem?_cons_zero, UB] at hi
    subst hi
    have e : (bc r (acc ++ [Gp acc o])).take acc.length = acc := by
     apply List.ext_getElem?
     intro k
     rw [List.getElem?_take]
     split
     ·rename_i hk; rw [h2 k (by omega), List.getElem?_append_left hk]
     ·rename_i hk; rw [List.getElem?_eq_none (by omega)]
    rw [Nat.add_zero, e, h2 acc.length (by omega), List.getElem?_append_right (Nat.le_refl _)]
    simp
   | succ i =>
    have := h3 i o' (by simpa using hi)
    rwa [show acc.length + 1 + i = acc.length + (i + 1) by omega] at this
theorem Ag (acc : List Nat) (j : Nat) : ∀ (es : List Edge) (s : Nat), (es.foldl (fun s e => if Region.binds .any e then s ||| (1 <<< e.on) ||| acc.getD e.on 0 else s) s).testBit j = true →
  s.testBit j = true ∨ ∃ e ∈ es, Region.binds .any e = true ∧ (e.on = j ∨ (acc.getD e.on 0).testBit j = true)
 | [], s, h => .inl h
 | e :: es, s, h => by
  simp only [List.foldl_cons] at h
  rcases Ag acc j es _ h with h | ⟨e', h1, h2, h3⟩
  ·split at h
   ·rename_i hb
    simp only [Nat.testBit_or, Bool.or_eq_true] at h
    rcases h with (h | h) | h
    ·exact .inl h
    ·refine .inr ⟨e, by simp, hb, .inl ?_⟩
     rw [Nat.one_shiftLeft, Nat.testBit_two_pow] at h
     simpa using h
    ·exact .inr ⟨e, by simp, hb, .inr h⟩
   ·exact .inl h
  ·exact .inr ⟨e', by simp [h1], h2, h3⟩
def lF (all : List Oper) (L : Nat → Bool) : Prop := ∀ i o, all[i]? = some o → L i = true → ∀ e ∈ o.after, Region.binds .any e = true → L e.on = true
theorem jW {all : List Oper} (he : kr all = true) {L : Nat → Bool} (hc : lF all L) : ∀ (n i : Nat) (o : Oper), i ≤ n → all[i]? = some o →
  (∀ e ∈ o.after, Region.binds .any e = true → L e.on = true) → ∀ j, anc (bc all []) j i = true → L j = true := by
 intro n
 induction n with
 | zero =>
  intro i o hi ho hr j hj
  obtain rfl : i = 0 := by omega
  obtain ⟨_, _, h3⟩ := Af all []
  have hm := h3 0 o ho
  simp only [List.length_nil, Nat.zero_add, List.take_zero] at hm
  simp only [anc, UK, hm, Option.getD_some] at hj
  rcases Ag _ j _ _ hj with h | ⟨e, h1, h2, h4⟩
  ·simp at h
  ·have := Gs he ho h1 h2
   omega
 | succ n ih =>
  intro i o hi ho hr j hj
  obtain ⟨_, _, h3⟩ := Af all []
  have hm := h3 i o ho
  simp only [List.length_nil, Nat.zero_add] at hm
  simp only [anc, UK, hm, Option.getD_some] at hj
  rcases Ag _ j _ _ hj with h | ⟨e, h1, h2, h4⟩
  ·simp at h
  ·have hlt := Gs he ho h1 h2
   have hl := hr e (Array.mem_def.2 h1) h2
   rcases h4 with h4 | h4
   ·exact h4 ▸ hl
   ·have hil : i < all.length := (UL.1 ho).1
    have hoe : all[e.on]? = some all[e.on] := UJ (by omega)
    refine ih e.on all[e.on] (by omega) hoe (hc e.on _ hoe hl) j ?_
    simp only [anc, UK]
    rw [UK, List.getElem?_take, if_pos hlt] at h4
    exact h4
where
 Gs {all : List Oper} (he : kr all = true) {i : Nat} {o : Oper} (ho : all[i]? = some o) {e : Edge} (h1 : e ∈ o.after.toList) (h2 : Region.binds .any e = true) : e.on < i := by
  unfold kr at he
  rw [List.all_eq_true] at he
  have := he (o, i) (U0.2 ho)
  simp only [List.all_eq_true] at this
  have := this e h1
  simpa [h2] using this
theorem vB {all : List Oper} (he : kr all = true) {i : Nat} {o : Oper} (ho : all[i]? = some o) {e : Edge} (h1 : e ∈ o.after) (h2 : Region.binds .any e = true) : e.on < i := by
 unfold kr at he
 rw [List.all_eq_true] at he
 have := he (o, i) (U0.2 ho)
 simp only [List.all_eq_true] at this
 have := this e (Array.mem_def.1 h1)
 simpa [h2] using this
theorem rB {all : List Oper} {ms : List Nat} (h : rz all ms = true) {i j : Nat} {oi oj : Oper} (hi : all[i]? = some oi) (hj : all[j]? = some oj) :
  (i ≠ j → ∀ d e, oi.dst = some d → oj.dst = some e → d ≠ e) ∧
  (i ≠ j → ∀ d, oj.dst = some d → d ∈ kw all oi → (j < i ∧ anc ms j i = true) ∨ (i < j ∧ anc ms i j = true)) := by
 unfold rz at h
 rw [List.all_eq_true] at h
 have h := h (oi, i) (U0.2 hi)
 rw [List.all_eq_true] at h
 have h := h (oj, j) (U0.2 hj)
 simp only [UC, Bool.or_eq_true, beq_iff_eq] at h
 obtain ⟨h1, h2⟩ := h
 refine ⟨fun hne d e hd he => ?_, fun hne d hd hm => ?_⟩
 ·rcases h1 with h1 | h1
  ·exact absurd h1 hne
  ·rw [hd, he] at h1; simpa using h1
 ·rcases h2 with h2 | h2
  ·exact absurd h2 hne
  ·rw [hd] at h2
   simp only [Bool.or_eq_true, UC, UI, Bool.not_eq_true', List.contains_eq_mem] at h2
   rcases h2 with (h2 | h2) | h2
   ·simp [hm] at h2
   ·exact .inl h2
   ·exact .inr h2
end
end Go.Ev
