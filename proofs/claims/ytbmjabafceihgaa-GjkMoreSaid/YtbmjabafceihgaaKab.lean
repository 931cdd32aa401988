import Derived.Test.YtbmjabafceihgaaKaa
import Derived.Laws.IdiomStrings
import Derived.MapKept
set_option linter.unusedVariables false
set_option linter.unusedSimpArgs false
set_option maxRecDepth 100000
noncomputable section
namespace Go.Ev
section
variable {P : Program} {T : au} {ρ : Nat → Loc} {w0 : W0} {w : World} {σ : Mem}
theorem lP {b i : Nat} {B x : am} (hi : ((σ.set b .dead).push B).get i = some x) :
  (i = σ.next ∧ x = B) ∨ (i ≠ σ.next ∧ i = b ∧ x = .dead) ∨ (i ≠ σ.next ∧ i ≠ b ∧ σ.get i = some x) := by
 rw [bN, aQ, d9] at hi
 by_cases e : σ.next = i
 ·rw [if_pos e] at hi; exact .inl ⟨e.symm, (Option.some.inj hi).symm⟩
 ·rw [if_neg e] at hi
  by_cases e2 : b = i
  ·rw [if_pos e2] at hi; exact .inr (.inl ⟨fun q => e q.symm, e2.symm, (Option.some.inj hi).symm⟩)
  ·rw [if_neg e2] at hi; exact .inr (.inr ⟨fun q => e q.symm, fun q => e2 q.symm, hi⟩)
theorem Rel.rename (h : Rel w0 ρ σ w) {b g o c : Nat} {bs : LA_} (hg : σ.get b = some (.cells bs true (some g))) (ho : o ≤ bs.length) (hoc : o = c * g) (hg0 : g ≠ 0) :
  Rel w0 (upd ρ σ.next (Loc.mk3 ((ρ b).blk) ((ρ b).base + o) ((ρ b).eC - c))) ((σ.set b .dead).push (.cells (bs.drop o) true (some g))) w := by
 have hgt : ∀ i x, ((σ.set b .dead).push (.cells (bs.drop o) true (some g))).get i = some x →
   (i = σ.next ∧ x = .cells (bs.drop o) true (some g)) ∨ (i ≠ σ.next ∧ i = b ∧ x = .dead) ∨ (i ≠ σ.next ∧ i ≠ b ∧ σ.get i = some x ∧ i < σ.next) := by
  intro i x hi
  rcases lP hi with h1 | h1 | ⟨h1, h2, h3⟩
  ·exact .inl h1
  ·exact .inr (.inl h1)
  ·exact .inr (.inr ⟨h1, h2, h3, h.lt i x h3⟩)
 have hρ : ∀ i, i < σ.next → upd ρ σ.next (Loc.mk3 ((ρ b).blk) ((ρ b).base + o) ((ρ b).eC - c)) i = ρ i := fun i hi => dR hi
 have hbn : b < σ.next := h.lt b _ hg
 have hsb := h.sco b _ hg
 simp only [scB] at hsb
 refine ⟨?_, ?_, ?_, ?_, ?_, ?_, h.os, h.tape, h.output, h.size, h.old⟩
 ·intro i x hi
  simp only [dH, d9]
  rcases hgt i x hi with ⟨e, _⟩ | ⟨_, e, _⟩ | ⟨_, _, _, e⟩ <;> omega
 ·intro i x hi
  simp only [dH, d9]
  rcases hgt i x hi with ⟨_, rfl⟩ | ⟨_, _, rfl⟩ | ⟨_, _, e, _⟩
  ·exact fS (Nat.le_succ _) _ (rB hsb)
  ·rfl
  ·exact fU (Nat.le_succ _) _ (h.sco i x e)
 ·intro i x hi
  rcases hgt i x hi with ⟨rfl, rfl⟩ | ⟨_, _, rfl⟩ | ⟨_, _, e, e2⟩
  ·rw [bu]
   obtain ⟨cc, e, fz, h1, ⟨pre, post, h2, h3⟩, h4, h5⟩ := h.ok b _ hg
   obtain ⟨_, h6, h7⟩ := h5 g rfl
   refine ⟨cc, e, fz, h1, ⟨pre ++ γL ρ (bs.take o), post, ?_, ?_⟩, h4, ?_⟩
   ·rw [iy hρ _ (rB hsb), h2]
    simp only [UW, zS, zT]
    rw [← UW ((γL ρ bs).take o), List.take_append_drop]
   ·simp [h3]; omega
   ·intro g' hg'
    cases hg'
    have hc : c ≤ (ρ b).eC := by
     rcases Nat.lt_or_ge (ρ b).eC c with hlt | hge
     ·have := Nat.mul_lt_mul_of_pos_right hlt (Nat.pos_of_ne_zero hg0); omega
     ·exact hge
    have hcg := Nat.mul_le_mul_right g hc
    refine ⟨rfl, ?_, ?_⟩
    ·show (ρ b).base + o + ((ρ b).eC - c) * g ≤ cc.size
     rw [Nat.sub_mul]
     omega
    ·show (bs.drop o).length ≤ ((ρ b).eC - c) * g
     rw [Nat.sub_mul, List.length_drop]
     omega
  ·trivial
  ·rw [hρ i e2]; exact ck hρ rfl x (h.sco i x e) (h.ok i x e)
 ·intro i x hi ha
  rcases hgt i x hi with ⟨rfl, rfl⟩ | ⟨_, _, rfl⟩ | ⟨_, _, e, e2⟩
  ·rw [bu]; exact h.inb b _ hg rfl
  ·simp [am.alive] at ha
  ·rw [hρ i e2]; exact h.inb i x e ha
 ·intro i j x y hi hj hij hox hay
  rcases hgt i x hi with ⟨rfl, rfl⟩ | ⟨_, _, rfl⟩ | ⟨_, i1, e, e2⟩
  ·rcases hgt j y hj with ⟨rfl, rfl⟩ | ⟨_, _, rfl⟩ | ⟨_, j1, f, f2⟩
   ·exact absurd rfl hij
   ·simp [am.alive] at hay
   ·rw [bu, hρ j f2]; exact h.ap b j _ y hg f (Ne.symm j1) rfl hay
  ·simp [am.owned] at hox
  ·rcases hgt j y hj with ⟨rfl, rfl⟩ | ⟨_, _, rfl⟩ | ⟨_, j1, f, f2⟩
   ·rw [bu, hρ i e2]; exact h.ap i b x _ e hg i1 hox rfl
   ·simp [am.alive] at hay
   ·rw [hρ i e2, hρ j f2]; exact h.ap i j x y e f hij hox hay
 ·intro i x hi ho
  rcases hgt i x hi with ⟨rfl, rfl⟩ | ⟨_, _, rfl⟩ | ⟨_, _, e, e2⟩
  ·rw [bu]; exact h.own b _ hg rfl
  ·simp [am.owned] at ho
  ·rw [hρ i e2]; exact h.own i x e ho
theorem Rel.MD (h : Rel w0 ρ σ w) {b g : Nat} {bs ds : LA_} (hg : σ.get b = some (.cells bs true (some g))) (hs : scC σ.next ds = true)
  (hroom : bs.length + ds.length ≤ (ρ b).eC * g) :
  ∃ w', (storeCells ⟨(ρ b).blk, (ρ b).base + bs.length, none⟩ (γL ρ ds)).run P w = .ok () w' ∧ Rel w0 ρ (σ.set b (.cells (bs ++ ds) true (some g))) w' := by
 obtain ⟨c, e, fz, h1, ⟨pre, post, h2, h3⟩, h4, h5⟩ := h.ok b _ hg
 have hz := h4 rfl
 obtain ⟨_, h6, h7⟩ := h5 g rfl
 have hcl : c.size = pre.length + bs.length + post.length := by
  have := congrArg List.length h2
  simp at this; omega
 have hst := iz (P := P) (ρ b).blk ((ρ b).base + bs.length) e fz (γL ρ ds) 0 c w h1 hz (by rw [aR]; omega)
  (fun v hv => by
   rw [g7] at hv
   obtain ⟨u, hu, rfl⟩ := List.mem_map.1 hv
   exact zV ((fO _ _).1 hs u hu).1)
 refine ⟨_, hst, ?_⟩
 have hsb := h.sco b _ hg
 simp only [scB] at hsb
 refine h.set hg rfl (dW.2 ⟨hsb, hs⟩) ?_ (by simp [World.setRow]) (fun k hk => setRow_other w _ k _ hk) rfl rfl rfl
 refine ⟨_, e, fz, setRow_heap w _ c _ e _ h1, ⟨pre, post.drop ds.length, ?_, h3⟩, fun _ => ?_, ?_⟩
 ·simp only [cr, Nat.add_zero]
  rw [h2, aR, ← h3]
  have e1 : (pre ++ γL ρ bs ++ post).take (pre.length + bs.length) = pre ++ γL ρ bs := by
   rw [List.take_append_of_le_length (by simp), List.take_of_length_le (by simp)]
  have e2 : (pre ++ γL ρ bs ++ post).drop (pre.length + bs.length + ds.length) = post.drop ds.length := by
   rw [List.drop_append, List.drop_of_length_le (by simp), List.nil_append]
   congr 1; simp
  rw [e1, e2]
  simp only [UW]
 ·have e0 : (List.take ((ρ b).base + bs.length + 0) c.toList ++ γL ρ ds ++ List.drop ((ρ b).base + bs.length + 0 + (γL ρ ds).length) c.toList).toArray.size = c.size := by
   simp only [List.size_toArray, UR, List.length_take, List.length_drop, Array.length_toList, aR, Nat.add_zero]; omega
  rw [e0]
  exact hz
 ·intro g' hgr
  cases hgr
  refine ⟨rfl, ?_, ?_⟩
  ·simp only [List.size_toArray, UR, List.length_take, List.length_drop, Array.length_toList, aR, Nat.add_zero]; omega
  ·simp only [UR]; omega
theorem lQ (h : Rel w0 ρ σ w) (hT : aX P T) {t u e : TypeId} {i j k : TyI} (ht : T t = some i) (hik : i.k = .slice e) (he : T e = some j) (hu : T u = some k)
  {e' : TypeId} (hkk : k.k = .slice e') {s x : ab} {ds : LA_} {l m : Nat} {base : Option Addr} {cap : Nat} (hs : γ ρ s = .slice base l cap)
  (hds : bO σ j.size x = some (ds, m)) (hcap : l + m ≤ cap) {w' : World}
  (hst : (base.elim (pure ()) fun a => storeCells (a.add (l * j.size)) (γL ρ ds) : Sem Unit).run P w = .ok () w') (ty : TypeId) :
  (Builtin.append_ #[t, u] ty #[γ ρ s, γ ρ x]).run P w = .ok (.slice base (l + m) cap) w' := by
 have kt := (hT _ _ ht).k; rw [hik] at kt; simp only [KOk] at kt
 have ku := (hT _ _ hu).k; rw [hkk] at ku; simp only [KOk] at ku
 obtain ⟨b1, b2, b3, b4⟩ := fu (P := P) h hds
 rw [hs]
 simp only [Builtin.append_, List.getElem?_toArray, List.getElem?_cons_zero, List.getElem?_cons_succ, UP, run_underlying kt, run_underlying ku, UO, (hT _ _ he).dD,
  UQ, Sem.run_ite, UF, if_false, b1, if_pos hcap, Bool.not_false, if_true, b2]
 cases base with
 | none =>
  simp only [Option.elim, UQ, Result.ok.injEq, true_and] at hst ⊢
  rw [hst]
 | some a =>
  simp only [Option.elim] at hst
  simp only [UP, hst, UO, UQ]
theorem Rel.name (h : Rel w0 ρ σ w) {B : am} {L : Loc} (hs : scB σ.next B = true) (hb : BOk ρ L w B) (hin : B.alive = true → L.blk < w.heap.size)
  (ho : B.owned = true → ¬ w0.fH L.blk ∧ ∀ j bj, σ.get j = some bj → bj.alive = true → (ρ j).blk ≠ L.blk)
  (ha : B.alive = true → ∀ j bj, σ.get j = some bj → bj.owned = true → (ρ j).blk ≠ L.blk) : Rel w0 (upd ρ σ.next L) (σ.push B) w := by
 have hρ : ∀ i, i < σ.next → upd ρ σ.next L i = ρ i := fun i hi => dR hi
 have cases' : ∀ i b, (σ.push B).get i = some b → (i = σ.next ∧ b = B) ∨ (i < σ.next ∧ σ.get i = some b) := by
  intro i b hi
  rw [bN] at hi
  by_cases e : σ.next = i
  ·rw [if_pos e] at hi; exact .inl ⟨e.symm, (Option.some.inj hi).symm⟩
  ·rw [if_neg e] at hi; exact .inr ⟨h.lt i b hi, hi⟩
 refine ⟨?_, ?_, ?_, ?_, ?_, ?_, h.os, h.tape, h.output, h.size, h.old⟩
 ·intro i b hi
  rcases cases' i b hi with ⟨rfl, _⟩ | ⟨q, _⟩ <;> simp <;> omega
 ·intro i b hi
  rcases cases' i b hi with ⟨rfl, rfl⟩ | ⟨_, q⟩
  ·exact fU (Nat.le_succ _) _ hs
  ·exact fU (Nat.le_succ _) _ (h.sco i b q)
 ·intro i b hi
  rcases cases' i b hi with ⟨rfl, rfl⟩ | ⟨q0, q⟩
  ·rw [bu]; exact ck hρ rfl _ hs hb
  ·rw [hρ i q0]; exact ck hρ rfl b (h.sco i b q) (h.ok i b q)
 ·intro i b hi hal
  rcases cases' i b hi with ⟨rfl, rfl⟩ | ⟨q0, q⟩
  ·rw [bu]; exact hin hal
  ·rw [hρ i q0]; exact h.inb i b q hal
 ·intro i j bi bj hi hj hij hoi haj
  rcases cases' i bi hi with ⟨rfl, rfl⟩ | ⟨q0, q⟩ <;> rcases cases' j bj hj with ⟨rfl, rfl⟩ | ⟨p0, p⟩
  ·exact absurd rfl hij
  ·rw [bu, hρ j p0]; exact ((ho hoi).2 j bj p haj).symm
  ·rw [bu, hρ i q0]; exact ha haj i bi q hoi
  ·rw [hρ i q0, hρ j p0]; exact h.ap i j bi bj q p hij hoi haj
 ·intro i b hi hob
  rcases cases' i b hi with ⟨rfl, rfl⟩ | ⟨q0, q⟩
  ·rw [bu]; exact (ho hob).1
  ·rw [hρ i q0]; exact h.own i b q hob
theorem Rel.CT (h : Rel w0 ρ σ w) (n sz : Nat) (own : Bool) (L : Loc) (hn : n = 0) (hl : L.sl = 0) (hk : L.sk = 0) : Rel w0 (upd ρ σ.next L) (σ.push (.vec [] n sz own)) w := by
 subst hn
 exact h.name rfl ⟨hl, .inl ⟨rfl, rfl, fun _ => hk⟩⟩ (by simp [am.alive]) (by simp [am.owned]) (by simp [am.alive])
theorem z7 {σd : Mem} {xs : LA_} {n g : Nat} {ρ' : Nat → Loc} {w' : World} (hp : bK w0 ρ σ.next ρ' (σ.push (.cells xs true (some g))) w') (h : Rel w0 ρ σ w)
  (hd : σd.next = σ.next) (hg : ∀ j b, σd.get j = some b → b = .dead ∧ j < σ.next ∨ σ.get j = some b) (hx : scC 0 xs = true) (hn : xs.length = n * g) (h0 : n * g ≠ 0) :
  ∃ ρ2, γ ρ2 (.vec σ.next) = γ ρ' (.slice σ.next 0 n false 0) ∧ bK w0 ρ σ.next ρ2 (σd.push (.vec xs n g true)) w' := by
 have R := hp.rel
 have hold : ∀ j b, σ.get j = some b → j < σ.next ∧ (σ.push (.cells xs true (some g))).get j = some b := fun j b hj =>
  ⟨h.lt j b hj, by rw [bN, if_neg (by have := h.lt j b hj; omega)]; exact hj⟩
 have hnew : (σ.push (.cells xs true (some g))).get σ.next = some (.cells xs true (some g)) := by rw [bN, if_pos rfl]
 have R1 : Rel w0 ρ' σd w' := by
  refine R.weaken ?_ ?_ ?_
  ·intro j b hj hbd
   rcases hg j b hj with ⟨q, _⟩ | q
   ·exact absurd q hbd
   ·exact (hold j b q).2
  ·intro j b hj
   rw [hd]
   rcases hg j b hj with ⟨_, q⟩ | q
   ·exact q
   ·exact h.lt j b q
  ·intro j b hj
   rw [hd]
   rcases hg j b hj with ⟨q, _⟩ | q
   ·rw [q]; rfl
   ·exact h.sco j b q
 obtain ⟨c, e, fz, h1, h2, h4, h5⟩ := R.ok _ _ hnew
 obtain ⟨_, h6, h7⟩ := h5 g rfl
 have hxs : xs ≠ [] := by rintro rfl; simp at hn; omega
 have hcap : n ≤ (ρ' σ.next).eC := by
  rw [hn] at h7
  exact Nat.le_of_mul_le_mul_right h7 (Nat.pos_of_ne_zero fun q => h0 (by rw [q, Nat.mul_zero]))
 let L : Loc := { ρ' σ.next with sp := some ⟨(ρ' σ.next).blk, (ρ' σ.next).base, none⟩, sl := n, sk := (ρ' σ.next).eC }
 have e1 : L.blk = (ρ' σ.next).blk := rfl
 have R2 := R1.name (B := .vec xs n g true) (L := L) hx
  ⟨rfl, .inr ⟨hxs, rfl, hn, c, e, fz, h1, h2, fun _ => ⟨h4 rfl, hcap, h6⟩⟩⟩ (fun _ => R.inb _ _ hnew rfl)
  (fun _ => ⟨R.own _ _ hnew rfl, fun j bj hj haj => ?_⟩) (fun _ j bj hj hoj => ?_)
 ·refine ⟨upd ρ' σ.next L, ?_, by rw [← hd]; exact R2, fun i hi => (dR hi).trans (hp.ext i hi), by simp [hd]⟩
  simp only [γ, bu, L, Nat.add_zero, Nat.sub_zero, UF, if_false]
 ·rcases hg j bj hj with ⟨q, _⟩ | q
  ·rw [q] at haj; cases haj
  ·have := h.lt j bj q
   exact (R.ap σ.next j _ bj hnew (hold j bj q).2 (by omega) rfl haj).symm
 ·rcases hg j bj hj with ⟨q, _⟩ | q
  ·rw [q] at hoj; cases hoj
  ·have := h.lt j bj q
   exact R.ap j σ.next bj _ (hold j bj q).2 hnew (by omega) hoj rfl
theorem ME (h : Rel w0 ρ σ w) (hT : aX P T) {t u e : TypeId} {it j k : TyI} (ht : T t = some it) (hik : it.k = .slice e) (he : T e = some j) (hu : T u = some k)
  {e' : TypeId} (hkk : k.k = .slice e') {i n m : Nat} {x : ab} {cs ds : LA_} (hg : σ.get i = some (.vec cs n j.size true)) (hds : bO σ j.size x = some (ds, m))
  (hf : scC 0 ds = true) (q1 : j.size ≠ 0) (q2 : j.bytes ≠ 0) (q3 : 2 * (n + m) * j.bytes ≤ 2 ^ 48) (ty : TypeId) :
  ∃ ρ' w', (Builtin.append_ #[t, u] ty #[γ ρ (.vec i), γ ρ x]).run P w = .ok (γ ρ' (.vec σ.next)) w' ∧ bK w0 ρ σ.next ρ' ((σ.set i .dead).push (.vec (cs ++ ds) (n + m) j.size true)) w' := by
 have hcs : bO σ j.size (.vec i) = some (cs, n) := by simp [bO, hg]
 have b3 := (fu (P := P) h hds).2.2
 have c3 := (fu (P := P) h hcs).2.2
 have hfc : scC 0 cs = true := h.sco _ _ hg
 have hi := h.lt i _ hg
 obtain ⟨g0, g1⟩ := h.ok i _ hg
 have hgd : ∀ jj b, (σ.set i .dead).get jj = some b → b = .dead ∧ jj < σ.next ∨ σ.get jj = some b := by
  intro jj b hj
  rw [aQ] at hj
  split at hj
  ·rename_i q; cases hj; exact .inl ⟨rfl, q ▸ hi⟩
  ·exact .inr hj
 have hlen : (cs ++ ds).length = (n + m) * j.size := by rw [UR, c3.1, b3.1, Nat.add_mul]
 have growCase : (ρ i).sk < n + m → ∃ ρ' w', (Builtin.append_ #[t, u] ty #[γ ρ (.vec i), γ ρ x]).run P w = .ok (γ ρ' (.vec σ.next)) w' ∧
   bK w0 ρ σ.next ρ' ((σ.set i .dead).push (.vec (cs ++ ds) (n + m) j.size true)) w' := by
  intro hcap
  obtain ⟨ρ', w', r1, r2⟩ := oB h hT ht hik he hu hkk (s := .vec i) (base := (ρ i).sp) (cap := (ρ i).sk) (by rw [← g0]; rfl) hcs hds hcap q2 q3 ty
  obtain ⟨ρ2, r3, r4⟩ := z7 (σd := σ.set i .dead) (n := n + m) r2 h rfl hgd (dW.2 ⟨hfc, hf⟩) hlen (by have := Nat.mul_pos (show 0 < n + m by omega) (Nat.pos_of_ne_zero q1); omega)
  exact ⟨ρ2, w', by rw [r1, r3], r4⟩
 by_cases hcap : n + m ≤ (ρ i).sk
 ·have hsl : γ ρ (.vec i) = .slice (ρ i).sp n (ρ i).sk := by rw [← g0]; rfl
  rcases g1 with ⟨rfl, rfl, g2⟩ | ⟨g1, g2, g3, c, e2, fz, h1, ⟨pre, post, h2, h3⟩, h4⟩
  ·have g2' := g2 rfl
   have hm : m = 0 := by omega
   subst hm
   have hd0 : ds = [] := by have := b3.1; simpa using this
   subst hd0
   have hst := lQ h hT ht hik he hu hkk (s := .vec i) (l := 0) (m := 0) (base := (ρ i).sp) (cap := (ρ i).sk) hsl hds hcap (w' := w)
    (by cases (ρ i).sp <;> simp [γL, storeCells]) ty
   have R := (h.kill hg).CT 0 j.size true { ρ i with sl := 0 } rfl rfl (g2 rfl)
   refine ⟨_, w, ?_, ⟨R, fun i hi => dR hi, by simp⟩⟩
   rw [hst]
   simp only [γ, d9, bu, Nat.add_zero]
  ·obtain ⟨hz, g4, h5⟩ := h4 rfl
   have hroom : ds.length ≤ post.length := by
    have hl := congrArg List.length h2
    simp only [UR, aR, Array.length_toList, g3, h3] at hl
    have := Nat.mul_le_mul_right j.size hcap
    rw [Nat.add_mul] at this
    have := b3.1
    omega
   have hsplit : post = post.take ds.length ++ post.drop ds.length := (List.take_append_drop _ _).symm
   have hstore := iz (P := P) (ρ i).blk ((ρ i).base + cs.length) e2 fz (γL ρ ds) 0 c w h1 hz (by
     have hl := congrArg List.length h2
     simp only [UR, aR, Array.length_toList, h3] at hl
     rw [aR]; omega)
    (fun v hv => by
     rw [g7] at hv
     obtain ⟨uu, huu, rfl⟩ := List.mem_map.1 hv
     exact zV ((fO _ _).1 b3.2 uu huu).1)
   generalize hw1 : World.setRow w _ _ = w1 at hstore
   have hst := lQ h hT ht hik he hu hkk (s := .vec i) (l := n) (m := m) (base := (ρ i).sp) (cap := (ρ i).sk) hsl hds hcap (w' := w1)
    (by simp only [g2, Option.elim, lK, ← g3]; exact hstore) ty
   have hheap : w1.heap[(ρ i).blk]? = some (.cells (c.toList.take ((ρ i).base + cs.length + 0) ++ γL ρ ds ++ c.toList.drop ((ρ i).base + cs.length + 0 + (γL ρ ds).length)).toArray e2 fz) := by
    rw [← hw1]; exact setRow_heap w _ c _ e2 _ h1
   have hal : (am.vec cs n j.size true).owned = true := by
    simp only [am.owned, Bool.true_and, Bool.not_eq_true', List.isEmpty_eq_false_iff]; exact g1
   have hoth : ∀ kk, kk ≠ (ρ i).blk → w1.heap[kk]? = w.heap[kk]? := by rw [← hw1]; exact fun kk hk => setRow_other w _ kk _ hk
   have R1 : Rel w0 ρ (σ.set i .dead) w1 := h.set hg hal rfl trivial (by rw [← hw1]; simp [World.setRow]) hoth (by rw [← hw1]; rfl) (by rw [← hw1]; rfl) (by rw [← hw1]; rfl)
   have hne : cs ++ ds ≠ [] := by simp [g1]
   have R2 := R1.name (B := .vec (cs ++ ds) (n + m) j.size true) (L := { ρ i with sl := n + m }) (dW.2 ⟨hfc, hf⟩) ?_ ?_ ?_ ?_
   ·refine ⟨_, w1, ?_, ⟨R2, fun i hi => dR hi, by simp⟩⟩
    rw [hst]
    simp only [γ, d9, bu]
   ·refine ⟨rfl, .inr ⟨hne, g2, hlen, _, e2, fz, hheap, ⟨pre, post.drop ds.length, ?_, h3⟩, fun _ => ⟨?_, hcap, ?_⟩⟩⟩
    ·simp only [cr, Nat.add_zero, aR]
     rw [h2, ← h3]
     have e1 : (pre ++ γL ρ cs ++ post).take (pre.length + cs.length) = pre ++ γL ρ cs := by
      rw [List.take_append_of_le_length (by simp), List.take_of_length_le (by simp)]
     have e2 : (pre ++ γL ρ cs ++ post).drop (pre.length + cs.length + ds.length) = post.drop ds.length := by
      rw [List.drop_append, List.drop_of_length_le (by simp), List.nil_append]
      congr 1; simp
     rw [e1, e2]
     simp only [UW]
    ·have e0 : (List.take ((ρ i).base + cs.length + 0) c.toList ++ γL ρ ds ++ List.drop ((ρ i).base + cs.length + 0 + (γL ρ ds).length) c.toList).toArray.size = c.size := by
      have hl := congrArg List.length h2
      simp only [UR, aR, Array.length_toList, h3] at hl
      simp only [List.size_toArray, UR, List.length_take, List.length_drop, Array.length_toList, aR, Nat.add_zero]; omega
     rw [e0]
     exact hz
    ·have hl := congrArg List.length h2
     simp only [UR, aR, Array.length_toList, h3] at hl
     simp only [List.size_toArray, UR, List.length_take, List.length_drop, Array.length_toList, aR, Nat.add_zero]
     show (ρ i).base + (ρ i).sk * j.size ≤ _
     omega
   ·intro _
    rw [show ({ ρ i with sl := n + m } : Loc).blk = (ρ i).blk from rfl]
    have : w1.heap.size = w.heap.size := by rw [← hw1]; simp [World.setRow]
    rw [this]; exact h.inb i _ hg (am.dQ hal)
   ·intro _
    refine ⟨h.own i _ hg hal, fun jj bj hj haj => ?_⟩
    rcases hgd jj bj hj with ⟨q, _⟩ | q
    ·rw [q] at haj; cases haj
    ·have hji : jj ≠ i := by
      rintro rfl
      rw [aQ, if_pos rfl] at hj
      cases hj; cases haj
     exact (h.ap i jj _ bj hg q (Ne.symm hji) hal haj).symm
   ·intro _ jj bj hj hoj
    rcases hgd jj bj hj with ⟨q, _⟩ | q
    ·rw [q] at hoj; cases hoj
    ·have hji : jj ≠ i := by
      rintro rfl
      rw [aQ, if_pos rfl] at hj
      cases hj; cases hoj
     exact h.ap jj i bj _ q hg hji hoj (am.dQ hal)
 ·exact growCase (by omega)
theorem tv (h : Rel w0 ρ σ w) (hT : aX P T) {t u e : TypeId} {it j k : TyI} (ht : T t = some it) (hik : it.k = .slice e) (he : T e = some j) (hu : T u = some k)
  {e' : TypeId} (hkk : k.k = .slice e') {m : Nat} {s x : ab} {ds : LA_} {base : Option Addr} (hs : γ ρ s = .slice base 0 0) (hcs : bO σ j.size s = some ([], 0))
  (hds : bO σ j.size x = some (ds, m)) (hf : scC 0 ds = true) (q1 : j.size ≠ 0) (q2 : j.bytes ≠ 0) (q3 : 2 * (0 + m) * j.bytes ≤ 2 ^ 48) (ty : TypeId) :
  ∃ ρ' w', (Builtin.append_ #[t, u] ty #[γ ρ s, γ ρ x]).run P w = .ok (γ ρ' (.vec σ.next)) w' ∧ bK w0 ρ σ.next ρ' (σ.push (.vec ds m j.size true)) w' := by
 have b3 := (fu (P := P) h hds).2.2
 by_cases hm : m = 0
 ·subst hm
  have hd0 : ds = [] := by have := b3.1; simpa using this
  subst hd0
  have hst := lQ h hT ht hik he hu hkk (s := s) (l := 0) (m := 0) (base := base) (cap := 0) hs hds (by omega) (w' := w) (by cases base <;> simp [γL, storeCells]) ty
  have R := h.CT 0 j.size true { blk := 0, base := 0, eC := 0, sp := base } rfl rfl rfl
  refine ⟨_, w, ?_, ⟨R, fun i hi => dR hi, by simp⟩⟩
  rw [hst]
  simp only [γ, bu, Nat.add_zero]
 ·obtain ⟨ρ', w', r1, r2⟩ := oB h hT ht hik he hu hkk (s := s) (base := base) (cap := 0) (cs := []) hs hcs hds (by omega) q2 q3 ty
  rw [List.nil_append] at r2
  obtain ⟨ρ2, r3, r4⟩ := z7 (σd := σ) (n := m) r2 h rfl (fun j b hj => .inr hj) hf b3.1 (by have := Nat.mul_pos (Nat.pos_of_ne_zero hm) (Nat.pos_of_ne_zero q1); omega)
  exact ⟨ρ2, w', by rw [r1, r3, Nat.zero_add], r4⟩
theorem MG (h : Rel w0 ρ σ w) (hT : aX P T) {t u : TypeId} {k : TyI} (hu : T u = some k) {e' : TypeId} (hkk : k.k = .slice e') {s x v : ab} {σ' : Mem}
  (hs : sc σ.next s = true) (ha : oS T σ t s x = some (v, σ')) (ty : TypeId) :
  ∃ ρ' w', (Builtin.append_ #[t, u] ty #[γ ρ s, γ ρ x]).run P w = .ok (γ ρ' v) w' ∧ bK w0 ρ σ.next ρ' σ' w' ∧ sc σ'.next v = true := by
 unfold oS at ha
 split at ha
 ·rename_i e hTt
  split at ha
  ·cases ha
  ·rename_i j hTe
   split at ha
   ·rename_i cs l ds m hcs hds
    split at ha
    ·cases ha
    ·rename_i hq
     have q1 : j.size ≠ 0 := fun q => hq (.inl q)
     have q2 : j.bytes ≠ 0 := fun q => hq (.inr (.inl q))
     have q3 : 2 * (l + m) * j.bytes ≤ 2 ^ 48 := by
      rcases Nat.lt_or_ge (2 ^ 48) (2 * (l + m) * j.bytes) with q | q
      ·exact absurd (.inr (.inr q)) hq
      ·exact q
     have b3 := (fu (P := P) h hds).2.2
     have c3 := (fu (P := P) h hcs).2.2
     unfold yy at ha
     split at ha
     ·
      rename_i i0
      split at ha
      ·rename_i cs' n' sz' hg0
       split at ha
       ·rename_i hfl
        cases ha
        have hq2 : cs' = cs ∧ n' = l ∧ sz' = j.size := by
         simp only [bO, hg0] at hcs
         split at hcs
         ·rename_i hsz
          simp only [UC, UE] at hcs
          exact ⟨hcs.1, hcs.2, hsz⟩
         ·cases hcs
        obtain ⟨rfl, rfl, rfl⟩ := hq2
        obtain ⟨ρ', w', r1, r2⟩ := ME h hT hTt rfl hTe hu hkk hg0 hds (oA h hds hfl) q1 q2 q3 ty
        exact ⟨ρ', w', r1, r2, by simp [sc]⟩
       ·cases ha
      ·cases ha
     ·
      simp only [bO, UC, UE] at hcs
      obtain ⟨rfl, rfl⟩ := hcs
      split at ha
      ·rename_i hfl
       cases ha
       obtain ⟨ρ', w', r1, r2⟩ := tv h hT hTt rfl hTe hu hkk (s := .aK) (base := none) rfl (by simp [bO]) hds (oA h hds hfl) q1 q2 q3 ty
       exact ⟨ρ', w', r1, r2, by simp [sc]⟩
      split at ha
      ·rename_i hm
       cases ha
       subst hm
       refine ⟨ρ, w, ?_, bK.refl h, rfl⟩
       have := lQ h hT hTt rfl hTe hu hkk (s := .aK) (l := 0) (m := 0) (base := none) (cap := 0) rfl hds (by omega) (w' := w) rfl ty
       simpa only [γ] using this
      ·rename_i hm
       cases ha
       obtain ⟨ρ', w', r1, r2⟩ := oB h hT hTt rfl hTe hu hkk (s := .aK) (base := none) (cap := 0) (cs := []) rfl (by simp [bO]) hds (by omega) q2 q3 ty
       exact ⟨ρ', w', r1, r2, by simp [sc]⟩
     ·
      rename_i i0
      simp only [bO, UC, UE] at hcs
      obtain ⟨rfl, rfl⟩ := hcs
      split at ha
      ·rename_i hfl
       cases ha
       obtain ⟨ρ', w', r1, r2⟩ := tv h hT hTt rfl hTe hu hkk (s := .emp i0) (base := some (ρ i0).odd) rfl (by simp [bO]) hds (oA h hds hfl) q1 q2 q3 ty
       exact ⟨ρ', w', r1, r2, by simp [sc]⟩
      split at ha
      ·rename_i hm
       cases ha
       subst hm
       have hd0 : ds = [] := by have := b3.1; simpa using this
       subst hd0
       refine ⟨ρ, w, ?_, bK.refl h, hs⟩
       have := lQ h hT hTt rfl hTe hu hkk (s := .emp i0) (l := 0) (m := 0) (base := some (ρ i0).odd) (cap := 0) rfl hds (by omega) (w' := w) (by simp [γL, storeCells]) ty
       simpa only [γ] using this
      ·rename_i hm
       cases ha
       obtain ⟨ρ', w', r1, r2⟩ := oB h hT hTt rfl hTe hu hkk (s := .emp i0) (base := some (ρ i0).odd) (cap := 0) (cs := []) rfl (by simp [bO]) hds (by omega) q2 q3 ty
       exact ⟨ρ', w', r1, r2, by simp [sc]⟩
     ·
      rename_i b o l' c
      have hll : l' = l := by
       simp only [bO, UN, UE] at hcs
       obtain ⟨_, _, _, r⟩ := hcs; exact r
      subst hll
      split at ha
      ·rename_i hq0
       obtain ⟨rfl, rfl, hfl⟩ := hq0
       cases ha
       have hcs0 : cs = [] := by have := c3.1; simpa using this
       subst hcs0
       obtain ⟨ρ', w', r1, r2⟩ := tv h hT hTt rfl hTe hu hkk (s := .slice b o 0 true 0) rfl hcs hds (oA h hds hfl) q1 q2 q3 ty
       exact ⟨ρ', w', r1, r2, by simp [sc]⟩
      split at ha
      ·rename_i hroom
       split at ha
       ·rename_i hm
        cases ha
        subst hm
        have hd0 : ds = [] := by have := b3.1; simpa using this
        subst hd0
        refine ⟨ρ, w, ?_, bK.refl h, hs⟩
        have := lQ h hT hTt rfl hTe hu hkk (s := .slice b o l' true c) rfl hds (by simpa using hroom) (w' := w) (by simp [γL, storeCells]) ty
        simpa only [γ, Nat.add_zero] using this
       ·cases hp : xC σ b (o + l' * j.size) ds with
        | none => rw [hp] at ha; cases ha
        | some σ1 =>
         rw [hp] at ha; cases ha
         obtain ⟨w', r1, r2, r3⟩ := h.J5 (P := P) hp b3.2
         refine ⟨ρ, w', ?_, ⟨r2, fun _ _ => rfl, by omega⟩, by simpa [sc, r3] using hs⟩
         have := lQ h hT hTt rfl hTe hu hkk (s := .slice b o l' true c) rfl hds (by simpa using hroom) (w' := w') (by simpa only [Option.elim, lK, Nat.add_assoc] using r1) ty
         simpa only [γ] using this
      ·rename_i hroom
       split at ha
       ·rename_i hfl
        rw [UD] at hfl
        cases ha
        obtain ⟨ρ', w', r1, r2⟩ := oB h hT hTt rfl hTe hu hkk (s := .slice b o l' true c) rfl hcs hds (by simpa using hroom) q2 q3 ty
        obtain ⟨ρ2, r3, r4⟩ := z7 (σd := σ) (n := l' + m) r2 h rfl (fun j b hj => .inr hj) (dW.2 ⟨oA h hcs hfl.1, oA h hds hfl.2⟩)
         (by rw [UR, b3.1, c3.1, Nat.add_mul]) (by have := Nat.mul_pos (show 0 < l' + m by omega) (Nat.pos_of_ne_zero q1); omega)
        exact ⟨ρ2, w', by rw [r1, r3], r4, by simp [sc]⟩
       ·cases ha
        obtain ⟨ρ', w', r1, r2⟩ := oB h hT hTt rfl hTe hu hkk (s := .slice b o l' true c) rfl hcs hds (by simpa using hroom) q2 q3 ty
        exact ⟨ρ', w', r1, r2, by simp [sc]⟩
     ·
      rename_i b o l' c
      have hll : l' = l := by
       simp only [bO, UN, UE] at hcs
       obtain ⟨_, _, _, r⟩ := hcs; exact r
      subst hll
      split at ha
      ·rename_i bs g hgb
       split at ha
       ·rename_i hcond
        obtain ⟨rfl, ho, hend⟩ := hcond
        cases ha
        have hcs2 : cs = bs.drop o := by
         simp only [bO, UN, UE] at hcs
         obtain ⟨x1, x2, x3, _⟩ := hcs
         obtain ⟨y1, y2, y3, y4, y5, y6⟩ := fI x2
         rw [hgb] at y3; cases y3; cases y4
         rw [← x3, y6, List.take_of_length_le (by rw [List.length_drop]; omega)]
        by_cases hroom : l' + m ≤ (ρ b).eC - c
        ·
         have hroom2 : bs.length + ds.length ≤ (ρ b).eC * j.size := by
          have h8 := Nat.mul_le_mul_right j.size hroom
          rw [Nat.sub_mul, Nat.add_mul] at h8
          have hc0 : c * j.size ≤ (ρ b).eC * j.size := by
           obtain ⟨_, _, _, _, _, _, h5⟩ := h.ok b _ hgb
           have := (h5 _ rfl).2.2; omega
          have := b3.1; omega
         obtain ⟨w', r1, r2⟩ := h.MD (P := P) hgb b3.2 hroom2
         have r3 := r2.rename (b := b) (o := o) (c := c) (g := j.size) (bs := bs ++ ds) (by rw [aQ, if_pos rfl]) (by simp; omega) ho q1
         refine ⟨_, w', ?_, ⟨r3.weaken ?_ ?_ ?_, fun i hi => dR hi, by simp⟩, by simp [sc]⟩
         ·have := lQ h hT hTt rfl hTe hu hkk (s := .slice b o l' false c) rfl hds (by simpa using hroom) (w' := w') (by
           simp only [Option.elim, lK]; rw [Nat.add_assoc, hend]; exact r1) ty
          rw [this]
          simp only [γ, bu, d9, Nat.add_zero, Nat.sub_zero, UF, if_false]
         ·intro i x hi _
          rw [bN, aQ, aQ, d9, d9]
          rcases lP hi with ⟨e1, rfl⟩ | ⟨e1, e2, rfl⟩ | ⟨e1, e2, e3⟩
          ·rw [if_pos e1.symm, hcs2, List.drop_append_of_le_length (by omega)]
          ·rw [if_neg (Ne.symm e1), if_pos e2.symm]
          ·rw [if_neg (Ne.symm e1), if_neg (Ne.symm e2), if_neg (Ne.symm e2), e3]
         ·intro i x hi
          simp only [dH, d9]
          rcases lP hi with ⟨e1, rfl⟩ | ⟨e1, e2, rfl⟩ | ⟨e1, e2, e3⟩
          ·omega
          ·have := h.lt b _ hgb; omega
          ·have := h.lt i x e3; omega
         ·intro i x hi
          simp only [dH, d9]
          rcases lP hi with ⟨e1, rfl⟩ | ⟨e1, e2, rfl⟩ | ⟨e1, e2, e3⟩
          ·exact fS (Nat.le_succ _) _ (dW.2 ⟨c3.2, b3.2⟩)
          ·rfl
          ·exact fU (Nat.le_succ _) _ (h.sco i x e3)
        ·obtain ⟨ρ', w', r1, r2⟩ := oB h hT hTt rfl hTe hu hkk (s := .slice b o l' false c) rfl hcs hds (by simp; omega) q2 q3 ty
         refine ⟨ρ', w', r1, ⟨r2.rel.weaken ?_ ?_ ?_, r2.ext, by simp⟩, by simp [sc]⟩
         ·intro i x hi ha
          rw [bN]
          rcases lP hi with ⟨e1, rfl⟩ | ⟨e1, e2, rfl⟩ | ⟨e1, e2, e3⟩
          ·rw [if_pos e1.symm]
          ·simp [am.alive] at ha
          ·rw [if_neg (Ne.symm e1), e3]
         ·intro i x hi
          simp only [dH, d9]
          rcases lP hi with ⟨e1, rfl⟩ | ⟨e1, e2, rfl⟩ | ⟨e1, e2, e3⟩
          ·omega
          ·have := h.lt b _ hgb; omega
          ·have := h.lt i x e3; omega
         ·intro i x hi
          simp only [dH, d9]
          rcases lP hi with ⟨e1, rfl⟩ | ⟨e1, e2, rfl⟩ | ⟨e1, e2, e3⟩
          ·exact fS (Nat.le_succ _) _ (dW.2 ⟨c3.2, b3.2⟩)
          ·rfl
          ·exact fU (Nat.le_succ _) _ (h.sco i x e3)
       ·cases ha
      ·cases ha
     ·cases ha
   ·cases ha
 ·cases ha
end
section
variable {P : Program} {T : au} {w0 : W0} {ρ : Nat → Loc} {σ : Mem} {w : World}
theorem Kj (h : Rel w0 ρ σ w) (hT : aX P T) {src dst : TypeId} {x v : ab} {σ' : Mem} (hb : wE T σ src dst x = some (v, σ')) :
  ∃ ρ' w', (convert src dst (γ ρ x)).run P w = .ok (γ ρ' v) w' ∧ bK w0 ρ σ.next ρ' σ' w' ∧ sc σ'.next v = true := by unfold wE at hb; cases hb
theorem Kk (h : Rel w0 ρ σ w) (hT : aX P T) {src dst : TypeId} {x v : ab} (hb : wG T σ src dst x = some v) : (convert src dst (γ ρ x)).run P w = .ok (γ ρ v) w ∧ sc σ.next v = true := by unfold wG at hb; cases hb
end
end Go.Ev
namespace Go.Ev
section
variable {P : Program} {T : au} {ρ : Nat → Loc} {w0 : W0} {w : World} {σ : Mem}
def LU (ρ : Nat → Loc) (m : MapEntry) (e : ab × ab × Nat) : Prop := m.key = γ ρ e.1 ∧ m.val = γ ρ e.2.1 ∧ m.born = e.2.2
inductive z9 (ρ : Nat → Loc) : List MapEntry → List (ab × ab × Nat) → Prop
 | nil : z9 ρ [] []
 | cons {m : MapEntry} {e : ab × ab × Nat} {ms : List MapEntry} {es : List (ab × ab × Nat)} : LU ρ m e → z9 ρ ms es → z9 ρ (m :: ms) (e :: es)
theorem MH {mes : List MapEntry} {es : List (ab × ab × Nat)} (h : mes.map (fun e => (e.key, e.val, e.born)) = es.map fun e => (γ ρ e.1, γ ρ e.2.1, e.2.2)) :
  z9 ρ mes es := by
 induction mes generalizing es with
 | nil => cases es with
  | nil => exact .nil
  | cons e es => simp at h
 | cons m mes ih =>
  cases es with
  | nil => simp at h
  | cons e es =>
   simp only [List.map_cons, List.cons.injEq, UE] at h
   exact .cons ⟨h.1.1, h.1.2.1, h.1.2.2⟩ (ih h.2)
theorem Kl (h : Rel w0 ρ σ w) {b : Nat} {es : List (ab × ab × Nat)} {clock : Nat} (hb : σ.get b = some (.map es clock)) :
  ∃ mes : Array MapEntry, w.heap[(ρ b).blk]? = some (.map mes clock) ∧ z9 ρ mes.toList es := by
 obtain ⟨mes, h1, h2⟩ := h.ok b _ hb
 exact ⟨mes, h1, MH h2⟩
theorem MI (h : Rel w0 ρ σ w) (hT : aX P T) {t : TypeId} {x k v : ab} {ok : Bool} (hl : ux T σ t x k ok = some v) :
  (Instr.lookup t (γ ρ x) (γ ρ k) ok).run P w = .ok (γ ρ v) w ∧ sc σ.next v = true := by unfold ux at hl; cases hl
theorem z9.get {ms : List MapEntry} {es : List (ab × ab × Nat)} (h : z9 ρ ms es) : ∀ {i : Nat} {e : ab × ab × Nat}, es[i]? = some e → ∃ m, ms[i]? = some m ∧ LU ρ m e := by
 induction h with
 | nil => intro i e hi; cases hi
 | cons h1 _ ih =>
  intro i e hi
  cases i with
  | zero => simp at hi; subst hi; exact ⟨_, rfl, h1⟩
  | succ i => simpa using ih (i := i) (by simpa using hi)
theorem MJ (h : Rel w0 ρ σ w) (hT : aX P T) {t : TypeId} {ts : Array TypeId} (ht : ts[0]? = some t) {x k : ab} {σ' : Mem} (ty : TypeId)
  (hl : CQ T σ t x k = some σ') : ∃ w', (Builtin.delete_ ts ty #[γ ρ x, γ ρ k]).run P w = .ok (.tuple #[]) w' ∧ Rel w0 ρ σ' w' ∧ σ'.next = σ.next := by unfold CQ at hl; cases hl
theorem MK (h : Rel w0 ρ σ w) (hT : aX P T) {t : TypeId} {x k v : ab} {σ' : Mem}
  (hl : uy T σ t x k v = some σ') : ∃ w', (Instr.mapUpdate t (γ ρ x) (γ ρ k) (γ ρ v)).run P w = .ok () w' ∧ Rel w0 ρ σ' w' ∧ σ'.next = σ.next := by unfold uy at hl; cases hl
theorem Km (h : Rel w0 ρ σ w) (hT : aX P T) {t : TypeId} {x k v : ab} {σ' : Mem}
  (hl : wF T σ t x k = some (v, σ')) : ∃ w', (Instr.mapEntry t (γ ρ x) (γ ρ k)).run P w = .ok (γ ρ v) w' ∧ Rel w0 ρ σ' w' ∧ σ'.next = σ.next ∧ sc σ.next v = true := by unfold wF at hl; cases hl
theorem H7 (t : TypeId) (h : Rel w0 ρ σ w) {x n v : ab} {σ' : Mem} (hl : rT σ x n v = some σ') :
  ∃ w', (Instr.entryStore t (γ ρ x) (γ ρ n) (γ ρ v)).run P w = .ok () w' ∧ Rel w0 ρ σ' w' ∧ σ'.next = σ.next := by unfold rT at hl; cases hl
theorem z9.length {ms : List MapEntry} {es : List (ab × ab × Nat)} (h : z9 ρ ms es) : ms.length = es.length := by
 induction h with
 | nil => rfl
 | cons _ _ ih => simp [ih]
theorem Ra (h : Rel w0 ρ σ w) (hT : aX P T) {t : TypeId} {x v : ab} (hl : H1 T σ t x = some v) (ts : Array TypeId) (xs : Array Value) (ht : ts[0]? = some t) (hx : xs[0]? = some (γ ρ x)) (ty : TypeId) :
  (Builtin.len_ ts ty xs).run P w = .ok (γ ρ v) w ∧ sc σ.next v = true := by
 unfold H1 at hl
 split at hl
 ·cases hl
 ·rename_i i hTt
  have hu := (hT _ _ hTt).k
  split at hl
  ·rename_i hik; rw [hik] at hu; simp only [KOk] at hu; cases hl
   exact ⟨by simp only [Builtin.len_, ht, hx, UP, run_underlying hu, UO, γ, UQ, goInt], by simp [sc]⟩
  ·rename_i hik; rw [hik] at hu; simp only [KOk] at hu; cases hl
   exact ⟨by simp only [Builtin.len_, ht, hx, UP, run_underlying hu, UO, γ, UQ, goInt], by simp [sc]⟩
  ·rename_i hik; rw [hik] at hu; simp only [KOk] at hu; cases hl
   exact ⟨by simp only [Builtin.len_, ht, hx, UP, run_underlying hu, UO, γ, UQ, goInt], by simp [sc]⟩
  ·rename_i hik; rw [hik] at hu; simp only [KOk] at hu; cases hl
   exact ⟨by simp only [Builtin.len_, ht, hx, UP, run_underlying hu, UO, γ, UQ, goInt]; rfl, by simp [sc]⟩
  ·rename_i hik; rw [hik] at hu; simp only [KOk] at hu; cases hl
   exact ⟨by simp only [Builtin.len_, ht, hx, UP, run_underlying hu, UO, γ, UQ, goInt]; rfl, by simp [sc]⟩
  ·rename_i b hik; rw [hik] at hu; simp only [KOk] at hu
   split at hl
   ·rename_i cs n sz own hg
    cases hl
    obtain ⟨g0, _⟩ := h.ok _ _ hg
    exact ⟨by simp only [Builtin.len_, ht, hx, UP, run_underlying hu, UO, γ, UQ, goInt, g0], by simp [sc]⟩
   ·cases hl
  ·rename_i hik; rw [hik] at hu; simp only [KOk] at hu; cases hl
   exact ⟨by simp only [Builtin.len_, ht, hx, UP, run_underlying hu, UO, γ, UQ, goInt], by simp [sc]⟩
  ·rename_i b hik; rw [hik] at hu; simp only [KOk] at hu
   split at hl
   ·rename_i es clock hb
    cases hl
    obtain ⟨mes, m1, m2⟩ := Kl h hb
    exact ⟨by simp only [Builtin.len_, ht, hx, UP, run_underlying hu, UO, γ, UQ, goInt, run_getObj_map w _ _ _ m1, ← m2.length, Array.length_toList], by simp [sc]⟩
   ·cases hl
  ·cases hl
theorem Kn (mx : Bool) : ∀ {r : LA_} {x v : ab}, mmA mx x r = some v → sc σ.next x = true →
    ((γL ρ r).foldlM (if mx then Builtin.max2 else Builtin.min2) (γ ρ x)).run P w = .ok (γ ρ v) w ∧ sc σ.next v = true
  | [], x, v, h, hs => by simp only [mmA, UC] at h; subst h; exact ⟨rfl, hs⟩
  | y :: r, x, v, h, hs => by
    cases x <;> cases y <;> simp only [mmA] at h <;> first
      | cases h
      | (have ih := Kn mx h (by simp [sc])
         refine ⟨?_, ih.2⟩
         rw [← ih.1]
         cases mx <;> simp [γL, γ, Builtin.max2, Builtin.min2])
theorem NR (h : Rel w0 ρ σ w) (hT : aX P T) {t : TypeId} {x v : ab} {σ' : Mem} (hl : JY T σ t x = some (v, σ')) :
  ∃ w' ρ', (Instr.range t (γ ρ x)).run P w = .ok (γ ρ' v) w' ∧ bK w0 ρ σ.next ρ' σ' w' ∧ sc σ'.next v = true := by unfold JY at hl; cases hl
theorem Ko (h : Rel w0 ρ σ w) {x : ab} {i m since clock : Nat} {seen : List Nat} {es : List (ab × ab × Nat)} (hx : Gl σ x = some (i, m, since, seen, es, clock)) (ty : TypeId) :
  (Gk es seen = [] ∧ (Instr.next (γ ρ x) false ty).run P w = .ok (γ ρ (.tup [.bool false])) w) ∨
  ∃ e ∈ Gk es seen, ∃ w', (Instr.next (γ ρ x) false ty).run P w = .ok (γ ρ (.tup [.bool true, e.1, e.2.1])) w' ∧ Rel w0 ρ (σ.set i (.iter m since (seen ++ [e.2.2]) clock)) w' ∧ sc σ.next (.tup [.bool true, e.1, e.2.1]) = true := by unfold Gl at hx; cases hx
theorem NS (h : Rel w0 ρ σ w) {x v : ab} (hl : JZ σ x = some v) : (Instr.entry (γ ρ x)).run P w = .ok (γ ρ v) w ∧ sc σ.next v = true := by unfold JZ at hl; cases hl
theorem oU {x : Option ab} {d y n : Nat} {code : BoundsCode} (h : eS x d = some n) (hy : n ≤ y) : ∀ v, x = some v → (Instr.sliceBound (γ ρ v) y code).run P w = .ok n w := by
 intro v hv
 subst hv
 unfold eS at h
 split at h
 ·rename_i e; cases e
 ·rename_i k i e
  cases e
  split at h
  ·rename_i hi
   cases h
   simp only [γ, Instr.sliceBound, asIntOf, UP, UQ, UO]
   rw [if_pos ⟨hi, by omega⟩]
   rfl
  ·cases h
 ·cases h
theorem Rel.renew (h : Rel w0 ρ σ w) {b : Nat} {B0 B : am} {L : Loc} (hb : σ.get b = some B0) (ho : B0.owned = true) (hs : scB σ.next B = true) (hB : BOk ρ L w B) (hL : L.blk = (ρ b).blk) :
  Rel w0 (upd ρ σ.next L) ((σ.set b .dead).push B) w := by
 have ha := am.dQ ho
 have hown := h.own b _ hb ho
 exact (h.kill hb).name (B := B) (L := L) hs hB (fun _ => by rw [hL]; exact h.inb b _ hb ha)
  (fun _ => ⟨by rw [hL]; exact hown, fun j bj hj haj => by
   rw [aQ] at hj
   split at hj
   ·cases hj; cases haj
   ·rename_i hne'
    rw [hL]
    exact fun e => h.ap b j _ bj hb hj hne' ho haj e.symm⟩)
  (fun _ j bj hj hoj => by
   rw [aQ] at hj
   split at hj
   ·cases hj; cases hoj
   ·rename_i hne'
    rw [hL]
    exact h.ap j b bj _ hj hb (Ne.symm hne') hoj ha)
theorem NT (s : ByteArray) (lo hi : Nat) : J0 s lo hi = s.extract lo hi := by
 apply ByteArray.ext
 rw [ByteArray.data_extract]
 apply Array.ext'
 simp [J0, Array.toList_extract, List.extract]
theorem NU {t : TypeId} (ht : P.underlying t = some .string) {s : ByteArray} {low high : Option ab} {lo hi : Nat} (h1 : eS low 0 = some lo) (h2 : eS high s.size = some hi) (h3 : lo ≤ hi) (h4 : hi ≤ s.size) :
  (Instr.sliceAt t (.string s) (low.map (γ ρ)) (high.map (γ ρ)) none).run P w = .ok (.string (s.extract lo hi)) w := by
 have b2 : (Instr.sliceBounds false s.size s.size (low.map (γ ρ)) (high.map (γ ρ)) none).run P w = .ok (lo, hi, s.size) w := by
  unfold Instr.sliceBounds
  cases hh : high with
  | none =>
   rw [hh] at h2
   simp only [eS, UC] at h2
   subst h2
   cases hlw : low with
   | none =>
    rw [hlw] at h1
    simp only [eS, UC] at h1
    subst h1
    simp [UP, UQ]
   | some lv =>
    have := oU (P := P) (w := w) (ρ := ρ) (y := s.size) (code := .sliceB) h1 (by omega) lv hlw
    simp [UP, UQ, this]
  | some hv =>
   have q2 := oU (P := P) (w := w) (ρ := ρ) (y := s.size) (code := .sliceAlen) h2 (by omega) hv hh
   cases hlw : low with
   | none =>
    rw [hlw] at h1
    simp only [eS, UC] at h1
    subst h1
    simp [UP, UQ, q2]
   | some lv =>
    have := oU (P := P) (w := w) (ρ := ρ) (y := hi) (code := .sliceB) h1 h3 lv hlw
    simp [UP, UQ, q2, this]
 simp only [Instr.sliceAt, Instr.slice, UP, run_underlying ht, UO, b2, UQ]
 simp [UQ]
 rw [b2]
 rfl
theorem NV (h : Rel w0 ρ σ w) (hT : aX P T) {t : TypeId} {x v : ab} {low high : Option ab} {σ' : Mem} (hs : sc σ.next x = true) (hl : J1 T σ t x low high = some (v, σ')) :
  ∃ ρ', (Instr.sliceAt t (γ ρ x) (low.map (γ ρ)) (high.map (γ ρ)) none).run P w = .ok (γ ρ' v) w ∧ bK w0 ρ σ.next ρ' σ' w ∧ sc σ'.next v = true := by
 unfold J1 at hl
 split at hl
 rotate_left
 ·rename_i n e hTt
  have hu := (hT _ _ hTt).k
  simp only [KOk] at hu
  split at hl
  ·rename_i j b o hTe
   simp only [UC, UE] at hl
   obtain ⟨rfl, rfl⟩ := hl
   have hsz := (hT _ _ hTe).dD w
   refine ⟨ρ, ?_, .refl h, by simpa only [sc] using hs⟩
   simp [Instr.sliceAt, Instr.sliceBounds, UP, UQ, run_underlying hu, UO, γ, Instr.sureAddr, asAddr, hsz, Addr.add]
  ·cases hl
 ·rename_i hTt
  have hu := (hT _ _ hTt).k
  simp only [KOk] at hu
  split at hl
  rotate_left
  ·cases hl
  rename_i s
  split at hl
  rotate_left
  ·cases hl
  rename_i lo hi h1 h2
  split at hl
  rotate_left
  ·cases hl
  rename_i hle
  simp only [UC, UE] at hl
  obtain ⟨rfl, rfl⟩ := hl
  exact ⟨ρ, by rw [NT]; exact NU hu h1 h2 hle.1 hle.2, .refl h, rfl⟩
 ·cases hl
 rename_i e hTt
 have hu := (hT _ _ hTt).k
 simp only [KOk] at hu
 split at hl
 ·cases hl
 rename_i j hTe
 have hsz := (hT e j hTe).dD w
 have go : ∀ {a : Option Addr} {l cap lo hi : Nat}, eS low 0 = some lo → eS high l = some hi → lo ≤ hi → hi ≤ cap →
   (Instr.sliceAt t (.slice a l cap) (low.map (γ ρ)) (high.map (γ ρ)) none).run P w = .ok (.slice (if cap = lo then a else a.map (·.add (lo * j.size))) (hi - lo) (cap - lo)) w := by
  intro a l cap lo hi h1 h2 h3 h4
  have b2 : (Instr.sliceBounds true l cap (low.map (γ ρ)) (high.map (γ ρ)) none).run P w = .ok (lo, hi, cap) w := by
   unfold Instr.sliceBounds
   cases hh : high with
   | none =>
    rw [hh] at h2
    simp only [eS, UC] at h2
    subst h2
    cases hlw : low with
    | none =>
     rw [hlw] at h1
     simp only [eS, UC] at h1
     subst h1
     simp [UP, UQ]
    | some lv =>
     have := oU (P := P) (w := w) (ρ := ρ) (y := l) (code := .sliceB) h1 (by omega) lv hlw
     simp [UP, UQ, this]
   | some hv =>
    have q2 := oU (P := P) (w := w) (ρ := ρ) (y := cap) (code := .sliceAcap) h2 (by omega) hv hh
    cases hlw : low with
    | none =>
     rw [hlw] at h1
     simp only [eS, UC] at h1
     subst h1
     simp [UP, UQ, q2]
    | some lv =>
     have := oU (P := P) (w := w) (ρ := ρ) (y := hi) (code := .sliceB) h1 (by omega) lv hlw
     simp [UP, UQ, q2, this]
  simp only [Instr.sliceAt, Instr.slice, UP, run_underlying hu, UO, b2, hsz, UQ]
 split at hl
 ·rename_i b o l ex c
  split at hl
  rotate_left
  ·cases hl
  rename_i lo hi h1 h2
  split at hl
  rotate_left
  ·split at hl
   rotate_left
   ·cases hl
   rename_i hc
   obtain ⟨rfl, rfl, rfl, rfl, hll⟩ := hc
   split at hl
   rotate_left
   ·cases hl
   rename_i bs g hb
   split at hl
   rotate_left
   ·cases hl
   rename_i hg
   obtain ⟨hg1, hg2, hg3⟩ := hg
   cases hl
   obtain ⟨cc, ee, fz, q1, ⟨pre, post, q2, q3⟩, q4, q5⟩ := h.ok b _ hb
   obtain ⟨_, q6, q7⟩ := q5 g rfl
   have hsc : scC σ.next bs = true := h.sco b _ hb
   have hR := h.renew (B := .cells (bs.take (hi * g)) true (some g)) (L := ρ b) hb rfl (by
     show scC σ.next (bs.take (hi * g)) = true
     rw [fO] at hsc ⊢
     exact fun v hv => hsc v (List.mem_of_mem_take hv))
    ⟨cc, ee, fz, q1, ⟨pre, γL ρ (bs.drop (hi * g)) ++ post, by
     rw [q2]
     conv => lhs; rw [← List.take_append_drop (hi * g) bs]
     simp only [cr, UW], q3⟩, q4, fun g' hg' => by
      cases hg'
      exact ⟨rfl, q6, by rw [List.length_take]; omega⟩⟩ rfl
   refine ⟨_, ?_, ⟨hR, fun i hi => dR hi, by simp⟩, by simp [sc]⟩
   have hcap : hi ≤ (ρ b).eC := Nat.le_trans hll (Nat.le_of_mul_le_mul_right (Nat.le_trans hg3 q7) hg2)
   have := go (a := some ⟨(ρ b).blk, (ρ b).base + 0, none⟩) (l := l) (cap := (ρ b).eC) h1 h2 (by omega) hcap
   simp only [γ, UF, if_false, Nat.sub_zero]
   rw [this, bu]
   simp only [Nat.zero_mul, Nat.sub_zero, UT, Addr.add, if_true, ite_self]
  rename_i hle
  obtain ⟨hle1, hle2, hex, hlc⟩ := hle
  subst hex
  split at hl
  ·rename_i hlo
   subst hlo
   cases hl
   refine ⟨ρ, ?_, bK.refl h, hs⟩
   have := go (a := some ⟨(ρ b).blk, (ρ b).base + o, none⟩) (l := l) (cap := c) h1 h2 (by omega) (by omega)
   simp only [γ, if_true]
   rw [this]
   congr 2
   simp only [Nat.zero_mul, UT, Addr.add, if_true, ite_self]
  ·rename_i hlo
   split at hl
   ·rename_i hcc
    cases hl
    refine ⟨ρ, ?_, bK.refl h, hs⟩
    have := go (a := some ⟨(ρ b).blk, (ρ b).base + o, none⟩) (l := l) (cap := c) h1 h2 hle1 (by omega)
    simp only [γ, if_true]
    rw [this, if_neg (by omega)]
    simp only [UT, Addr.add]
    split
    ·rename_i hz
     rw [hz, Nat.add_zero]
    ·simp only [Nat.add_assoc]
   ·cases hl
 ·rename_i b
  split at hl
  rotate_left
  ·cases hl
  rename_i cs n sz hb h1
  split at hl
  rotate_left
  ·cases hl
  rename_i hi h2
  split at hl
  rotate_left
  ·split at hl
   rotate_left
   ·cases hl
   rename_i hc
   obtain ⟨rfl, hem, hz⟩ := hc
   cases hl
   have hcs : cs ≠ [] := by rintro rfl; cases hem
   obtain ⟨q0, q1⟩ := h.ok b _ hb
   rcases q1 with ⟨_, q, _⟩ | ⟨_, q2, q3, cc, ee, fz, q4, ⟨pre, post, q5, q6⟩, q7⟩
   ·exact absurd q hcs
   obtain ⟨g1, g2, g3⟩ := q7 rfl
   have hR := h.renew (B := .cells [] true (some sz)) (L := { ρ b with eC := (ρ b).sk }) hb (by simp [am.owned, hcs]) rfl
    ⟨cc, ee, fz, q4, ⟨pre, γL ρ cs ++ post, by rw [q5]; simp [γL], q6⟩, fun _ => g1, fun g' hg' => by
      cases hg'
      exact ⟨rfl, g3, by simp⟩⟩ rfl
   refine ⟨_, ?_, ⟨hR, fun i hi => dR hi, by simp⟩, by simp [sc]⟩
   have := go (a := (ρ b).sp) (l := (ρ b).sl) (cap := (ρ b).sk) (lo := 0) (hi := 0) h1 (by rw [q0]; exact h2) (by omega) (by omega)
   simp only [γ, UF, if_false, Nat.sub_zero]
   rw [this, bu]
   simp only [Nat.zero_mul, Nat.sub_zero, q2, UT, Addr.add, if_true, ite_self, Nat.add_zero]
  rename_i hc
  obtain ⟨c1, c2, c3, c4, c5⟩ := hc
  cases hl
  have hne : cs.take (hi * sz) ≠ [] := by
   intro e
   have := congrArg List.length e
   simp only [List.length_take, List.length_nil] at this
   have := Nat.mul_pos (Nat.pos_of_ne_zero c2) c5
   omega
  have hcs : cs ≠ [] := by rintro rfl; simp at hne
  obtain ⟨q0, q1⟩ := h.ok b _ hb
  rcases q1 with ⟨_, q, _⟩ | ⟨_, q2, q3, cc, ee, fz, q4, ⟨pre, post, q5, q6⟩, q7⟩
  ·exact absurd q hcs
  obtain ⟨g1, g2, g3⟩ := q7 rfl
  have hblt := h.lt b _ hb
  have hsc : scC 0 cs = true := h.sco b _ hb
  have hsct : scC 0 (cs.take (hi * sz)) = true := by
   rw [fO] at hsc ⊢
   exact fun v hv => hsc v (List.mem_of_mem_take hv)
  have hin := h.inb b _ hb (by simp [am.alive, hcs])
  have hd : Rel w0 ρ (σ.set b .dead) w := h.kill hb
  have hown := h.own b _ hb (by simp [am.owned, hcs])
  have hR := hd.name (B := .vec (cs.take (hi * sz)) hi sz true) (L := { ρ b with sl := hi }) hsct ⟨rfl, .inr ⟨hne, q2, by rw [List.length_take, Nat.min_eq_left c4], cc, ee, fz, q4, ⟨pre, γL ρ (cs.drop (hi * sz)) ++ post, by
    rw [q5]
    conv => lhs; rw [← List.take_append_drop (hi * sz) cs]
    simp only [cr, UW], q6⟩, fun _ => ⟨g1, by show hi ≤ (ρ b).sk; omega, g3⟩⟩⟩ (fun _ => hin)
   (fun _ => ⟨hown, fun j bj hj haj => by
    rw [aQ] at hj
    split at hj
    ·cases hj; cases haj
    ·rename_i hne'
     exact fun e => h.ap b j _ bj hb hj hne' (by simp [am.owned, hcs]) haj e.symm⟩)
   (fun _ j bj hj ho => by
    rw [aQ] at hj
    split at hj
    ·cases hj; cases ho
    ·rename_i hne'
     exact h.ap j b bj _ hj hb (Ne.symm hne') ho (by simp [am.alive, hcs]))
  refine ⟨_, ?_, ⟨hR, fun i hi => dR hi, by simp⟩, by simp [sc]⟩
  have := go (a := (ρ b).sp) (l := (ρ b).sl) (cap := (ρ b).sk) (lo := 0) (hi := hi) h1 (by rw [q0]; exact h2) (by omega) (by omega)
  simp only [γ]
  rw [this]
  have e1 : (σ.set b am.dead).next = σ.next := rfl
  rw [e1, bu]
  simp only [Nat.zero_mul, Nat.sub_zero, q2, UT, Addr.add, if_true, ite_self]
 ·cases hl
end
end Go.Ev
namespace Go.Ev
def rW (ρ : Nat → Loc) : fG → Ending
 | .ret v => .returned (γ ρ v)
 | .pan v => .panicked [{ v := γ ρ v, recovered := false }]
def fG.value : fG → ab
 | .ret v => v
 | .pan v => v
def da (P : Program) (g : FuncId) (args : LA_) (σ : Mem) (r : fG) (σ' : Mem) : Prop :=
 ∀ w0 ρ w, Rel w0 ρ σ w → scL σ.next args = true →
  Calls P g (γL ρ args).toArray w fun e w' => ∃ ρ', e = rW ρ' r ∧ bK w0 ρ σ.next ρ' σ' w' ∧ sc σ'.next r.value = true
def no (P : Program) (g : FuncId) : Prop := ∃ fn, P.funcs[g]? = some fn ∧ (fn.name == "runtime.NumGoroutine") = false ∧ fn.body.isNone = false
def Rb (P : Program) (g : FuncId) (args : LA_) (σ : Mem) (r : fG) (σ' : Mem) : Prop :=
 ∃ v, r = .ret v ∧ σ' = σ ∧ sc 0 v = true ∧ ∀ (ρ : Nat → Loc) (w : World), (callFunc g (γL ρ args).toArray).run P w = .ok (.value (γ ρ v)) w
def Gs (P : Program) (g : FuncId) (args : LA_) (σ : Mem) (r : fG) (σ' : Mem) : Prop := (no P g ∧ da P g args σ r σ') ∨ Rb P g args σ r σ'
theorem Pe {w : World} (ρ : Nat → Loc) (n : Nat) : Rel (W0.all w) ρ ⟨n, []⟩ w :=
 ⟨fun i b h => (nomatch h), fun i b h => (nomatch h), fun i b h => (nomatch h), fun i b h => (nomatch h), fun i j bi bj h => (nomatch h), fun i b h => (nomatch h), rfl, rfl, rfl, Nat.le_refl _, fun _ _ => rfl⟩
theorem da.none {P : Program} {g : FuncId} {args : LA_} {v : ab} (h : da P g args ⟨0, []⟩ (.ret v) ⟨0, []⟩) (hs : scL 0 args = true) (hv : sc 0 v = true) (σ : Mem) : da P g args σ (.ret v) σ := by
 intro w0 ρ w hr _
 refine (h (W0.all w) ρ w (Pe ρ 0) hs).mono ?_
 rintro e w' ⟨ρ', k1, k2, _⟩
 have R := k2.rel
 have hold : ∀ q, q < w.heap.size → w'.heap[q]? = w.heap[q]? := fun q hq => R.old q hq
 have hsz : w.heap.size ≤ w'.heap.size := R.size
 refine ⟨ρ, ?_, ⟨⟨hr.lt, hr.sco, fun i b hi => ?_, fun i b hi ha => Nat.lt_of_lt_of_le (hr.inb i b hi ha) hsz, hr.ap, hr.own, R.os.trans hr.os, R.tape.trans hr.tape, R.output.trans hr.output, Nat.le_trans hr.size hsz,
  fun q hq => (hold q (by have := w0.lt q hq; have := hr.size; omega)).trans (hr.old q hq)⟩, fun _ _ => rfl, Nat.le_refl _⟩, kA (Nat.zero_le _) v hv⟩
 ·rw [k1]
  simp only [rW]
  rw [fT (n := 0) (ρ := ρ) (ρ' := ρ') (fun i hi => absurd hi (by omega)) v hv]
 ·by_cases ha : b.alive = true
  ·exact ck (fun _ _ => rfl) (hold _ (hr.inb i b hi ha)) b (hr.sco i b hi) (hr.ok i b hi)
  ·exact lJ ha (hr.ok i b hi)
def jp (P : Program) (H : bM) : Prop := ∀ g args σ r σ', H g args σ = some (r, σ') → Gs P g args σ r σ'
section
variable {P : Program} {T : au} {H : bM} {ρ : Nat → Loc} {w0 : W0} {w : World} {σ : Mem} {a : Act} {tm : LA_} {next : Act → World → Prop} {Q : Exit → Act → World → Prop}
theorem eE {o : Oper} {v : ab} {ρ' : Nat → Loc} {w' : World} (hr : (execOp a.eval o).run P w = .ok (.value (γ ρ' v)) w') (hn : next (a.put o.dst (γ ρ' v)) w') : o.wp P a w next Q := by
 unfold Oper.wp; rw [hr]; exact hn
theorem Fj {o : Oper} {w' : World} (hr : (execOp a.eval o).run P w = .ok .skip w') (hn : next (a.put o.dst undef) w') : o.wp P a w next Q := by
 unfold Oper.wp; rw [hr]; exact hn
theorem jq {g : FuncId} (hg : no P g) (args : Array Value) : (callFunc g args).run P w = .ok (.enter g args) w := by
 obtain ⟨fn, h1, h2, h3⟩ := hg
 simp only [callFunc, UP, run_program, UO, h1, h2, h3, UF, if_false, UQ]
def dOf (f : FuncId) (cap args : List Value) : Deferred :=
 if f = wH then { target := .collected (match cap with | [.int _ n] => n.toNat | _ => 0), args := #[] } else { target := .fn (.func f) cap.toArray, args := args.toArray }
def γD (ρ : Nat → Loc) (d : oy) : Deferred := dOf d.f (γL ρ d.cap) (γL ρ d.args)
def Uf (o : Oper) (a : Act) (next : Act → World → Prop) (Q : Exit → Act → World → Prop) (ρ' : Nat → Loc) (w' : World) (σ' : Mem) : cI → Prop
 | .val v => sc σ'.next v = true → next (a.put o.dst (γ ρ' v)) w'
 | .skip => next (a.put o.dst undef) w'
 | .pan v => sc σ'.next v = true → Q (.panic [{ v := γ ρ' v, recovered := false }]) a w'
 | .dfr d => scL σ'.next d.cap = true → scL σ'.next d.args = true → next ({ a with defers := γD ρ' d :: a.defers }.put o.dst undef) w'
theorem Kp (h : Rel w0 ρ σ w) {z : ab} (hz : iY σ z = true) : ∃ ad l c, γ ρ z = .slice (some ad) l c := by
 unfold iY at hz
 split at hz
 ·rename_i i
  split at hz
  ·rename_i c cs n sz own hg
   have hb := h.ok i _ hg
   obtain ⟨_, ⟨_, h0, _⟩ | ⟨_, h1, _⟩⟩ := hb
   ·cases h0
   ·exact ⟨_, _, _, by simp only [γ, h1]; rfl⟩
  ·cases hz
 ·cases hz
theorem Pf (h : Rel w0 ρ σ w) (hT : aX P T) {c n : Bool} {op : BinOp} {t : TypeId} {x y v : ab} (hz : Cb T σ c n op t x y = some v) (xo yo : Operand) (hc : c = true → (my xo || my yo) = true) :
  (do eqGuard op t xo yo (γ ρ x) (γ ρ y); binOp op t (γ ρ x) (γ ρ y)).run P w = .ok (γ ρ v) w ∧ sc σ.next v = true := by
 unfold Cb at hz
 cases n with
 | false => exact J9 w hT hz xo yo hc
 | true =>
  simp only [cond_true] at hz
  split at hz
  rotate_left
  ·exact J9 w hT hz xo yo hc
  rename_i u hu
  cases hz
  unfold Ca at hu
  cases hb : (((gK x && iY σ y) || (iY σ x && gK y)) && Gi (T t)) with
  | false => rw [hb] at hu; cases hu
  | true =>
   rw [hb] at hu
   simp only [cond_true] at hu
   simp only [UD, Bool.or_eq_true] at hb
   obtain ⟨hxy, hk⟩ := hb
   obtain ⟨e, hk⟩ : ∃ e, P.underlying t = some (.slice e) := by
    unfold Gi at hk
    split at hk
    ·rename_i e i hi
     have := (hT t _ hi).k
     simp only [KOk] at this
     exact ⟨_, this⟩
    ·cases hk
   have nl : ∀ z : ab, gK z = true → γ ρ z = .slice none 0 0 := by
    intro z hz
    cases z <;> first | rfl | cases hz
   have key : ∃ a l c b l' c', γ ρ x = .slice a l c ∧ γ ρ y = .slice b l' c' ∧ (a = none ∨ b = none) ∧ (a.isNone && b.isNone) = false := by
    rcases hxy with ⟨h1, h2⟩ | ⟨h1, h2⟩
    ·obtain ⟨ad, l, c, q⟩ := Kp h h2
     exact ⟨_, _, _, _, _, _, nl x h1, q, .inl rfl, rfl⟩
    ·obtain ⟨ad, l, c, q⟩ := Kp h h1
     exact ⟨_, _, _, _, _, _, q, nl y h2, .inr rfl, rfl⟩
   obtain ⟨a1, l1, c1, b1, l2, c2, q1, q2, q3, q4⟩ := key
   have he := kB (P := P) w hk a1 b1 l1 c1 l2 c2 q3
   rw [q4] at he
   have := ei (P := P) (t := t) w xo yo (x := .slice a1 l1 c1) (y := .slice b1 l2 c2) rfl rfl (fun _ => bQ w (by simp) (by simp)) he
   rw [q1, q2]
   split at hu
   ·cases hu; exact ⟨this.1, by simp [sc]⟩
   ·cases hu; exact ⟨this.2, by simp [sc]⟩
   ·cases hu
theorem Aa (hT : aX P T) (hH : jp P H) (h : Rel w0 ρ σ w) (hf : a.tmps = (γL ρ tm).toArray) (hs : scL σ.next tm = true) {o : Oper} {r : cI} {σ' : Mem}
  (hx : aM T H o.op tm σ = some (r, σ'))
  (K : ∀ ρ' w', bK w0 ρ σ.next ρ' σ' w' → Uf o a next Q ρ' w' σ' r) : o.wp P a w next Q := by
 obtain ⟨dst, op, type, pos, after, guard⟩ := o
 have pure1 : ∀ {r1 : Option ab}, (r1.map fun v => ((cI.val v, σ) : cI × Mem)) = some (r, σ') →
   (∀ v, r1 = some v → (execOp a.eval ⟨dst, op, type, pos, after, guard⟩).run P w = .ok (.value (γ ρ v)) w ∧ sc σ.next v = true) →
   Oper.wp P ⟨dst, op, type, pos, after, guard⟩ a w next Q := by
  intro r1 h1 h2
  cases r1 with
  | none => cases h1
  | some v =>
   cases h1
   obtain ⟨q1, q2⟩ := h2 v rfl
   exact eE q1 (K ρ w (bK.refl h) q2)
 have E : ∀ {x : Operand} {v : ab}, ev tm x = some v → a.eval x = γ ρ v ∧ sc σ.next v = true := fun hv => qm hf hs hv
 cases op <;> simp only [aM] at hx
 case move x => exact pure1 hx fun v hv => by obtain ⟨e1, e2⟩ := E hv; exact ⟨by simp only [execOp, e1, UQ], e2⟩
 case assign x => exact pure1 hx fun v hv => by obtain ⟨e1, e2⟩ := E hv; exact ⟨by simp only [execOp, e1, UQ], e2⟩
 case pick c x y =>
  split at hx
  ·rename_i hc
   have hc' := (E hc).1
   exact pure1 hx fun v hv => by obtain ⟨e1, e2⟩ := E hv; exact ⟨by simp only [execOp, hc', γ, asBool, UP, UQ, UO, if_true, e1], e2⟩
  ·rename_i hc
   have hc' := (E hc).1
   exact pure1 hx fun v hv => by obtain ⟨e1, e2⟩ := E hv; exact ⟨by simp only [execOp, hc', γ, asBool, UP, UQ, UO, UF, if_false, e1], e2⟩
  ·cases hx
 case alloc t =>
  split at hx
  ·cases hx
  ·rename_i i ht
   cases hx
   obtain ⟨w', L, r1, l1, l2, r2⟩ := NQ h hT ht (yz T t)
   refine eE (v := .ptr σ.next 0) (ρ' := upd ρ σ.next L) (w' := w') ?_ (K _ _ r2 (by simp [sc]))
   simp only [execOp, UP, r1, UO, UQ, γ, bu, l1, l2, Nat.add_zero]
 case box t x =>
  split at hx
  ·rename_i v hv
   split at hx
   ·cases hx
   ·rename_i ht
    cases hx
    obtain ⟨e1, e2⟩ := E hv
    obtain ⟨w', L, r1, l1, l2, r2⟩ := Q9 (P := P) h e2 (by simpa using ht) t (yz T t)
    refine eE (v := .ptr σ.next 0) (ρ' := upd ρ σ.next L) (w' := w') ?_ (K _ _ r2 (by simp [sc]))
    simp only [execOp, e1, UP, r1, UO, UQ, γ, bu, l1, l2, Nat.add_zero]
  ·cases hx
 case build t ps =>
  split at hx
  ·rename_i vs hvs
   obtain ⟨e1, e2⟩ := J7 hf hs hvs
   refine pure1 hx fun v hv => ?_
   obtain ⟨r1, r2⟩ := NJ (ρ := ρ) w hT e2 hv
   refine ⟨?_, r2⟩
   have e3 : (ps.map fun (x : Nat × Operand) => (x.1, a.eval x.2)) = (vs.map fun x => (x.1, γ ρ x.2)).toArray := by
    apply Array.ext'; rw [Array.toList_map, e1]
   simp only [execOp, UP]
   rw [show (ps.map fun (x : Nat × Operand) => match x with | (i, x) => (i, a.eval x)) = (vs.map fun x => (x.1, γ ρ x.2)).toArray from e3]
   simp only [r1, UO, UQ]
  ·cases hx
 case buildSlice t n ps =>
  split at hx
  ·rename_i vs hvs
   obtain ⟨e1, e2⟩ := J7 hf hs hvs
   cases hb : iN T σ t n vs with
   | none => rw [hb] at hx; cases hx
   | some q =>
    obtain ⟨v, σ1⟩ := q
    rw [hb] at hx; cases hx
    obtain ⟨ρ', w', r1, r2, r3⟩ := H6 h hT e2 hb
    have e3 : (ps.map fun (x : Nat × Operand) => (x.1, a.eval x.2)) = (vs.map fun x => (x.1, γ ρ x.2)).toArray := by
     apply Array.ext'; rw [Array.toList_map, e1]
    refine eE (v := v) (ρ' := ρ') (w' := w') ?_ (K _ _ r2 r3)
    simp only [execOp, UP]
    rw [show (ps.map fun (x : Nat × Operand) => match x with | (i, x) => (i, a.eval x)) = (vs.map fun x => (x.1, γ ρ x.2)).toArray from e3]
    simp only [r1, UO, UQ]
  ·cases hx
 case makeSlice t l c =>
  split at hx
  ·rename_i k n hl hn
   cases hb : CP T σ t n with
   | none => rw [hb] at hx; cases hx
   | some q =>
    obtain ⟨v, σ1⟩ := q
    rw [hb] at hx; cases hx
    obtain ⟨ρ', w', r1, r2, r3⟩ := Pd (k := k) h hT hb
    have ec : a.eval c = a.eval l := by
     cases l <;> cases c <;> simp only [Jw, UF] at hl
     ·rw [US hl]
     ·rename_i x y
      cases x <;> cases y <;> simp only [Jw, UF, UD, UJ] at hl
      rw [hl.1, hl.2]
    refine eE (v := v) (ρ' := ρ') (w' := w') ?_ (K _ _ r2 r3)
    simp only [execOp, ec, (E hn).1, γ, UP, r1, UO, UQ]
  ·cases hx
 case load t x =>
  split at hx
  ·rename_i y hy
   refine pure1 hx fun v hv => ?_
   obtain ⟨b, o, rfl, r1, r2⟩ := h.Ea (P := P) hT hv
   exact ⟨by simp only [execOp, Instr.loadAt, (E hy).1, γ, Instr.sureAddr, UP, UQ, UO, r1], r2⟩
  ·cases hx
 case store t x y =>
  split at hx
  ·rename_i u v hu hv
   cases hp : qf T σ t u v with
   | none => rw [hp] at hx; cases hx
   | some σ1 =>
    rw [hp] at hx; cases hx
    obtain ⟨e1, e2⟩ := E hv
    obtain ⟨b, o, w', rfl, r1, r2, r3⟩ := h.J6 (P := P) hT hp e2
    refine Fj (w' := w') ?_ (K ρ w' ⟨r2, fun _ _ => rfl, by omega⟩)
    simp only [execOp, Instr.storeAt, (E hu).1, e1, γ, Instr.sureAddr, UP, UQ, UO, r1]
  ·cases hx
 case binOp op t x y t2 =>
  split at hx
  ·rename_i u v hu hv
   refine pure1 hx fun z hz => ?_
   obtain ⟨r1, r2⟩ := Pf h hT hz x y id
   refine ⟨?_, r2⟩
   simp only [execOp, (E hu).1, (E hv).1, UP] at r1 ⊢
   simp only [r1, UO, UQ]
  ·cases hx
 case unOp op t x =>
  split at hx
  ·rename_i u hu
   refine pure1 hx fun z hz => ?_
   obtain ⟨r1, r2⟩ := Q4 (P := P) (ρ := ρ) (n := σ.next) w hz
   exact ⟨by simp only [execOp, (E hu).1, UP, r1, UO, UQ], r2⟩
  ·cases hx
 case convert src dst' x =>
  split at hx
  ·rename_i u _ hu
   cases hb : wE T σ src dst' u with
   | none => rw [hb] at hx; cases hx
   | some q =>
    obtain ⟨v, σ1⟩ := q
    rw [hb] at hx; cases hx
    obtain ⟨ρ', w', r1, r2, r3⟩ := Kj h hT hb
    refine eE (v := v) (ρ' := ρ') (w' := w') ?_ (K _ _ r2 r3)
    simp only [execOp, (E hu).1, UP, r1, UO, UQ]
  ·rename_i u _ _ hu
   refine pure1 hx fun z hz => ?_
   obtain ⟨r1, r2⟩ := Kk (P := P) h hT hz
   exact ⟨by simp only [execOp, (E hu).1, UP, r1, UO, UQ], r2⟩
  ·rename_i u _ _ hu
   refine pure1 hx fun z hz => ?_
   obtain ⟨r1, r2⟩ := NE (ρ := ρ) (n := σ.next) w hT hz
   exact ⟨by simp only [execOp, (E hu).1, UP, r1, UO, UQ], r2⟩
  ·cases hx
 case makeFunc fn fs cs =>
  cases fn with
  | func g =>
   simp only [] at hx
   split at hx
   ·rename_i us vs hu hv
    cases hx
    obtain ⟨e1, e2⟩ := sK hf hs hu
    obtain ⟨e3, e4⟩ := sK hf hs hv
    refine eE (v := .func g us vs) (ρ' := ρ) (w' := w) ?_ (K _ _ (bK.refl h) (by simp [sc, e2, e4]))
    have e5 : fs.map a.eval = (γL ρ us).toArray := by apply Array.ext'; rw [Array.toList_map, e1]
    have e6 : cs.map a.eval = (γL ρ vs).toArray := by apply Array.ext'; rw [Array.toList_map, e3]
    simp only [execOp, Instr.makeFunc, UP, UQ, UO, γ, e5, e6]
   ·cases hx
  | _ => cases hx
 case makeMap t rs =>
  cases rs <;> simp only [] at hx <;> cases hx
  refine eE (v := .map σ.next) (ρ' := upd ρ σ.next (Loc.mk3 (w.heap.size) (0) (0))) (w' := { w with heap := w.heap.push (.map #[] 0) }) ?_ (K _ _ ⟨?_, fun i hi => dR hi, by simp⟩ (by simp [sc]))
  ·simp only [execOp, Instr.makeMap, Option.map_none, UP, run_newObj, UQ, UO, γ, bu]
  ·exact h.push rfl (by simp [scB]) fun ρ' _ => ⟨#[], by simp, rfl⟩
 case fieldAddr s x f =>
  split at hx
  ·rename_i u hu
   refine pure1 hx fun z hz => ?_
   obtain ⟨r1, r2⟩ := Jn (ρ := ρ) w hT (E hu).2 hz
   exact ⟨by simp only [execOp, (E hu).1, UP, r1, UO, UQ], r2⟩
  ·cases hx
 case field s x f =>
  split at hx
  ·rename_i u hu
   refine pure1 hx fun z hz => ?_
   obtain ⟨r1, r2⟩ := NG (ρ := ρ) w hT (E hu).2 hz
   exact ⟨by simp only [execOp, (E hu).1, UP, r1, UO, UQ], r2⟩
  ·cases hx
 case indexAddr t x i =>
  split at hx
  ·rename_i u v hu hv
   refine pure1 hx fun z hz => ?_
   obtain ⟨r1, r2⟩ := Jo (ρ := ρ) w hT h (E hu).2 hz
   exact ⟨by simp only [execOp, (E hu).1, (E hv).1, UP, r1, UO, UQ], r2⟩
  ·cases hx
 case index t x i =>
  split at hx
  ·rename_i u v hu hv
   refine pure1 hx fun z hz => ?_
   obtain ⟨r1, r2⟩ := NH (ρ := ρ) w hT (E hu).2 hz
   exact ⟨by simp only [execOp, (E hu).1, (E hv).1, UP, r1, UO, UQ], r2⟩
  ·cases hx
 case lookup t x k ok =>
  split at hx
  ·rename_i u v hu hv
   refine pure1 hx fun z hz => ?_
   obtain ⟨r1, r2⟩ := MI h hT hz
   exact ⟨by simp only [execOp, (E hu).1, (E hv).1, UP, r1, UO, UQ], r2⟩
  ·cases hx
 case mapEntry t m k =>
  split at hx
  ·rename_i u v hu hv
   cases hp : wF T σ t u v with
   | none => rw [hp] at hx; cases hx
   | some q =>
    obtain ⟨z, σ1⟩ := q
    rw [hp] at hx; cases hx
    obtain ⟨w', r1, r2, r3, r4⟩ := Km h hT hp
    refine eE (v := z) (ρ' := ρ) (w' := w') ?_ (K _ _ ⟨r2, fun _ _ => rfl, by simp only [r3]; omega⟩ (by simp only [r3]; exact r4))
    simp only [execOp, (E hu).1, (E hv).1, UP, r1, UO, UQ]
  ·cases hx
 case entryStore t m n x =>
  split at hx
  ·rename_i u v z hu hv hz
   cases hp : rT σ u v z with
   | none => rw [hp] at hx; cases hx
   | some σ1 =>
    rw [hp] at hx; cases hx
    obtain ⟨w', r1, r2, r3⟩ := H7 (P := P) t h hp
    refine Fj (w' := w') ?_ (K ρ w' ⟨r2, fun _ _ => rfl, by omega⟩)
    simp only [execOp, (E hu).1, (E hv).1, (E hz).1, UP, r1, UO, UQ]
  ·cases hx
 case mapUpdate t m k x =>
  split at hx
  ·rename_i u v z hu hv hz
   cases hp : uy T σ t u v z with
   | none => rw [hp] at hx; cases hx
   | some σ1 =>
    rw [hp] at hx; cases hx
    obtain ⟨w', r1, r2, r3⟩ := MK h hT hp
    refine Fj (w' := w') ?_ (K ρ w' ⟨r2, fun _ _ => rfl, by omega⟩)
    simp only [execOp, (E hu).1, (E hv).1, (E hz).1, UP, r1, UO, UQ]
  ·cases hx
 case range t x =>
  split at hx
  ·rename_i u hu
   obtain ⟨q, hq, hq2⟩ := UN.1 hx
   obtain ⟨v, σ1⟩ := q
   cases hq2
   obtain ⟨w', ρ', r1, r2, r3⟩ := NR (P := P) h hT hq
   refine eE (v := v) (ρ' := ρ') (w' := w') ?_ (K _ _ r2 r3)
   simp only [execOp, (E hu).1, UP, r1, UO, UQ]
  ·cases hx
 case entry x =>
  split at hx
  ·rename_i u hu
   refine pure1 hx fun z hz => ?_
   obtain ⟨r1, r2⟩ := NS (P := P) h hz
   exact ⟨by simp only [execOp, (E hu).1, UP, r1, UO, UQ], r2⟩
  ·cases hx
 case next x b =>
  cases b with
  | true => cases hx
  | false =>
   simp only [] at hx
   split at hx
   ·rename_i u hu
    obtain ⟨q, hq, hq2⟩ := UN.1 hx
    obtain ⟨v, σ1⟩ := q
    cases hq2
    unfold Qv at hq
    split at hq
    ·rename_i i m since seen es clock hit
     rcases Ko (P := P) h hit type with ⟨q1, q2⟩ | ⟨e, q1, w', q2, q3, q4⟩
     ·rw [q1] at hq
      cases hq
      refine eE (v := .tup [.bool false]) (ρ' := ρ) (w' := w) ?_ (K ρ w (bK.refl h) (by simp [sc, scL]))
      simp only [execOp, (E hu).1, UP, q2, UO, UQ]
     ·split at hq
      ·rename_i hl; rw [hl] at q1; cases q1
      ·rename_i e' hl
       cases hq
       rw [hl] at q1
       obtain rfl : e = e' := by simpa using q1
       refine eE (v := .tup [.bool true, e.1, e.2.1]) (ρ' := ρ) (w' := w') ?_ (K ρ w' ⟨q3, fun _ _ => rfl, Nat.le_refl _⟩ q4)
       simp only [execOp, (E hu).1, UP, q2, UO, UQ]
      ·cases hq
    ·cases hq
   ·cases hx
 case slice t x l hi mx =>
  cases mx with
  | some _ => cases hx
  | none =>
   simp only [] at hx
   split at hx
   ·rename_i u lo hg hu hlo hhi
    obtain ⟨q, hq, hq2⟩ := UN.1 hx
    obtain ⟨v, σ1⟩ := q
    cases hq2
    obtain ⟨ρ', r1, r2, r3⟩ := NV (P := P) h hT (E hu).2 hq
    have ho : ∀ {y : Option Operand} {z : Option ab}, evO tm y = some z → y.map a.eval = z.map (γ ρ) := by
     intro y z hy
     cases y with
     | none => cases hy; rfl
     | some y =>
      obtain ⟨v, hv, rfl⟩ := UN.1 hy
      simp only [UT, (E hv).1]
    refine eE (v := v) (ρ' := ρ') (w' := w) ?_ (K _ _ r2 r3)
    simp only [execOp, (E hu).1, ho hlo, ho hhi, Option.map_none, UP, r1, UO, UQ]
   ·cases hx
 case extract x i =>
  split at hx
  ·rename_i vs hu
   refine pure1 hx fun z hz => ?_
   obtain ⟨e1, e2⟩ := E hu
   simp only [sc] at e2
   refine ⟨?_, (gA _ _).1 e2 z (List.mem_of_getElem? hz)⟩
   simp only [execOp, e1, γ, Instr.extract, List.getElem?_toArray, g9, hz, UT, UP, UQ, UO]
  ·cases hx
 case nilCheck x =>
  split at hx
  ·rename_i u hu
   refine pure1 hx fun z hz => ?_
   obtain ⟨e1, e2⟩ := E hu
   unfold Ix at hz
   split at hz
   ·rename_i hn
    cases hz
    refine ⟨?_, e2⟩
    simp only [execOp, e1]
    cases u <;> first | (cases hn; done) | rfl
   ·cases hz
  ·cases hx
 case makeInterface t x =>
  split at hx
  ·rename_i u hu
   refine pure1 hx fun z hz => ?_
   obtain ⟨e1, e2⟩ := E hu
   unfold Nw at hz
   split at hz
   ·cases hz
   ·rename_i i ht
    split at hz
    ·cases hz
    ·rename_i hn
     cases hz
     refine ⟨?_, by simpa only [sc] using e2⟩
     have hk := (hT t i ht).k
     simp only [execOp, e1, UP, γ]
     cases hi : i.k <;> rw [hi] at hk <;> simp only [KOk] at hk
     case iface => exact absurd (.inl hi) hn
     all_goals
      simp only [Instr.makeInterface, UP]
      first
       | (obtain ⟨_, _, _, hk⟩ := hk; simp only [run_underlying hk, UO, UQ]; done)
       | (obtain ⟨_, hk, _⟩ := hk; simp only [run_underlying hk, UO, UQ]; done)
       | (simp only [run_underlying hk, UO, UQ]; done)
  ·cases hx
 case typeAssert x xt t ok => split at hx <;> simp [LO] at hx
 case panic x =>
  split at hx
  ·rename_i t v hv
   cases hx
   obtain ⟨e1, e2⟩ := E hv
   have hK := K ρ w (bK.refl h) e2
   have hr : (execOp a.eval ⟨dst, .panic x, type, pos, after, guard⟩).run P w = .halt (.panic (γ ρ (.iface t v))) w := by
    simp only [execOp, e1, γ, Instr.panic]; rfl
   unfold Oper.wp
   rw [hr]
   exact hK
  ·cases hx
 case defer c =>
  obtain ⟨callee, args, argTypes⟩ := c
  cases callee with
  | invoke r m => simp only [] at hx; cases hx
  | builtin b => simp only [] at hx; cases hx
  | value f =>
   simp only [] at hx
   split at hx
   ·rename_i g fs cs vs hg hvs
    split at hx
    ·cases hx
    rename_i hgm
    cases hx
    obtain ⟨e1, e2⟩ := sK hf hs hvs
    have e3 : args.map a.eval = (γL ρ vs).toArray := by apply Array.ext'; rw [Array.toList_map, e1]
    obtain ⟨q1, q2⟩ := E hg
    simp only [sc, UD] at q2
    have hK := K ρ w (bK.refl h) q2.2 (jX.2 ⟨q2.1, e2⟩)
    have hr : (execOp a.eval ⟨dst, .defer ⟨.value f, args, argTypes⟩, type, pos, after, guard⟩).run P w = .ok (.defer (γD ρ ⟨g, cs, fs ++ vs⟩)) w := by
     have e4 : (γL ρ fs).toArray ++ (γL ρ vs).toArray = (γL ρ (fs ++ vs)).toArray := by
      apply Array.ext'; simp [cr]
     simp only [execOp, resolve, e3, q1, γ, Deferred.ofValue, UP, UQ, UO, γD, dOf, if_neg hgm, e4]
    unfold Oper.wp
    rw [hr]
    exact hK
   ·cases hx
 case call c =>
  obtain ⟨callee, args, argTypes⟩ := c
  cases callee with
  | invoke r m => simp only [] at hx; cases hx
  | builtin b =>
   simp only [] at hx
   split at hx
   ·rename_i vs hvs
    obtain ⟨e1, e2⟩ := sK hf hs hvs
    have e3 : args.map a.eval = (γL ρ vs).toArray := by apply Array.ext'; rw [Array.toList_map, e1]
    unfold iO at hx
    split at hx
    ·rename_i t ts x xs hts
     refine pure1 hx fun z hz => ?_
     obtain ⟨r1, r2⟩ := Ra h hT hz argTypes (γL ρ (x :: xs)).toArray (by rw [← UY, hts]; rfl) (by simp [γL]) type
     refine ⟨?_, r2⟩
     simp only [execOp, resolve, e3, UP, UQ, UO, invoke, builtin, r1]
    ·rename_i t u s x hts
     split at hx
     ·rename_i e _ _ _ _ _ hu
      cases hb : oS T σ t s x with
      | none => rw [hb] at hx; cases hx
      | some q =>
       obtain ⟨v, σ1⟩ := q
       rw [hb] at hx; cases hx
       simp only [scL, UD] at e2
       obtain ⟨ρ', w', r1, r2, r3⟩ := MG (P := P) h hT hu rfl e2.1 hb type
       refine eE (v := v) (ρ' := ρ') (w' := w') ?_ (K _ _ r2 r3)
       have e4 : argTypes = #[t, u] := by apply Array.ext'; rw [hts]
       simp only [execOp, resolve, e3, UP, UQ, UO, invoke, builtin, e4, γL]
       rw [r1]; rfl
     ·cases hx
    ·rename_i t ts x k hts
     cases hb : CQ T σ t x k with
     | none => rw [hb] at hx; cases hx
     | some σ1 =>
      rw [hb] at hx; cases hx
      obtain ⟨w', r1, r2, r3⟩ := MJ (P := P) h hT (ts := argTypes) (by rw [← UY, hts]; rfl) type hb
      refine eE (v := .tup []) (ρ' := ρ) (w' := w') ?_ (K _ _ ⟨r2, fun _ _ => rfl, by omega⟩ (by simp [sc, scL]))
      simp only [execOp, resolve, e3, UP, UQ, UO, invoke, builtin, γL]
      rw [r1]; rfl
    ·refine pure1 hx fun z hz => ?_
     unfold CR at hz
     split at hz
     ·rename_i x r
      simp only [scL, UD] at e2
      obtain ⟨r1, r2⟩ := Kn (P := P) (ρ := ρ) (w := w) true hz e2.1
      refine ⟨?_, r2⟩
      simp only [if_true] at r1
      simp only [execOp, resolve, e3, UP, UQ, UO, invoke, builtin, Builtin.max_, γL, r1]
     ·cases hz
    ·refine pure1 hx fun z hz => ?_
     unfold CR at hz
     split at hz
     ·rename_i x r
      simp only [scL, UD] at e2
      obtain ⟨r1, r2⟩ := Kn (P := P) (ρ := ρ) (w := w) false hz e2.1
      refine ⟨?_, r2⟩
      simp only [UF, if_false] at r1
      simp only [execOp, resolve, e3, UP, UQ, UO, invoke, builtin, Builtin.min_, γL, r1]
     ·cases hz
    ·cases hx
   ·cases hx
  | value f =>
   simp only [] at hx
   split at hx
   ·rename_i g vs hg hvs
    obtain ⟨e1, e2⟩ := sK hf hs hvs
    have e3 : args.map a.eval = (γL ρ vs).toArray := by apply Array.ext'; rw [Array.toList_map, e1]
    cases hd : nU f argTypes.toList with
    | true =>
     rw [hd] at hx
     obtain ⟨rfl, v, rfl, hy, hv0, hg0, hvs0⟩ := sJ hx
     unfold gk at hy
     split at hy
     ·rename_i g fs cs
      obtain ⟨q1, q2⟩ := E hg
      simp only [sc, UD] at hg0
      have hargs : scL 0 (fs ++ vs ++ cs) = true := jX.2 ⟨jX.2 ⟨hg0.1, hvs0⟩, hg0.2⟩
      have e4 : (γL ρ fs).toArray ++ (γL ρ vs).toArray ++ (γL ρ cs).toArray = (γL ρ (fs ++ vs ++ cs)).toArray := by
       apply Array.ext'; simp [cr]
      split at hy
      ·rename_i v1 σ1 hh
       cases hy
       rcases hH _ _ _ _ _ hh with ⟨hfn, hc⟩ | ⟨v', e5, e6, e7, e8⟩
       ·unfold Oper.wp
        rw [show (execOp a.eval ⟨dst, .call ⟨.value f, args, argTypes⟩, type, pos, after, guard⟩).run P w = .ok (.enter g (γL ρ (fs ++ vs ++ cs)).toArray) w by
         simp only [execOp, resolve, e3, q1, γ, Deferred.ofValue, UP, UQ, UO, invoke, e4, jq hfn]]
        refine ((hc.none hargs hv0 σ') w0 ρ w h (bY (Nat.zero_le _) _ hargs)).mono ?_
        rintro e w' ⟨ρ', rfl, hp, hv⟩
        exact K ρ' w' hp hv
       ·cases e5
        refine eE (v := v) (ρ' := ρ) (w' := w) ?_ (K _ _ (bK.refl h) (kA (Nat.zero_le _) v e7))
        simp only [execOp, resolve, e3, q1, γ, Deferred.ofValue, UP, UQ, UO, invoke, e4, e8 ρ w]
      ·cases hy
      ·cases hy
     ·cases hy
    | false =>
     rw [hd] at hx
     simp only [qj, cond_false] at hx
     unfold gk at hx
     split at hx
     ·rename_i g fs cs
      obtain ⟨q1, q2⟩ := E hg
      simp only [sc, UD] at q2
      have hargs : scL σ.next (fs ++ vs ++ cs) = true := jX.2 ⟨jX.2 ⟨q2.1, e2⟩, q2.2⟩
      have hrun : ∀ (hfn : no P g), (execOp a.eval ⟨dst, .call ⟨.value f, args, argTypes⟩, type, pos, after, guard⟩).run P w = .ok (.enter g (γL ρ (fs ++ vs ++ cs)).toArray) w := by
       intro hfn
       have e4 : (γL ρ fs).toArray ++ (γL ρ vs).toArray ++ (γL ρ cs).toArray = (γL ρ (fs ++ vs ++ cs)).toArray := by
        apply Array.ext'; simp [cr]
       simp only [execOp, resolve, e3, q1, γ, Deferred.ofValue, UP, UQ, UO, invoke, e4, jq hfn]
      split at hx
      ·rename_i v σ1 hh
       cases hx
       rcases hH _ _ _ _ _ hh with ⟨hfn, hc⟩ | ⟨v', e5, e6, e7, e8⟩
       ·unfold Oper.wp
        rw [hrun hfn]
        refine (hc w0 ρ w h hargs).mono ?_
        rintro e w' ⟨ρ', rfl, hp, hv⟩
        exact K ρ' w' hp hv
       ·cases e5
        subst e6
        refine eE (v := v) (ρ' := ρ) (w' := w) ?_ (K _ _ (bK.refl h) (kA (Nat.zero_le _) v e7))
        have e4 : (γL ρ fs).toArray ++ (γL ρ vs).toArray ++ (γL ρ cs).toArray = (γL ρ (fs ++ vs ++ cs)).toArray := by
         apply Array.ext'; simp [cr]
        simp only [execOp, resolve, e3, q1, γ, Deferred.ofValue, UP, UQ, UO, invoke, e4, e8 ρ w]
      ·rename_i v σ1 hh
       cases hx
       rcases hH _ _ _ _ _ hh with ⟨hfn, hc⟩ | ⟨v', e5, e6, e7, e8⟩
       ·unfold Oper.wp
        rw [hrun hfn]
        refine (hc w0 ρ w h hargs).mono ?_
        rintro e w' ⟨ρ', rfl, hp, hv⟩
        exact K ρ' w' hp hv
       ·cases e5
      ·cases hx
     ·cases hx
   ·cases hx
 all_goals cases hx
end
end Go.Ev
namespace Go.Ev
structure St where
 tm : LA_
 df : List oy
 mem : Mem
 deriving Inhabited
inductive an where
 | normal
 | exit (id : Nat)
 | goto (l : Nat)
 | ret
 | pan (v : ab)
 deriving Inhabited
def Cj (ρ : Nat → Loc) : an → Exit
 | .normal => .normal
 | .exit id => .exit id
 | .goto l => .goto l
 | .ret => .ret
 | .pan v => .panic [{ v := γ ρ v, recovered := false }]
structure bB (w0 : W0) (ρ : Nat → Loc) (s : St) (a : Act) (w : World) : Prop where
 rel : Rel w0 ρ s.mem w
 tm : a.tmps = (γL ρ s.tm).toArray
 sct : scL s.mem.next s.tm = true
 df : a.defers = s.df.map (γD ρ)
 scd : ∀ d ∈ s.df, scL s.mem.next d.cap = true ∧ scL s.mem.next d.args = true
structure cY (w0 : W0) (ρ : Nat → Loc) (n : Nat) (o : an) (s' : St) (e : Exit) (a' : Act) (w' : World) : Prop where
 out : ∃ ρ', e = Cj ρ' o ∧ bB w0 ρ' s' a' w' ∧ (∀ i, i < n → ρ' i = ρ i) ∧ n ≤ s'.mem.next ∧ (∀ v, o = .pan v → sc s'.mem.next v = true)
def AWP (P : Program) (c : Code) (s : St) (Φ : an → St → Prop) : Prop :=
 ∀ w0 ρ a w, bB w0 ρ s a w → c.wp P (fun e a' w' => ∃ o s', Φ o s' ∧ cY w0 ρ s.mem.next o s' e a' w') a w
def bG (tm : LA_) (d : Option Tmp) (v : ab) : LA_ :=
 match d with
 | some t => tm.set t v
 | none => tm
def bq (all : List Oper) (o : Oper) (tm : LA_) : Bool :=
 match o.guard with
 | none => true
 | some (j, want) => match (all[j]?).bind (·.dst) with
  | some d => match tm[d]? with
   | some (.bool b) => b == want
   | _ => false
  | none => false
def gj (all : List Oper) (o : Oper) (tm : LA_) : Bool :=
 match o.guard with
 | none => false
 | some (j, _) => match (all[j]?).bind (·.dst) with
  | some d => match tm[d]? with
   | some (.dk _) => true
   | _ => false
  | none => false
inductive Ab where
 | go (s : St)
 | pan (v : ab) (s : St)
 deriving Inhabited
def ej (T : au) (H : bM) (all : List Oper) (o : Oper) (s : St) : Option Ab :=
 if gj all o s.tm then none else if bq all o s.tm then
  match aM T H o.op s.tm s.mem with
  | some (.val v, σ) => some (.go ⟨bG s.tm o.dst v, s.df, σ⟩)
  | some (.skip, σ) => some (.go ⟨bG s.tm o.dst (.tup []), s.df, σ⟩)
  | some (.pan v, σ) => some (.pan v ⟨s.tm, s.df, σ⟩)
  | some (.dfr d, σ) => some (.go ⟨bG s.tm o.dst (.tup []), d :: s.df, σ⟩)
  | none => none
 else some (.go ⟨bG s.tm o.dst (.tup []), s.df, s.mem⟩)
def dU (T : au) (H : bM) (all : List Oper) : List Oper → St → Option Ab
 | [], s => some (.go s)
 | o :: r, s => match ej T H all o s with
  | some (.go s') => dU T H all r s'
  | x => x
section
variable {P : Program} {T : au} {H : bM} {ρ : Nat → Loc} {w0 : W0} {w : World} {s : St} {a : Act}
theorem bB.congr (h : bB w0 ρ s a w) {ρ' : Nat → Loc} {σ' : Mem} {w' : World} (hp : bK w0 ρ s.mem.next ρ' σ' w') : bB w0 ρ' ⟨s.tm, s.df, σ'⟩ a w' := by
 refine ⟨hp.rel, ?_, bY hp.le _ h.sct, ?_, fun d hd => ⟨bY hp.le _ (h.scd d hd).1, bY hp.le _ (h.scd d hd).2⟩⟩
 ·rw [h.tm, cB hp.ext _ h.sct]
 ·rw [h.df]
  apply List.map_congr_left
  intro d hd
  simp only [γD, cB hp.ext _ (h.scd d hd).1, cB hp.ext _ (h.scd d hd).2]
theorem bB.put (h : bB w0 ρ s a w) {v : ab} (hv : sc s.mem.next v = true) (d : Option Tmp) : bB w0 ρ ⟨bG s.tm d v, s.df, s.mem⟩ (a.put d (γ ρ v)) w := by
 cases d with
 | none => exact ⟨h.rel, h.tm, h.sct, h.df, h.scd⟩
 | some t =>
  refine ⟨h.rel, ?_, uz h.sct hv, h.df, h.scd⟩
  simp only [Act.put, h.tm, bG, yA, List.setIfInBounds_toArray]
theorem lR (ρ : Nat → Loc) : undef = γ ρ (.tup []) := by simp [γ, γL, undef]
theorem sM {ops : Array Oper} {o : Oper} {tm : LA_} (hg : gj ops.toList o tm = false) : Region.wanted o (yielded ops (γL ρ tm).toArray) = bq ops.toList o tm := by
 unfold Region.wanted bq
 unfold gj at hg
 cases hgu : o.guard with
 | none => rfl
 | some g =>
  obtain ⟨j, want⟩ := g
  rw [hgu] at hg
  simp only [yielded, UY]
  simp only [UY] at hg
  cases hd : (ops[j]?).bind (·.dst) with
  | none => simp
  | some d =>
   rw [hd] at hg
   simp only at hg
   simp only [Uz, List.getElem?_toArray, g9]
   cases htd : tm[d]? with
   | none => simp
   | some v =>
    rw [htd] at hg
    cases v <;> simp [γ]
    simp at hg
theorem jx (hT : aX P T) (hH : jp P H) (h : bB w0 ρ s a w) {ops : Array Oper} {i : Nat} {o : Oper} (hi : ops[i]? = some o) {r : Ab}
  (hx : ej T H ops.toList o s = some r) {Q : Exit → Act → World → Prop} {K : Act → World → Prop}
  (hK : match r with
   | .go s' => ∀ ρ' a' w', bB w0 ρ' s' a' w' → (∀ i, i < s.mem.next → ρ' i = ρ i) → s.mem.next ≤ s'.mem.next → K a' w'
   | .pan v s' => ∀ ρ' a' w', bB w0 ρ' s' a' w' → (∀ i, i < s.mem.next → ρ' i = ρ i) → s.mem.next ≤ s'.mem.next → sc s'.mem.next v = true →
     Q (.panic [{ v := γ ρ' v, recovered := false }]) a' w') : wpOp P ops Q i K a w := by
 unfold wpOp
 simp only [hi]
 unfold ej at hx
 cases hg : gj ops.toList o s.tm with
 | true => rw [hg] at hx; cases hx
 | false =>
 rw [hg] at hx
 simp only [UF, if_false] at hx
 have hw : Region.wanted o (yielded ops a.tmps) = bq ops.toList o s.tm := by rw [h.tm]; exact sM hg
 rw [hw]
 split at hx
 ·rename_i hwa
  simp only [hwa, if_true]
  refine .inl ?_
  split at hx
  ·rename_i v σ' hx'
   cases hx
   refine Aa hT hH h.rel h.tm h.sct hx' fun ρ' w' hp => ?_
   intro hv
   exact hK ρ' _ w' ((h.congr hp).put hv o.dst) hp.ext hp.le
  ·rename_i σ' hx'
   cases hx
   refine Aa hT hH h.rel h.tm h.sct hx' fun ρ' w' hp => ?_
   show K (a.put o.dst undef) w'
   rw [lR ρ']
   exact hK ρ' _ w' ((h.congr hp).put (by simp [sc, scL]) o.dst) hp.ext hp.le
  ·rename_i v σ' hx'
   cases hx
   refine Aa hT hH h.rel h.tm h.sct hx' fun ρ' w' hp => ?_
   intro hv
   exact hK ρ' a w' (h.congr hp) hp.ext hp.le hv
  ·rename_i d σ' hx'
   cases hx
   refine Aa hT hH h.rel h.tm h.sct hx' fun ρ' w' hp => ?_
   intro hc1 hc2
   have h1 := h.congr hp
   have h2 : bB w0 ρ' ⟨s.tm, d :: s.df, σ'⟩ { a with defers := γD ρ' d :: a.defers } w' :=
    ⟨h1.rel, h1.tm, h1.sct, by rw [List.map_cons, ← h1.df], fun d' hd' => by
     rcases List.mem_cons.1 hd' with rfl | hd'
     ·exact ⟨hc1, hc2⟩
     ·exact h1.scd d' hd'⟩
   show K ({ a with defers := γD ρ' d :: a.defers }.put o.dst undef) w'
   rw [lR ρ']
   exact hK ρ' _ w' (h2.put (by simp [sc, scL]) o.dst) hp.ext hp.le
  ·cases hx
 ·rename_i hwa
  cases hx
  have hwa' : bq ops.toList o s.tm = false := by simpa using hwa
  simp only [hwa', UF, if_false]
  rw [lR ρ]
  exact hK ρ _ w (h.put (by simp [sc, scL]) o.dst) (fun _ _ => rfl) (Nat.le_refl _)
theorem wL (hT : aX P T) (hH : jp P H) {ops : Array Oper} {Q : Exit → Act → World → Prop} : ∀ (l pre : List Oper) (ρ : Nat → Loc) (s : St) (a : Act) (w : World) (r : Ab),
  ops.toList = pre ++ l → bB w0 ρ s a w → dU T H ops.toList l s = some r →
  (match r with
   | .go s' => ∀ ρ' a' w', bB w0 ρ' s' a' w' → (∀ i, i < s.mem.next → ρ' i = ρ i) → s.mem.next ≤ s'.mem.next → Q .normal a' w'
   | .pan v s' => ∀ ρ' a' w', bB w0 ρ' s' a' w' → (∀ i, i < s.mem.next → ρ' i = ρ i) → s.mem.next ≤ s'.mem.next → sc s'.mem.next v = true →
     Q (.panic [{ v := γ ρ' v, recovered := false }]) a' w') → wpOps P ops Q (List.range' pre.length l.length) a w
 | [], pre, ρ, s, a, w, r, _, h, hx, hK => by
  simp only [dU, UC] at hx
  subst hx
  exact hK ρ a w h (fun _ _ => rfl) (Nat.le_refl _)
 | o :: l, pre, ρ, s, a, w, r, he, h, hx, hK => by
  rw [UX, List.range'_succ, wpOps_cons]
  have hi : ops[pre.length]? = some o := by
   rw [← UY, he, List.getElem?_append_right (Nat.le_refl _)]; simp
  simp only [dU] at hx
  cases hs : ej T H ops.toList o s with
  | none => rw [hs] at hx; cases hx
  | some q =>
   rw [hs] at hx
   refine jx hT hH h hi hs ?_
   cases q with
   | go s1 =>
    intro ρ1 a1 w1 h1 e1 l1
    have := wL hT hH l (pre ++ [o]) ρ1 s1 a1 w1 r (by simp [he]) h1 hx (by
     cases r with
     | go s' => exact fun ρ' a' w' h' e' l' => hK ρ' a' w' h' (fun i hi => (e' i (by omega)).trans (e1 i hi)) (by omega)
     | pan v s' => exact fun ρ' a' w' h' e' l' => hK ρ' a' w' h' (fun i hi => (e' i (by omega)).trans (e1 i hi)) (by omega))
    simpa using this
   | pan v s1 =>
    simp only [UC] at hx
    subst hx
    exact hK
theorem uq (hT : aX P T) (hH : jp P H) {id : Nat} {ops : Array Oper} {Φ : an → St → Prop} {r : Ab} (hx : dU T H ops.toList ops.toList s = some r)
  (hΦ : match r with | .go s' => Φ .normal s' | .pan v s' => Φ (.pan v) s') : AWP P (.region id ops false) s Φ := by
 intro w0 ρ a w h
 refine wp_region ?_
 have := wL (w0 := w0) hT hH (ops := ops) (Q := fun e a' w' => ∃ o s', Φ o s' ∧ cY w0 ρ s.mem.next o s' e a' w') ops.toList [] ρ s a w r (by simp) h hx (by
  cases r with
  | go s' => exact fun ρ' a' w' h' e' l' => ⟨.normal, s', hΦ, ⟨ρ', rfl, h', e', l', by simp⟩⟩
  | pan v s' => exact fun ρ' a' w' h' e' l' hv => ⟨.pan v, s', hΦ, ⟨ρ', rfl, h', e', l', by simpa using hv⟩⟩)
 rw [List.range_eq_range']
 simpa using this
theorem AWP.mono {c : Code} {Φ Ψ : an → St → Prop} (h : AWP P c s Φ) (hm : ∀ o s', Φ o s' → Ψ o s') : AWP P c s Ψ :=
 fun w0 ρ a w hr => wp_mono (h w0 ρ a w hr) fun _ _ _ ⟨o, s', h1, h2⟩ => ⟨o, s', hm o s' h1, h2⟩
theorem cY.trans {n : Nat} {o : an} {s1 s2 : St} {ρ1 : Nat → Loc} {e : Exit} {a' : Act} {w' : World} (hle : n ≤ s1.mem.next) (he : ∀ i, i < n → ρ1 i = ρ i)
  (h : cY w0 ρ1 s1.mem.next o s2 e a' w') : cY w0 ρ n o s2 e a' w' := by
 obtain ⟨ρ2, h1, h2, h3, h4, h5⟩ := h.out
 exact ⟨ρ2, h1, h2, fun i hi => (h3 i (by omega)).trans (he i hi), by omega, h5⟩
theorem Pg {Φ : an → St → Prop} (h : Φ .normal s) : AWP P .skip s Φ := fun _ ρ _ _ hr => wp_skip ⟨.normal, s, h, ⟨ρ, rfl, hr, fun _ _ => rfl, Nat.le_refl _, by simp⟩⟩
theorem NW {l : Nat} {Φ : an → St → Prop} (h : Φ .normal s) : AWP P (.label l) s Φ := fun _ ρ _ _ hr => wp_label ⟨.normal, s, h, ⟨ρ, rfl, hr, fun _ _ => rfl, Nat.le_refl _, by simp⟩⟩
theorem Ph {id : Nat} {Φ : an → St → Prop} (h : Φ (.exit id) s) : AWP P (.exit id) s Φ := fun _ ρ _ _ hr => wp_exit ⟨.exit id, s, h, ⟨ρ, rfl, hr, fun _ _ => rfl, Nat.le_refl _, by simp⟩⟩
theorem Pi {id : Nat} {Φ : an → St → Prop} (h : Φ (.goto id) s) : AWP P (.goto id) s Φ := fun _ ρ _ _ hr => wp_goto ⟨.goto id, s, h, ⟨ρ, rfl, hr, fun _ _ => rfl, Nat.le_refl _, by simp⟩⟩
theorem Rc {Φ : an → St → Prop} (h : Φ .ret s) : AWP P .ret s Φ := fun _ ρ _ _ hr => wp_ret ⟨.ret, s, h, ⟨ρ, rfl, hr, fun _ _ => rfl, Nat.le_refl _, by simp⟩⟩
def an.andThen (Ψ : St → Prop) (Φ : an → St → Prop) : an → St → Prop
 | .normal, s => Ψ s
 | o, s => Φ o s
def an.inBlock (id : Nat) (Φ : an → St → Prop) : an → St → Prop
 | .exit id', s => if id' = id then Φ .normal s else Φ (.exit id') s
 | o, s => Φ o s
end
end Go.Ev
namespace Go.Ev
def CX : Nat → Nat
 | 0 => 0
 | 1 => 1
 | _ => 2
theorem Re {n : Nat} (h : CX n = 0) : n = 0 := by match n, h with | 0, _ => rfl | 1, h => cases h | n + 2, h => cases h
theorem Rf {n : Nat} (h : CX n ≠ 2) : n = 0 ∨ n = 1 := by match n, h with | 0, _ => exact .inl rfl | 1, _ => exact .inr rfl | n + 2, h => exact absurd rfl h
theorem Lt (n : Nat) : CX n = 0 ∨ CX n = 1 ∨ CX n = 2 := by match n with | 0 => exact .inl rfl | 1 => exact .inr (.inl rfl) | n + 2 => exact .inr (.inr rfl)
def bW (pf : FuncId → Nat) : Op → Nat
 | .call { callee := .value (.func g), .. } => CX (pf g)
 | .call { callee := .value (.tmp f), args := _, argTypes := ts } => cond (nU (.tmp f) ts.toList) 0 2
 | .move _ | .assign _ | .pick .. | .build .. | .unOp .. | .makeFunc .. | .fieldAddr .. | .field .. | .index .. | .extract .. | .nilCheck _ | .makeInterface .. => 0
 | .binOp _ _ x y _ => cond (nE x || nE y) 1 0
 | .convert src dst _ => cond (Nat.beq dst oR) 2 (cond (Nat.beq src oR) 1 0)
 | .load .. | .lookup .. | .indexAddr .. => 1
 | .call { callee := .builtin .len, .. } | .call { callee := .builtin .max, .. } | .call { callee := .builtin .min, .. } => 1
 | _ => 2
theorem MO (pf : FuncId → Nat) (op : Op) : bW pf op = 0 ∨ bW pf op = 1 ∨ bW pf op = 2 := by
 have h2 : ∀ b : Bool, cond b 1 0 = 0 ∨ cond b 1 0 = 1 ∨ cond b 1 0 = 2 := by
  intro b
  cases b
  ·exact .inl rfl
  ·exact .inr (.inl rfl)
 have h3 : ∀ b c : Bool, cond b 2 (cond c 1 0) = 0 ∨ cond b 2 (cond c 1 0) = 1 ∨ cond b 2 (cond c 1 0) = 2 := by
  intro b c
  cases b
  ·exact h2 c
  ·exact .inr (.inr rfl)
 have h4 : ∀ b : Bool, cond b 0 2 = 0 ∨ cond b 0 2 = 1 ∨ cond b 0 2 = 2 := by
  intro b
  cases b
  ·exact .inr (.inr rfl)
  ·exact .inl rfl
 unfold bW
 split
 all_goals first
  | exact Lt _
  | exact h4 _
  | exact h2 _
  | exact h3 _ _
  | exact .inl rfl
  | exact .inr (.inl rfl)
  | exact .inr (.inr rfl)
def ca (pf : FuncId → Nat) (o : Oper) : Bool := bW pf o.op == 2
def Gx (acc : List Nat) (o : Oper) : Nat :=
 o.after.toList.foldl (fun s e => if Region.binds .any e then s ||| (1 <<< e.on) ||| acc.getD e.on 0 else s) 0
def aY : List Oper → List Nat → List Nat
 | [], acc => acc
 | o :: r, acc => aY r (acc ++ [Gx acc o])
def tmpsOf (xs : List Operand) : List Tmp := xs.filterMap fun
 | .tmp t => some t
 | _ => none
def kD (all : List Oper) (o : Oper) : List Tmp :=
 tmpsOf o.op.operands.toList ++ (match o.guard with
  | some (j, _) => ((all[j]?).bind (·.dst)).toList
  | none => [])
def anc (ms : List Nat) (j i : Nat) : Bool := (ms.getD i 0).testBit j
def rD (all : List Oper) (ms : List Nat) : Bool :=
 all.zipIdx.all fun (oi, i) => all.zipIdx.all fun (oj, j) =>
  (i == j || (match oi.dst, oj.dst with | some d, some e => d != e | _, _ => true)) &&
  (i == j || (match oj.dst with | some d => !(kD all oi).contains d || (decide (j < i) && anc ms j i) || (decide (i < j) && anc ms i j) | none => true))
def kC (all : List Oper) : Bool := all.zipIdx.all fun (o, i) => o.after.toList.all fun e => !Region.binds .any e || decide (e.on < i)
def cM (T : au) (H : bM) (all : List Oper) (o : Oper) (s : St) : Option (ab × Mem) :=
 if gj all o s.tm then none else if bq all o s.tm then
  match aM T H o.op s.tm s.mem with
  | some (.val v, σ) => some (v, σ)
  | some (.skip, σ) => some (.tup [], σ)
  | _ => none
 else some (.tup [], s.mem)
def trace (T : au) (H : bM) (all : List Oper) : List Oper → St → Option (List (St × ab) × St)
 | [], s => some ([], s)
 | o :: r, s => match cM T H all o s with
  | some (v, σ) => match trace T H all r ⟨bG s.tm o.dst v, s.df, σ⟩ with
   | some (l, e) => some ((s, v) :: l, e)
   | none => none
  | none => none
def vH (pf : FuncId → Nat) (all : List Oper) : List Nat := 0 :: (all.zipIdx.filter fun x => ca pf x.1).map fun x => x.2 + 1
def oC (pf : FuncId → Nat) (all : List Oper) (ms : List Nat) (i c : Nat) : Bool :=
 all.zipIdx.any fun (o, q) => ca pf o && ((decide (c ≤ q) && anc ms q i) || (decide (q < c) && anc ms i q))
def Gy (pf : FuncId → Nat) (T : au) (H : bM) (all : List Oper) (ms : List Nat) (mems : List Mem) (i : Nat) (o : Oper) (s : St) (v : ab) : Bool :=
  !(bW pf o.op == 1) || !(bq all o s.tm) || (vH pf all).all fun c => oC pf all ms i c ||
    (match mems[c]? with
     | some σ => match aM T H o.op s.tm σ with
       | some (.val u, _) => aeq u v
       | _ => false
     | none => false)
def rE (pf : FuncId → Nat) (T : au) (H : bM) (all : List Oper) (ms : List Nat) (mems : List Mem) : List Oper → Nat → List (St × ab) → Bool
 | o :: r, i, (s, v) :: tr => Gy pf T H all ms mems i o s v && rE pf T H all ms mems r (i + 1) tr
 | _, _, _ => true
def eU (pf : FuncId → Nat) (H : bM) : Prop := (∀ g args σ r σ', pf g = 0 → H g args σ = some (r, σ') → σ' = σ ∧ (∃ v, r = .ret v) ∧ ∀ σ2, H g args σ2 = some (r, σ2)) ∧
 ∀ g args σ r σ', pf g = 1 → H g args σ = some (r, σ') → σ' = σ ∧ ∃ v, r = .ret v
theorem eU.still {pf : FuncId → Nat} {H : bM} (h : eU pf H) {g : FuncId} {args : LA_} {σ σ' : Mem} {r : fG} (hk : pf g = 0 ∨ pf g = 1) (hh : H g args σ = some (r, σ')) : σ' = σ ∧ ∃ v, r = .ret v := by
 rcases hk with hk | hk
 ·obtain ⟨h1, h2, _⟩ := h.1 g args σ r σ' hk hh
  exact ⟨h1, h2⟩
 ·exact h.2 g args σ r σ' hk hh
section
variable {P : Program} {T : au} {H : bM} {pf : FuncId → Nat}
theorem kE (hP : eU pf H) {op : Op} {tm : LA_} {σ σ' : Mem} {r : cI} (hk : bW pf op ≠ 2) (h : aM T H op tm σ = some (r, σ')) : σ' = σ ∧ ∃ v, r = .val v := by
 have p1 : ∀ {r1 : Option ab}, (r1.map fun v => ((cI.val v, σ) : cI × Mem)) = some (r, σ') → σ' = σ ∧ ∃ v, r = .val v := by
  intro r1 h1
  cases r1 with
  | none => cases h1
  | some v => cases h1; exact ⟨rfl, v, rfl⟩
 cases op <;> simp only [aM] at h <;> first
  | exact p1 h
  | (split at h <;> first | exact p1 h | cases h)
  | skip
 case makeFunc fn fs cs =>
  cases fn <;> simp only [] at h <;> first
   | (split at h <;> first | (cases h; exact ⟨rfl, _, rfl⟩) | cases h)
   | cases h
 case call c =>
  obtain ⟨callee, args, argTypes⟩ := c
  cases callee with
  | invoke r m => cases h
  | value f =>
   cases f <;> first
    | exact absurd rfl hk
    | skip
   ·rename_i t
    simp only [bW] at hk
    simp only [] at h
    split at h
    ·cases hd : nU (.tmp t) argTypes.toList with
     | false => rw [hd] at hk; exact absurd rfl hk
     | true => rw [hd] at h; obtain ⟨h1, v, h2, _⟩ := sJ h; exact ⟨h1, v, h2⟩
    ·cases h
   rename_i g
   simp only [bW] at hk
   have hg := Rf hk
   simp only [ev] at h
   split at h
   ·rename_i g' fs cs vs h1 _
    cases h1
    simp only [qj, nU, cond_false, gk] at h
    split at h
    ·rename_i v σ1 hh
     cases h
     exact ⟨(hP.still hg hh).1, v, rfl⟩
    ·rename_i v σ1 hh
     obtain ⟨_, ⟨u, hu⟩⟩ := hP.still hg hh
     cases hu
    ·cases h
   ·cases h
  | builtin b =>
   simp only [] at h
   split at h
   ·unfold iO at h
    split at h
    ·exact p1 h
    ·exact absurd rfl hk
    ·exact absurd rfl hk
    ·exact p1 h
    ·exact p1 h
    ·cases h
   ·cases h
 all_goals exact absurd rfl hk
theorem MP (hP : eU pf H) {op : Op} {tm : LA_} {σ σ' : Mem} {r : cI} (hk : bW pf op = 0) (h : aM T H op tm σ = some (r, σ')) (σ2 : Mem) : aM T H op tm σ2 = some (r, σ2) := by
 have p1 : ∀ {r1 : Option ab}, (r1.map fun v => ((cI.val v, σ) : cI × Mem)) = some (r, σ') → (r1.map fun v => ((cI.val v, σ2) : cI × Mem)) = some (r, σ2) := by
  intro r1 h1
  cases r1 with
  | none => cases h1
  | some v => cases h1; rfl
 cases op <;> simp only [aM] at h ⊢ <;> first
  | exact p1 h
  | (split at h <;> first | exact p1 h | cases h)
  | skip
 case binOp op t x y u =>
  have hn : (nE x || nE y) = false := by
   simp only [bW] at hk
   cases hb : nE x || nE y with
   | true => rw [hb] at hk; cases hk
   | false => rfl
  rw [hn] at h ⊢
  simp only [Cb, cond_false] at h ⊢
  split at h
  ·exact p1 h
  ·cases h
 case makeFunc fn fs cs =>
  cases fn <;> simp only [] at h ⊢ <;> first
   | (split at h <;> first | (cases h; rfl) | cases h)
   | cases h
 case call c =>
  obtain ⟨callee, args, argTypes⟩ := c
  cases callee with
  | invoke r m => cases h
  | value f =>
   cases f <;> first
    | (simp [bW] at hk; done)
    | skip
   ·rename_i t
    simp only [bW] at hk
    simp only [] at h ⊢
    split at h
    ·rename_i g vs h1 h2
     cases hd : nU (.tmp t) argTypes.toList with
     | false => rw [hd] at hk; cases hk
     | true =>
      rw [hd] at h
      obtain ⟨_, v, rfl, k1, k2, k3, k4⟩ := sJ h
      exact H5 k1 k2 k3 k4
    ·cases h
   rename_i g
   simp only [bW] at hk
   have hg := Re hk
   simp only [ev] at h ⊢
   split at h
   ·rename_i g' fs cs vs h1 hvs
    cases h1
    simp only [qj, nU, cond_false, gk] at h ⊢
    split at h
    ·rename_i v σ1 hh
     cases h
     rw [(hP.1 _ _ _ _ _ hg hh).2.2 σ2]
    ·rename_i v σ1 hh
     obtain ⟨_, ⟨u, hu⟩, _⟩ := hP.1 _ _ _ _ _ hg hh
     cases hu
    ·cases h
   ·cases h
  | builtin b => cases b <;> simp [bW] at hk
 all_goals simp [bW] at hk
theorem Fl {tm tm' : LA_} {x : Operand} (h : ∀ t ∈ tmpsOf [x], tm[t]? = tm'[t]?) : ev tm x = ev tm' x := by
 cases x with
 | tmp t => simp only [ev, UL, h t (by simp [tmpsOf])]
 | _ => rfl
theorem rX {x : Operand} {xs : List Operand} {t : Tmp} : t ∈ tmpsOf (x :: xs) ↔ t ∈ tmpsOf [x] ∨ t ∈ tmpsOf xs := by
 cases x <;> simp [tmpsOf]
theorem oV {tm tm' : LA_} : ∀ {xs : List Operand}, (∀ t ∈ tmpsOf xs, tm[t]? = tm'[t]?) → evL tm xs = evL tm' xs
 | [], _ => rfl
 | x :: xs, h => by
  simp only [evL, Fl fun t ht => h t (rX.2 (.inl ht)), oV fun t ht => h t (rX.2 (.inr ht))]
theorem Cl {tm tm' : LA_} : ∀ {xs : List (Nat × Operand)}, (∀ t ∈ tmpsOf (xs.map (·.2)), tm[t]? = tm'[t]?) → evP tm xs = evP tm' xs
 | [], _ => rfl
 | (i, x) :: xs, h => by
  simp only [evP]
  rw [Fl fun t ht => h t (rX.2 (.inl ht)), Cl fun t ht => h t (rX.2 (.inr ht))]
theorem Gz {xs : List Operand} {t : Tmp} (h : .tmp t ∈ xs) : t ∈ tmpsOf xs := List.mem_filterMap.2 ⟨_, h, rfl⟩
theorem Lu {op : Op} {tm tm' : LA_} {σ : Mem} (h : ∀ t ∈ tmpsOf op.operands.toList, tm[t]? = tm'[t]?) : aM T H op tm σ = aM T H op tm' σ := by
 have one : ∀ {x : Operand}, x ∈ op.operands.toList → ev tm x = ev tm' x := by
  intro x hx
  refine Fl fun t ht => h t ?_
  cases x <;> simp [tmpsOf] at ht
  subst ht
  exact Gz hx
 cases op <;> simp only [Op.operands] at h one <;> simp only [aM]
 case move x => rw [one (x := x) (by simp)]
 case assign x => rw [one (x := x) (by simp)]
 case pick c x y => rw [one (x := c) (by simp), one (x := x) (by simp), one (x := y) (by simp)]
 case box t x => rw [one (x := x) (by simp)]
 case build t ps => rw [Cl (tm' := tm') fun t ht => h t (by simpa using ht)]
 case buildSlice t n ps => rw [Cl (tm' := tm') fun t ht => h t (by simpa using ht)]
 case makeSlice t l c => rw [one (x := l) (by simp)]
 case load t x => rw [one (x := x) (by simp)]
 case store t x y => rw [one (x := x) (by simp), one (x := y) (by simp)]
 case binOp op t x y u => rw [one (x := x) (by simp), one (x := y) (by simp)]
 case unOp op t x => rw [one (x := x) (by simp)]
 case convert t u x => rw [one (x := x) (by simp)]
 case makeFunc fn fs cs =>
  have e1 := oV (tm := tm) (tm' := tm') (xs := fs.toList) fun t ht => h t (by rw [Array.toList_append]; simp only [tmpsOf, List.filterMap_append, U2]; exact .inl ht)
  have e2 := oV (tm := tm) (tm' := tm') (xs := cs.toList) fun t ht => h t (by rw [Array.toList_append]; simp only [tmpsOf, List.filterMap_append, U2]; exact .inr ht)
  cases fn <;> simp only [e1, e2]
 case makeMap t rs => cases rs <;> rfl
 case fieldAddr t x f => rw [one (x := x) (by simp)]
 case field t x f => rw [one (x := x) (by simp)]
 case indexAddr t x y => rw [one (x := x) (by simp), one (x := y) (by simp)]
 case index t x y => rw [one (x := x) (by simp), one (x := y) (by simp)]
 case lookup t x y ok => rw [one (x := x) (by simp), one (x := y) (by simp)]
 case mapUpdate t x y z => rw [one (x := x) (by simp), one (x := y) (by simp), one (x := z) (by simp)]
 case mapEntry t x y => rw [one (x := x) (by simp), one (x := y) (by simp)]
 case entryStore t x y z => rw [one (x := x) (by simp), one (x := y) (by simp), one (x := z) (by simp)]
 case extract x i => rw [one (x := x) (by simp)]
 case slice t x l hi m =>
  have e1 := one (x := x) (by simp)
  have e2 : ∀ {y : Option Operand}, (∀ z, y = some z → ev tm z = ev tm' z) → evO tm y = evO tm' y := by
   intro y hy
   cases y with
   | none => rfl
   | some z => simp only [evO, hy z rfl]
  cases m with
  | some m => rfl
  | none => simp only [e1, e2 (y := l) (fun z hz => one (by simp [hz])), e2 (y := hi) (fun z hz => one (by simp [hz]))]
 case range t x => rw [one (x := x) (by simp)]
 case entry x => rw [one (x := x) (by simp)]
 case next x b =>
  cases b <;> first
   | rfl
   | (simp only []; rw [one (x := x) (by simp)])
 case nilCheck x => rw [one (x := x) (by simp)]
 case makeInterface t x => rw [one (x := x) (by simp)]
 case typeAssert x t u ok => rw [one (x := x) (by simp)]
 case panic x => rw [one (x := x) (by simp)]
 case defer c =>
  obtain ⟨callee, args, argTypes⟩ := c
  cases callee with
  | invoke r m => rfl
  | builtin b => rfl
  | value f =>
   have e1 := oV (tm := tm) (tm' := tm') (xs := args.toList) fun t ht => h t (by simp only [Call.operands, Array.toList_append, tmpsOf, List.filterMap_append, U2]; exact .inr ht)
   have e2 := one (x := f) (by simp [Call.operands])
   simp only [e1, e2]
 case call c =>
  obtain ⟨callee, args, argTypes⟩ := c
  cases callee with
  | invoke r m => rfl
  | builtin b =>
   simp only [Call.operands, Array.empty_append] at h
   simp only [oV h]
  | value f =>
   have e1 := oV (tm := tm) (tm' := tm') (xs := args.toList) fun t ht => h t (by simp only [Call.operands, Array.toList_append, tmpsOf, List.filterMap_append, U2]; exact .inr ht)
   have e2 := one (x := f) (by simp [Call.operands])
   simp only [e1, e2]
theorem Jr {all : List Oper} {o : Oper} {tm tm' : LA_} (h : ∀ t ∈ kD all o, tm[t]? = tm'[t]?) : bq all o tm = bq all o tm' := by
 unfold bq
 unfold kD at h
 cases hg : o.guard with
 | none => rfl
 | some g =>
  obtain ⟨j, want⟩ := g
  rw [hg] at h
  simp only [] at h ⊢
  cases hd : (all[j]?).bind (·.dst) with
  | none => rfl
  | some d =>
   simp only []
   rw [h d (by simp [hd])]
theorem Pn {all : List Oper} {o : Oper} {tm tm' : LA_} (h : ∀ t ∈ kD all o, tm[t]? = tm'[t]?) : gj all o tm = gj all o tm' := by
 unfold gj
 unfold kD at h
 cases hg : o.guard with
 | none => rfl
 | some g =>
  obtain ⟨j, want⟩ := g
  rw [hg] at h
  simp only [] at h ⊢
  cases hd : (all[j]?).bind (·.dst) with
  | none => rfl
  | some d =>
   simp only []
   rw [h d (by simp [hd])]
theorem xE {all : List Oper} {o : Oper} {tm tm' : LA_} {df df' : List oy} {σ : Mem} (h : ∀ t ∈ kD all o, tm[t]? = tm'[t]?) :
  cM T H all o ⟨tm, df, σ⟩ = cM T H all o ⟨tm', df', σ⟩ := by
 unfold cM
 simp only [Pn h, Jr h, Lu (T := T) (H := H) (σ := σ) fun t ht => h t (by unfold kD; exact U2.2 (.inl ht))]
theorem Ag : ∀ (l : List Oper) (acc : List Nat), (aY l acc).length = acc.length + l.length ∧ (∀ i, i < acc.length → (aY l acc)[i]? = acc[i]?) ∧
  ∀ i o, l[i]? = some o → (aY l acc)[acc.length + i]? = some (Gx ((aY l acc).take (acc.length + i)) o)
 | [], acc => by simp [aY]
 | o :: r, acc => by
  obtain ⟨h1, h2, h3⟩ := Ag r (acc ++ [Gx acc o])
  simp only [aY]
  simp only [UR, List.length_singleton] at h1 h2 h3
  refine ⟨by simp [h1]; omega, fun i hi => ?_, fun i o' hi => ?_⟩
  ·rw [h2 i (by omega), List.getElem?_append_left hi]
  ·cases i with
   | zero =>
    simp only [List.getElem?_cons_zero, UC] at hi
    subst hi
    have e : (aY r (acc ++ [Gx acc o])).take acc.length = acc := by
     apply List.ext_getElem?
     intro k
     rw [List.getElem?_take]
     split
     ·rename_i hk; rw [h2 k (by omega), List.getElem?_append_left hk]
     ·rename_i hk; rw [List.getElem?_eq_none (by omega)]
    rw [Nat.add_zero, e, h2 acc.length (by omega), List.getElem?_append_right (Nat.le_refl _)]
    simp
   | succ i =>
    have := h3 i o' (by simpa using hi)
    rwa [show acc.length + 1 + i = acc.length + (i + 1) by omega] at this
theorem Ah (acc : List Nat) (j : Nat) : ∀ (es : List Edge) (s : Nat), (es.foldl (fun s e => if Region.binds .any e then s ||| (1 <<< e.on) ||| acc.getD e.on 0 else s) s).testBit j = true →
  s.testBit j = true ∨ ∃ e ∈ es, Region.binds .any e = true ∧ (e.on = j ∨ (acc.getD e.on 0).testBit j = true)
 | [], s, h => .inl h
 | e :: es, s, h => by
  simp only [List.foldl_cons] at h
  rcases Ah acc j es _ h with h | ⟨e', h1, h2, h3⟩
  ·split at h
   ·rename_i hb
    simp only [Nat.testBit_or, Bool.or_eq_true] at h
    rcases h with (h | h) | h
    ·exact .inl h
    ·refine .inr ⟨e, by simp, hb, .inl ?_⟩
     rw [Nat.one_shiftLeft, Nat.testBit_two_pow] at h
     simpa using h
    ·exact .inr ⟨e, by simp, hb, .inr h⟩
   ·exact .inl h
  ·exact .inr ⟨e', by simp [h1], h2, h3⟩
def lN (all : List Oper) (L : Nat → Bool) : Prop := ∀ i o, all[i]? = some o → L i = true → ∀ e ∈ o.after, Region.binds .any e = true → L e.on = true
theorem jZ {all : List Oper} (he : kC all = true) {L : Nat → Bool} (hc : lN all L) : ∀ (n i : Nat) (o : Oper), i ≤ n → all[i]? = some o →
  (∀ e ∈ o.after, Region.binds .any e = true → L e.on = true) → ∀ j, anc (aY all []) j i = true → L j = true := by
 intro n
 induction n with
 | zero =>
  intro i o hi ho hr j hj
  obtain rfl : i = 0 := by omega
  obtain ⟨_, _, h3⟩ := Ag all []
  have hm := h3 0 o ho
  simp only [List.length_nil, Nat.zero_add, List.take_zero] at hm
  simp only [anc, UL, hm, Option.getD_some] at hj
  rcases Ah _ j _ _ hj with h | ⟨e, h1, h2, h4⟩
  ·simp at h
  ·have := GB he ho h1 h2
   omega
 | succ n ih =>
  intro i o hi ho hr j hj
  obtain ⟨_, _, h3⟩ := Ag all []
  have hm := h3 i o ho
  simp only [List.length_nil, Nat.zero_add] at hm
  simp only [anc, UL, hm, Option.getD_some] at hj
  rcases Ah _ j _ _ hj with h | ⟨e, h1, h2, h4⟩
  ·simp at h
  ·have hlt := GB he ho h1 h2
   have hl := hr e (Array.mem_def.2 h1) h2
   rcases h4 with h4 | h4
   ·exact h4 ▸ hl
   ·have hil : i < all.length := (UM.1 ho).1
    have hoe : all[e.on]? = some all[e.on] := UK (by omega)
    refine ih e.on all[e.on] (by omega) hoe (hc e.on _ hoe hl) j ?_
    simp only [anc, UL]
    rw [UL, List.getElem?_take, if_pos hlt] at h4
    exact h4
where
 GB {all : List Oper} (he : kC all = true) {i : Nat} {o : Oper} (ho : all[i]? = some o) {e : Edge} (h1 : e ∈ o.after.toList) (h2 : Region.binds .any e = true) : e.on < i := by
  unfold kC at he
  rw [List.all_eq_true] at he
  have := he (o, i) (U1.2 ho)
  simp only [List.all_eq_true] at this
  have := this e h1
  simpa [h2] using this
theorem vI {all : List Oper} (he : kC all = true) {i : Nat} {o : Oper} (ho : all[i]? = some o) {e : Edge} (h1 : e ∈ o.after) (h2 : Region.binds .any e = true) : e.on < i := by
 unfold kC at he
 rw [List.all_eq_true] at he
 have := he (o, i) (U1.2 ho)
 simp only [List.all_eq_true] at this
 have := this e (Array.mem_def.1 h1)
 simpa [h2] using this
theorem rF {all : List Oper} {ms : List Nat} (h : rD all ms = true) {i j : Nat} {oi oj : Oper} (hi : all[i]? = some oi) (hj : all[j]? = some oj) :
  (i ≠ j → ∀ d e, oi.dst = some d → oj.dst = some e → d ≠ e) ∧
  (i ≠ j → ∀ d, oj.dst = some d → d ∈ kD all oi → (j < i ∧ anc ms j i = true) ∨ (i < j ∧ anc ms i j = true)) := by
 unfold rD at h
 rw [List.all_eq_true] at h
 have h := h (oi, i) (U1.2 hi)
 rw [List.all_eq_true] at h
 have h := h (oj, j) (U1.2 hj)
 simp only [UD, Bool.or_eq_true, beq_iff_eq] at h
 obtain ⟨h1, h2⟩ := h
 refine ⟨fun hne d e hd he => ?_, fun hne d hd hm => ?_⟩
 ·rcases h1 with h1 | h1
  ·exact absurd h1 hne
  ·rw [hd, he] at h1; simpa using h1
 ·rcases h2 with h2 | h2
  ·exact absurd h2 hne
  ·rw [hd] at h2
   simp only [Bool.or_eq_true, UD, UJ, Bool.not_eq_true', List.contains_eq_mem] at h2
   rcases h2 with (h2 | h2) | h2
   ·simp [hm] at h2
   ·exact .inl h2
   ·exact .inr h2
end
end Go.Ev
namespace Go.Ev
def Ext (σ σ' : Mem) : Prop := σ.next ≤ σ'.next ∧ ∀ i, i < σ.next → σ'.get i = σ.get i
theorem Ext.refl (σ : Mem) : Ext σ σ := ⟨Nat.le_refl _, fun _ _ => rfl⟩
theorem Ext.trans {a b c : Mem} (h : Ext a b) (k : Ext b c) : Ext a c := ⟨Nat.le_trans h.1 k.1, fun i hi => (k.2 i (Nat.lt_of_lt_of_le hi h.1)).trans (h.2 i hi)⟩
theorem Ext.push (σ : Mem) (b : am) : Ext σ (σ.push b) := ⟨by simp, fun i hi => by rw [bN, if_neg (by omega)]⟩
def Ak : Option (cI × Mem) → Option ab
 | some (.val v, _) => some v
 | some (.skip, _) => some (.tup [])
 | _ => none
def QB : Op → Bool
 | .call { callee := .value _, .. } => true
 | _ => false
section
variable {T : au}
def wP (p : Nat → Bool) : ab → Bool
 | .ptr i _ | .slice i _ _ _ _ | .vec i | .map i | .emp i => p i
 | _ => true
def Fq (op : Op) (tm : LA_) (p : Nat → Bool) : Bool := !QB op && (tmpsOf op.operands.toList).all fun t => wP p (tm.getD t (.tup []))
theorem Lx {p : Nat → Bool} {c : Value} {v : ab} (h : ofV c = some v) : wP p v = true := by
 unfold ofV at h
 split at h <;> first
  | (cases h; rfl)
  | cases h
theorem uB {op : Op} {tm : LA_} {p : Nat → Bool} (h : Fq op tm p = true) {x : Operand} (hx : x ∈ op.operands.toList) {v : ab} (hv : ev tm x = some v) : wP p v = true := by
 cases x with
 | tmp t =>
  simp only [ev, UC] at hv
  subst hv
  exact (List.all_eq_true.1 (Bool.and_eq_true_iff.1 h).2) t (Gz hx)
 | const c => exact Lx hv
 | func f => simp only [ev, UC] at hv; subst hv; rfl
 | global g => simp [ev] at hv
theorem KH {σ σ' : Mem} {b o n : Nat} (h : σ'.get b = σ.get b) : cS σ' b o n = cS σ b o n := by simp only [cS, h]
theorem MS {σ σ' : Mem} {t : TypeId} {x : ab} {p : Nat → Bool} (hs : wP p x = true) (hg : ∀ i, p i = true → σ'.get i = σ.get i) : qd T σ' t x = qd T σ t x := by
 unfold qd
 split
 ·rename_i i b o ht
  rw [KH (hg b hs)]
 ·rfl
theorem GH {σ σ' : Mem} {x : ab} {p : Nat → Bool} (hs : wP p x = true) (hg : ∀ i, p i = true → σ'.get i = σ.get i) : iY σ' x = iY σ x := by
 unfold iY
 split
 ·rename_i i
  rw [hg i hs]
 ·rfl
theorem KI {σ σ' : Mem} {t : TypeId} {x k : ab} {ok : Bool} {p : Nat → Bool} (hs : wP p x = true) (hg : ∀ i, p i = true → σ'.get i = σ.get i) : ux T σ' t x k ok = ux T σ t x k ok := rfl
theorem GI {σ σ' : Mem} {t : TypeId} {x k : ab} {p : Nat → Bool} (hs : wP p x = true) (hg : ∀ i, p i = true → σ'.get i = σ.get i) : fk T σ' t x k = fk T σ t x k := by
 unfold fk
 split
 ·rw [hg _ hs]
 all_goals rfl
theorem Oi {σ σ' : Mem} {t : TypeId} {x : ab} {p : Nat → Bool} (hs : wP p x = true) (hg : ∀ i, p i = true → σ'.get i = σ.get i) : H1 T σ' t x = H1 T σ t x := by
 unfold H1
 split
 ·rfl
 ·split <;> first
   | rfl
   | rw [hg _ hs]
theorem iF {σ : Mem} {r : Option ab} : Ak (r.map fun v => ((cI.val v, σ) : cI × Mem)) = r := by cases r <;> rfl
theorem LX {pf : FuncId → Nat} {H : bM} {op : Op} {tm : LA_} {σ σ' : Mem} {p : Nat → Bool} (hk : bW pf op = 1) (hg : ∀ i, p i = true → σ'.get i = σ.get i) (hs : Fq op tm p = true) : Ak (aM T H op tm σ') = Ak (aM T H op tm σ) := by
 cases op <;> simp only [bW] at hk <;> first | (cases hk; done) | skip
 case binOp o t x y u =>
  simp only [aM]
  cases hx : ev tm x with
  | none => rfl
  | some a =>
   cases hy : ev tm y with
   | none => rfl
   | some b =>
    simp only [iF, Cb, Ca, GH (uB hs (by simp [Op.operands]) hx) hg, GH (uB hs (by simp [Op.operands]) hy) hg]
 case convert src dst x =>
  have hd : Nat.beq dst oR = false := by
   cases hb : Nat.beq dst oR with
   | true => rw [hb] at hk; cases hk
   | false => rfl
  have hsr : Nat.beq src oR = true := by
   rw [hd] at hk
   cases hb : Nat.beq src oR with
   | true => rfl
   | false => rw [hb] at hk; cases hk
  simp only [aM, hd, hsr]
  cases hx : ev tm x with
  | none => rfl
  | some a => simp only [iF, wG]
 case load t x =>
  simp only [aM]
  cases hx : ev tm x with
  | none => rfl
  | some a => simp only [iF]; exact MS (uB hs (by simp [Op.operands]) hx) hg
 case indexAddr t x i =>
  simp only [aM]
  cases hx : ev tm x with
  | none => rfl
  | some a =>
   cases hi : ev tm i with
   | none => rfl
   | some b => simp only [iF]; exact GI (uB hs (by simp [Op.operands]) hx) hg
 case lookup t x i ok =>
  simp only [aM]
  cases hx : ev tm x with
  | none => rfl
  | some a =>
   cases hi : ev tm i with
   | none => rfl
   | some b => simp only [iF]; exact KI (uB hs (by simp [Op.operands]) hx) hg
 case call c =>
  obtain ⟨callee, args, argTypes⟩ := c
  cases callee with
  | invoke r m => simp [bW] at hk
  | value f => simp [Fq, QB] at hs
  | builtin b =>
   simp only [aM]
   cases hv : evL tm args.toList with
   | none => rfl
   | some vs =>
    have hk' : b = .len ∨ b = .max ∨ b = .min := by cases b <;> simp_all [bW]
    simp only [iO]
    split
    ·rename_i t ts x xs hts
     simp only [iF]
     have hx : ∃ o ∈ args.toList, ev tm o = some x := by
      cases ha : args.toList with
      | nil => rw [ha] at hv; simp [evL] at hv
      | cons o l =>
       rw [ha] at hv
       simp only [evL] at hv
       split at hv
       ·rename_i v us h1 h2
        simp only [UC, List.cons.injEq] at hv
        exact ⟨o, List.mem_cons_self .., by rw [h1, hv.1]⟩
       ·cases hv
     obtain ⟨o, ho, hox⟩ := hx
     refine Oi (uB hs ?_ hox) hg
     simp only [Op.operands, Call.operands, Array.toList_append, U2]
     exact .inr ho
    ·rcases hk' with h | h | h <;> cases h
    ·rcases hk' with h | h | h <;> cases h
    ·simp only [iF]
    ·simp only [iF]
    ·rfl
end
def nX (pf : FuncId → Nat) (all : List Oper) (ms : List Nat) : List Nat :=
 (List.range all.length).filter fun i => match all[i]? with
  | some oi => ca pf oi && all.zipIdx.any fun (oj, j) => ca pf oj && (i != j && !(anc ms (min i j) (max i j)))
  | none => false
def Pw (o : Oper) : Bool := (match o.op with
 | .alloc _ => true
 | _ => false) && o.guard.isNone && o.dst.isSome
def Po (all : List Oper) (g : List Nat) : Bool := g.all fun i => match all[i]? with
 | some o => Pw o
 | none => false
def SD (σ : Mem) (b : Nat) : Option Nat := match σ.get b with
 | some (.vec _ l _ _) => some l
 | _ => none
mutual
def rn (f : Nat → Nat) : ab → ab
 | .bool b => .bool b
 | .int k n => .int k n
 | .str s => .str s
 | .ptr i o => .ptr (f i) o
 | .dO => .dO
 | .slice i o l e c => .slice (f i) o l e c
 | .aK => .aK
 | .emp i => .emp (f i)
 | .map i => .map (f i)
 | .eO => .eO
 | .func g fs cs => .func g (rnL f fs) (rnL f cs)
 | .cH => .cH
 | .iface t v => .iface t (rn f v)
 | .dm => .dm
 | .agg cs => .agg (rnL f cs)
 | .tup vs => .tup (rnL f vs)
 | .dk i => .dk (f i)
 | .vec i => .vec (f i)
def rnL (f : Nat → Nat) : LA_ → LA_
 | [] => []
 | v :: vs => rn f v :: rnL f vs
end
mutual
theorem JB (ρ : Nat → Loc) (f : Nat → Nat) : ∀ v, γ ρ (rn f v) = γ (fun i => ρ (f i)) v
 | .bool _ | .int _ _ | .str _ | .ptr _ _ | .dO | .slice _ _ _ _ _ | .aK | .emp _ | .map _ | .eO | .cH | .dm | .dk _ | .vec _ => by simp [rn, γ]
 | .func g x y => by simp only [rn, γ, sR ρ f x, sR ρ f y]
 | .iface t v => by simp only [rn, γ, JB ρ f v]
 | .agg x => by simp only [rn, γ, sR ρ f x]
 | .tup x => by simp only [rn, γ, sR ρ f x]
theorem sR (ρ : Nat → Loc) (f : Nat → Nat) : ∀ l, γL ρ (rnL f l) = γL (fun i => ρ (f i)) l
 | [] => by simp [rnL, γL]
 | v :: vs => by simp only [rnL, γL, JB ρ f v, sR ρ f vs]
end
theorem Ao (f : Nat → Nat) : ∀ l, (rnL f l).length = l.length
 | [] => rfl
 | v :: vs => by simp [rnL, Ao f vs]
def rnB (f : Nat → Nat) : am → am
 | .cells cs own gr => .cells (rnL f cs) own gr
 | .iter m a b c => .iter (f m) a b c
 | b => b
mutual
theorem Gq {f : Nat → Nat} {n : Nat} (hf : ∀ i, i < n → f i = i) : ∀ v, sc n v = true → rn f v = v
 | .bool _, _ | .int _ _, _ | .str _, _ | .dO, _ | .aK, _ | .eO, _ | .cH, _ | .dm, _ => rfl
 | .ptr i o, h | .slice i o l e c, h | .map i, h | .emp i, h | .dk i, h | .vec i, h => by
  simp only [sc, UJ] at h
  simp only [rn, hf i h]
 | .func g x y, h => by simp only [sc, UD] at h; simp only [rn, CZ hf x h.1, CZ hf y h.2]
 | .iface t v, h => by simp only [sc] at h; simp only [rn, Gq hf v h]
 | .agg x, h => by simp only [sc] at h; simp only [rn, LY hf x h]
 | .tup x, h => by simp only [sc] at h; simp only [rn, CZ hf x h]
theorem CZ {f : Nat → Nat} {n : Nat} (hf : ∀ i, i < n → f i = i) : ∀ l, scL n l = true → rnL f l = l
 | [], _ => rfl
 | v :: vs, h => by simp only [scL, UD] at h; simp only [rnL, Gq hf v h.1, CZ hf vs h.2]
theorem LY {f : Nat → Nat} {n : Nat} (hf : ∀ i, i < n → f i = i) : ∀ l, scC n l = true → rnL f l = l
 | [], _ => rfl
 | v :: vs, h => by simp only [scC, UD] at h; simp only [rnL, Gq hf v h.1.2, LY hf vs h.2]
end
theorem sP (f : Nat → Nat) (b : am) : (rnB f b).alive = b.alive := by cases b <;> rfl
theorem sQ (f : Nat → Nat) (b : am) : (rnB f b).owned = b.owned := by cases b <;> rfl
theorem Oc {ρ : Nat → Loc} {f : Nat → Nat} {n : Nat} {L : Loc} {w : World} : ∀ {b : am}, scB n (rnB f b) = true → BOk ρ L w (rnB f b) → BOk (fun i => ρ (f i)) L w b
 | .cells cs own gr, _, h => by
  obtain ⟨c, e, fz, h1, ⟨pre, post, h2, h3⟩, h4, h5⟩ := h
  rw [sR] at h2
  rw [Ao] at h5
  exact ⟨c, e, fz, h1, ⟨pre, post, h2, h3⟩, h4, h5⟩
 | .vec cs n sz own, hs, h => ck (n := 0) (fun i hi => by omega) rfl (.vec cs n sz own) hs h
 | .map es clock, hs, h => ck (n := 0) (fun i hi => by omega) rfl (.map es clock) hs h
 | .iter m since seen last, _, h => ⟨h.1, h.2⟩
 | .jn, _, h => h
 | .cd _ _, _, h => h
 | .dead, _, _ => trivial
theorem bB.ren {w0 : W0} {ρ : Nat → Loc} {s s' : St} {a : Act} {w : World} (hr : bB w0 ρ s a w) {f : Nat → Nat} {n : Nat}
  (htm : s.tm = rnL f s'.tm) (hsc : scL s'.mem.next s'.tm = true) (hdf : s'.df = s.df) (hdsc : ∀ d ∈ s.df, scL n d.cap = true ∧ scL n d.args = true) (hn : n ≤ s'.mem.next)
  (hfix : ∀ i, i < n → f i = i) (hinj : ∀ i j, i < s'.mem.next → j < s'.mem.next → f i = f j → i = j)
  (hb : ∀ i b, s'.mem.get i = some b → i < s'.mem.next ∧ s.mem.get (f i) = some (rnB f b) ∧ scB s'.mem.next b = true) : bB w0 (fun i => ρ (f i)) s' a w := by
 have R := hr.rel
 refine ⟨⟨fun i b hi => (hb i b hi).1, fun i b hi => (hb i b hi).2.2, ?_, ?_, ?_, ?_, R.os, R.tape, R.output, R.size, R.old⟩, ?_, hsc, ?_, ?_⟩
 ·intro i b hi
  obtain ⟨_, q2, _⟩ := hb i b hi
  exact Oc (R.sco _ _ q2) (R.ok _ _ q2)
 ·intro i b hi ha
  obtain ⟨_, q2, _⟩ := hb i b hi
  exact R.inb _ _ q2 (by rw [sP]; exact ha)
 ·intro i j bi bj hi hj hij hoi haj
  obtain ⟨q1, q2, _⟩ := hb i bi hi
  obtain ⟨p1, p2, _⟩ := hb j bj hj
  exact R.ap _ _ _ _ q2 p2 (fun e => hij (hinj i j q1 p1 e)) (by rw [sQ]; exact hoi) (by rw [sP]; exact haj)
 ·intro i b hi ho
  obtain ⟨_, q2, _⟩ := hb i b hi
  exact R.own _ _ q2 (by rw [sQ]; exact ho)
 ·rw [hr.tm, htm, sR]
 ·rw [hr.df, hdf]
  apply List.map_congr_left
  intro d hd
  have h2 := hdsc d hd
  simp only [γD, cB (ρ := ρ) (ρ' := fun i => ρ (f i)) (n := n) (fun i hi => by rw [hfix i hi]) _ h2.1, cB (ρ := ρ) (ρ' := fun i => ρ (f i)) (n := n) (fun i hi => by rw [hfix i hi]) _ h2.2]
 ·intro d hd
  rw [hdf] at hd
  exact ⟨bY hn _ (hdsc d hd).1, bY hn _ (hdsc d hd).2⟩
end Go.Ev
