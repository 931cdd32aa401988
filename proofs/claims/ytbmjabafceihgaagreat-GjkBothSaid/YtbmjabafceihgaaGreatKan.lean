import Derived.Test.YtbmjabafceihgaaGreatKam
set_option linter.unusedVariables false
set_option linter.unusedSimpArgs false
set_option maxRecDepth 100000
noncomputable section
namespace Go.Ev
open Go.Proofs
abbrev BG := (I8 (I8 (I8 (I8 (Int × LA_ × Nat)))))
abbrev wH := Int × Int × Int × Int × Int × LA_ × Nat
def KK : CH := (CH.add 12 wI (CH.add 6 BH CH.none))
theorem GE : aB YI KK := (CH.aj Dg (CH.aj Mo CH.ay))
def pr (cs0 : LA_) (n1 : Nat) (cs2 : LA_) (n3 : Nat) : Option (BG) :=
 (Option.bind (rq cs0 n1 cs2 n3) fun r1 => (cond (r1.1 != 0) (some (0, 0, 0, 0, 0, 0, 0, 0, 0, 0, 0, 0, 0, 0, 0, 0, 0, 0, 0, 0, 0, 0, 0, 0, 0, 0, 0, 0, 0, 0, 0, 0, r1.1, ([] : LA_), 0)) (Option.bind (dI r1.2.1 r1.2.2) fun r2 => (some (be r2.1 (be r2.2.1 (be r2.2.2.1 (be r2.2.2.2.1 (r2.2.2.2.2.1, r2.2.2.2.2.2.1, r2.2.2.2.2.2.2)))))))))
def fH : FD where
 X := BG
 k := 2
 pre := [(33000004, 1)]
 F := fun s => [0, 1, ak s 0 [.c 0, .c 32]]
 M := .tup [.agg (rl (.int .u64) 32 [.vec 2]), .int .i64]
 B := [.vec 1 true]
 toL := fun x => [.I x.1, .I x.2.1, .I x.2.2.1, .I x.2.2.2.1, .I x.s4.1, .I x.s4.2.1, .I x.s4.2.2.1, .I x.s4.2.2.2.1, .I x.s8.1, .I x.s8.2.1, .I x.s8.2.2.1, .I x.s8.2.2.2.1, .I x.s8.s4.1, .I x.s8.s4.2.1, .I x.s8.s4.2.2.1, .I x.s8.s4.2.2.2.1, .I x.s16.1, .I x.s16.2.1, .I x.s16.2.2.1, .I x.s16.2.2.2.1, .I x.s16.s4.1, .I x.s16.s4.2.1, .I x.s16.s4.2.2.1, .I x.s16.s4.2.2.2.1, .I x.s16.s8.1, .I x.s16.s8.2.1, .I x.s16.s8.2.2.1, .I x.s16.s8.2.2.2.1, .I x.s16.s8.s4.1, .I x.s16.s8.s4.2.1, .I x.s16.s8.s4.2.2.1, .I x.s16.s8.s4.2.2.2.1, .I x.s16.s16.1, .C x.s16.s16.2.1, .N x.s16.s16.2.2]
 ofL := fun ls => match ls with
  | (.I x0 :: .I x1 :: .I x2 :: .I x3 :: .I x4 :: .I x5 :: .I x6 :: .I x7 :: .I x8 :: .I x9 :: .I x10 :: .I x11 :: .I x12 :: .I x13 :: .I x14 :: .I x15 :: .I x16 :: .I x17 :: .I x18 :: .I x19 :: .I x20 :: .I x21 :: .I x22 :: .I x23 :: .I x24 :: .I x25 :: .I x26 :: .I x27 :: .I x28 :: .I x29 :: .I x30 :: .I x31 :: .I x32 :: .C x33 :: .N x34 :: []) => some (x0, x1, x2, x3, x4, x5, x6, x7, x8, x9, x10, x11, x12, x13, x14, x15, x16, x17, x18, x19, x20, x21, x22, x23, x24, x25, x26, x27, x28, x29, x30, x31, x32, x33, x34)
  | _ => none
 ar := fun ls x h => by
  split at h
  ·cases h; rfl
  ·cases h
theorem Jr (cs0 : LA_) (n1 : Nat) (cs2 : LA_) (n3 : Nat) (x : BG) (h : pr cs0 n1 cs2 n3 = some x) : aP YI 9 2 [.vec 0, .vec 1] [.vec cs0 n1 3 false, .vec cs2 n3 3 false] fH x :=
 FD.semA fH GE Tryz.func9 (fuel := 60) (by kernel_rfl) (by kernel_rfl)
  (by kernel_rfl) (Eq.trans (by kernel_rfl) h)
def dQ (cs0 : LA_) (n1 : Nat) (cs2 : LA_) (n3 : Nat) : Option (wH) := Option.bind (pr cs0 n1 cs2 n3) fun (x0, x1, x2, x3, x4, x5, x6, x7, x8, x9, x10, x11, x12, x13, x14, x15, x16, x17, x18, x19, x20, x21, x22, x23, x24, x25, x26, x27, x28, x29, x30, x31, x32, x33, x34) => ah (ok8 x0 x1 x2 x3 x4 x5 x6 x7 && ok8 x8 x9 x10 x11 x12 x13 x14 x15 && ok8 x16 x17 x18 x19 x20 x21 x22 x23 && ok8 x24 x25 x26 x27 x28 x29 x30 x31) (some ((num x0 x1 x2 x3 x4 x5 x6 x7), (num x8 x9 x10 x11 x12 x13 x14 x15), (num x16 x17 x18 x19 x20 x21 x22 x23), (num x24 x25 x26 x27 x28 x29 x30 x31), x32, x33, x34))
def vp : FD := ⟨wH, fH.k, fH.pre, fH.F, fH.M, fH.B, fun y => fH.toL (be y.1 (be y.2.1 (be y.2.2.1 (be y.2.2.2.1 (y.s4.1, y.s4.2.1, y.s4.2.2))))), fun _ => none, fun _ _ h => by cases h⟩
theorem KL (cs0 : LA_) (n1 : Nat) (cs2 : LA_) (n3 : Nat) {y : wH} (h : dQ cs0 n1 cs2 n3 = some y) : pr cs0 n1 cs2 n3 = some (be y.1 (be y.2.1 (be y.2.2.1 (be y.2.2.2.1 (y.s4.1, y.s4.2.1, y.s4.2.2))))) := by
 unfold dQ at h
 obtain ⟨⟨x0, x1, x2, x3, x4, x5, x6, x7, x8, x9, x10, x11, x12, x13, x14, x15, x16, x17, x18, x19, x20, x21, x22, x23, x24, x25, x26, x27, x28, x29, x30, x31, x32, x33, x34⟩, h1, h2⟩ := bE_ h
 obtain ⟨h3, h4⟩ := aL h2
 simp only [Yi, and_assoc] at h3
 simp only [Yh] at h4
 subst h4
 obtain ⟨o0, o1, o2, o3⟩ := h3
 have q0 := aR o0
 have q1 := aR o1
 have q2 := aR o2
 have q3 := aR o3
 rw [h1]
 simp only [be, q0, q1, q2, q3]
theorem Js (cs0 : LA_) (n1 : Nat) (cs2 : LA_) (n3 : Nat) (y : wH) (h : dQ cs0 n1 cs2 n3 = some y) : aP YI 9 2 [.vec 0, .vec 1] [.vec cs0 n1 3 false, .vec cs2 n3 3 false] vp y := Jr cs0 n1 cs2 n3 _ (KL cs0 n1 cs2 n3 h)
def uj : HK where
 call := fun args σ k => match args with
  | [x0, x1] => cO σ 3 x0 fun cs0 n1 => cO σ 3 x1 fun cs2 n3 => Option.bind (dQ cs0 n1 cs2 n3) fun y => au σ 2 (vp.val y) (vp.aI y) k
  | _ => none
 nat := fun args σ k => by
  repeat' split
  all_goals simp only [ao, ai, Yg, Yf, au, Ye]
 pure := false
 pok := fun h => by cases h
theorem AH : aN YI 9 uj := by
 intro args σ r σ' h
 simp only [uj] at h
 split at h
 ·rename_i x0 x1
  obtain ⟨cs0, n1, he0, hf0, h⟩ := bv h
  obtain ⟨cs2, n3, he1, hf1, h⟩ := bv h
  obtain ⟨y, hy, h⟩ := bE_ h
  exact aG (xs := [x0, x1]) (ls := [.vec cs0 n1 3 false, .vec cs2 n3 3 false]) (cargs := [.vec 0, .vec 1]) (bg.of ⟨⟨rfl, he0, hf0, by decide⟩, ⟨rfl, he1, hf1, by decide⟩, trivial⟩) rfl (Js cs0 n1 cs2 n3 y hy) rfl rfl rfl rfl h
 ·cases h
def bY (a b : List Pt) : List Pt := a.flatMap fun p => b.map fun q => ax p q
theorem qY (a b : List Pt) : (bY a b).length = a.length * b.length := by
 unfold bY
 induction a with
 | nil => simp
 | cons p a ih => simp only [List.flatMap_cons, Yw, List.length_map, ih, YC]; rw [Nat.add_one_mul]; omega
theorem TH {p q : Pt} (hp : bP p = true) (hq : bP q = true) : IntKind.wrap .i64 (p.1 - q.1) = (ax p q).1 ∧ IntKind.wrap .i64 (p.2.1 - q.2.1) = (ax p q).2.1 ∧ IntKind.wrap .i64 (p.2.2 - q.2.2) = (ax p q).2.2 := by
 obtain ⟨p1, p2, p3⟩ := gE.1 hp
 obtain ⟨q1, q2, q3⟩ := gE.1 hq
 have := ep.1 p1
 have := ep.1 p2
 have := ep.1 p3
 have := ep.1 q1
 have := ep.1 q2
 have := ep.1 q3
 exact ⟨bM (by omega), bM (by omega), bM (by omega)⟩
theorem map_take {b : List Pt} {i : Nat} {f : Pt → Pt} (h : i < b.length) : (b.take (i + 1)).map f = (b.take i).map f ++ [f (pat b i)] := by
 have : b.take (i + 1) = b.take i ++ [pat b i] := by
  rw [List.take_add_one, Yp h]; simp [pat, Yq, Yp h]
 rw [this, List.map_append]; rfl
theorem Ml {a b : List Pt} {i : Nat} (h : i < a.length) : bY (a.take (i + 1)) b = bY (a.take i) b ++ b.map fun q => ax (pat a i) q := by
 have : a.take (i + 1) = a.take i ++ [pat a i] := by
  rw [List.take_add_one, Yp h]; simp [pat, Yq, Yp h]
 unfold bY
 rw [this, List.flatMap_append]
 simp
theorem VD {b : List Pt} {p : Pt} (hp : bP p = true) (hb : aQ b = true) (hl : b.length ≤ 256) (O : List Pt) (hO : O.length ≤ 1000000) (A : LA_) (n : Nat) (m i : Int) :
  AL (pcs b, b.length, p.1, p.2.1, p.2.2, A, n, m, i, ((b.length : Nat) : Int)) (pcs O, O.length, 0) = some (pcs (O ++ b.map fun q => ax p q), O.length + b.length) := by
 have key : ∀ (k j : Nat), b.length - j = k → j ≤ b.length → iter (mE (pcs b, b.length, p.1, p.2.1, p.2.2, A, n, m, i, ((b.length : Nat) : Int))) (k + 1) (pcs (O ++ (b.take j).map fun q => ax p q), O.length + j, (j : Int)) = some (pcs (O ++ b.map fun q => ax p q), O.length + b.length) := by
  intro k
  induction k with
  | zero =>
   intro j hn hj
   have he : j = b.length := by omega
   subst he
   refine cw 0 ?_
   simp only [mE, fe, Ym (show ¬ ((b.length : Int) < ((b.length : Nat) : Int)) by omega), cond_false, List.take_length]
  | succ k ih =>
   intro j hn hj
   have h : j < b.length := by omega
   have wr : IntKind.wrap .i64 ((j : Int) + 1) = ((j + 1 : Nat) : Int) := by rw [bM (by omega)]; omega
   obtain ⟨s1, s2, s3⟩ := TH hp (dO hb h)
   have d2 : decide (2 * (O.length + j + 1) * 24 ≤ 2 ^ 48) = true := Yn (by omega)
   refine bG ?_ (ih (j + 1) (by omega) (by omega))
   simp only [mE, fe, decLt h, eQ, cond_true, Yl, az, fB, pro h, pg0 h, pg1 h, pg2 h, s1, s2, s3, d2, wr, map_take h, ← YB, Bv]
   rfl
 have := key b.length 0 (by omega) (by omega)
 simp only [List.take_zero, List.map_nil, List.append_nil, Nat.add_zero] at this
 exact dt (by unfold kM; omega) this
theorem TI {a b : List Pt} (ha : aQ a = true) (hb : aQ b = true) (hla : a.length ≤ 256) (hlb : b.length ≤ 256) :
  AM (pcs b, b.length, pcs a, a.length, ((a.length : Nat) : Int)) ([], 0, 0) = some (pcs (bY a b), (bY a b).length) := by
 have key : ∀ (k j : Nat), a.length - j = k → j ≤ a.length → iter (mF (pcs b, b.length, pcs a, a.length, ((a.length : Nat) : Int))) (k + 1) (pcs (bY (a.take j) b), (bY (a.take j) b).length, (j : Int)) = some (pcs (bY a b), (bY a b).length) := by
  intro k
  induction k with
  | zero =>
   intro j hn hj
   have he : j = a.length := by omega
   subst he
   refine cw 0 ?_
   simp only [mF, fh, Ym (show ¬ ((a.length : Int) < ((a.length : Nat) : Int)) by omega), cond_false, List.take_length]
  | succ k ih =>
   intro j hn hj
   have h : j < a.length := by omega
   have wr : IntKind.wrap .i64 ((j : Int) + 1) = ((j + 1 : Nat) : Int) := by rw [bM (by omega)]; omega
   have hlen : (bY (a.take j) b).length ≤ 1000000 := by
    rw [qY, List.length_take]
    have : min j a.length * b.length ≤ 256 * 256 := Nat.mul_le_mul (by omega) hlb
    omega
   have hin := VD (dO ha h) hb hlb (bY (a.take j) b) hlen (pcs a) a.length ((a.length : Nat) : Int) (j : Int)
   refine bG ?_ (ih (j + 1) (by omega) (by omega))
   have hl2 : (bY (a.take (j + 1)) b).length = (bY (a.take j) b).length + b.length := by rw [Ml h]; simp
   simp only [mF, fh, decLt h, eQ, cond_true, Yl, az, fB, pro h, pg0 h, pg1 h, pg2 h, hin, Ye, wr, hl2]
   rw [Ml h]
 have := key a.length 0 (by omega) (by omega)
 exact dt (by unfold kM; omega) this
def lN (a b : List Pt) : Int × List Pt :=
 cond (dJ a == 7 || dJ b == 7) (7, []) (cond (dJ a == 3 || dJ b == 3) (3, []) (cond (dJ a == 2 || dJ b == 2) (2, []) (cond (decide (a.length * b.length > 256)) (3, []) (cond (aQ (bY a b)) (0, bY a b) (7, [])))))
theorem TJ {m n : Nat} (hm : m ≤ 256) (hn : n ≤ 256) : decide (IntKind.wrap .i64 (((m : Nat) : Int) * ((n : Nat) : Int)) > 256) = decide (m * n > 256) := by
 have h : m * n ≤ 256 * 256 := Nat.mul_le_mul hm hn
 have e : ((m : Nat) : Int) * ((n : Nat) : Int) = ((m * n : Nat) : Int) := by simp
 rw [e, bM (by omega)]
 by_cases q : m * n > 256
 ·rw [Yn q, Yn (by omega)]
 ·rw [Ym q, Ym (by omega)]
theorem So {a b : List Pt} (hla : a.length < 1000000000) (hlb : b.length < 1000000000) : rq (pcs a) a.length (pcs b) b.length = some ((lN a b).1, pcs (lN a b).2, (lN a b).2.length) := by
 have rd : ∀ x y : Int, Dj (pcs a, a.length, pcs b, b.length, x, y) 0 = some (cond (x == 7 || y == 7) (.inl 7) (cond (x == 3 || y == 3) (.inl 3) (cond (x == 2 || y == 2) (.inl 2) (.inr ())))) := by
  intro x y
  have st : ∀ i e : Int, (i = 0 ∧ e = 7) ∨ (i = 1 ∧ e = 3) ∨ (i = 2 ∧ e = 2) → fV (pcs a, a.length, pcs b, b.length, x, y) i = cond (x == e) (some (.inr (.inl e))) (cond (y == e) (some (.inr (.inl e))) (some (.inl (i + 1)))) := by
   rintro i e (⟨rfl, rfl⟩ | ⟨rfl, rfl⟩ | ⟨rfl, rfl⟩) <;> rfl
  have s0 := st 0 7 (.inl ⟨rfl, rfl⟩)
  have s1 := st 1 3 (.inr (.inl ⟨rfl, rfl⟩))
  have s2 := st 2 2 (.inr (.inr ⟨rfl, rfl⟩))
  have s3 : fV (pcs a, a.length, pcs b, b.length, x, y) 3 = some (.inr (.inr ())) := rfl
  have bn : ∀ k : Nat, k ≤ 4 → k ≤ kM := fun k hk => by unfold kM; omega
  have two : ∀ {i e : Int}, fV (pcs a, a.length, pcs b, b.length, x, y) i = cond (x == e) (some (.inr (.inl e))) (cond (y == e) (some (.inr (.inl e))) (some (.inl (i + 1)))) → (x == e || y == e) = true → fV (pcs a, a.length, pcs b, b.length, x, y) i = some (.inr (.inl e)) := by
   intro i e h hc
   rw [h]
   cases hx : x == e with
   | true => rfl
   | false => rw [hx, Bool.false_or] at hc; rw [hc]; rfl
  have no : ∀ {i e : Int}, fV (pcs a, a.length, pcs b, b.length, x, y) i = cond (x == e) (some (.inr (.inl e))) (cond (y == e) (some (.inr (.inl e))) (some (.inl (i + 1)))) → (x == e || y == e) = false → fV (pcs a, a.length, pcs b, b.length, x, y) i = some (.inl (i + 1)) := by
   intro i e h hc
   rw [h]
   rw [Bool.or_eq_false_iff] at hc
   rw [hc.1, hc.2]; rfl
  cases c0 : (x == 7 || y == 7) with
  | true => exact dt (bn 1 (by omega)) (cw 0 (two s0 c0))
  | false =>
   cases c1 : (x == 3 || y == 3) with
   | true => exact dt (bn 2 (by omega)) (bG (no s0 c0) (cw 0 (two s1 c1)))
   | false =>
    cases c2 : (x == 2 || y == 2) with
    | true => exact dt (bn 3 (by omega)) (bG (no s0 c0) (bG (no s1 c1) (cw 0 (two s2 c2))))
    | false => exact dt (bn 4 (by omega)) (bG (no s0 c0) (bG (no s1 c1) (bG (no s2 c2) (cw 0 s3))))
 unfold rq
 rw [Gs (show a.length < 9223372036854775808 by omega), Ye, Gs (show b.length < 9223372036854775808 by omega), Ye]
 rw [rd, Ye]
 unfold lN
 cases c0 : (dJ a == 7 || dJ b == 7) with
 | true => rfl
 | false =>
  cases c1 : (dJ a == 3 || dJ b == 3) with
  | true => rfl
  | false =>
   cases c2 : (dJ a == 2 || dJ b == 2) with
   | true => rfl
   | false =>
    rw [Bool.or_eq_false_iff] at c0 c1 c2
    obtain ⟨-, oa, na, xa⟩ : dJ a = 0 ∧ aQ a = true ∧ 1 ≤ a.length ∧ a.length ≤ 256 := by
     rcases HE a with h | h | h | h
     ·rw [h] at c0; simp at c0
     ·rw [h] at c1; simp at c1
     ·rw [h] at c2; simp at c2
     ·exact h
    obtain ⟨-, ob, nb, xb⟩ : dJ b = 0 ∧ aQ b = true ∧ 1 ≤ b.length ∧ b.length ≤ 256 := by
     rcases HE b with h | h | h | h
     ·rw [h] at c0; simp at c0
     ·rw [h] at c1; simp at c1
     ·rw [h] at c2; simp at c2
     ·exact h
    simp only [cond_false, YE]
    rw [TJ xa xb]
    by_cases q : a.length * b.length > 256
    ·rw [Yn q]; rfl
    ·rw [Ym q, cond_false, TI oa ob xa xb, Ye]
     simp only
     have hd := qY a b
     have hpos : 1 ≤ a.length * b.length := Nat.mul_pos na nb
     rw [Gs (by rw [hd]; omega), Ye]
     cases hc : aQ (bY a b) with
     | true =>
      have : dJ (bY a b) = 0 := by
       unfold dJ
       rw [hc, cond_true, Ym (by rw [hd]; omega), cond_false]
       have : (((bY a b).length : Int) == 0) = false := beq_eq_false_iff_ne.2 (by rw [hd]; omega)
       rw [this]; rfl
      rw [this]; rfl
     | false =>
      have : dJ (bY a b) = 7 := by unfold dJ; rw [hc]; rfl
      rw [this]; rfl
theorem C6 {a b : List Pt} (hla : a.length < 1000000000) (hlb : b.length < 1000000000) (h : (lN a b).1 ≠ 0) : dQ (pcs a) a.length (pcs b) b.length = some (0, 0, 0, 0, (lN a b).1, [], 0) := by
 have z : ((lN a b).1 != 0) = true := by simpa using h
 unfold dQ pr
 unfold be
 rw [So hla hlb, Ye]
 simp only [z, cond_true, Ye]
 have o0 : ok8 0 0 0 0 0 0 0 0 = true := rfl
 have n0 : num 0 0 0 0 0 0 0 0 = 0 := rfl
 simp only [o0, n0, Yl, az]
theorem C7 {a b : List Pt} (hla : a.length < 1000000000) (hlb : b.length < 1000000000) (h : (lN a b).1 = 0) {N : Pt} {D : Int} {cs : LA_} {n : Nat} (hN : PtB 240 N) (hD : sm 190 D)
  (e : dI (pcs (lN a b).2) (lN a b).2.length = some (N.1, N.2.1, N.2.2, D, 0, cs, n)) : dQ (pcs a) a.length (pcs b) b.length = some (N.1, N.2.1, N.2.2, D, 0, cs, n) := by
 unfold dQ pr
 unfold be
 rw [So hla hlb, Ye]
 have z : ((lN a b).1 != 0) = false := by rw [h]; rfl
 simp only [z, cond_false, e, Ye, bz, Yl, az]
 rw [aD (aT hN.h.1 (by decide)), aD (aT hN.h.2.1 (by decide)), aD (aT hN.h.2.2 (by decide)), aD (aT hD (by decide))]
def KR : CH := (CH.add 9 uj CH.none)
theorem GL : aB YI KR := (CH.aj AH CH.ay)
def pt (cs0 : LA_) (n1 : Nat) (cs2 : LA_) (n3 : Nat) : Option (Bool × Int) :=
 (Option.bind (dQ cs0 n1 cs2 n3) fun r1 => (cond (r1.2.2.2.2.1 == 0) (cond ((aa r1.1 0) == 0 && ((aa r1.1 1) == 0 && ((aa r1.1 2) == 0 && ((aa r1.1 3) == 0 && ((aa r1.1 4) == 0 && ((aa r1.1 5) == 0 && ((aa r1.1 6) == 0 && ((aa r1.1 7) == 0 && ((aa r1.2.1 0) == 0 && ((aa r1.2.1 1) == 0 && ((aa r1.2.1 2) == 0 && ((aa r1.2.1 3) == 0 && ((aa r1.2.1 4) == 0 && ((aa r1.2.1 5) == 0 && ((aa r1.2.1 6) == 0 && ((aa r1.2.1 7) == 0 && ((aa r1.2.2.1 0) == 0 && ((aa r1.2.2.1 1) == 0 && ((aa r1.2.2.1 2) == 0 && ((aa r1.2.2.1 3) == 0 && ((aa r1.2.2.1 4) == 0 && ((aa r1.2.2.1 5) == 0 && ((aa r1.2.2.1 6) == 0 && ((aa r1.2.2.1 7) == 0 && true)))))))))))))))))))))))) (some (true, r1.2.2.2.2.1)) (some (false, r1.2.2.2.2.1))) (some (false, r1.2.2.2.2.1))))
def pJ : FD where
 X := Bool × Int
 k := 2
 pre := []
 F := fun s => [0, 1]
 M := .tup [.bool, .int .i64]
 B := []
 toL := fun x => [.B x.1, .I x.2]
 ofL := fun ls => match ls with
  | [.B x0, .I x1] => some (x0, x1)
  | _ => none
 ar := fun ls x h => by
  split at h
  ·cases h; rfl
  ·cases h
theorem Jy (cs0 : LA_) (n1 : Nat) (cs2 : LA_) (n3 : Nat) (x : Bool × Int) (h : pt cs0 n1 cs2 n3 = some x) : aP YI 10 2 [.vec 0, .vec 1] [.vec cs0 n1 3 false, .vec cs2 n3 3 false] pJ x :=
 FD.semA pJ GL Tryz.func10 (fuel := 60) (by kernel_rfl) (by kernel_rfl)
  (by kernel_rfl) (Eq.trans (by kernel_rfl) h)
def zS : HK where
 call := fun args σ k => match args with
  | [x0, x1] => cO σ 3 x0 fun cs0 n1 => cO σ 3 x1 fun cs2 n3 => Option.bind (pt cs0 n1 cs2 n3) fun y => au σ 2 (pJ.val y) (pJ.aI y) k
  | _ => none
 nat := fun args σ k => by
  repeat' split
  all_goals simp only [ao, ai, Yg, Yf, au, Ye]
 pure := false
 pok := fun h => by cases h
theorem KS : aN YI 10 zS := by
 intro args σ r σ' h
 simp only [zS] at h
 split at h
 ·rename_i x0 x1
  obtain ⟨cs0, n1, he0, hf0, h⟩ := bv h
  obtain ⟨cs2, n3, he1, hf1, h⟩ := bv h
  obtain ⟨y, hy, h⟩ := bE_ h
  exact aG (xs := [x0, x1]) (ls := [.vec cs0 n1 3 false, .vec cs2 n3 3 false]) (cargs := [.vec 0, .vec 1]) (bg.of ⟨⟨rfl, he0, hf0, by decide⟩, ⟨rfl, he1, hf1, by decide⟩, trivial⟩) rfl (Jy cs0 n1 cs2 n3 y hy) rfl rfl rfl rfl h
 ·cases h
def ky : CH := CH.none
theorem mX : aB YI ky := CH.ay
def ez {R : Type} (cc : Int × Int) (v : LA_ × Nat × Int) (kn : (LA_ × Nat × Int) → Option R) (ke : ((LA_ × Nat)) → Option R) : Option R :=
 (cond (decide (v.2.2 < 8)) (ah (decide (2 * (v.2.1 + 1) * 24 ≤ 2 ^ 48)) (kn ((v.1 ++ [.int .i64 (IntKind.wrap .i64 (cc.1 + (IntKind.wrap .i64 ((Int.tmod v.2.2 2) * cc.2)))), .int .i64 (IntKind.wrap .i64 (cc.1 + (IntKind.wrap .i64 ((Int.tmod (IntKind.wrap .i64 (Int.tdiv v.2.2 2)) 2) * cc.2)))), .int .i64 (IntKind.wrap .i64 (cc.1 + (IntKind.wrap .i64 ((IntKind.wrap .i64 (Int.tdiv v.2.2 4)) * cc.2))))]), (v.2.1 + 1), (IntKind.wrap .i64 (v.2.2 + 1))))) (ke (v.1, v.2.1)))
def zY (cc : Int × Int) (v : LA_ × Nat × Int) : Option ((LA_ × Nat × Int) ⊕ ((LA_ × Nat))) := ez cc v (fun v => some (Sum.inl v)) fun e => some (Sum.inr e)
def AT (cc : Int × Int) (v : LA_ × Nat × Int) : Option ((LA_ × Nat)) := dz (zY cc) v
def xX (cc : Int × Int) (v : LA_ × Nat × Int) : List af := [.I cc.1, .I cc.2, .I v.2.2, .C v.1, .N v.2.1]
def mY (ls : List af) : Option ((Int × Int) × (LA_ × Nat × Int)) := match ls with
 | [.I x0, .I x1, .I x2, .C x3, .N x4] => some ((x0, x1), (x3, x4, x2))
 | _ => none
def mZ (e : (LA_ × Nat)) : an := ((fun e => .exit 0) e)
def m9 (cc : Int × Int) (e : (LA_ × Nat)) : List af := ((fun e => [.C e.1, .N e.2]) e)
def mI (cc : Int × Int) (e : (LA_ × Nat)) : List af := ((fun e => []) e)
def iD (o : an) (ls : List af) : Option (((LA_ × Nat)) × List af) := match o with
 | .exit 0 => (match ls with
  | [.C x0, .N x1] => some ((x0, x1), [])
  | _ => none)
 | _ => none
theorem uD : ∀ o ls e cl cc, iD o ls = some (e, cl) → cl = mI cc e → ls = m9 cc e ∧ mZ e = o ∧ o ≠ .normal ∧ ∀ v, o = .pan v → sc 0 v = true := by
 intro o ls e cl cc h hc
 unfold iD at h
 split at h
 ·split at h
  ·cases h
   exact ⟨rfl, rfl, by simp, by intro v hv; cases hv <;> rfl⟩
  ·cases h
 ·cases h
def yT (o : an) : ExS := match o with
 | .exit 0 => ⟨1, (rl none 5 (some (.vec 0) :: (rl none 33 []))), [(0, .vec 3 true)], fun s => [ak s 5 []], [], []⟩
 | _ => ⟨0, [], [], fun _ => [], [], []⟩
theorem xY {R : Type} (cc : Int × Int) (v : LA_ × Nat × Int) (kn : (LA_ × Nat × Int) → Option R) (ke : ((LA_ × Nat)) → Option R) : ez cc v kn ke = (ez cc v (fun v => some (Sum.inl v)) fun e => some (Sum.inr e)).bind (Sum.elim kn ke) := by
 simp only [ez, bH, ai, Yg, bZ, bB, Ye, Yf, YF, YE]
def pu : LD where
 CC := Int × Int
 V := LA_ × Nat × Int
 E := (LA_ × Nat)
 n := 0
 K := 1
 M := (some (.int .i64) :: none :: none :: none :: none :: some (.vec 0) :: some (.int .i64) :: some (.int .i64) :: (rl none 31 []))
 B := [(0, .vec 3 true)]
 D := []
 pre := [(5, 3)]
 F := fun s => [ak s 5 []]
 toL := xX
 ofL := mY
 ar := fun ls c v h => by
  unfold mY at h
  split at h
  ·cases h; rfl
  ·cases h
 ct := ez
 nat := xY
 sh := yT
 out := mZ
 toE := m9
 eY := mI
 ofE := iD
 cQ := uD
 post := fun cc e k => ((fun e => k (.exit 0) (bc 1 (rl none 5 (some (.vec 0) :: (rl none 33 []))) [(0, .vec e.1 e.2 3 true)] [])) e)
 cd := fun cc e k => by rfl
theorem xZ : cJ YI 0 pu.la (aJ Tryz.f18 0) :=
 LD.ok (ch := ky) (A := bw) aK mX mixed (fuel := 60) ⟨by kernel_rfl, fun e => by kernel_rfl, fun cc v => by kernel_rfl, aH (l := []) (by kernel_rfl) trivial⟩
def gp (a0 a1 : Int) : Option (LA_ × Nat) :=
 (Option.bind (AT (a0, (IntKind.wrap .i64 (a1 - a0))) (([] : LA_), 0, 0)) fun e1 => (some (e1.1, e1.2)))
def ia : FD where
 X := LA_ × Nat
 k := 0
 pre := [(4, 3)]
 F := fun s => [ak s 0 []]
 M := .vec 0
 B := [.vec 3 true]
 toL := fun x => [.C x.1, .N x.2]
 ofL := fun ls => match ls with
  | [.C x0, .N x1] => some (x0, x1)
  | _ => none
 ar := fun ls x h => by
  split at h
  ·cases h; rfl
  ·cases h
theorem zZ (a0 a1 : Int) (x : LA_ × Nat) (h : gp a0 a1 = some x) : aP YI 18 0 [.int .i64 a0, .int .i64 a1] [] ia x :=
 FD.sem (ch := ky) (A := dL [(4, pu.la)]) (fn := Tryz.f18) (c := br Tryz.f18) (fuel := 60) aK mX mixed bI ia Tryz.func18 (by kernel_rfl) (aH (l := [aJ Tryz.f18 0]) (by kernel_rfl) ⟨bT (by kernel_rfl) xZ, trivial⟩)
  (by kernel_rfl) (Eq.trans (by kernel_rfl) h)
def mW : HK where
 call := fun args σ k => match args with
  | [.int .i64 a0, .int .i64 a1] => Option.bind (gp a0 a1) fun y => au σ 0 (ia.val y) (ia.aI y) k
  | _ => none
 nat := fun args σ k => by
  repeat' split
  all_goals simp only [ao, ai, Yg, Yf, au, Ye]
 pure := false
 pok := fun h => by cases h
theorem AS : aN YI 18 mW := by
 intro args σ r σ' h
 simp only [mW] at h
 split at h
 ·rename_i a0 a1
  obtain ⟨y, hy, h⟩ := bE_ h
  exact aG (xs := []) (ls := []) (cargs := [.int .i64 a0, .int .i64 a1]) (bg.of trivial) rfl (zZ a0 a1 y hy) rfl rfl rfl rfl h
 ·cases h
def yR : CH := (CH.add 18 mW (CH.add 12 wI (CH.add 10 zS (CH.add 19 K3 CH.none))))
theorem vw : aB YI yR := (CH.aj AS (CH.aj Dg (CH.aj KS (CH.aj F0 CH.ay))))
def lh : Option (Bool) :=
 (Option.bind (dI ([.int .i64 2, .int .i64 (-9), .int .i64 0, .int .i64 2, .int .i64 9, .int .i64 0, .int .i64 5, .int .i64 0, .int .i64 0, .int .i64 9, .int .i64 1, .int .i64 1] : LA_) 4) fun r1 => (Option.bind (gp 0 2) fun r2 => (Option.bind (pt r2.1 r2.2 ([.int .i64 1, .int .i64 1, .int .i64 1] : LA_) 1) fun r3 => (cond r3.1 (Option.bind (gp 0 2) fun r4 => (Option.bind (pt r4.1 r4.2 ([.int .i64 3, .int .i64 3, .int .i64 3] : LA_) 1) fun r5 => (cond r5.1 (Option.bind (dI ([] : LA_) 0) fun r6 => (cond (r1.2.2.2.2.1 == 0) (Option.bind (cOf 2) fun r7 => (cond ((aa r1.1 0) == (aa r7 0) && ((aa r1.1 1) == (aa r7 1) && ((aa r1.1 2) == (aa r7 2) && ((aa r1.1 3) == (aa r7 3) && ((aa r1.1 4) == (aa r7 4) && ((aa r1.1 5) == (aa r7 5) && ((aa r1.1 6) == (aa r7 6) && ((aa r1.1 7) == (aa r7 7) && ((aa r1.2.1 0) == 0 && ((aa r1.2.1 1) == 0 && ((aa r1.2.1 2) == 0 && ((aa r1.2.1 3) == 0 && ((aa r1.2.1 4) == 0 && ((aa r1.2.1 5) == 0 && ((aa r1.2.1 6) == 0 && ((aa r1.2.1 7) == 0 && ((aa r1.2.2.1 0) == 0 && ((aa r1.2.2.1 1) == 0 && ((aa r1.2.2.1 2) == 0 && ((aa r1.2.2.1 3) == 0 && ((aa r1.2.2.1 4) == 0 && ((aa r1.2.2.1 5) == 0 && ((aa r1.2.2.1 6) == 0 && ((aa r1.2.2.1 7) == 0 && true)))))))))))))))))))))))) (Option.bind (cOf 1) fun r8 => (cond ((aa r1.2.2.2.1 0) == (aa r8 0) && ((aa r1.2.2.2.1 1) == (aa r8 1) && ((aa r1.2.2.2.1 2) == (aa r8 2) && ((aa r1.2.2.2.1 3) == (aa r8 3) && ((aa r1.2.2.2.1 4) == (aa r8 4) && ((aa r1.2.2.2.1 5) == (aa r8 5) && ((aa r1.2.2.2.1 6) == (aa r8 6) && ((aa r1.2.2.2.1 7) == (aa r8 7) && true)))))))) (cond (r3.2 == 0) (some false) (some false)) (some false))) (some false))) (some false))) (Option.bind (dI ([] : LA_) 0) fun r9 => (cond (r1.2.2.2.2.1 == 0) (Option.bind (cOf 2) fun r10 => (cond ((aa r1.1 0) == (aa r10 0) && ((aa r1.1 1) == (aa r10 1) && ((aa r1.1 2) == (aa r10 2) && ((aa r1.1 3) == (aa r10 3) && ((aa r1.1 4) == (aa r10 4) && ((aa r1.1 5) == (aa r10 5) && ((aa r1.1 6) == (aa r10 6) && ((aa r1.1 7) == (aa r10 7) && ((aa r1.2.1 0) == 0 && ((aa r1.2.1 1) == 0 && ((aa r1.2.1 2) == 0 && ((aa r1.2.1 3) == 0 && ((aa r1.2.1 4) == 0 && ((aa r1.2.1 5) == 0 && ((aa r1.2.1 6) == 0 && ((aa r1.2.1 7) == 0 && ((aa r1.2.2.1 0) == 0 && ((aa r1.2.2.1 1) == 0 && ((aa r1.2.2.1 2) == 0 && ((aa r1.2.2.1 3) == 0 && ((aa r1.2.2.1 4) == 0 && ((aa r1.2.2.1 5) == 0 && ((aa r1.2.2.1 6) == 0 && ((aa r1.2.2.1 7) == 0 && true)))))))))))))))))))))))) (Option.bind (cOf 1) fun r11 => (cond ((aa r1.2.2.2.1 0) == (aa r11 0) && ((aa r1.2.2.2.1 1) == (aa r11 1) && ((aa r1.2.2.2.1 2) == (aa r11 2) && ((aa r1.2.2.2.1 3) == (aa r11 3) && ((aa r1.2.2.2.1 4) == (aa r11 4) && ((aa r1.2.2.2.1 5) == (aa r11 5) && ((aa r1.2.2.2.1 6) == (aa r11 6) && ((aa r1.2.2.2.1 7) == (aa r11 7) && true)))))))) (cond (r3.2 == 0) (cond (r5.2 == 0) (cond (r9.2.2.2.2.1 == 2) (some true) (some false)) (some false)) (some false)) (some false))) (some false))) (some false)))))) (Option.bind (gp 0 2) fun r12 => (Option.bind (pt r12.1 r12.2 ([.int .i64 3, .int .i64 3, .int .i64 3] : LA_) 1) fun r13 => (cond r13.1 (Option.bind (dI ([] : LA_) 0) fun r14 => (cond (r1.2.2.2.2.1 == 0) (Option.bind (cOf 2) fun r15 => (cond ((aa r1.1 0) == (aa r15 0) && ((aa r1.1 1) == (aa r15 1) && ((aa r1.1 2) == (aa r15 2) && ((aa r1.1 3) == (aa r15 3) && ((aa r1.1 4) == (aa r15 4) && ((aa r1.1 5) == (aa r15 5) && ((aa r1.1 6) == (aa r15 6) && ((aa r1.1 7) == (aa r15 7) && ((aa r1.2.1 0) == 0 && ((aa r1.2.1 1) == 0 && ((aa r1.2.1 2) == 0 && ((aa r1.2.1 3) == 0 && ((aa r1.2.1 4) == 0 && ((aa r1.2.1 5) == 0 && ((aa r1.2.1 6) == 0 && ((aa r1.2.1 7) == 0 && ((aa r1.2.2.1 0) == 0 && ((aa r1.2.2.1 1) == 0 && ((aa r1.2.2.1 2) == 0 && ((aa r1.2.2.1 3) == 0 && ((aa r1.2.2.1 4) == 0 && ((aa r1.2.2.1 5) == 0 && ((aa r1.2.2.1 6) == 0 && ((aa r1.2.2.1 7) == 0 && true)))))))))))))))))))))))) (Option.bind (cOf 1) fun r16 => (cond ((aa r1.2.2.2.1 0) == (aa r16 0) && ((aa r1.2.2.2.1 1) == (aa r16 1) && ((aa r1.2.2.2.1 2) == (aa r16 2) && ((aa r1.2.2.2.1 3) == (aa r16 3) && ((aa r1.2.2.2.1 4) == (aa r16 4) && ((aa r1.2.2.2.1 5) == (aa r16 5) && ((aa r1.2.2.2.1 6) == (aa r16 6) && ((aa r1.2.2.2.1 7) == (aa r16 7) && true)))))))) (some false) (some false))) (some false))) (some false))) (Option.bind (dI ([] : LA_) 0) fun r17 => (cond (r1.2.2.2.2.1 == 0) (Option.bind (cOf 2) fun r18 => (cond ((aa r1.1 0) == (aa r18 0) && ((aa r1.1 1) == (aa r18 1) && ((aa r1.1 2) == (aa r18 2) && ((aa r1.1 3) == (aa r18 3) && ((aa r1.1 4) == (aa r18 4) && ((aa r1.1 5) == (aa r18 5) && ((aa r1.1 6) == (aa r18 6) && ((aa r1.1 7) == (aa r18 7) && ((aa r1.2.1 0) == 0 && ((aa r1.2.1 1) == 0 && ((aa r1.2.1 2) == 0 && ((aa r1.2.1 3) == 0 && ((aa r1.2.1 4) == 0 && ((aa r1.2.1 5) == 0 && ((aa r1.2.1 6) == 0 && ((aa r1.2.1 7) == 0 && ((aa r1.2.2.1 0) == 0 && ((aa r1.2.2.1 1) == 0 && ((aa r1.2.2.1 2) == 0 && ((aa r1.2.2.1 3) == 0 && ((aa r1.2.2.1 4) == 0 && ((aa r1.2.2.1 5) == 0 && ((aa r1.2.2.1 6) == 0 && ((aa r1.2.2.1 7) == 0 && true)))))))))))))))))))))))) (Option.bind (cOf 1) fun r19 => (cond ((aa r1.2.2.2.1 0) == (aa r19 0) && ((aa r1.2.2.2.1 1) == (aa r19 1) && ((aa r1.2.2.2.1 2) == (aa r19 2) && ((aa r1.2.2.2.1 3) == (aa r19 3) && ((aa r1.2.2.2.1 4) == (aa r19 4) && ((aa r1.2.2.2.1 5) == (aa r19 5) && ((aa r1.2.2.2.1 6) == (aa r19 6) && ((aa r1.2.2.2.1 7) == (aa r19 7) && true)))))))) (some false) (some false))) (some false))) (some false))))))))))
def ga : FD where
 X := Bool
 k := 0
 pre := []
 F := fun s => []
 M := .bool
 B := []
 toL := fun x => [.B x]
 ofL := fun ls => match ls with
  | [.B x0] => some x0
  | _ => none
 ar := fun ls x h => by
  split at h
  ·cases h; rfl
  ·cases h
theorem xW (x : Bool) (h : lh = some x) : aP YI 5 0 [] [] ga x :=
 FD.semA ga vw Tryz.func5 (fuel := 60) (by kernel_rfl) (by kernel_rfl)
  (by kernel_rfl) (Eq.trans (by kernel_rfl) h)
def li : HK where
 call := fun args σ k => match args with
  | [] => Option.bind (lh) fun y => au σ 0 (ga.val y) (ga.aI y) k
  | _ => none
 nat := fun args σ k => by
  repeat' split
  all_goals simp only [ao, ai, Yg, Yf, au, Ye]
 pure := true
 pok := fun _ args σ r σ' h => by
  split at h
  ·exact aZ h (fun y => rfl) (fun y f => rfl)
  ·cases h
theorem yS : aN YI 5 li := by
 intro args σ r σ' h
 simp only [li] at h
 split at h
 ·skip
  obtain ⟨y, hy, h⟩ := bE_ h
  exact aG (xs := []) (ls := []) (cargs := []) (bg.of trivial) rfl (xW y hy) rfl rfl rfl rfl h
 ·cases h
theorem VJ : lh = some true := by kernel_rfl
def kz : Option Unit := some ()
def K4 : HK where
 call := fun args σ k => match args with
  | [] => Option.bind kz fun r => k (.ret (.bool true)) σ
  | _ => none
 nat := fun args σ k => by
  repeat' split
  all_goals simp only [Yg, Yf, Ye]
 pure := true
 pok := fun _ args σ r σ' h => by
  split at h
  ·obtain ⟨q, h1, h2⟩ := bE_ h
   simp only [Yh, Yj] at h2
   obtain ⟨rfl, rfl⟩ := h2
   exact ⟨rfl, ⟨_, rfl⟩, fun σ2 => by simp only [h1, Ye]⟩
  ·cases h
theorem Qh : aN YI 5 K4 := yS.da fun args σ x h => by
 simp only [K4] at h
 split at h
 ·obtain ⟨r, h1, h2⟩ := bE_ h
  simp only [li, VJ, Ye]
  exact h2
 ·cases h
def vC : CH := (CH.add 26 yb CH.none)
theorem tg : aB YI vC := (CH.aj uE CH.ay)
def fN (a0 a1 a2 a3 a4 a5 a6 a7 : Int) : Option (Int × Int × Int × Int × Int × Int × Int × Int) :=
 (Option.bind (BW a0 a1 a2 a3 a4 a5 a6 a7) fun r1 => (some ((aa r1 0), (aa r1 1), (aa r1 2), (aa r1 3), (aa r1 4), (aa r1 5), (aa r1 6), (aa r1 7))))
def bX : FD where
 X := Int × Int × Int × Int × Int × Int × Int × Int
 k := 0
 pre := []
 F := fun s => []
 M := .agg (rl (.int .u64) 8 [])
 B := []
 toL := fun x => [.I x.1, .I x.2.1, .I x.2.2.1, .I x.2.2.2.1, .I x.s4.1, .I x.s4.2.1, .I x.s4.2.2.1, .I x.s4.2.2.2]
 ofL := fun ls => match ls with
  | [.I x0, .I x1, .I x2, .I x3, .I x4, .I x5, .I x6, .I x7] => some (x0, x1, x2, x3, x4, x5, x6, x7)
  | _ => none
 ar := fun ls x h => by
  split at h
  ·cases h; rfl
  ·cases h
theorem uF (a0 a1 a2 a3 a4 a5 a6 a7 : Int) (x : Int × Int × Int × Int × Int × Int × Int × Int) (h : fN a0 a1 a2 a3 a4 a5 a6 a7 = some x) : aP YI 15 0 [.agg (v8 a0 a1 a2 a3 a4 a5 a6 a7 [])] [] bX x :=
 FD.semA bX tg Tryz.func15 (fuel := 60) (by kernel_rfl) (by kernel_rfl)
  (by kernel_rfl) (Eq.trans (by kernel_rfl) h)
def dm (a0 a1 a2 a3 a4 a5 a6 a7 : Int) : Option (Int) := Option.bind (fN a0 a1 a2 a3 a4 a5 a6 a7) fun (x0, x1, x2, x3, x4, x5, x6, x7) => ah (ok8 x0 x1 x2 x3 x4 x5 x6 x7) (some (num x0 x1 x2 x3 x4 x5 x6 x7))
def ib : FD := ⟨Int, bX.k, bX.pre, bX.F, bX.M, bX.B, fun y => bX.toL ((aa y 0), (aa y 1), (aa y 2), (aa y 3), (aa y 4), (aa y 5), (aa y 6), (aa y 7)), fun _ => none, fun _ _ h => by cases h⟩
theorem vD (a0 a1 a2 a3 a4 a5 a6 a7 : Int) {y : Int} (h : dm a0 a1 a2 a3 a4 a5 a6 a7 = some y) : fN a0 a1 a2 a3 a4 a5 a6 a7 = some ((aa y 0), (aa y 1), (aa y 2), (aa y 3), (aa y 4), (aa y 5), (aa y 6), (aa y 7)) := by
 unfold dm at h
 obtain ⟨⟨x0, x1, x2, x3, x4, x5, x6, x7⟩, h1, h2⟩ := bE_ h
 obtain ⟨h3, h4⟩ := aL h2
 skip
 simp only [Yh] at h4
 subst h4
 have o0 := h3
 have q0 := aR o0
 rw [h1]
 simp only [q0]
theorem uG (a0 a1 a2 a3 a4 a5 a6 a7 y : Int) (h : dm a0 a1 a2 a3 a4 a5 a6 a7 = some y) : aP YI 15 0 [.agg (v8 a0 a1 a2 a3 a4 a5 a6 a7 [])] [] ib y := uF a0 a1 a2 a3 a4 a5 a6 a7 _ (vD a0 a1 a2 a3 a4 a5 a6 a7 h)
def dY (z0 : Int) : Option (Int) := dm (aa z0 0) (aa z0 1) (aa z0 2) (aa z0 3) (aa z0 4) (aa z0 5) (aa z0 6) (aa z0 7)
def iU : HK where
 call := fun args σ k => match args with
  | [.agg [.int .u64 a0, .int .u64 a1, .int .u64 a2, .int .u64 a3, .int .u64 a4, .int .u64 a5, .int .u64 a6, .int .u64 a7]] => Option.bind (dm a0 a1 a2 a3 a4 a5 a6 a7) fun y => au σ 0 (ib.val y) (ib.aI y) k
  | _ => none
 nat := fun args σ k => by
  repeat' split
  all_goals simp only [ao, ai, Yg, Yf, au, Ye]
 pure := true
 pok := fun _ args σ r σ' h => by
  split at h
  ·exact aZ h (fun y => rfl) (fun y f => rfl)
  ·cases h
theorem vx : aN YI 15 iU := by
 intro args σ r σ' h
 simp only [iU] at h
 split at h
 ·rename_i a0 a1 a2 a3 a4 a5 a6 a7
  obtain ⟨y, hy, h⟩ := bE_ h
  exact aG (xs := []) (ls := []) (cargs := [.agg (v8 a0 a1 a2 a3 a4 a5 a6 a7 [])]) (bg.of trivial) rfl (uG a0 a1 a2 a3 a4 a5 a6 a7 y hy) rfl rfl rfl rfl h
 ·cases h
def DA : CH := CH.none
theorem zQ : aB YI DA := CH.ay
def iA (a0 a1 : Int) : Option (Int) :=
 (some (if a1 < a0 then a1 else a0))
def ji : FD where
 X := Int
 k := 0
 pre := []
 F := fun s => []
 M := .int .i64
 B := []
 toL := fun x => [.I x]
 ofL := fun ls => match ls with
  | [.I x0] => some x0
  | _ => none
 ar := fun ls x h => by
  split at h
  ·cases h; rfl
  ·cases h
theorem BC (a0 a1 x : Int) (h : iA a0 a1 = some x) : aP YI 40 0 [.int .i64 a0, .int .i64 a1] [] ji x :=
 FD.semA ji zQ Tryz.func40 (fuel := 60) (by kernel_rfl) (by kernel_rfl)
  (by kernel_rfl) (Eq.trans (by kernel_rfl) h)
def p4 : HK where
 call := fun args σ k => match args with
  | [.int .i64 a0, .int .i64 a1] => Option.bind (iA a0 a1) fun y => au σ 0 (ji.val y) (ji.aI y) k
  | _ => none
 nat := fun args σ k => by
  repeat' split
  all_goals simp only [ao, ai, Yg, Yf, au, Ye]
 pure := true
 pok := fun _ args σ r σ' h => by
  split at h
  ·exact aZ h (fun y => rfl) (fun y f => rfl)
  ·cases h
theorem Dt : aN YI 40 p4 := by
 intro args σ r σ' h
 simp only [p4] at h
 split at h
 ·rename_i a0 a1
  obtain ⟨y, hy, h⟩ := bE_ h
  exact aG (xs := []) (ls := []) (cargs := [.int .i64 a0, .int .i64 a1]) (bg.of trivial) rfl (BC a0 a1 y hy) rfl rfl rfl rfl h
 ·cases h
def Ji : CH := (CH.add 40 p4 CH.none)
theorem El : aB YI Ji := (CH.aj Dt CH.ay)
def xn (a0 a1 a2 a3 a4 a5 : Int) : Option (Int × Int × Int) :=
 (Option.bind (iA a0 a3) fun r1 => (Option.bind (iA a1 a4) fun r2 => (Option.bind (iA a2 a5) fun r3 => (some (r1, r2, r3)))))
def nV : FD where
 X := Int × Int × Int
 k := 0
 pre := []
 F := fun s => []
 M := .agg [.int .i64, .int .i64, .int .i64]
 B := []
 toL := fun x => [.I x.1, .I x.2.1, .I x.2.2]
 ofL := fun ls => match ls with
  | [.I x0, .I x1, .I x2] => some (x0, x1, x2)
  | _ => none
 ar := fun ls x h => by
  split at h
  ·cases h; rfl
  ·cases h
theorem HJ (a0 a1 a2 a3 a4 a5 : Int) (x : Int × Int × Int) (h : xn a0 a1 a2 a3 a4 a5 = some x) : aP YI 39 0 [.agg [.int .i64 a0, .int .i64 a1, .int .i64 a2], .agg [.int .i64 a3, .int .i64 a4, .int .i64 a5], .func 40 [] []] [] nV x :=
 FD.semA nV El Tryz.func39 (fuel := 60) (by kernel_rfl) (by kernel_rfl)
  (by kernel_rfl) (Eq.trans (by kernel_rfl) h)
def xp : HK where
 call := fun args σ k => match args with
  | [.agg [.int .i64 a0, .int .i64 a1, .int .i64 a2], .agg [.int .i64 a3, .int .i64 a4, .int .i64 a5], .func 40 [] []] => Option.bind (xn a0 a1 a2 a3 a4 a5) fun y => au σ 0 (nV.val y) (nV.aI y) k
  | _ => none
 nat := fun args σ k => by
  repeat' split
  all_goals simp only [ao, ai, Yg, Yf, au, Ye]
 pure := true
 pok := fun _ args σ r σ' h => by
  split at h
  ·exact aZ h (fun y => rfl) (fun y f => rfl)
  ·cases h
theorem Jj : aN YI 39 xp := by
 intro args σ r σ' h
 simp only [xp] at h
 split at h
 ·rename_i a0 a1 a2 a3 a4 a5
  obtain ⟨y, hy, h⟩ := bE_ h
  exact aG (xs := []) (ls := []) (cargs := [.agg [.int .i64 a0, .int .i64 a1, .int .i64 a2], .agg [.int .i64 a3, .int .i64 a4, .int .i64 a5], .func 40 [] []]) (bg.of trivial) rfl (HJ a0 a1 a2 a3 a4 a5 y hy) rfl rfl rfl rfl h
 ·cases h
def HM : CH := (CH.add 39 xp CH.none)
theorem Dz : aB YI HM := (CH.aj Jj CH.ay)
def ja (a0 a1 a2 a3 a4 a5 : Int) : Option (Int × Int × Int) :=
 (Option.bind (xn a0 a1 a2 a3 a4 a5) fun r1 => (some (r1.1, r1.2.1, r1.2.2)))
def mD : FD where
 X := Int × Int × Int
 k := 0
 pre := []
 F := fun s => []
 M := .agg [.int .i64, .int .i64, .int .i64]
 B := []
 toL := fun x => [.I x.1, .I x.2.1, .I x.2.2]
 ofL := fun ls => match ls with
  | [.I x0, .I x1, .I x2] => some (x0, x1, x2)
  | _ => none
 ar := fun ls x h => by
  split at h
  ·cases h; rfl
  ·cases h
theorem Gx (a0 a1 a2 a3 a4 a5 : Int) (x : Int × Int × Int) (h : ja a0 a1 a2 a3 a4 a5 = some x) : aP YI 27 0 [.agg [.int .i64 a0, .int .i64 a1, .int .i64 a2], .agg [.int .i64 a3, .int .i64 a4, .int .i64 a5]] [] mD x :=
 FD.semA mD Dz Tryz.func27 (fuel := 60) (by kernel_rfl) (by kernel_rfl)
  (by kernel_rfl) (Eq.trans (by kernel_rfl) h)
def lP : HK where
 call := fun args σ k => match args with
  | [.agg [.int .i64 a0, .int .i64 a1, .int .i64 a2], .agg [.int .i64 a3, .int .i64 a4, .int .i64 a5]] => Option.bind (ja a0 a1 a2 a3 a4 a5) fun y => au σ 0 (mD.val y) (mD.aI y) k
  | _ => none
 nat := fun args σ k => by
  repeat' split
  all_goals simp only [ao, ai, Yg, Yf, au, Ye]
 pure := true
 pok := fun _ args σ r σ' h => by
  split at h
  ·exact aZ h (fun y => rfl) (fun y f => rfl)
  ·cases h
theorem pZ : aN YI 27 lP := by
 intro args σ r σ' h
 simp only [lP] at h
 split at h
 ·rename_i a0 a1 a2 a3 a4 a5
  obtain ⟨y, hy, h⟩ := bE_ h
  exact aG (xs := []) (ls := []) (cargs := [.agg [.int .i64 a0, .int .i64 a1, .int .i64 a2], .agg [.int .i64 a3, .int .i64 a4, .int .i64 a5]]) (bg.of trivial) rfl (Gx a0 a1 a2 a3 a4 a5 y hy) rfl rfl rfl rfl h
 ·cases h
def HH : CH := (CH.add 27 lP (CH.add 13 iz CH.none))
theorem Ds : aB YI HH := (CH.aj pZ (CH.aj jg CH.ay))
def fG (a0 a1 a2 a3 a4 a5 : Int) : Option (Int) :=
 (Option.bind (et a0 a1 a2) fun r1 => (cond (r1 != 0) (some 7) (Option.bind (et a3 a4 a5) fun r2 => (cond (r2 != 0) (some 7) (Option.bind (ja a0 a1 a2 a3 a4 a5) fun r3 => (cond (!(r3.1 == a0 && (r3.2.1 == a1 && (r3.2.2 == a2 && true)))) (some 7) (some 0)))))))
def mC : FD where
 X := Int
 k := 0
 pre := []
 F := fun s => []
 M := .int .i64
 B := []
 toL := fun x => [.I x]
 ofL := fun ls => match ls with
  | [.I x0] => some x0
  | _ => none
 ar := fun ls x h => by
  split at h
  ·cases h; rfl
  ·cases h
theorem Gw (a0 a1 a2 a3 a4 a5 x : Int) (h : fG a0 a1 a2 a3 a4 a5 = some x) : aP YI 44 0 [.agg [.int .i64 a0, .int .i64 a1, .int .i64 a2, .int .i64 a3, .int .i64 a4, .int .i64 a5]] [] mC x :=
 FD.semA mC Ds Tryz.func44 (fuel := 60) (by kernel_rfl) (by kernel_rfl)
  (by kernel_rfl) (Eq.trans (by kernel_rfl) h)
def vn : HK where
 call := fun args σ k => match args with
  | [.agg [.int .i64 a0, .int .i64 a1, .int .i64 a2, .int .i64 a3, .int .i64 a4, .int .i64 a5]] => Option.bind (fG a0 a1 a2 a3 a4 a5) fun y => au σ 0 (mC.val y) (mC.aI y) k
  | _ => none
 nat := fun args σ k => by
  repeat' split
  all_goals simp only [ao, ai, Yg, Yf, au, Ye]
 pure := true
 pok := fun _ args σ r σ' h => by
  split at h
  ·exact aZ h (fun y => rfl) (fun y f => rfl)
  ·cases h
theorem HI : aN YI 44 vn := by
 intro args σ r σ' h
 simp only [vn] at h
 split at h
 ·rename_i a0 a1 a2 a3 a4 a5
  obtain ⟨y, hy, h⟩ := bE_ h
  exact aG (xs := []) (ls := []) (cargs := [.agg [.int .i64 a0, .int .i64 a1, .int .i64 a2, .int .i64 a3, .int .i64 a4, .int .i64 a5]]) (bg.of trivial) rfl (Gw a0 a1 a2 a3 a4 a5 y hy) rfl rfl rfl rfl h
 ·cases h
def tI : CH := (CH.add 44 vn CH.none)
theorem vZ : aB YI tI := (CH.aj HI CH.ay)
def jk {R : Type} (cc : LA_ × Nat × Int) (v : Int) (kn : (Int) → Option R) (ke : ((Unit) ⊕ (Unit)) → Option R) : Option R :=
 (cond (decide (v < cc.2.2)) (ah (decide (0 ≤ v) && decide (v < ((cc.2.1 : Nat) : Int))) (ah (aw [.int .i64, .int .i64, .int .i64, .int .i64, .int .i64, .int .i64] cc.1 (Int.toNat v * 6)) (Option.bind (fG (ac cc.1 ((Int.toNat v * 6) + 0)) (ac cc.1 ((Int.toNat v * 6) + 1)) (ac cc.1 ((Int.toNat v * 6) + 2)) (ac cc.1 ((Int.toNat v * 6) + 3)) (ac cc.1 ((Int.toNat v * 6) + 4)) (ac cc.1 ((Int.toNat v * 6) + 5))) fun r1 => (cond (r1 != 0) (ke (.inl ())) (kn (IntKind.wrap .i64 (v + 1))))))) (ke (.inr ())))
def gI (cc : LA_ × Nat × Int) (v : Int) : Option ((Int) ⊕ ((Unit) ⊕ (Unit))) := jk cc v (fun v => some (Sum.inl v)) fun e => some (Sum.inr e)
def tJ (cc : LA_ × Nat × Int) (v : Int) : Option ((Unit) ⊕ (Unit)) := dz (gI cc) v
def Gy (cc : LA_ × Nat × Int) (v : Int) : List af := [.I cc.2.2, .I v, .C cc.1, .N cc.2.1]
def v7 (ls : List af) : Option ((LA_ × Nat × Int) × (Int)) := match ls with
 | [.I x0, .I x1, .C x2, .N x3] => some ((x2, x3, x0), x1)
 | _ => none
def v9 (e : (Unit) ⊕ (Unit)) : an := ((Sum.elim (fun e => .ret) (fun e => .exit 0)) e)
def wa (cc : LA_ × Nat × Int) (e : (Unit) ⊕ (Unit)) : List af := ((Sum.elim (fun e => []) (fun e => [])) e)
def uA (cc : LA_ × Nat × Int) (e : (Unit) ⊕ (Unit)) : List af := ((Sum.elim (fun e => []) (fun e => [])) e)
def oP (o : an) (ls : List af) : Option (((Unit) ⊕ (Unit)) × List af) := match o with
 | .ret => (match ls with
  | [] => some ((.inl ()), [])
  | _ => none)
 | .exit 0 => (match ls with
  | [] => some ((.inr ()), [])
  | _ => none)
 | _ => none
theorem BD : ∀ o ls e cl cc, oP o ls = some (e, cl) → cl = uA cc e → ls = wa cc e ∧ v9 e = o ∧ o ≠ .normal ∧ ∀ v, o = .pan v → sc 0 v = true := by
 intro o ls e cl cc h hc
 unfold oP at h
 split at h
 ·split at h
  ·cases h
   exact ⟨rfl, rfl, by simp, by intro v hv; cases hv <;> rfl⟩
  ·cases h
 ·split at h
  ·cases h
   exact ⟨rfl, rfl, by simp, by intro v hv; cases hv <;> rfl⟩
  ·cases h
 ·cases h
def HN (o : an) : ExS := match o with
 | .ret => ⟨1, (none :: none :: some (.ri false) :: (rl none 12 [])), [], fun s => [0], [], []⟩
 | .exit 0 => ⟨1, (rl none 15 []), [], fun s => [0], [], []⟩
 | _ => ⟨0, [], [], fun _ => [], [], []⟩
theorem Gz {R : Type} (cc : LA_ × Nat × Int) (v : Int) (kn : (Int) → Option R) (ke : ((Unit) ⊕ (Unit)) → Option R) : jk cc v kn ke = (jk cc v (fun v => some (Sum.inl v)) fun e => some (Sum.inr e)).bind (Sum.elim kn ke) := by
 simp only [jk, bH, ai, Yg, bZ, bB, Ye, Yf, YF, YE]
def zg : LD where
 CC := LA_ × Nat × Int
 V := Int
 E := (Unit) ⊕ (Unit)
 n := 1
 K := 1
 M := (rl none 5 (some (.vec 0) :: some (.int .i64) :: some (.int .i64) :: (rl none 7 [])))
 B := [(0, .vec 6 false)]
 D := []
 pre := []
 F := fun s => [0]
 toL := Gy
 ofL := v7
 ar := fun ls c v h => by
  unfold v7 at h
  split at h
  ·cases h; rfl
  ·cases h
 ct := jk
 nat := Gz
 sh := HN
 out := v9
 toE := wa
 eY := uA
 ofE := oP
 cQ := BD
 post := fun cc e k => ((Sum.elim (fun e => k (.ret) (bc 1 (none :: none :: some (.bool false) :: (rl none 12 [])) [] [])) (fun e => k (.exit 0) (bc 1 (rl none 15 []) [] []))) e)
 cd := fun cc e k => by rcases e with e | e <;> rfl
theorem GB : cJ YI 1 zg.la (aJ Tryz.f30 0) :=
 LD.ok (ch := tI) (A := bw) aK vZ mixed (fuel := 60) ⟨by kernel_rfl, fun e => by (rcases e with e | e <;> kernel_rfl), fun cc v => by kernel_rfl, aH (l := []) (by kernel_rfl) trivial⟩
def f8 (cs0 : LA_) (n1 : Nat) : Option (Bool) :=
 (Option.bind (tJ (cs0, n1, ((n1 : Nat) : Int)) 0) (Sum.elim (fun e1 => (some false)) (fun e1 => (some true))))
def pI : FD where
 X := Bool
 k := 1
 pre := []
 F := fun s => [0]
 M := .bool
 B := []
 toL := fun x => [.B x]
 ofL := fun ls => match ls with
  | [.B x0] => some x0
  | _ => none
 ar := fun ls x h => by
  split at h
  ·cases h; rfl
  ·cases h
theorem Jm (cs0 : LA_) (n1 : Nat) (x : Bool) (h : f8 cs0 n1 = some x) : aP YI 30 1 [.vec 0] [.vec cs0 n1 6 false] pI x :=
 FD.sem (ch := tI) (A := dL [(2, zg.la)]) (fn := Tryz.f30) (c := br Tryz.f30) (fuel := 60) aK vZ mixed bI pI Tryz.func30 (by kernel_rfl) (aH (l := [aJ Tryz.f30 0]) (by kernel_rfl) ⟨bT (by kernel_rfl) GB, trivial⟩)
  (by kernel_rfl) (Eq.trans (by kernel_rfl) h)
def ui : HK where
 call := fun args σ k => match args with
  | [x0] => cO σ 6 x0 fun cs0 n1 => Option.bind (f8 cs0 n1) fun y => au σ 1 (pI.val y) (pI.aI y) k
  | _ => none
 nat := fun args σ k => by
  repeat' split
  all_goals simp only [ao, ai, Yg, Yf, au, Ye]
 pure := false
 pok := fun h => by cases h
theorem AB : aN YI 30 ui := by
 intro args σ r σ' h
 simp only [ui] at h
 split at h
 ·rename_i x0
  obtain ⟨cs0, n1, he0, hf0, h⟩ := bv h
  obtain ⟨y, hy, h⟩ := bE_ h
  exact aG (xs := [x0]) (ls := [.vec cs0 n1 6 false]) (cargs := [.vec 0]) (bg.of ⟨⟨rfl, he0, hf0, by decide⟩, trivial⟩) rfl (Jm cs0 n1 y hy) rfl rfl rfl rfl h
 ·cases h
def EA : CH := CH.none
theorem AE : aB YI EA := CH.ay
def jh (a0 a1 : Int) : Option (Int) :=
 (some (if a1 > a0 then a1 else a0))
def j8 : FD where
 X := Int
 k := 0
 pre := []
 F := fun s => []
 M := .int .i64
 B := []
 toL := fun x => [.I x]
 ofL := fun ls => match ls with
  | [.I x0] => some x0
  | _ => none
 ar := fun ls x h => by
  split at h
  ·cases h; rfl
  ·cases h
theorem DB (a0 a1 x : Int) (h : jh a0 a1 = some x) : aP YI 41 0 [.int .i64 a0, .int .i64 a1] [] j8 x :=
 FD.semA j8 AE Tryz.func41 (fuel := 60) (by kernel_rfl) (by kernel_rfl)
  (by kernel_rfl) (Eq.trans (by kernel_rfl) h)
def ra : HK where
 call := fun args σ k => match args with
  | [.int .i64 a0, .int .i64 a1] => Option.bind (jh a0 a1) fun y => au σ 0 (j8.val y) (j8.aI y) k
  | _ => none
 nat := fun args σ k => by
  repeat' split
  all_goals simp only [ao, ai, Yg, Yf, au, Ye]
 pure := true
 pok := fun _ args σ r σ' h => by
  split at h
  ·exact aZ h (fun y => rfl) (fun y f => rfl)
  ·cases h
theorem En : aN YI 41 ra := by
 intro args σ r σ' h
 simp only [ra] at h
 split at h
 ·rename_i a0 a1
  obtain ⟨y, hy, h⟩ := bE_ h
  exact aG (xs := []) (ls := []) (cargs := [.int .i64 a0, .int .i64 a1]) (bg.of trivial) rfl (DB a0 a1 y hy) rfl rfl rfl rfl h
 ·cases h
def Em : CH := (CH.add 41 ra CH.none)
theorem Ay : aB YI Em := (CH.aj En CH.ay)
def rb (a0 a1 a2 a3 a4 a5 : Int) : Option (Int × Int × Int) :=
 (Option.bind (jh a0 a3) fun r1 => (Option.bind (jh a1 a4) fun r2 => (Option.bind (jh a2 a5) fun r3 => (some (r1, r2, r3)))))
def jX : FD where
 X := Int × Int × Int
 k := 0
 pre := []
 F := fun s => []
 M := .agg [.int .i64, .int .i64, .int .i64]
 B := []
 toL := fun x => [.I x.1, .I x.2.1, .I x.2.2]
 ofL := fun ls => match ls with
  | [.I x0, .I x1, .I x2] => some (x0, x1, x2)
  | _ => none
 ar := fun ls x h => by
  split at h
  ·cases h; rfl
  ·cases h
theorem Du (a0 a1 a2 a3 a4 a5 : Int) (x : Int × Int × Int) (h : rb a0 a1 a2 a3 a4 a5 = some x) : aP YI 39 0 [.agg [.int .i64 a0, .int .i64 a1, .int .i64 a2], .agg [.int .i64 a3, .int .i64 a4, .int .i64 a5], .func 41 [] []] [] jX x :=
 FD.semA jX Ay Tryz.func39 (fuel := 60) (by kernel_rfl) (by kernel_rfl)
  (by kernel_rfl) (Eq.trans (by kernel_rfl) h)
def re : HK where
 call := fun args σ k => match args with
  | [.agg [.int .i64 a0, .int .i64 a1, .int .i64 a2], .agg [.int .i64 a3, .int .i64 a4, .int .i64 a5], .func 41 [] []] => Option.bind (rb a0 a1 a2 a3 a4 a5) fun y => au σ 0 (jX.val y) (jX.aI y) k
  | _ => none
 nat := fun args σ k => by
  repeat' split
  all_goals simp only [ao, ai, Yg, Yf, au, Ye]
 pure := true
 pok := fun _ args σ r σ' h => by
  split at h
  ·exact aZ h (fun y => rfl) (fun y f => rfl)
  ·cases h
theorem Eo : aN YI 39 re := by
 intro args σ r σ' h
 simp only [re] at h
 split at h
 ·rename_i a0 a1 a2 a3 a4 a5
  obtain ⟨y, hy, h⟩ := bE_ h
  exact aG (xs := []) (ls := []) (cargs := [.agg [.int .i64 a0, .int .i64 a1, .int .i64 a2], .agg [.int .i64 a3, .int .i64 a4, .int .i64 a5], .func 41 [] []]) (bg.of trivial) rfl (Du a0 a1 a2 a3 a4 a5 y hy) rfl rfl rfl rfl h
 ·cases h
def Jp : CH := (CH.add 39 re CH.none)
theorem Ez : aB YI Jp := (CH.aj Eo CH.ay)
def mS (a0 a1 a2 a3 a4 a5 : Int) : Option (Int × Int × Int) :=
 (Option.bind (rb a0 a1 a2 a3 a4 a5) fun r1 => (some (r1.1, r1.2.1, r1.2.2)))
def nY : FD where
 X := Int × Int × Int
 k := 0
 pre := []
 F := fun s => []
 M := .agg [.int .i64, .int .i64, .int .i64]
 B := []
 toL := fun x => [.I x.1, .I x.2.1, .I x.2.2]
 ofL := fun ls => match ls with
  | [.I x0, .I x1, .I x2] => some (x0, x1, x2)
  | _ => none
 ar := fun ls x h => by
  split at h
  ·cases h; rfl
  ·cases h
theorem HP (a0 a1 a2 a3 a4 a5 : Int) (x : Int × Int × Int) (h : mS a0 a1 a2 a3 a4 a5 = some x) : aP YI 28 0 [.agg [.int .i64 a0, .int .i64 a1, .int .i64 a2], .agg [.int .i64 a3, .int .i64 a4, .int .i64 a5]] [] nY x :=
 FD.semA nY Ez Tryz.func28 (fuel := 60) (by kernel_rfl) (by kernel_rfl)
  (by kernel_rfl) (Eq.trans (by kernel_rfl) h)
def rk : HK where
 call := fun args σ k => match args with
  | [.agg [.int .i64 a0, .int .i64 a1, .int .i64 a2], .agg [.int .i64 a3, .int .i64 a4, .int .i64 a5]] => Option.bind (mS a0 a1 a2 a3 a4 a5) fun y => au σ 0 (nY.val y) (nY.aI y) k
  | _ => none
 nat := fun args σ k => by
  repeat' split
  all_goals simp only [ao, ai, Yg, Yf, au, Ye]
 pure := true
 pok := fun _ args σ r σ' h => by
  split at h
  ·exact aZ h (fun y => rfl) (fun y f => rfl)
  ·cases h
theorem zh : aN YI 28 rk := by
 intro args σ r σ' h
 simp only [rk] at h
 split at h
 ·rename_i a0 a1 a2 a3 a4 a5
  obtain ⟨y, hy, h⟩ := bE_ h
  exact aG (xs := []) (ls := []) (cargs := [.agg [.int .i64 a0, .int .i64 a1, .int .i64 a2], .agg [.int .i64 a3, .int .i64 a4, .int .i64 a5]]) (bg.of trivial) rfl (HP a0 a1 a2 a3 a4 a5 y hy) rfl rfl rfl rfl h
 ·cases h
def Jn : CH := (CH.add 30 ui (CH.add 28 rk (CH.add 27 lP CH.none)))
theorem Ey : aB YI Jn := (CH.aj AB (CH.aj zh (CH.aj pZ CH.ay)))
def kq (a0 a1 a2 a3 a4 a5 a6 a7 a8 a9 a10 a11 : Int) : Option (Bool) :=
 (Option.bind (f8 ([.int .i64 a0, .int .i64 a1, .int .i64 a2, .int .i64 a3, .int .i64 a4, .int .i64 a5, .int .i64 a6, .int .i64 a7, .int .i64 a8, .int .i64 a9, .int .i64 a10, .int .i64 a11] : LA_) 2) fun r1 => (cond r1 (Option.bind (mS a0 a1 a2 a6 a7 a8) fun r2 => (Option.bind (ja a3 a4 a5 a9 a10 a11) fun r3 => (Option.bind (f8 ([.int .i64 r2.1, .int .i64 r2.2.1, .int .i64 r2.2.2, .int .i64 r3.1, .int .i64 r3.2.1, .int .i64 r3.2.2] : LA_) 1) fun r4 => (cond r4 (some true) (some false))))) (some false)))
def nX : FD where
 X := Bool
 k := 0
 pre := []
 F := fun s => []
 M := .bool
 B := []
 toL := fun x => [.B x]
 ofL := fun ls => match ls with
  | [.B x0] => some x0
  | _ => none
 ar := fun ls x h => by
  split at h
  ·cases h; rfl
  ·cases h
theorem HO (a0 a1 a2 a3 a4 a5 a6 a7 a8 a9 a10 a11 : Int) (x : Bool) (h : kq a0 a1 a2 a3 a4 a5 a6 a7 a8 a9 a10 a11 = some x) : aP YI 17 0 [.agg [.int .i64 a0, .int .i64 a1, .int .i64 a2, .int .i64 a3, .int .i64 a4, .int .i64 a5], .agg [.int .i64 a6, .int .i64 a7, .int .i64 a8, .int .i64 a9, .int .i64 a10, .int .i64 a11]] [] nX x :=
 FD.semA nX Ey Tryz.func17 (fuel := 60) (by kernel_rfl) (by kernel_rfl)
  (by kernel_rfl) (Eq.trans (by kernel_rfl) h)
def xr : HK where
 call := fun args σ k => match args with
  | [.agg [.int .i64 a0, .int .i64 a1, .int .i64 a2, .int .i64 a3, .int .i64 a4, .int .i64 a5], .agg [.int .i64 a6, .int .i64 a7, .int .i64 a8, .int .i64 a9, .int .i64 a10, .int .i64 a11]] => Option.bind (kq a0 a1 a2 a3 a4 a5 a6 a7 a8 a9 a10 a11) fun y => au σ 0 (nX.val y) (nX.aI y) k
  | _ => none
 nat := fun args σ k => by
  repeat' split
  all_goals simp only [ao, ai, Yg, Yf, au, Ye]
 pure := true
 pok := fun _ args σ r σ' h => by
  split at h
  ·exact aZ h (fun y => rfl) (fun y f => rfl)
  ·cases h
theorem Jo : aN YI 17 xr := by
 intro args σ r σ' h
 simp only [xr] at h
 split at h
 ·rename_i a0 a1 a2 a3 a4 a5 a6 a7 a8 a9 a10 a11
  obtain ⟨y, hy, h⟩ := bE_ h
  exact aG (xs := []) (ls := []) (cargs := [.agg [.int .i64 a0, .int .i64 a1, .int .i64 a2, .int .i64 a3, .int .i64 a4, .int .i64 a5], .agg [.int .i64 a6, .int .i64 a7, .int .i64 a8, .int .i64 a9, .int .i64 a10, .int .i64 a11]]) (bg.of trivial) rfl (HO a0 a1 a2 a3 a4 a5 a6 a7 a8 a9 a10 a11 y hy) rfl rfl rfl rfl h
 ·cases h
def Ew : CH := CH.none
theorem AC : aB YI Ew := CH.ay
def fb (a0 a1 a2 : Int) : Option (Int) :=
 (some (if (IntKind.wrap .i64 (0 - a1)) > (IntKind.wrap .i64 (a0 - a2)) then (IntKind.wrap .i64 (0 - a1)) else (IntKind.wrap .i64 (a0 - a2))))
def j0 : FD where
 X := Int
 k := 1
 pre := []
 F := fun s => [0]
 M := .int .i64
 B := []
 toL := fun x => [.I x]
 ofL := fun ls => match ls with
  | [.I x0] => some x0
  | _ => none
 ar := fun ls x h => by
  split at h
  ·cases h; rfl
  ·cases h
theorem Dx (a0 a1 a2 x : Int) (h : fb a0 a1 a2 = some x) : aP YI 42 1 [.int .i64 a0, .int .i64 a1, .ptr 0 0] [.cells [.int .i64 a2] false none] j0 x :=
 FD.semA j0 AC Tryz.func42 (fuel := 60) (by kernel_rfl) (by kernel_rfl)
  (by kernel_rfl) (Eq.trans (by kernel_rfl) h)
def rf : HK where
 call := fun args σ k => match args with
  | [.int .i64 a0, .int .i64 a1, .ptr b0 0] => match σ.get b0 with | some (.cells [.int .i64 a2] _ _) => (Option.bind (fb a0 a1 a2) fun y => au σ 1 (j0.val y) (j0.aI y) k) | _ => none
  | _ => none
 nat := fun args σ k => by
  repeat' split
  all_goals simp only [ao, ai, Yg, Yf, au, Ye]
 pure := false
 pok := fun h => by cases h
theorem Er : aN YI 42 rf := by
 intro args σ r σ' h
 simp only [rf] at h
 split at h
 ·rename_i a0 a1 b0
  split at h
  ·rename_i a2 own0 gr0 hb0
   obtain ⟨y, hy, h⟩ := bE_ h
   exact aG (xs := [.ptr b0 0]) (ls := [.cells [.int .i64 a2] false none]) (cargs := [.int .i64 a0, .int .i64 a1, .ptr 0 0]) (bg.of ⟨⟨rfl, rfl, by simp, rfl, b0, 0, rfl, by simp [cF, hb0, mQ, sub]⟩, trivial⟩) rfl (Dx a0 a1 a2 y hy) rfl rfl rfl rfl h
  ·cases h
 ·cases h
def Ep : CH := (CH.add 42 rf CH.none)
theorem Az : aB YI Ep := (CH.aj Er CH.ay)
def gG (a0 a1 a2 a3 a4 a5 a6 : Int) : Option (Int × Int × Int) :=
 (Option.bind (fb a0 a3 a6) fun r1 => (Option.bind (fb a1 a4 a6) fun r2 => (Option.bind (fb a2 a5 a6) fun r3 => (some (r1, r2, r3)))))
def jY : FD where
 X := Int × Int × Int
 k := 1
 pre := []
 F := fun s => [0]
 M := .agg [.int .i64, .int .i64, .int .i64]
 B := []
 toL := fun x => [.I x.1, .I x.2.1, .I x.2.2]
 ofL := fun ls => match ls with
  | [.I x0, .I x1, .I x2] => some (x0, x1, x2)
  | _ => none
 ar := fun ls x h => by
  split at h
  ·cases h; rfl
  ·cases h
theorem Dv (a0 a1 a2 a3 a4 a5 a6 : Int) (x : Int × Int × Int) (h : gG a0 a1 a2 a3 a4 a5 a6 = some x) : aP YI 39 1 [.agg [.int .i64 a0, .int .i64 a1, .int .i64 a2], .agg [.int .i64 a3, .int .i64 a4, .int .i64 a5], .func 42 [] [.ptr 0 0]] [.cells [.int .i64 a6] false none] jY x :=
 FD.semA jY Az Tryz.func39 (fuel := 60) (by kernel_rfl) (by kernel_rfl)
  (by kernel_rfl) (Eq.trans (by kernel_rfl) h)
def Ex : CH := CH.none
theorem AD : aB YI Ex := CH.ay
def fc (a0 a1 a2 : Int) : Option (Int) :=
 (some (if a1 < (IntKind.wrap .i64 (a0 + a2)) then a1 else (IntKind.wrap .i64 (a0 + a2))))
def j7 : FD where
 X := Int
 k := 1
 pre := []
 F := fun s => [0]
 M := .int .i64
 B := []
 toL := fun x => [.I x]
 ofL := fun ls => match ls with
  | [.I x0] => some x0
  | _ => none
 ar := fun ls x h => by
  split at h
  ·cases h; rfl
  ·cases h
theorem Dy (a0 a1 a2 x : Int) (h : fc a0 a1 a2 = some x) : aP YI 43 1 [.int .i64 a0, .int .i64 a1, .ptr 0 0] [.cells [.int .i64 a2] false none] j7 x :=
 FD.semA j7 AD Tryz.func43 (fuel := 60) (by kernel_rfl) (by kernel_rfl)
  (by kernel_rfl) (Eq.trans (by kernel_rfl) h)
def rh : HK where
 call := fun args σ k => match args with
  | [.int .i64 a0, .int .i64 a1, .ptr b0 0] => match σ.get b0 with | some (.cells [.int .i64 a2] _ _) => (Option.bind (fc a0 a1 a2) fun y => au σ 1 (j7.val y) (j7.aI y) k) | _ => none
  | _ => none
 nat := fun args σ k => by
  repeat' split
  all_goals simp only [ao, ai, Yg, Yf, au, Ye]
 pure := false
 pok := fun h => by cases h
theorem Et : aN YI 43 rh := by
 intro args σ r σ' h
 simp only [rh] at h
 split at h
 ·rename_i a0 a1 b0
  split at h
  ·rename_i a2 own0 gr0 hb0
   obtain ⟨y, hy, h⟩ := bE_ h
   exact aG (xs := [.ptr b0 0]) (ls := [.cells [.int .i64 a2] false none]) (cargs := [.int .i64 a0, .int .i64 a1, .ptr 0 0]) (bg.of ⟨⟨rfl, rfl, by simp, rfl, b0, 0, rfl, by simp [cF, hb0, mQ, sub]⟩, trivial⟩) rfl (Dy a0 a1 a2 y hy) rfl rfl rfl rfl h
  ·cases h
 ·cases h
def Es : CH := (CH.add 43 rh CH.none)
theorem AA : aB YI Es := (CH.aj Et CH.ay)
def gH (a0 a1 a2 a3 a4 a5 a6 : Int) : Option (Int × Int × Int) :=
 (Option.bind (fc a0 a3 a6) fun r1 => (Option.bind (fc a1 a4 a6) fun r2 => (Option.bind (fc a2 a5 a6) fun r3 => (some (r1, r2, r3)))))
def jZ : FD where
 X := Int × Int × Int
 k := 1
 pre := []
 F := fun s => [0]
 M := .agg [.int .i64, .int .i64, .int .i64]
 B := []
 toL := fun x => [.I x.1, .I x.2.1, .I x.2.2]
 ofL := fun ls => match ls with
  | [.I x0, .I x1, .I x2] => some (x0, x1, x2)
  | _ => none
 ar := fun ls x h => by
  split at h
  ·cases h; rfl
  ·cases h
theorem Dw (a0 a1 a2 a3 a4 a5 a6 : Int) (x : Int × Int × Int) (h : gH a0 a1 a2 a3 a4 a5 a6 = some x) : aP YI 39 1 [.agg [.int .i64 a0, .int .i64 a1, .int .i64 a2], .agg [.int .i64 a3, .int .i64 a4, .int .i64 a5], .func 43 [] [.ptr 0 0]] [.cells [.int .i64 a6] false none] jZ x :=
 FD.semA jZ AA Tryz.func39 (fuel := 60) (by kernel_rfl) (by kernel_rfl)
  (by kernel_rfl) (Eq.trans (by kernel_rfl) h)
def oO : HK where
 call := fun args σ k => match args with
  | [.agg [.int .i64 a0, .int .i64 a1, .int .i64 a2], .agg [.int .i64 a3, .int .i64 a4, .int .i64 a5], .func 42 [] [.ptr b0 0]] => match σ.get b0 with | some (.cells [.int .i64 a6] _ _) => (Option.bind (gG a0 a1 a2 a3 a4 a5 a6) fun y => au σ 1 (jY.val y) (jY.aI y) k) | _ => none
  | [.agg [.int .i64 a0, .int .i64 a1, .int .i64 a2], .agg [.int .i64 a3, .int .i64 a4, .int .i64 a5], .func 43 [] [.ptr b0 0]] => match σ.get b0 with | some (.cells [.int .i64 a6] _ _) => (Option.bind (gH a0 a1 a2 a3 a4 a5 a6) fun y => au σ 1 (jZ.val y) (jZ.aI y) k) | _ => none
  | _ => none
 nat := fun args σ k => by
  repeat' split
  all_goals simp only [ao, ai, Yg, Yf, au, Ye]
 pure := false
 pok := fun h => by cases h
theorem BB : aN YI 39 oO := by
 intro args σ r σ' h
 simp only [oO] at h
 split at h
 ·rename_i a0 a1 a2 a3 a4 a5 b0
  split at h
  ·rename_i a6 own0 gr0 hb0
   obtain ⟨y, hy, h⟩ := bE_ h
   exact aG (xs := [.ptr b0 0]) (ls := [.cells [.int .i64 a6] false none]) (cargs := [.agg [.int .i64 a0, .int .i64 a1, .int .i64 a2], .agg [.int .i64 a3, .int .i64 a4, .int .i64 a5], .func 42 [] [.ptr 0 0]]) (bg.of ⟨⟨rfl, rfl, by simp, rfl, b0, 0, rfl, by simp [cF, hb0, mQ, sub]⟩, trivial⟩) rfl (Dv a0 a1 a2 a3 a4 a5 a6 y hy) rfl rfl rfl rfl h
  ·cases h
 ·rename_i a0 a1 a2 a3 a4 a5 b0
  split at h
  ·rename_i a6 own0 gr0 hb0
   obtain ⟨y, hy, h⟩ := bE_ h
   exact aG (xs := [.ptr b0 0]) (ls := [.cells [.int .i64 a6] false none]) (cargs := [.agg [.int .i64 a0, .int .i64 a1, .int .i64 a2], .agg [.int .i64 a3, .int .i64 a4, .int .i64 a5], .func 43 [] [.ptr 0 0]]) (bg.of ⟨⟨rfl, rfl, by simp, rfl, b0, 0, rfl, by simp [cF, hb0, mQ, sub]⟩, trivial⟩) rfl (Dw a0 a1 a2 a3 a4 a5 a6 y hy) rfl rfl rfl rfl h
  ·cases h
 ·cases h
def Jk : CH := (CH.add 39 oO (CH.add 30 ui CH.none))
theorem Eu : aB YI Jk := (CH.aj BB (CH.aj AB CH.ay))
def mR (a0 a1 a2 a3 a4 a5 a6 : Int) : Option (Int × Int × Int × Int × Int × Int) :=
 (Option.bind (f8 ([.int .i64 a0, .int .i64 a1, .int .i64 a2, .int .i64 a3, .int .i64 a4, .int .i64 a5] : LA_) 1) fun r1 => (cond r1 (cond (decide (a6 < 0)) (Option.bind (gG a0 a1 a2 268435456 268435456 268435456 0) fun r2 => (Option.bind (gH a3 a4 a5 268435456 268435456 268435456 0) fun r3 => (some (r2.1, r2.2.1, r2.2.2, r3.1, r3.2.1, r3.2.2)))) (cond (decide (a6 > 268435456)) (Option.bind (gG a0 a1 a2 268435456 268435456 268435456 0) fun r4 => (Option.bind (gH a3 a4 a5 268435456 268435456 268435456 0) fun r5 => (some (r4.1, r4.2.1, r4.2.2, r5.1, r5.2.1, r5.2.2)))) (Option.bind (gG a0 a1 a2 268435456 268435456 268435456 a6) fun r6 => (Option.bind (gH a3 a4 a5 268435456 268435456 268435456 a6) fun r7 => (some (r6.1, r6.2.1, r6.2.2, r7.1, r7.2.1, r7.2.2)))))) (some (0, 0, 0, 0, 0, 0))))
def nW : FD where
 X := Int × Int × Int × Int × Int × Int
 k := 0
 pre := []
 F := fun s => []
 M := .agg [.int .i64, .int .i64, .int .i64, .int .i64, .int .i64, .int .i64]
 B := []
 toL := fun x => [.I x.1, .I x.2.1, .I x.2.2.1, .I x.2.2.2.1, .I x.s4.1, .I x.s4.2]
 ofL := fun ls => match ls with
  | [.I x0, .I x1, .I x2, .I x3, .I x4, .I x5] => some (x0, x1, x2, x3, x4, x5)
  | _ => none
 ar := fun ls x h => by
  split at h
  ·cases h; rfl
  ·cases h
theorem HL (a0 a1 a2 a3 a4 a5 a6 : Int) (x : Int × Int × Int × Int × Int × Int) (h : mR a0 a1 a2 a3 a4 a5 a6 = some x) : aP YI 29 0 [.agg [.int .i64 a0, .int .i64 a1, .int .i64 a2, .int .i64 a3, .int .i64 a4, .int .i64 a5], .int .i64 a6] [] nW x :=
 FD.semA nW Eu Tryz.func29 (fuel := 60) (by kernel_rfl) (by kernel_rfl)
  (by kernel_rfl) (Eq.trans (by kernel_rfl) h)
def xq : HK where
 call := fun args σ k => match args with
  | [.agg [.int .i64 a0, .int .i64 a1, .int .i64 a2, .int .i64 a3, .int .i64 a4, .int .i64 a5], .int .i64 a6] => Option.bind (mR a0 a1 a2 a3 a4 a5 a6) fun y => au σ 0 (nW.val y) (nW.aI y) k
  | _ => none
 nat := fun args σ k => by
  repeat' split
  all_goals simp only [ao, ai, Yg, Yf, au, Ye]
 pure := true
 pok := fun _ args σ r σ' h => by
  split at h
  ·exact aZ h (fun y => rfl) (fun y f => rfl)
  ·cases h
theorem Jl : aN YI 29 xq := by
 intro args σ r σ' h
 simp only [xq] at h
 split at h
 ·rename_i a0 a1 a2 a3 a4 a5 a6
  obtain ⟨y, hy, h⟩ := bE_ h
  exact aG (xs := []) (ls := []) (cargs := [.agg [.int .i64 a0, .int .i64 a1, .int .i64 a2, .int .i64 a3, .int .i64 a4, .int .i64 a5], .int .i64 a6]) (bg.of trivial) rfl (HL a0 a1 a2 a3 a4 a5 a6 y hy) rfl rfl rfl rfl h
 ·cases h
abbrev eR := Int × Int × Int × Int × Int × Int × Int
abbrev jl := Int × Int × Int × Int × Int × Int
def vo : CH := (CH.add 29 xq (CH.add 28 rk (CH.add 27 lP (CH.add 13 iz CH.none))))
theorem xu : aB YI vo := (CH.aj Jl (CH.aj zh (CH.aj pZ (CH.aj jg CH.ay))))
def fT {R : Type} (cc : Int × LA_ × Nat × Int) (v : eR) (kn : (eR) → Option R) (ke : ((Unit) ⊕ (jl)) → Option R) : Option R :=
 (cond (decide (v.2.2.2.2.2.2 < cc.2.2.2)) (ah (decide (0 ≤ v.2.2.2.2.2.2) && decide (v.2.2.2.2.2.2 < ((cc.2.2.1 : Nat) : Int))) (ah (aw kR cc.2.1 (Int.toNat v.2.2.2.2.2.2 * 3)) (Option.bind (et (ac cc.2.1 ((Int.toNat v.2.2.2.2.2.2 * 3) + 0)) (ac cc.2.1 ((Int.toNat v.2.2.2.2.2.2 * 3) + 1)) (ac cc.2.1 ((Int.toNat v.2.2.2.2.2.2 * 3) + 2))) fun r1 => (cond (r1 != 0) (ke (.inl ())) (Option.bind (ja v.1 v.2.1 v.2.2.1 (ac cc.2.1 ((Int.toNat v.2.2.2.2.2.2 * 3) + 0)) (ac cc.2.1 ((Int.toNat v.2.2.2.2.2.2 * 3) + 1)) (ac cc.2.1 ((Int.toNat v.2.2.2.2.2.2 * 3) + 2))) fun r2 => (Option.bind (mS v.2.2.2.1 v.2.2.2.2.1 v.2.2.2.2.2.1 (ac cc.2.1 ((Int.toNat v.2.2.2.2.2.2 * 3) + 0)) (ac cc.2.1 ((Int.toNat v.2.2.2.2.2.2 * 3) + 1)) (ac cc.2.1 ((Int.toNat v.2.2.2.2.2.2 * 3) + 2))) fun r3 => (kn (r2.1, r2.2.1, r2.2.2, r3.1, r3.2.1, r3.2.2, (IntKind.wrap .i64 (v.2.2.2.2.2.2 + 1)))))))))) (ke (.inr (v.1, v.2.1, v.2.2.1, v.2.2.2.1, v.2.2.2.2.1, v.2.2.2.2.2.1))))
def nZ (cc : Int × LA_ × Nat × Int) (v : eR) : Option ((eR) ⊕ ((Unit) ⊕ (jl))) := fT cc v (fun v => some (Sum.inl v)) fun e => some (Sum.inr e)
def Df (cc : Int × LA_ × Nat × Int) (v : eR) : Option ((Unit) ⊕ (jl)) := dz (nZ cc) v
def HQ (cc : Int × LA_ × Nat × Int) (v : eR) : List af := [.I cc.1, .I cc.2.2.2, .I v.s4.2.2, .I v.1, .I v.2.1, .I v.2.2.1, .I v.2.2.2.1, .I v.s4.1, .I v.s4.2.1, .C cc.2.1, .N cc.2.2.1]
def xv (ls : List af) : Option ((Int × LA_ × Nat × Int) × (eR)) := match ls with
 | [.I x0, .I x1, .I x2, .I x3, .I x4, .I x5, .I x6, .I x7, .I x8, .C x9, .N x10] => some ((x0, x9, x10, x1), (x3, x4, x5, x6, x7, x8, x2))
 | _ => none
def xw (e : (Unit) ⊕ (jl)) : an := ((Sum.elim (fun e => .ret) (fun e => .exit 0)) e)
def xx (cc : Int × LA_ × Nat × Int) (e : (Unit) ⊕ (jl)) : List af := ((Sum.elim (fun e => []) (fun e => [.I cc.1, .I e.1, .I e.2.1, .I e.2.2.1, .I e.2.2.2.1, .I e.s4.1, .I e.s4.2])) e)
def oQ (cc : Int × LA_ × Nat × Int) (e : (Unit) ⊕ (jl)) : List af := ((Sum.elim (fun e => []) (fun e => [.I cc.1])) e)
def p5 (o : an) (ls : List af) : Option (((Unit) ⊕ (jl)) × List af) := match o with
 | .ret => (match ls with
  | [] => some ((.inl ()), [])
  | _ => none)
 | .exit 0 => (match ls with
  | [.I x0, .I x1, .I x2, .I x3, .I x4, .I x5, .I x6] => some ((.inr (x1, x2, x3, x4, x5, x6)), [.I x0])
  | _ => none)
 | _ => none
theorem DC : ∀ o ls e cl cc, p5 o ls = some (e, cl) → cl = oQ cc e → ls = xx cc e ∧ xw e = o ∧ o ≠ .normal ∧ ∀ v, o = .pan v → sc 0 v = true := by
 intro o ls e cl cc h hc
 unfold p5 at h
 split at h
 ·split at h
  ·cases h
   exact ⟨rfl, rfl, by simp, by intro v hv; cases hv <;> rfl⟩
  ·cases h
 ·split at h
  ·cases h
   simp only [oQ, YF, YE, List.cons.injEq, af.I.injEq, and_true] at hc
   obtain rfl := hc
   exact ⟨rfl, rfl, by simp, by intro v hv; cases hv <;> rfl⟩
  ·cases h
 ·cases h
def Jq (o : an) : ExS := match o with
 | .ret => ⟨2, (none :: none :: none :: none :: some (.ptr 1 0) :: some (.cK .i64 7) :: (rl none 45 [])), [(1, .cells [.cK .i64 0, .cK .i64 0, .cK .i64 0, .cK .i64 0, .cK .i64 0, .cK .i64 0] true none)], fun s => [0, ak s 4 []], [], []⟩
 | .exit 0 => ⟨3, (none :: some (.int .i64) :: none :: none :: some (.ptr 1 0) :: none :: some (.ptr 2 0) :: (rl none 44 [])), [(1, .cells [.cK .i64 0, .cK .i64 0, .cK .i64 0, .cK .i64 0, .cK .i64 0, .cK .i64 0] true none), (2, .cells [.int .i64, .int .i64, .int .i64, .int .i64, .int .i64, .int .i64] true none)], fun s => [0, ak s 4 [], ak s 6 []], [], []⟩
 | _ => ⟨0, [], [], fun _ => [], [], []⟩
theorem HR {R : Type} (cc : Int × LA_ × Nat × Int) (v : eR) (kn : (eR) → Option R) (ke : ((Unit) ⊕ (jl)) → Option R) : fT cc v kn ke = (fT cc v (fun v => some (Sum.inl v)) fun e => some (Sum.inr e)).bind (Sum.elim kn ke) := by
 simp only [fT, bH, ai, Yg, bZ, bB, Ye, Yf, YF, YE]
def AF : LD where
 CC := Int × LA_ × Nat × Int
 V := eR
 E := (Unit) ⊕ (jl)
 n := 1
 K := 3
 M := (none :: some (.int .i64) :: none :: none :: some (.ptr 1 0) :: none :: some (.ptr 2 0) :: (rl none 21 (some (.vec 0) :: some (.int .i64) :: some (.int .i64) :: (rl none 20 []))))
 B := [(1, .cells [.cK .i64 0, .cK .i64 0, .cK .i64 0, .cK .i64 0, .cK .i64 0, .cK .i64 0] true none), (2, .cells [.int .i64, .int .i64, .int .i64, .int .i64, .int .i64, .int .i64] true none), (0, .vec 3 false)]
 D := []
 pre := []
 F := fun s => [0, ak s 4 [], ak s 6 []]
 toL := HQ
 ofL := xv
 ar := fun ls c v h => by
  unfold xv at h
  split at h
  ·cases h; rfl
  ·cases h
 ct := fT
 nat := HR
 sh := Jq
 out := xw
 toE := xx
 eY := oQ
 ofE := p5
 cQ := DC
 post := fun cc e k => ((Sum.elim (fun e => k (.ret) (bc 2 (none :: none :: none :: none :: some (.ptr 1 0) :: some (.int .i64 7) :: (rl none 45 [])) [(1, .cells [.int .i64 0, .int .i64 0, .int .i64 0, .int .i64 0, .int .i64 0, .int .i64 0] true none)] [])) (fun e => k (.exit 0) (bc 3 (none :: some (.int .i64 cc.1) :: none :: none :: some (.ptr 1 0) :: none :: some (.ptr 2 0) :: (rl none 44 [])) [(1, .cells [.int .i64 0, .int .i64 0, .int .i64 0, .int .i64 0, .int .i64 0, .int .i64 0] true none), (2, .cells [.int .i64 e.1, .int .i64 e.2.1, .int .i64 e.2.2.1, .int .i64 e.2.2.2.1, .int .i64 e.s4.1, .int .i64 e.s4.2] true none)] []))) e)
 cd := fun cc e k => by rcases e with e | e <;> rfl
theorem HS : cJ YI 1 AF.la (aJ Tryz.f16 0) :=
 LD.ok (ch := vo) (A := bw) aK xu mixed (fuel := 60) ⟨by kernel_rfl, fun e => by (rcases e with e | e <;> kernel_rfl), fun cc v => by kernel_rfl, aH (l := []) (by kernel_rfl) trivial⟩
def jm (cs0 : LA_) (n1 : Nat) (a2 : Int) : Option (eR) :=
 (cond (((n1 : Nat) : Int) == 0) (some (0, 0, 0, 0, 0, 0, 7)) (cond (decide (a2 < 0)) (some (0, 0, 0, 0, 0, 0, 7)) (cond (decide (a2 > 268435456)) (some (0, 0, 0, 0, 0, 0, 7)) (ah (decide (0 ≤ 0) && decide (0 < ((n1 : Nat) : Int))) (ah (aw kR cs0 (Int.toNat 0 * 3)) (ah (decide (0 ≤ 0) && decide (0 < ((n1 : Nat) : Int))) (ah (aw kR cs0 (Int.toNat 0 * 3)) (Option.bind (Df (a2, cs0, n1, ((n1 : Nat) : Int)) ((ac cs0 ((Int.toNat 0 * 3) + 0)), (ac cs0 ((Int.toNat 0 * 3) + 1)), (ac cs0 ((Int.toNat 0 * 3) + 2)), (ac cs0 ((Int.toNat 0 * 3) + 0)), (ac cs0 ((Int.toNat 0 * 3) + 1)), (ac cs0 ((Int.toNat 0 * 3) + 2)), 0)) (Sum.elim (fun e1 => (some (0, 0, 0, 0, 0, 0, 7))) (fun e1 => (Option.bind (mR e1.1 e1.2.1 e1.2.2.1 e1.2.2.2.1 e1.2.2.2.2.1 e1.2.2.2.2.2 a2) fun r2 => (some (r2.1, r2.2.1, r2.2.2.1, r2.2.2.2.1, r2.2.2.2.2.1, r2.2.2.2.2.2, 0)))))))))))))
def rm : FD where
 X := eR
 k := 1
 pre := []
 F := fun s => [0]
 M := .tup [.agg [.int .i64, .int .i64, .int .i64, .int .i64, .int .i64, .int .i64], .int .i64]
 B := []
 toL := fun x => [.I x.1, .I x.2.1, .I x.2.2.1, .I x.2.2.2.1, .I x.s4.1, .I x.s4.2.1, .I x.s4.2.2]
 ofL := fun ls => match ls with
  | [.I x0, .I x1, .I x2, .I x3, .I x4, .I x5, .I x6] => some (x0, x1, x2, x3, x4, x5, x6)
  | _ => none
 ar := fun ls x h => by
  split at h
  ·cases h; rfl
  ·cases h
theorem KJ (cs0 : LA_) (n1 : Nat) (a2 : Int) (x : eR) (h : jm cs0 n1 a2 = some x) : aP YI 16 1 [.vec 0, .int .i64 a2] [.vec cs0 n1 3 false] rm x :=
 FD.sem (ch := vo) (A := dL [(5, AF.la)]) (fn := Tryz.f16) (c := br Tryz.f16) (fuel := 60) aK xu mixed bI rm Tryz.func16 (by kernel_rfl) (aH (l := [aJ Tryz.f16 0]) (by kernel_rfl) ⟨bT (by kernel_rfl) HS, trivial⟩)
  (by kernel_rfl) (Eq.trans (by kernel_rfl) h)
def BE : HK where
 call := fun args σ k => match args with
  | [x0, .int .i64 a2] => cO σ 3 x0 fun cs0 n1 => Option.bind (jm cs0 n1 a2) fun y => au σ 1 (rm.val y) (rm.aI y) k
  | _ => none
 nat := fun args σ k => by
  repeat' split
  all_goals simp only [ao, ai, Yg, Yf, au, Ye]
 pure := false
 pok := fun h => by cases h
theorem Mn : aN YI 16 BE := by
 intro args σ r σ' h
 simp only [BE] at h
 split at h
 ·rename_i x0 a2
  obtain ⟨cs0, n1, he0, hf0, h⟩ := bv h
  obtain ⟨y, hy, h⟩ := bE_ h
  exact aG (xs := [x0]) (ls := [.vec cs0 n1 3 false]) (cargs := [.vec 0, .int .i64 a2]) (bg.of ⟨⟨rfl, he0, hf0, by decide⟩, trivial⟩) rfl (KJ cs0 n1 a2 y hy) rfl rfl rfl rfl h
 ·cases h
abbrev cD := LA_ × Nat × Int × Int × Int
def iV : CH := CH.none
theorem lU : aB YI iV := CH.ay
def bR {R : Type} (cc : cD) (v : LA_ × Nat × Int) (kn : (LA_ × Nat × Int) → Option R) (ke : ((Unit) ⊕ (LA_ × Nat)) → Option R) : Option R :=
 (cond (decide (v.2.2 < ((cc.2.1 : Nat) : Int))) (ah (decide (0 ≤ v.2.2) && decide (v.2.2 < ((cc.2.1 : Nat) : Int))) (ah (aw kR cc.1 (Int.toNat v.2.2 * 3)) (cond (decide ((if (ac cc.1 ((Int.toNat v.2.2 * 3) + 2)) > (if (ac cc.1 ((Int.toNat v.2.2 * 3) + 1)) > (ac cc.1 ((Int.toNat v.2.2 * 3) + 0)) then (ac cc.1 ((Int.toNat v.2.2 * 3) + 1)) else (ac cc.1 ((Int.toNat v.2.2 * 3) + 0))) then (ac cc.1 ((Int.toNat v.2.2 * 3) + 2)) else (if (ac cc.1 ((Int.toNat v.2.2 * 3) + 1)) > (ac cc.1 ((Int.toNat v.2.2 * 3) + 0)) then (ac cc.1 ((Int.toNat v.2.2 * 3) + 1)) else (ac cc.1 ((Int.toNat v.2.2 * 3) + 0)))) > 67108864)) (ke (.inl ())) (cond (decide ((if (ac cc.1 ((Int.toNat v.2.2 * 3) + 2)) < (if (ac cc.1 ((Int.toNat v.2.2 * 3) + 1)) < (ac cc.1 ((Int.toNat v.2.2 * 3) + 0)) then (ac cc.1 ((Int.toNat v.2.2 * 3) + 1)) else (ac cc.1 ((Int.toNat v.2.2 * 3) + 0))) then (ac cc.1 ((Int.toNat v.2.2 * 3) + 2)) else (if (ac cc.1 ((Int.toNat v.2.2 * 3) + 1)) < (ac cc.1 ((Int.toNat v.2.2 * 3) + 0)) then (ac cc.1 ((Int.toNat v.2.2 * 3) + 1)) else (ac cc.1 ((Int.toNat v.2.2 * 3) + 0)))) < (-67108864))) (ke (.inl ())) (ah (decide (2 * (v.2.1 + 1) * 24 ≤ 2 ^ 48)) (kn ((v.1 ++ [.int .i64 (IntKind.wrap .i64 ((ac cc.1 ((Int.toNat v.2.2 * 3) + 0)) + cc.2.2.1)), .int .i64 (IntKind.wrap .i64 ((ac cc.1 ((Int.toNat v.2.2 * 3) + 1)) + cc.2.2.2.1)), .int .i64 (IntKind.wrap .i64 ((ac cc.1 ((Int.toNat v.2.2 * 3) + 2)) + cc.2.2.2.2))]), (v.2.1 + 1), (IntKind.wrap .i64 (v.2.2 + 1))))))))) (ke (.inr (v.1, v.2.1))))
def cW (cc : cD) (v : LA_ × Nat × Int) : Option ((LA_ × Nat × Int) ⊕ ((Unit) ⊕ (LA_ × Nat))) := bR cc v (fun v => some (Sum.inl v)) fun e => some (Sum.inr e)
def oG (cc : cD) (v : LA_ × Nat × Int) : Option ((Unit) ⊕ (LA_ × Nat)) := dz (cW cc) v
def vz (cc : cD) (v : LA_ × Nat × Int) : List af := [.I v.2.2, .C cc.1, .N cc.2.1, .I cc.2.2.1, .I cc.2.2.2.1, .I cc.s4, .C v.1, .N v.2.1]
def lV (ls : List af) : Option ((cD) × (LA_ × Nat × Int)) := match ls with
 | [.I x0, .C x1, .N x2, .I x3, .I x4, .I x5, .C x6, .N x7] => some ((x1, x2, x3, x4, x5), (x6, x7, x0))
 | _ => none
def lW (e : (Unit) ⊕ (LA_ × Nat)) : an := ((Sum.elim (fun e => .ret) (fun e => .exit 0)) e)
def lX (cc : cD) (e : (Unit) ⊕ (LA_ × Nat)) : List af := ((Sum.elim (fun e => []) (fun e => [.C e.1, .N e.2])) e)
def kU (cc : cD) (e : (Unit) ⊕ (LA_ × Nat)) : List af := ((Sum.elim (fun e => []) (fun e => [])) e)
def gR (o : an) (ls : List af) : Option (((Unit) ⊕ (LA_ × Nat)) × List af) := match o with
 | .ret => (match ls with
  | [] => some ((.inl ()), [])
  | _ => none)
 | .exit 0 => (match ls with
  | [.C x0, .N x1] => some ((.inr (x0, x1)), [])
  | _ => none)
 | _ => none
theorem tf : ∀ o ls e cl cc, gR o ls = some (e, cl) → cl = kU cc e → ls = lX cc e ∧ lW e = o ∧ o ≠ .normal ∧ ∀ v, o = .pan v → sc 0 v = true := by
 intro o ls e cl cc h hc
 unfold gR at h
 split at h
 ·split at h
  ·cases h
   exact ⟨rfl, rfl, by simp, by intro v hv; cases hv <;> rfl⟩
  ·cases h
 ·split at h
  ·cases h
   exact ⟨rfl, rfl, by simp, by intro v hv; cases hv <;> rfl⟩
  ·cases h
 ·cases h
def wM (o : an) : ExS := match o with
 | .ret => ⟨1, (none :: none :: none :: none :: some (.aM) :: some (.ri false) :: (rl none 51 [])), [], fun s => [0], [], []⟩
 | .exit 0 => ⟨2, (rl none 6 (some (.vec 1) :: (rl none 50 []))), [(1, .vec 3 true)], fun s => [0, ak s 6 []], [], []⟩
 | _ => ⟨0, [], [], fun _ => [], [], []⟩
theorem vA {R : Type} (cc : cD) (v : LA_ × Nat × Int) (kn : (LA_ × Nat × Int) → Option R) (ke : ((Unit) ⊕ (LA_ × Nat)) → Option R) : bR cc v kn ke = (bR cc v (fun v => some (Sum.inl v)) fun e => some (Sum.inr e)).bind (Sum.elim kn ke) := by
 simp only [bR, bH, ai, Yg, bZ, bB, Ye, Yf, YF, YE]
def ng : LD where
 CC := cD
 V := LA_ × Nat × Int
 E := (Unit) ⊕ (LA_ × Nat)
 n := 1
 K := 3
 M := (some (.vec 0) :: none :: none :: some (.ptr 1 0) :: none :: none :: some (.vec 2) :: some (.int .i64) :: (rl none 49 []))
 B := [(0, .vec 3 false), (1, .cells [.int .i64, .int .i64, .int .i64] true none), (2, .vec 3 true)]
 D := []
 pre := [(6, 3)]
 F := fun s => [0, ak s 3 [], ak s 6 []]
 toL := vz
 ofL := lV
 ar := fun ls c v h => by
  unfold lV at h
  split at h
  ·cases h; rfl
  ·cases h
 ct := bR
 nat := vA
 sh := wM
 out := lW
 toE := lX
 eY := kU
 ofE := gR
 cQ := tf
 post := fun cc e k => ((Sum.elim (fun e => k (.ret) (bc 1 (none :: none :: none :: none :: some (.aM) :: some (.bool false) :: (rl none 51 [])) [] [])) (fun e => k (.exit 0) (bc 2 (rl none 6 (some (.vec 1) :: (rl none 50 []))) [(1, .vec e.1 e.2 3 true)] []))) e)
 cd := fun cc e k => by rcases e with e | e <;> rfl
theorem vB : cJ YI 1 ng.la (aJ Tryz.f14 0) :=
 LD.ok (ch := iV) (A := bw) aK lU mixed (fuel := 60) ⟨by kernel_rfl, fun e => by (rcases e with e | e <;> kernel_rfl), fun cc v => by kernel_rfl, aH (l := []) (by kernel_rfl) trivial⟩
def dn (cs0 : LA_) (n1 : Nat) (a2 a3 a4 : Int) : Option (Bool × LA_ × Nat) :=
 (Option.bind (oG (cs0, n1, a2, a3, a4) (([] : LA_), 0, 0)) (Sum.elim (fun e1 => (some (false, ([] : LA_), 0))) (fun e1 => (some (true, e1.1, e1.2)))))
def gb : FD where
 X := Bool × LA_ × Nat
 k := 1
 pre := [(4, 3)]
 F := fun s => [0, ak s 0 [.c 0]]
 M := .tup [.vec 1, .bool]
 B := [.vec 3 true]
 toL := fun x => [.B x.1, .C x.2.1, .N x.2.2]
 ofL := fun ls => match ls with
  | [.B x0, .C x1, .N x2] => some (x0, x1, x2)
  | _ => none
 ar := fun ls x h => by
  split at h
  ·cases h; rfl
  ·cases h
theorem ya (cs0 : LA_) (n1 : Nat) (a2 a3 a4 : Int) (x : Bool × LA_ × Nat) (h : dn cs0 n1 a2 a3 a4 = some x) : aP YI 14 1 [.vec 0, .agg [.int .i64 a2, .int .i64 a3, .int .i64 a4]] [.vec cs0 n1 3 false] gb x :=
 FD.sem (ch := iV) (A := dL [(3, ng.la)]) (fn := Tryz.f14) (c := br Tryz.f14) (fuel := 60) aK lU mixed bI gb Tryz.func14 (by kernel_rfl) (aH (l := [aJ Tryz.f14 0]) (by kernel_rfl) ⟨bT (by kernel_rfl) vB, trivial⟩)
  (by kernel_rfl) (Eq.trans (by kernel_rfl) h)
def lj : HK where
 call := fun args σ k => match args with
  | [x0, .agg [.int .i64 a2, .int .i64 a3, .int .i64 a4]] => cO σ 3 x0 fun cs0 n1 => Option.bind (dn cs0 n1 a2 a3 a4) fun y => au σ 1 (gb.val y) (gb.aI y) k
  | _ => none
 nat := fun args σ k => by
  repeat' split
  all_goals simp only [ao, ai, Yg, Yf, au, Ye]
 pure := false
 pok := fun h => by cases h
theorem yU : aN YI 14 lj := by
 intro args σ r σ' h
 simp only [lj] at h
 split at h
 ·rename_i x0 a2 a3 a4
  obtain ⟨cs0, n1, he0, hf0, h⟩ := bv h
  obtain ⟨y, hy, h⟩ := bE_ h
  exact aG (xs := [x0]) (ls := [.vec cs0 n1 3 false]) (cargs := [.vec 0, .agg [.int .i64 a2, .int .i64 a3, .int .i64 a4]]) (bg.of ⟨⟨rfl, he0, hf0, by decide⟩, trivial⟩) rfl (ya cs0 n1 a2 a3 a4 y hy) rfl rfl rfl rfl h
 ·cases h
abbrev ck := LA_ × Nat × LA_ × Nat × Bool × Int
abbrev cn := LA_ × Nat × LA_ × Nat × Bool
def lS : CH := (CH.add 17 xr (CH.add 16 BE (CH.add 15 iU (CH.add 14 lj (CH.add 13 iz (CH.add 9 uj (CH.add 5 K4 CH.none)))))))
def eX : CH := xG YI kc [11] 60 lS 5
theorem s7 : aB YI lS := (CH.aj Jo (CH.aj Mn (CH.aj vx (CH.aj yU (CH.aj jg (CH.aj AH (CH.aj Qh CH.ay)))))))
theorem fX : aB YI eX := ju aK mixed bI s7 5
def bQ {R : Type} (cc : ck) (v : Bool × Int) (kn : (Bool × Int) → Option R) (ke : ((Bool)) → Option R) : Option R :=
 (cond (decide (v.2 < ((cc.2.2.2.1 : Nat) : Int))) (cond v.1 (kn (true, (IntKind.wrap .i64 (v.2 + 1)))) (ah (decide (0 ≤ cc.2.2.2.2.2) && decide (cc.2.2.2.2.2 < ((cc.2.1 : Nat) : Int))) (ah (aw kR cc.1 (Int.toNat cc.2.2.2.2.2 * 3)) (ah (decide (0 ≤ v.2) && decide (v.2 < ((cc.2.2.2.1 : Nat) : Int))) (ah (aw kR cc.2.2.1 (Int.toNat v.2 * 3)) (cond ((ac cc.1 ((Int.toNat cc.2.2.2.2.2 * 3) + 0)) == (ac cc.2.2.1 ((Int.toNat v.2 * 3) + 0)) && ((ac cc.1 ((Int.toNat cc.2.2.2.2.2 * 3) + 1)) == (ac cc.2.2.1 ((Int.toNat v.2 * 3) + 1)) && ((ac cc.1 ((Int.toNat cc.2.2.2.2.2 * 3) + 2)) == (ac cc.2.2.1 ((Int.toNat v.2 * 3) + 2)) && true))) (kn (true, (IntKind.wrap .i64 (v.2 + 1)))) (kn (false, (IntKind.wrap .i64 (v.2 + 1)))))))))) (ke v.1))
def di (cc : ck) (v : Bool × Int) : Option ((Bool × Int) ⊕ ((Bool))) := bQ cc v (fun v => some (Sum.inl v)) fun e => some (Sum.inr e)
def lT (cc : ck) (v : Bool × Int) : Option ((Bool)) := dz (di cc) v
def s9 (cc : ck) (v : Bool × Int) : List af := [.B cc.s4.1, .B v.1, .I cc.s4.2, .I v.2, .C cc.1, .N cc.2.1, .C cc.2.2.1, .N cc.2.2.2.1]
def jQ (ls : List af) : Option ((ck) × (Bool × Int)) := match ls with
 | [.B x0, .B x1, .I x2, .I x3, .C x4, .N x5, .C x6, .N x7] => some ((x4, x5, x6, x7, x0, x2), (x1, x3))
 | _ => none
def jR (e : (Bool)) : an := ((fun e => .exit 2) e)
def jS (cc : ck) (e : (Bool)) : List af := ((fun e => [.B cc.s4.1, .B e, .I cc.s4.2, .C cc.1, .N cc.2.1, .C cc.2.2.1, .N cc.2.2.2.1]) e)
def fk (cc : ck) (e : (Bool)) : List af := ((fun e => [.B cc.s4.1, .I cc.s4.2, .C cc.1, .N cc.2.1, .C cc.2.2.1, .N cc.2.2.2.1]) e)
def fK (o : an) (ls : List af) : Option (((Bool)) × List af) := match o with
 | .exit 2 => (match ls with
  | [.B x0, .B x1, .I x2, .C x3, .N x4, .C x5, .N x6] => some (x1, [.B x0, .I x2, .C x3, .N x4, .C x5, .N x6])
  | _ => none)
 | _ => none
theorem qb : ∀ o ls e cl cc, fK o ls = some (e, cl) → cl = fk cc e → ls = jS cc e ∧ jR e = o ∧ o ≠ .normal ∧ ∀ v, o = .pan v → sc 0 v = true := by
 intro o ls e cl cc h hc
 unfold fK at h
 split at h
 ·split at h
  ·cases h
   simp only [fk, List.cons.injEq, af.I.injEq, af.B.injEq, af.N.injEq, af.C.injEq, and_true] at hc
   obtain ⟨rfl, rfl, rfl, rfl, rfl, rfl⟩ := hc
   exact ⟨rfl, rfl, by simp, by intro v hv; cases hv <;> rfl⟩
  ·cases h
 ·cases h
def tN (o : an) : ExS := match o with
 | .exit 2 => ⟨2, (some (.vec 0) :: some (.vec 1) :: (rl none 17 (some (.bool) :: some (.bool) :: some (.int .i64) :: (rl none 192 [])))), [(0, .vec 3 false), (1, .vec 3 false)], fun s => [0, 1], [], []⟩
 | _ => ⟨0, [], [], fun _ => [], [], []⟩
theorem ta {R : Type} (cc : ck) (v : Bool × Int) (kn : (Bool × Int) → Option R) (ke : ((Bool)) → Option R) : bQ cc v kn ke = (bQ cc v (fun v => some (Sum.inl v)) fun e => some (Sum.inr e)).bind (Sum.elim kn ke) := by
 simp only [bQ, bH, ai, Yg, bZ, bB, Ye, Yf, YF, YE]
def gt : LD where
 CC := ck
 V := Bool × Int
 E := (Bool)
 n := 2
 K := 2
 M := (some (.vec 0) :: some (.vec 1) :: (rl none 17 (some (.bool) :: some (.bool) :: some (.int .i64) :: some (.int .i64) :: (rl none 191 []))))
 B := [(0, .vec 3 false), (1, .vec 3 false)]
 D := []
 pre := []
 F := fun s => [0, 1]
 toL := s9
 ofL := jQ
 ar := fun ls c v h => by
  unfold jQ at h
  split at h
  ·cases h; rfl
  ·cases h
 ct := bQ
 nat := ta
 sh := tN
 out := jR
 toE := jS
 eY := fk
 ofE := fK
 cQ := qb
 post := fun cc e k => ((fun e => k (.exit 2) (bc 2 (some (.vec 0) :: some (.vec 1) :: (rl none 17 (some (.bool cc.s4.1) :: some (.bool e) :: some (.int .i64 cc.s4.2) :: (rl none 192 [])))) [(0, .vec cc.1 cc.2.1 3 false), (1, .vec cc.2.2.1 cc.2.2.2.1 3 false)] [])) e)
 cd := fun cc e k => by rfl
theorem jT : cJ YI 2 gt.la (aJ Tryz.f4 1) :=
 LD.ok (ch := eX) (A := bw) aK fX mixed (fuel := 60) ⟨by kernel_rfl, fun e => by kernel_rfl, fun cc v => by kernel_rfl, aH (l := []) (by kernel_rfl) trivial⟩
def ce {R : Type} (cc : cn) (v : Bool × Int) (kn : (Bool × Int) → Option R) (ke : ((Bool)) → Option R) : Option R :=
 (cond (decide (v.2 < ((cc.2.1 : Nat) : Int))) (Option.bind (lT (cc.1, cc.2.1, cc.2.2.1, cc.2.2.2.1, cc.2.2.2.2, v.2) (v.1, 0)) fun e16 => (kn (e16, (IntKind.wrap .i64 (v.2 + 1))))) (ke v.1))
def ej (cc : cn) (v : Bool × Int) : Option ((Bool × Int) ⊕ ((Bool))) := ce cc v (fun v => some (Sum.inl v)) fun e => some (Sum.inr e)
def gQ (cc : cn) (v : Bool × Int) : Option ((Bool)) := dz (ej cc) v
def tb (cc : cn) (v : Bool × Int) : List af := [.B cc.s4, .B v.1, .I v.2, .C cc.1, .N cc.2.1, .C cc.2.2.1, .N cc.2.2.2.1]
def jU (ls : List af) : Option ((cn) × (Bool × Int)) := match ls with
 | [.B x0, .B x1, .I x2, .C x3, .N x4, .C x5, .N x6] => some ((x3, x4, x5, x6, x0), (x1, x2))
 | _ => none
def jV (e : (Bool)) : an := ((fun e => .exit 0) e)
def jW (cc : cn) (e : (Bool)) : List af := ((fun e => [.B cc.s4, .B e, .C cc.1, .N cc.2.1, .C cc.2.2.1, .N cc.2.2.2.1]) e)
def fp (cc : cn) (e : (Bool)) : List af := ((fun e => [.B cc.s4, .C cc.1, .N cc.2.1, .C cc.2.2.1, .N cc.2.2.2.1]) e)
def fL (o : an) (ls : List af) : Option (((Bool)) × List af) := match o with
 | .exit 0 => (match ls with
  | [.B x0, .B x1, .C x2, .N x3, .C x4, .N x5] => some (x1, [.B x0, .C x2, .N x3, .C x4, .N x5])
  | _ => none)
 | _ => none
theorem qd : ∀ o ls e cl cc, fL o ls = some (e, cl) → cl = fp cc e → ls = jW cc e ∧ jV e = o ∧ o ≠ .normal ∧ ∀ v, o = .pan v → sc 0 v = true := by
 intro o ls e cl cc h hc
 unfold fL at h
 split at h
 ·split at h
  ·cases h
   simp only [fp, List.cons.injEq, af.B.injEq, af.N.injEq, af.C.injEq, and_true] at hc
   obtain ⟨rfl, rfl, rfl, rfl, rfl⟩ := hc
   exact ⟨rfl, rfl, by simp, by intro v hv; cases hv <;> rfl⟩
  ·cases h
 ·cases h
def tO (o : an) : ExS := match o with
 | .exit 0 => ⟨2, (some (.vec 0) :: some (.vec 1) :: (rl none 17 (some (.bool) :: some (.bool) :: (rl none 193 [])))), [(0, .vec 3 false), (1, .vec 3 false)], fun s => [0, 1], [], []⟩
 | _ => ⟨0, [], [], fun _ => [], [], []⟩
theorem tc {R : Type} (cc : cn) (v : Bool × Int) (kn : (Bool × Int) → Option R) (ke : ((Bool)) → Option R) : ce cc v kn ke = (ce cc v (fun v => some (Sum.inl v)) fun e => some (Sum.inr e)).bind (Sum.elim kn ke) := by
 simp only [ce, bH, ai, Yg, bZ, bB, Ye, Yf, YF, YE]
def kT : LD where
 CC := cn
 V := Bool × Int
 E := (Bool)
 n := 2
 K := 2
 M := (some (.vec 0) :: some (.vec 1) :: (rl none 17 (some (.bool) :: some (.bool) :: some (.int .i64) :: (rl none 192 []))))
 B := [(0, .vec 3 false), (1, .vec 3 false)]
 D := []
 pre := []
 F := fun s => [0, 1]
 toL := tb
 ofL := jU
 ar := fun ls c v h => by
  unfold jU at h
  split at h
  ·cases h; rfl
  ·cases h
 ct := ce
 nat := tc
 sh := tO
 out := jV
 toE := jW
 eY := fp
 ofE := fL
 cQ := qd
 post := fun cc e k => ((fun e => k (.exit 0) (bc 2 (some (.vec 0) :: some (.vec 1) :: (rl none 17 (some (.bool cc.s4) :: some (.bool e) :: (rl none 193 [])))) [(0, .vec cc.1 cc.2.1 3 false), (1, .vec cc.2.2.1 cc.2.2.2.1 3 false)] [])) e)
 cd := fun cc e k => by rfl
theorem te : cJ YI 2 kT.la (aJ Tryz.f4 0) :=
 LD.ok (ch := eX) (A := dL [(24, gt.la)]) aK fX mixed (fuel := 60) ⟨by kernel_rfl, fun e => by kernel_rfl, fun cc v => by kernel_rfl, aH (l := [aJ Tryz.f4 1]) (by kernel_rfl) ⟨bT (by kernel_rfl) jT, trivial⟩⟩
def jJ (cs0 : LA_) (n1 : Nat) (cs2 : LA_) (n3 : Nat) (a4 a5 a6 : Int) : Option (Bool) :=
 (cond (decide (((n1 : Nat) : Int) > 60)) (Option.bind (kz) fun r1 => (some true)) (cond (decide (((n3 : Nat) : Int) > 60)) (Option.bind (kz) fun r2 => (some true)) (cond (decide ((IntKind.wrap .i64 (((n1 : Nat) : Int) * ((n3 : Nat) : Int))) > 60)) (Option.bind (kz) fun r3 => (some true)) (Option.bind (et a4 a5 a6) fun r4 => (cond (r4 != 0) (Option.bind (kz) fun r5 => (some true)) (Option.bind (dn cs0 n1 (IntKind.wrap .i64 (Int.tdiv a4 8)) (IntKind.wrap .i64 (Int.tdiv a5 8)) (IntKind.wrap .i64 (Int.tdiv a6 8))) fun r6 => (cond r6.1 (Option.bind (dn cs2 n3 (IntKind.wrap .i64 (Int.tdiv a4 8)) (IntKind.wrap .i64 (Int.tdiv a5 8)) (IntKind.wrap .i64 (Int.tdiv a6 8))) fun r7 => (cond r7.1 (Option.bind (dQ cs0 n1 cs2 n3) fun r8 => (Option.bind (dQ cs2 n3 cs0 n1) fun r9 => (Option.bind (dQ r6.2.1 r6.2.2 r7.2.1 r7.2.2) fun r10 => (cond (r8.2.2.2.2.1 != r9.2.2.2.2.1) (some false) (cond (r8.2.2.2.2.1 != r10.2.2.2.2.1) (some false) (cond (r8.2.2.2.2.1 != 0) (cond (((n1 : Nat) : Int) == 0) (cond (r8.2.2.2.2.1 == 2) (Option.bind (kz) fun r11 => (some true)) (some false)) (cond (((n3 : Nat) : Int) == 0) (cond (r8.2.2.2.2.1 == 2) (Option.bind (kz) fun r12 => (some true)) (some false)) (some false))) (Option.bind (dY r8.1) fun r13 => (Option.bind (dY r8.2.1) fun r14 => (Option.bind (dY r8.2.2.1) fun r15 => (cond (!((aa r9.1 0) == (aa r13 0) && ((aa r9.1 1) == (aa r13 1) && ((aa r9.1 2) == (aa r13 2) && ((aa r9.1 3) == (aa r13 3) && ((aa r9.1 4) == (aa r13 4) && ((aa r9.1 5) == (aa r13 5) && ((aa r9.1 6) == (aa r13 6) && ((aa r9.1 7) == (aa r13 7) && ((aa r9.2.1 0) == (aa r14 0) && ((aa r9.2.1 1) == (aa r14 1) && ((aa r9.2.1 2) == (aa r14 2) && ((aa r9.2.1 3) == (aa r14 3) && ((aa r9.2.1 4) == (aa r14 4) && ((aa r9.2.1 5) == (aa r14 5) && ((aa r9.2.1 6) == (aa r14 6) && ((aa r9.2.1 7) == (aa r14 7) && ((aa r9.2.2.1 0) == (aa r15 0) && ((aa r9.2.2.1 1) == (aa r15 1) && ((aa r9.2.2.1 2) == (aa r15 2) && ((aa r9.2.2.1 3) == (aa r15 3) && ((aa r9.2.2.1 4) == (aa r15 4) && ((aa r9.2.2.1 5) == (aa r15 5) && ((aa r9.2.2.1 6) == (aa r15 6) && ((aa r9.2.2.1 7) == (aa r15 7) && true))))))))))))))))))))))))) (some false) (cond (!((aa r9.2.2.2.1 0) == (aa r8.2.2.2.1 0) && ((aa r9.2.2.2.1 1) == (aa r8.2.2.2.1 1) && ((aa r9.2.2.2.1 2) == (aa r8.2.2.2.1 2) && ((aa r9.2.2.2.1 3) == (aa r8.2.2.2.1 3) && ((aa r9.2.2.2.1 4) == (aa r8.2.2.2.1 4) && ((aa r9.2.2.2.1 5) == (aa r8.2.2.2.1 5) && ((aa r9.2.2.2.1 6) == (aa r8.2.2.2.1 6) && ((aa r9.2.2.2.1 7) == (aa r8.2.2.2.1 7) && true))))))))) (some false) (cond ((aa r8.1 0) == (aa r10.1 0) && ((aa r8.1 1) == (aa r10.1 1) && ((aa r8.1 2) == (aa r10.1 2) && ((aa r8.1 3) == (aa r10.1 3) && ((aa r8.1 4) == (aa r10.1 4) && ((aa r8.1 5) == (aa r10.1 5) && ((aa r8.1 6) == (aa r10.1 6) && ((aa r8.1 7) == (aa r10.1 7) && ((aa r8.2.1 0) == (aa r10.2.1 0) && ((aa r8.2.1 1) == (aa r10.2.1 1) && ((aa r8.2.1 2) == (aa r10.2.1 2) && ((aa r8.2.1 3) == (aa r10.2.1 3) && ((aa r8.2.1 4) == (aa r10.2.1 4) && ((aa r8.2.1 5) == (aa r10.2.1 5) && ((aa r8.2.1 6) == (aa r10.2.1 6) && ((aa r8.2.1 7) == (aa r10.2.1 7) && ((aa r8.2.2.1 0) == (aa r10.2.2.1 0) && ((aa r8.2.2.1 1) == (aa r10.2.2.1 1) && ((aa r8.2.2.1 2) == (aa r10.2.2.1 2) && ((aa r8.2.2.1 3) == (aa r10.2.2.1 3) && ((aa r8.2.2.1 4) == (aa r10.2.2.1 4) && ((aa r8.2.2.1 5) == (aa r10.2.2.1 5) && ((aa r8.2.2.1 6) == (aa r10.2.2.1 6) && ((aa r8.2.2.1 7) == (aa r10.2.2.1 7) && true)))))))))))))))))))))))) (cond ((aa r8.2.2.2.1 0) == (aa r10.2.2.2.1 0) && ((aa r8.2.2.2.1 1) == (aa r10.2.2.2.1 1) && ((aa r8.2.2.2.1 2) == (aa r10.2.2.2.1 2) && ((aa r8.2.2.2.1 3) == (aa r10.2.2.2.1 3) && ((aa r8.2.2.2.1 4) == (aa r10.2.2.2.1 4) && ((aa r8.2.2.2.1 5) == (aa r10.2.2.2.1 5) && ((aa r8.2.2.2.1 6) == (aa r10.2.2.2.1 6) && ((aa r8.2.2.2.1 7) == (aa r10.2.2.2.1 7) && true)))))))) (cond ((aa r8.1 0) == 0 && ((aa r8.1 1) == 0 && ((aa r8.1 2) == 0 && ((aa r8.1 3) == 0 && ((aa r8.1 4) == 0 && ((aa r8.1 5) == 0 && ((aa r8.1 6) == 0 && ((aa r8.1 7) == 0 && ((aa r8.2.1 0) == 0 && ((aa r8.2.1 1) == 0 && ((aa r8.2.1 2) == 0 && ((aa r8.2.1 3) == 0 && ((aa r8.2.1 4) == 0 && ((aa r8.2.1 5) == 0 && ((aa r8.2.1 6) == 0 && ((aa r8.2.1 7) == 0 && ((aa r8.2.2.1 0) == 0 && ((aa r8.2.2.1 1) == 0 && ((aa r8.2.2.1 2) == 0 && ((aa r8.2.2.1 3) == 0 && ((aa r8.2.2.1 4) == 0 && ((aa r8.2.2.1 5) == 0 && ((aa r8.2.2.1 6) == 0 && ((aa r8.2.2.1 7) == 0 && true)))))))))))))))))))))))) (Option.bind (gQ (cs0, n1, cs2, n3, true) (false, 0)) fun e16 => (Option.bind (jm cs0 n1 0) fun r17 => (Option.bind (jm cs2 n3 0) fun r18 => (cond (r17.2.2.2.2.2.2 == 0) (cond (r18.2.2.2.2.2.2 == 0) (cond e16 (Option.bind (kq r17.1 r17.2.1 r17.2.2.1 r17.2.2.2.1 r17.2.2.2.2.1 r17.2.2.2.2.2.1 r18.1 r18.2.1 r18.2.2.1 r18.2.2.2.1 r18.2.2.2.2.1 r18.2.2.2.2.2.1) fun r19 => (cond r19 (Option.bind (kz) fun r20 => (some true)) (some false))) (Option.bind (kq r17.1 r17.2.1 r17.2.2.1 r17.2.2.2.1 r17.2.2.2.2.1 r17.2.2.2.2.2.1 r18.1 r18.2.1 r18.2.2.1 r18.2.2.2.1 r18.2.2.2.2.1 r18.2.2.2.2.2.1) fun r21 => (cond r21 (Option.bind (kz) fun r22 => (some true)) (some false)))) (some false)) (some false))))) (Option.bind (gQ (cs0, n1, cs2, n3, false) (false, 0)) fun e23 => (Option.bind (jm cs0 n1 0) fun r24 => (Option.bind (jm cs2 n3 0) fun r25 => (cond (r24.2.2.2.2.2.2 == 0) (cond (r25.2.2.2.2.2.2 == 0) (cond e23 (some false) (Option.bind (kz) fun r26 => (some true))) (some false)) (some false)))))) (some false)) (some false))))))))))))) (Option.bind (kz) fun r27 => (some true)))) (Option.bind (dn cs2 n3 (IntKind.wrap .i64 (Int.tdiv a4 8)) (IntKind.wrap .i64 (Int.tdiv a5 8)) (IntKind.wrap .i64 (Int.tdiv a6 8))) fun r28 => (cond r28.1 (Option.bind (kz) fun r29 => (some true)) (Option.bind (kz) fun r30 => (some true)))))))))))
def nf : FD where
 X := Bool
 k := 2
 pre := []
 F := fun s => [0, 1]
 M := .bool
 B := []
 toL := fun x => [.B x]
 ofL := fun ls => match ls with
  | [.B x0] => some x0
  | _ => none
 ar := fun ls x h => by
  split at h
  ·cases h; rfl
  ·cases h
theorem vy (cs0 : LA_) (n1 : Nat) (cs2 : LA_) (n3 : Nat) (a4 a5 a6 : Int) (x : Bool) (h : jJ cs0 n1 cs2 n3 a4 a5 a6 = some x) : aP YI 4 2 [.vec 0, .vec 1, .agg [.int .i64 a4, .int .i64 a5, .int .i64 a6]] [.vec cs0 n1 3 false, .vec cs2 n3 3 false] nf x :=
 FD.sem (ch := eX) (A := dL [(24, gt.la), (21, kT.la)]) (fn := Tryz.f4) (c := br Tryz.f4) (fuel := 60) aK fX mixed bI nf Tryz.func4 (by kernel_rfl) (aH (l := [aJ Tryz.f4 0, aJ Tryz.f4 1]) (by kernel_rfl) ⟨bT (by kernel_rfl) te, bT (by kernel_rfl) jT, trivial⟩)
  (by kernel_rfl) (Eq.trans (by kernel_rfl) h)
end Go.Ev
