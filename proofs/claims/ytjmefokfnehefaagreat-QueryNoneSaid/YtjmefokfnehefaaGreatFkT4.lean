/- What calls answer. No statement is proved here. Printed by facts2.py. -/
import Derived.Test.YtjmefokfnehefaaGreatFkT3
namespace Go.Ev
open Go.Proofs
set_option linter.unusedVariables false
set_option maxRecDepth 100000
def fk_f4_9 : List MF := [⟨[.agg [qi 1, qi 4294967296, qi 0, qi 0, qi 0, .nils, qi 0, qi 0, qi 0, qi 4294967296, qi 0, qi 0, qi 0]], ⟨0, []⟩, (qi 0, ⟨0, []⟩)⟩,
 ⟨[.agg [qi 1, qi 4294967296, qi 0, qi 0, qi 0, .nils, qi 17179869184, qi 0, qi 0, qi 4294967296, qi 0, qi 0, qi 0]], ⟨0, []⟩, (qi 0, ⟨0, []⟩)⟩,
 ⟨[.agg [qi 1, qi 4294967296, qi 0, qi 0, qi 0, .nils, qi 8589934592, qi 0, qi 0, qi 4294967296, qi 0, qi 0, qi 0]], ⟨0, []⟩, (qi 0, ⟨0, []⟩)⟩]
theorem fk_f4_9_k : okM Tryz.prog 9 fk_f4_9 := chkM_ok (tell := fk_w4) fk_w4_ok (by kernel_rfl)
def fk_f4_32 : List MF := [⟨[.agg [qi 0, qi 0, qi 0, qi 4294967296, qi 0, qi 0, qi 0]], ⟨0, []⟩, (.tup [.ptr 0 0, qi 0], ⟨1, [(0, .cells [qi 0, qi 0, qi 0, qi 4294967296, qi 0, qi 0, qi 0, qi 4294967296, qi 0, qi 0, qi 0, qi 4294967296, qi 0, qi 0, qi 0, qi 4294967296] true none)]⟩)⟩,
 ⟨[.agg [qi 17179869184, qi 0, qi 0, qi 4294967296, qi 0, qi 0, qi 0]], ⟨0, []⟩, (.tup [.ptr 0 0, qi 0], ⟨1, [(0, .cells [qi 17179869184, qi 0, qi 0, qi 4294967296, qi 0, qi 0, qi 0, qi 4294967296, qi 0, qi 0, qi 0, qi 4294967296, qi 0, qi 0, qi 0, qi 4294967296] true none)]⟩)⟩,
 ⟨[.agg [qi 8589934592, qi 0, qi 0, qi 4294967296, qi 0, qi 0, qi 0]], ⟨0, []⟩, (.tup [.ptr 0 0, qi 0], ⟨1, [(0, .cells [qi 8589934592, qi 0, qi 0, qi 4294967296, qi 0, qi 0, qi 0, qi 4294967296, qi 0, qi 0, qi 0, qi 4294967296, qi 0, qi 0, qi 0, qi 4294967296] true none)]⟩)⟩]
theorem fk_f4_32_k : okM Tryz.prog 32 fk_f4_32 := chkM_ok (tell := fk_w4) fk_w4_ok (by kernel_rfl)
def fk_f4_33 : List MF := [⟨[.agg [qi 1, qi 4294967296, qi 0, qi 0, qi 0, .nils]], ⟨0, []⟩, (.tup [.slice 0 0 1 true 1, qi 0], ⟨1, [(0, .cells [qi 0, qi 0, qi 0] true (some 3))]⟩)⟩]
theorem fk_f4_33_k : okM Tryz.prog 33 fk_f4_33 := chkM_ok (tell := fk_w4) fk_w4_ok (by kernel_rfl)
def fk_f4_98 : List MF := [⟨[.vec 0], ⟨1, [(0, .vec [qi (-131072), qi 0, qi 0] 1 3 false)]⟩, (.tup [.agg [qu 18446744073709420544, qu 18446744073709551615, qu 18446744073709551615, qu 18446744073709551615, qu 18446744073709551615, qu 18446744073709551615, qu 18446744073709551615, qu 18446744073709551615, qu 0, qu 0, qu 0, qu 0, qu 0, qu 0, qu 0, qu 0, qu 0, qu 0, qu 0, qu 0, qu 0, qu 0, qu 0, qu 0, qu 1, qu 0, qu 0, qu 0, qu 0, qu 0, qu 0, qu 0, .vec 1], qi 0], ⟨2, [(0, .vec [qi (-131072), qi 0, qi 0] 1 3 false), (1, .vec [qi 0] 1 1 true)]⟩)⟩,
 ⟨[.vec 0], ⟨1, [(0, .vec [qi 131072, qi 0, qi 0] 1 3 false)]⟩, (.tup [.agg [qu 131072, qu 0, qu 0, qu 0, qu 0, qu 0, qu 0, qu 0, qu 0, qu 0, qu 0, qu 0, qu 0, qu 0, qu 0, qu 0, qu 0, qu 0, qu 0, qu 0, qu 0, qu 0, qu 0, qu 0, qu 1, qu 0, qu 0, qu 0, qu 0, qu 0, qu 0, qu 0, .vec 1], qi 0], ⟨2, [(0, .vec [qi 131072, qi 0, qi 0] 1 3 false), (1, .vec [qi 0] 1 1 true)]⟩)⟩,
 ⟨[.vec 0], ⟨1, [(0, .vec [qi 0, qi (-131072), qi 0] 1 3 false)]⟩, (.tup [.agg [qu 0, qu 0, qu 0, qu 0, qu 0, qu 0, qu 0, qu 0, qu 18446744073709420544, qu 18446744073709551615, qu 18446744073709551615, qu 18446744073709551615, qu 18446744073709551615, qu 18446744073709551615, qu 18446744073709551615, qu 18446744073709551615, qu 0, qu 0, qu 0, qu 0, qu 0, qu 0, qu 0, qu 0, qu 1, qu 0, qu 0, qu 0, qu 0, qu 0, qu 0, qu 0, .vec 1], qi 0], ⟨2, [(0, .vec [qi 0, qi (-131072), qi 0] 1 3 false), (1, .vec [qi 0] 1 1 true)]⟩)⟩,
 ⟨[.vec 0], ⟨1, [(0, .vec [qi 0, qi (-131072), qi 0, qi (-262144), qi (-131072), qi 0] 2 3 false)]⟩, (.tup [.agg [qu 0, qu 0, qu 0, qu 0, qu 0, qu 0, qu 0, qu 0, qu 18446744073709420544, qu 18446744073709551615, qu 18446744073709551615, qu 18446744073709551615, qu 18446744073709551615, qu 18446744073709551615, qu 18446744073709551615, qu 18446744073709551615, qu 0, qu 0, qu 0, qu 0, qu 0, qu 0, qu 0, qu 0, qu 1, qu 0, qu 0, qu 0, qu 0, qu 0, qu 0, qu 0, .vec 1], qi 0], ⟨2, [(0, .vec [qi 0, qi (-131072), qi 0, qi (-262144), qi (-131072), qi 0] 2 3 false), (1, .vec [qi 0] 1 1 true)]⟩)⟩,
 ⟨[.vec 0], ⟨1, [(0, .vec [qi 262144, qi (-131072), qi 0] 1 3 false)]⟩, (.tup [.agg [qu 262144, qu 0, qu 0, qu 0, qu 0, qu 0, qu 0, qu 0, qu 18446744073709420544, qu 18446744073709551615, qu 18446744073709551615, qu 18446744073709551615, qu 18446744073709551615, qu 18446744073709551615, qu 18446744073709551615, qu 18446744073709551615, qu 0, qu 0, qu 0, qu 0, qu 0, qu 0, qu 0, qu 0, qu 1, qu 0, qu 0, qu 0, qu 0, qu 0, qu 0, qu 0, .vec 1], qi 0], ⟨2, [(0, .vec [qi 262144, qi (-131072), qi 0] 1 3 false), (1, .vec [qi 0] 1 1 true)]⟩)⟩,
 ⟨[.vec 0], ⟨1, [(0, .vec [qi 262144, qi (-131072), qi 0, qi 0, qi (-131072), qi 0] 2 3 false)]⟩, (.tup [.agg [qu 0, qu 0, qu 0, qu 0, qu 0, qu 0, qu 0, qu 0, qu 18446744073709420544, qu 18446744073709551615, qu 18446744073709551615, qu 18446744073709551615, qu 18446744073709551615, qu 18446744073709551615, qu 18446744073709551615, qu 18446744073709551615, qu 0, qu 0, qu 0, qu 0, qu 0, qu 0, qu 0, qu 0, qu 1, qu 0, qu 0, qu 0, qu 0, qu 0, qu 0, qu 0, .vec 1], qi 0], ⟨2, [(0, .vec [qi 262144, qi (-131072), qi 0, qi 0, qi (-131072), qi 0] 2 3 false), (1, .vec [qi 1] 1 1 true)]⟩)⟩]
theorem fk_f4_98_k : okM Tryz.prog 98 fk_f4_98 := chkM_ok (tell := fk_w4) fk_w4_ok (by kernel_rfl)
def fk_t5 : FTab := fk_t4
theorem fk_t5_ok : FTabOk Tryz.prog fk_t5 := fk_t4_ok
def fk_lm5 : MTab := fun f => cond (Nat.beq f 9) fk_f4_9 (cond (Nat.beq f 32) fk_f4_32 (cond (Nat.beq f 33) fk_f4_33 (cond (Nat.beq f 98) fk_f4_98 ([]))))
theorem fk_lm5_ok : MTabOk Tryz.prog fk_lm5 := (mtab_node (l := fk_f4_9) fk_f4_9_k (mtab_node (l := fk_f4_32) fk_f4_32_k (mtab_node (l := fk_f4_33) fk_f4_33_k (mtab_node (l := fk_f4_98) fk_f4_98_k mtab_leaf))))
def fk_m5 : MTab := fun f => fk_lm5 f ++ fk_m4 f
theorem fk_m5_ok : MTabOk Tryz.prog fk_m5 := mtab_or fk_lm5_ok fk_m4_ok
noncomputable abbrev fk_c5 : CH := fk_ch fk_t5 fk_m5
theorem fk_c5_ok : CHOk Tryz.prog fk_c5 := fk_ch_ok fk_t5_ok fk_m5_ok
noncomputable abbrev fk_w5 : Teller := tellRD Tryz.prog tyTab 400 fk_ds fk_c5
theorem fk_w5_ok : TellOk Tryz.prog fk_w5 := tellRD_ok tab_ok mixed noNum fk_c5_ok
def fk_f5_10 : List MF := [⟨[.agg [qi 0, qi 0, qi 0, qi 4294967296, qi 0, qi 0, qi 0], .agg [qi 1, qi 4294967296, qi 0, qi 0, qi 0, .nils]], ⟨0, []⟩, (.tup [.vec 0, qi 0], ⟨1, [(0, .vec [qi 0, qi 0, qi 0] 1 3 true)]⟩)⟩,
 ⟨[.agg [qi 17179869184, qi 0, qi 0, qi 4294967296, qi 0, qi 0, qi 0], .agg [qi 1, qi 4294967296, qi 0, qi 0, qi 0, .nils]], ⟨0, []⟩, (.tup [.vec 0, qi 0], ⟨1, [(0, .vec [qi 262144, qi 0, qi 0] 1 3 true)]⟩)⟩,
 ⟨[.agg [qi 8589934592, qi 0, qi 0, qi 4294967296, qi 0, qi 0, qi 0], .agg [qi 1, qi 4294967296, qi 0, qi 0, qi 0, .nils]], ⟨0, []⟩, (.tup [.vec 0, qi 0], ⟨1, [(0, .vec [qi 131072, qi 0, qi 0] 1 3 true)]⟩)⟩]
theorem fk_f5_10_k : okM Tryz.prog 10 fk_f5_10 := chkM_ok (tell := fk_w5) fk_w5_ok (by kernel_rfl)
def fk_f5_143 : List MF := [⟨[.vec 0], ⟨1, [(0, .vec [qi (-131072), qi 0, qi 0] 1 3 false)]⟩, (.tup [.agg [qu 18446744073709420544, qu 18446744073709551615, qu 18446744073709551615, qu 18446744073709551615, qu 18446744073709551615, qu 18446744073709551615, qu 18446744073709551615, qu 18446744073709551615, qu 0, qu 0, qu 0, qu 0, qu 0, qu 0, qu 0, qu 0, qu 0, qu 0, qu 0, qu 0, qu 0, qu 0, qu 0, qu 0, qu 1, qu 0, qu 0, qu 0, qu 0, qu 0, qu 0, qu 0, .vec 1], qi 1], ⟨2, [(0, .vec [qi (-131072), qi 0, qi 0] 1 3 false), (1, .vec [qi 0] 1 1 true)]⟩)⟩,
 ⟨[.vec 0], ⟨1, [(0, .vec [qi 131072, qi 0, qi 0] 1 3 false)]⟩, (.tup [.agg [qu 131072, qu 0, qu 0, qu 0, qu 0, qu 0, qu 0, qu 0, qu 0, qu 0, qu 0, qu 0, qu 0, qu 0, qu 0, qu 0, qu 0, qu 0, qu 0, qu 0, qu 0, qu 0, qu 0, qu 0, qu 1, qu 0, qu 0, qu 0, qu 0, qu 0, qu 0, qu 0, .vec 1], qi 1], ⟨2, [(0, .vec [qi 131072, qi 0, qi 0] 1 3 false), (1, .vec [qi 0] 1 1 true)]⟩)⟩,
 ⟨[.vec 0], ⟨1, [(0, .vec [qi 0, qi (-131072), qi 0, qi (-262144), qi (-131072), qi 0] 2 3 false)]⟩, (.tup [.agg [qu 0, qu 0, qu 0, qu 0, qu 0, qu 0, qu 0, qu 0, qu 18446744073709420544, qu 18446744073709551615, qu 18446744073709551615, qu 18446744073709551615, qu 18446744073709551615, qu 18446744073709551615, qu 18446744073709551615, qu 18446744073709551615, qu 0, qu 0, qu 0, qu 0, qu 0, qu 0, qu 0, qu 0, qu 1, qu 0, qu 0, qu 0, qu 0, qu 0, qu 0, qu 0, .vec 1], qi 1], ⟨2, [(0, .vec [qi 0, qi (-131072), qi 0, qi (-262144), qi (-131072), qi 0] 2 3 false), (1, .vec [qi 0] 1 1 true)]⟩)⟩,
 ⟨[.vec 0], ⟨1, [(0, .vec [qi 262144, qi (-131072), qi 0, qi 0, qi (-131072), qi 0] 2 3 false)]⟩, (.tup [.agg [qu 0, qu 0, qu 0, qu 0, qu 0, qu 0, qu 0, qu 0, qu 18446744073709420544, qu 18446744073709551615, qu 18446744073709551615, qu 18446744073709551615, qu 18446744073709551615, qu 18446744073709551615, qu 18446744073709551615, qu 18446744073709551615, qu 0, qu 0, qu 0, qu 0, qu 0, qu 0, qu 0, qu 0, qu 1, qu 0, qu 0, qu 0, qu 0, qu 0, qu 0, qu 0, .vec 1], qi 2], ⟨2, [(0, .vec [qi 262144, qi (-131072), qi 0, qi 0, qi (-131072), qi 0] 2 3 false), (1, .vec [qi 1] 1 1 true)]⟩)⟩]
theorem fk_f5_143_k : okM Tryz.prog 143 fk_f5_143 := chkM_ok (tell := fk_w5) fk_w5_ok (by kernel_rfl)
def fk_f5_148 : List MF := [⟨[.agg [qi 1, qi 1, qi 4294967296, qi 0, qi 0, qi 0, .nils, qi 0, qi 0, qi 0, qi 4294967296, qi 0, qi 0, qi 0, qi 0, qi 0, qi 0, qi 0, qi 0, qi 0, qi 0, qi 0]], ⟨0, []⟩, (qi 0, ⟨0, []⟩)⟩,
 ⟨[.agg [qi 2, qi 1, qi 4294967296, qi 0, qi 0, qi 0, .nils, qi 17179869184, qi 0, qi 0, qi 4294967296, qi 0, qi 0, qi 0, qi 0, qi 0, qi 0, qi 0, qi 0, qi 0, qi 0, qi 0]], ⟨0, []⟩, (qi 0, ⟨0, []⟩)⟩]
theorem fk_f5_148_k : okM Tryz.prog 148 fk_f5_148 := chkM_ok (tell := fk_w5) fk_w5_ok (by kernel_rfl)
def fk_t6 : FTab := fk_t5
theorem fk_t6_ok : FTabOk Tryz.prog fk_t6 := fk_t5_ok
def fk_lm6 : MTab := fun f => cond (Nat.beq f 10) fk_f5_10 (cond (Nat.beq f 143) fk_f5_143 (cond (Nat.beq f 148) fk_f5_148 ([])))
theorem fk_lm6_ok : MTabOk Tryz.prog fk_lm6 := (mtab_node (l := fk_f5_10) fk_f5_10_k (mtab_node (l := fk_f5_143) fk_f5_143_k (mtab_node (l := fk_f5_148) fk_f5_148_k mtab_leaf)))
def fk_m6 : MTab := fun f => fk_lm6 f ++ fk_m5 f
theorem fk_m6_ok : MTabOk Tryz.prog fk_m6 := mtab_or fk_lm6_ok fk_m5_ok
noncomputable abbrev fk_c6 : CH := fk_ch fk_t6 fk_m6
theorem fk_c6_ok : CHOk Tryz.prog fk_c6 := fk_ch_ok fk_t6_ok fk_m6_ok
noncomputable abbrev fk_w6 : Teller := tellRD Tryz.prog tyTab 400 fk_ds fk_c6
theorem fk_w6_ok : TellOk Tryz.prog fk_w6 := tellRD_ok tab_ok mixed noNum fk_c6_ok
def fk_f6_97 : List MF := [⟨[.vec 0], ⟨1, [(0, .vec [qi (-131072), qi 0, qi 0] 1 3 false)]⟩, (.tup [.agg [qu 18446744073709420544, qu 18446744073709551615, qu 18446744073709551615, qu 18446744073709551615, qu 18446744073709551615, qu 18446744073709551615, qu 18446744073709551615, qu 18446744073709551615, qu 0, qu 0, qu 0, qu 0, qu 0, qu 0, qu 0, qu 0, qu 0, qu 0, qu 0, qu 0, qu 0, qu 0, qu 0, qu 0, qu 1, qu 0, qu 0, qu 0, qu 0, qu 0, qu 0, qu 0, .vec 1], qi 1, qi 0], ⟨2, [(0, .vec [qi (-131072), qi 0, qi 0] 1 3 false), (1, .vec [qi 0] 1 1 true)]⟩)⟩,
 ⟨[.vec 0], ⟨1, [(0, .vec [qi 131072, qi 0, qi 0] 1 3 false)]⟩, (.tup [.agg [qu 131072, qu 0, qu 0, qu 0, qu 0, qu 0, qu 0, qu 0, qu 0, qu 0, qu 0, qu 0, qu 0, qu 0, qu 0, qu 0, qu 0, qu 0, qu 0, qu 0, qu 0, qu 0, qu 0, qu 0, qu 1, qu 0, qu 0, qu 0, qu 0, qu 0, qu 0, qu 0, .vec 1], qi 1, qi 0], ⟨2, [(0, .vec [qi 131072, qi 0, qi 0] 1 3 false), (1, .vec [qi 0] 1 1 true)]⟩)⟩,
 ⟨[.vec 0], ⟨1, [(0, .vec [qi 0, qi (-131072), qi 0, qi (-262144), qi (-131072), qi 0] 2 3 false)]⟩, (.tup [.agg [qu 0, qu 0, qu 0, qu 0, qu 0, qu 0, qu 0, qu 0, qu 18446744073709420544, qu 18446744073709551615, qu 18446744073709551615, qu 18446744073709551615, qu 18446744073709551615, qu 18446744073709551615, qu 18446744073709551615, qu 18446744073709551615, qu 0, qu 0, qu 0, qu 0, qu 0, qu 0, qu 0, qu 0, qu 1, qu 0, qu 0, qu 0, qu 0, qu 0, qu 0, qu 0, .vec 1], qi 1, qi 0], ⟨2, [(0, .vec [qi 0, qi (-131072), qi 0, qi (-262144), qi (-131072), qi 0] 2 3 false), (1, .vec [qi 0] 1 1 true)]⟩)⟩,
 ⟨[.vec 0], ⟨1, [(0, .vec [qi 262144, qi (-131072), qi 0, qi 0, qi (-131072), qi 0] 2 3 false)]⟩, (.tup [.agg [qu 0, qu 0, qu 0, qu 0, qu 0, qu 0, qu 0, qu 0, qu 18446744073709420544, qu 18446744073709551615, qu 18446744073709551615, qu 18446744073709551615, qu 18446744073709551615, qu 18446744073709551615, qu 18446744073709551615, qu 18446744073709551615, qu 0, qu 0, qu 0, qu 0, qu 0, qu 0, qu 0, qu 0, qu 1, qu 0, qu 0, qu 0, qu 0, qu 0, qu 0, qu 0, .vec 1], qi 2, qi 0], ⟨2, [(0, .vec [qi 262144, qi (-131072), qi 0, qi 0, qi (-131072), qi 0] 2 3 false), (1, .vec [qi 1] 1 1 true)]⟩)⟩]
theorem fk_f6_97_k : okM Tryz.prog 97 fk_f6_97 := chkM_ok (tell := fk_w6) fk_w6_ok (by kernel_rfl)
def fk_f6_106 : List MF := [⟨[.agg [qi 1, qi 1, qi 4294967296, qi 0, qi 0, qi 0, .nils, qi 0, qi 0, qi 0, qi 4294967296, qi 0, qi 0, qi 0, qi 0, qi 0, qi 0, qi 0, qi 0, qi 0, qi 0, qi 0]], ⟨0, []⟩, (.tup [.agg [qi (-66560), qi (-66560), qi (-66560), qi 66560, qi 66560, qi 66560], qi 0], ⟨0, []⟩)⟩,
 ⟨[.agg [qi 2, qi 1, qi 4294967296, qi 0, qi 0, qi 0, .nils, qi 17179869184, qi 0, qi 0, qi 4294967296, qi 0, qi 0, qi 0, qi 0, qi 0, qi 0, qi 0, qi 0, qi 0, qi 0, qi 0]], ⟨0, []⟩, (.tup [.agg [qi 195584, qi (-66560), qi (-66560), qi 328704, qi 66560, qi 66560], qi 0], ⟨0, []⟩)⟩]
theorem fk_f6_106_k : okM Tryz.prog 106 fk_f6_106 := chkM_ok (tell := fk_w6) fk_w6_ok (by kernel_rfl)
def fk_t7 : FTab := fk_t6
theorem fk_t7_ok : FTabOk Tryz.prog fk_t7 := fk_t6_ok
def fk_lm7 : MTab := fun f => cond (Nat.beq f 97) fk_f6_97 (cond (Nat.beq f 106) fk_f6_106 ([]))
theorem fk_lm7_ok : MTabOk Tryz.prog fk_lm7 := (mtab_node (l := fk_f6_97) fk_f6_97_k (mtab_node (l := fk_f6_106) fk_f6_106_k mtab_leaf))
def fk_m7 : MTab := fun f => fk_lm7 f ++ fk_m6 f
theorem fk_m7_ok : MTabOk Tryz.prog fk_m7 := mtab_or fk_lm7_ok fk_m6_ok
noncomputable abbrev fk_c7 : CH := fk_ch fk_t7 fk_m7
theorem fk_c7_ok : CHOk Tryz.prog fk_c7 := fk_ch_ok fk_t7_ok fk_m7_ok
noncomputable abbrev fk_w7 : Teller := tellRD Tryz.prog tyTab 400 fk_ds fk_c7
theorem fk_w7_ok : TellOk Tryz.prog fk_w7 := tellRD_ok tab_ok mixed noNum fk_c7_ok
def fk_f7_50 : List MF := [⟨[.vec 0], ⟨1, [(0, .vec [qi (-131072), qi 0, qi 0] 1 3 false)]⟩, (.tup [.agg [qu 18446744073709420544, qu 18446744073709551615, qu 18446744073709551615, qu 18446744073709551615, qu 18446744073709551615, qu 18446744073709551615, qu 18446744073709551615, qu 18446744073709551615, qu 0, qu 0, qu 0, qu 0, qu 0, qu 0, qu 0, qu 0, qu 0, qu 0, qu 0, qu 0, qu 0, qu 0, qu 0, qu 0, qu 1, qu 0, qu 0, qu 0, qu 0, qu 0, qu 0, qu 0, .vec 1], qi 0], ⟨2, [(0, .vec [qi (-131072), qi 0, qi 0] 1 3 false), (1, .vec [qi 0] 1 1 true)]⟩)⟩,
 ⟨[.vec 0], ⟨1, [(0, .vec [qi 131072, qi 0, qi 0] 1 3 false)]⟩, (.tup [.agg [qu 131072, qu 0, qu 0, qu 0, qu 0, qu 0, qu 0, qu 0, qu 0, qu 0, qu 0, qu 0, qu 0, qu 0, qu 0, qu 0, qu 0, qu 0, qu 0, qu 0, qu 0, qu 0, qu 0, qu 0, qu 1, qu 0, qu 0, qu 0, qu 0, qu 0, qu 0, qu 0, .vec 1], qi 0], ⟨2, [(0, .vec [qi 131072, qi 0, qi 0] 1 3 false), (1, .vec [qi 0] 1 1 true)]⟩)⟩,
 ⟨[.vec 0], ⟨1, [(0, .vec [qi 0, qi (-131072), qi 0, qi (-262144), qi (-131072), qi 0] 2 3 false)]⟩, (.tup [.agg [qu 0, qu 0, qu 0, qu 0, qu 0, qu 0, qu 0, qu 0, qu 18446744073709420544, qu 18446744073709551615, qu 18446744073709551615, qu 18446744073709551615, qu 18446744073709551615, qu 18446744073709551615, qu 18446744073709551615, qu 18446744073709551615, qu 0, qu 0, qu 0, qu 0, qu 0, qu 0, qu 0, qu 0, qu 1, qu 0, qu 0, qu 0, qu 0, qu 0, qu 0, qu 0, .vec 1], qi 0], ⟨2, [(0, .vec [qi 0, qi (-131072), qi 0, qi (-262144), qi (-131072), qi 0] 2 3 false), (1, .vec [qi 0] 1 1 true)]⟩)⟩,
 ⟨[.vec 0], ⟨1, [(0, .vec [qi 262144, qi (-131072), qi 0, qi 0, qi (-131072), qi 0] 2 3 false)]⟩, (.tup [.agg [qu 0, qu 0, qu 0, qu 0, qu 0, qu 0, qu 0, qu 0, qu 18446744073709420544, qu 18446744073709551615, qu 18446744073709551615, qu 18446744073709551615, qu 18446744073709551615, qu 18446744073709551615, qu 18446744073709551615, qu 18446744073709551615, qu 0, qu 0, qu 0, qu 0, qu 0, qu 0, qu 0, qu 0, qu 1, qu 0, qu 0, qu 0, qu 0, qu 0, qu 0, qu 0, .vec 1], qi 0], ⟨2, [(0, .vec [qi 262144, qi (-131072), qi 0, qi 0, qi (-131072), qi 0] 2 3 false), (1, .vec [qi 1] 1 1 true)]⟩)⟩]
theorem fk_f7_50_k : okM Tryz.prog 50 fk_f7_50 := chkM_ok (tell := fk_w7) fk_w7_ok (by kernel_rfl)
def fk_t8 : FTab := fk_t7
theorem fk_t8_ok : FTabOk Tryz.prog fk_t8 := fk_t7_ok
def fk_lm8 : MTab := fun f => cond (Nat.beq f 50) fk_f7_50 ([])
theorem fk_lm8_ok : MTabOk Tryz.prog fk_lm8 := (mtab_node (l := fk_f7_50) fk_f7_50_k mtab_leaf)
def fk_m8 : MTab := fun f => fk_lm8 f ++ fk_m7 f
theorem fk_m8_ok : MTabOk Tryz.prog fk_m8 := mtab_or fk_lm8_ok fk_m7_ok
noncomputable abbrev fk_c8 : CH := fk_ch fk_t8 fk_m8
theorem fk_c8_ok : CHOk Tryz.prog fk_c8 := fk_ch_ok fk_t8_ok fk_m8_ok
noncomputable abbrev fk_w8 : Teller := tellRD Tryz.prog tyTab 400 fk_ds fk_c8
theorem fk_w8_ok : TellOk Tryz.prog fk_w8 := tellRD_ok tab_ok mixed noNum fk_c8_ok
def fk_f8_18 : List MF := [⟨[.vec 0, .vec 1], ⟨2, [(0, .vec [qi 0, qi 0, qi 0] 1 3 false), (1, .vec [qi 131072, qi 0, qi 0] 1 3 false)]⟩, (.tup [.agg [qu 18446744073709420544, qu 18446744073709551615, qu 18446744073709551615, qu 18446744073709551615, qu 18446744073709551615, qu 18446744073709551615, qu 18446744073709551615, qu 18446744073709551615, qu 0, qu 0, qu 0, qu 0, qu 0, qu 0, qu 0, qu 0, qu 0, qu 0, qu 0, qu 0, qu 0, qu 0, qu 0, qu 0, qu 1, qu 0, qu 0, qu 0, qu 0, qu 0, qu 0, qu 0, .vec 2], qi 0], ⟨3, [(0, .vec [qi 0, qi 0, qi 0] 1 3 false), (1, .vec [qi 131072, qi 0, qi 0] 1 3 false), (2, .vec [qi 0] 1 1 true)]⟩)⟩,
 ⟨[.vec 0, .vec 1], ⟨2, [(0, .vec [qi 262144, qi 0, qi 0] 1 3 false), (1, .vec [qi 131072, qi 0, qi 0] 1 3 false)]⟩, (.tup [.agg [qu 131072, qu 0, qu 0, qu 0, qu 0, qu 0, qu 0, qu 0, qu 0, qu 0, qu 0, qu 0, qu 0, qu 0, qu 0, qu 0, qu 0, qu 0, qu 0, qu 0, qu 0, qu 0, qu 0, qu 0, qu 1, qu 0, qu 0, qu 0, qu 0, qu 0, qu 0, qu 0, .vec 2], qi 0], ⟨3, [(0, .vec [qi 262144, qi 0, qi 0] 1 3 false), (1, .vec [qi 131072, qi 0, qi 0] 1 3 false), (2, .vec [qi 0] 1 1 true)]⟩)⟩,
 ⟨[.vec 0, .vec 1], ⟨2, [(0, .vec [qi 0, qi 0, qi 0] 1 3 false), (1, .vec [qi 0, qi 131072, qi 0, qi 262144, qi 131072, qi 0] 2 3 false)]⟩, (.tup [.agg [qu 0, qu 0, qu 0, qu 0, qu 0, qu 0, qu 0, qu 0, qu 18446744073709420544, qu 18446744073709551615, qu 18446744073709551615, qu 18446744073709551615, qu 18446744073709551615, qu 18446744073709551615, qu 18446744073709551615, qu 18446744073709551615, qu 0, qu 0, qu 0, qu 0, qu 0, qu 0, qu 0, qu 0, qu 1, qu 0, qu 0, qu 0, qu 0, qu 0, qu 0, qu 0, .vec 2], qi 0], ⟨3, [(0, .vec [qi 0, qi 0, qi 0] 1 3 false), (1, .vec [qi 0, qi 131072, qi 0, qi 262144, qi 131072, qi 0] 2 3 false), (2, .vec [qi 0] 1 1 true)]⟩)⟩,
 ⟨[.vec 0, .vec 1], ⟨2, [(0, .vec [qi 262144, qi 0, qi 0] 1 3 false), (1, .vec [qi 0, qi 131072, qi 0, qi 262144, qi 131072, qi 0] 2 3 false)]⟩, (.tup [.agg [qu 0, qu 0, qu 0, qu 0, qu 0, qu 0, qu 0, qu 0, qu 18446744073709420544, qu 18446744073709551615, qu 18446744073709551615, qu 18446744073709551615, qu 18446744073709551615, qu 18446744073709551615, qu 18446744073709551615, qu 18446744073709551615, qu 0, qu 0, qu 0, qu 0, qu 0, qu 0, qu 0, qu 0, qu 1, qu 0, qu 0, qu 0, qu 0, qu 0, qu 0, qu 0, .vec 2], qi 0], ⟨3, [(0, .vec [qi 262144, qi 0, qi 0] 1 3 false), (1, .vec [qi 0, qi 131072, qi 0, qi 262144, qi 131072, qi 0] 2 3 false), (2, .vec [qi 1] 1 1 true)]⟩)⟩]
theorem fk_f8_18_k : okM Tryz.prog 18 fk_f8_18 := chkM_ok (tell := fk_w8) fk_w8_ok (by kernel_rfl)
def fk_t9 : FTab := fk_t8
theorem fk_t9_ok : FTabOk Tryz.prog fk_t9 := fk_t8_ok
def fk_lm9 : MTab := fun f => cond (Nat.beq f 18) fk_f8_18 ([])
theorem fk_lm9_ok : MTabOk Tryz.prog fk_lm9 := (mtab_node (l := fk_f8_18) fk_f8_18_k mtab_leaf)
def fk_m9 : MTab := fun f => fk_lm9 f ++ fk_m8 f
theorem fk_m9_ok : MTabOk Tryz.prog fk_m9 := mtab_or fk_lm9_ok fk_m8_ok
noncomputable abbrev fk_c9 : CH := fk_ch fk_t9 fk_m9
theorem fk_c9_ok : CHOk Tryz.prog fk_c9 := fk_ch_ok fk_t9_ok fk_m9_ok
noncomputable abbrev fk_w9 : Teller := tellRD Tryz.prog tyTab 400 fk_ds fk_c9
theorem fk_w9_ok : TellOk Tryz.prog fk_w9 := tellRD_ok tab_ok mixed noNum fk_c9_ok
def fk_f9_15 : List MF := [⟨[.agg [qi 1, qi 4294967296, qi 0, qi 0, qi 0, .nils, qi 0, qi 0, qi 0, qi 4294967296, qi 0, qi 0, qi 0], .agg [qi 1, qi 4294967296, qi 0, qi 0, qi 0, .nils, qi 8589934592, qi 0, qi 0, qi 4294967296, qi 0, qi 0, qi 0]], ⟨0, []⟩, (.tup [.agg [qi 0, qi (-4294967296), qi 0, qi 0], qi 0], ⟨0, []⟩)⟩,
 ⟨[.agg [qi 1, qi 4294967296, qi 0, qi 0, qi 0, .nils, qi 17179869184, qi 0, qi 0, qi 4294967296, qi 0, qi 0, qi 0], .agg [qi 1, qi 4294967296, qi 0, qi 0, qi 0, .nils, qi 8589934592, qi 0, qi 0, qi 4294967296, qi 0, qi 0, qi 0]], ⟨0, []⟩, (.tup [.agg [qi 0, qi 4294967296, qi 0, qi 0], qi 0], ⟨0, []⟩)⟩]
theorem fk_f9_15_k : okM Tryz.prog 15 fk_f9_15 := chkM_ok (tell := fk_w9) fk_w9_ok (by kernel_rfl)
def fk_f9_17 : List MF := [⟨[.agg [qi 1, qi 1, qi 4294967296, qi 0, qi 0, qi 0, .nils, qi 0, qi 0, qi 0, qi 4294967296, qi 0, qi 0, qi 0, qi 0, qi 0, qi 0, qi 0, qi 0, qi 0, qi 0, qi 0], .ptr 1 0, .ptr 2 0], ⟨3, [(0, .vec [qi 0, qi 131072, qi 0, qi 262144, qi 131072, qi 0] 2 3 false), (1, .cells [.vec 0] false none), (2, .cells [qi 4294967296] false none)]⟩, (.bool true, ⟨3, [(0, .vec [qi 0, qi 131072, qi 0, qi 262144, qi 131072, qi 0] 2 3 false), (1, .cells [.vec 0] false none), (2, .cells [qi 4294967296] false none)]⟩)⟩,
 ⟨[.agg [qi 2, qi 1, qi 4294967296, qi 0, qi 0, qi 0, .nils, qi 17179869184, qi 0, qi 0, qi 4294967296, qi 0, qi 0, qi 0, qi 0, qi 0, qi 0, qi 0, qi 0, qi 0, qi 0, qi 0], .ptr 1 0, .ptr 2 0], ⟨3, [(0, .vec [qi 0, qi 131072, qi 0, qi 262144, qi 131072, qi 0] 2 3 false), (1, .cells [.vec 0] false none), (2, .cells [qi 4294967296] false none)]⟩, (.bool true, ⟨3, [(0, .vec [qi 0, qi 131072, qi 0, qi 262144, qi 131072, qi 0] 2 3 false), (1, .cells [.vec 0] false none), (2, .cells [qi 4294967296] false none)]⟩)⟩]
theorem fk_f9_17_k : okM Tryz.prog 17 fk_f9_17 := chkM_ok (tell := fk_w9) fk_w9_ok (by kernel_rfl)
def fk_t10 : FTab := fk_t9
theorem fk_t10_ok : FTabOk Tryz.prog fk_t10 := fk_t9_ok
def fk_lm10 : MTab := fun f => cond (Nat.beq f 15) fk_f9_15 (cond (Nat.beq f 17) fk_f9_17 ([]))
theorem fk_lm10_ok : MTabOk Tryz.prog fk_lm10 := (mtab_node (l := fk_f9_15) fk_f9_15_k (mtab_node (l := fk_f9_17) fk_f9_17_k mtab_leaf))
def fk_m10 : MTab := fun f => fk_lm10 f ++ fk_m9 f
theorem fk_m10_ok : MTabOk Tryz.prog fk_m10 := mtab_or fk_lm10_ok fk_m9_ok
noncomputable abbrev fk_c10 : CH := fk_ch fk_t10 fk_m10
theorem fk_c10_ok : CHOk Tryz.prog fk_c10 := fk_ch_ok fk_t10_ok fk_m10_ok
noncomputable abbrev fk_w10 : Teller := tellRD Tryz.prog tyTab 400 fk_ds fk_c10
theorem fk_w10_ok : TellOk Tryz.prog fk_w10 := tellRD_ok tab_ok mixed noNum fk_c10_ok
def fk_f10_14 : List MF := [⟨[.agg [qi 1, qi 1, qi 4294967296, qi 0, qi 0, qi 0, .nils, qi 0, qi 0, qi 0, qi 4294967296, qi 0, qi 0, qi 0, qi 0, qi 0, qi 0, qi 0, qi 0, qi 0, qi 0, qi 0], .ptr 0 0], ⟨1, [(0, .cells [qi 1, qi 4294967296, qi 0, qi 0, qi 0, .nils, qi 8589934592, qi 0, qi 0, qi 4294967296, qi 0, qi 0, qi 0] false none)]⟩, (.bool true, ⟨1, [(0, .cells [qi 1, qi 4294967296, qi 0, qi 0, qi 0, .nils, qi 8589934592, qi 0, qi 0, qi 4294967296, qi 0, qi 0, qi 0] false none)]⟩)⟩,
 ⟨[.agg [qi 2, qi 1, qi 4294967296, qi 0, qi 0, qi 0, .nils, qi 17179869184, qi 0, qi 0, qi 4294967296, qi 0, qi 0, qi 0, qi 0, qi 0, qi 0, qi 0, qi 0, qi 0, qi 0, qi 0], .ptr 0 0], ⟨1, [(0, .cells [qi 1, qi 4294967296, qi 0, qi 0, qi 0, .nils, qi 8589934592, qi 0, qi 0, qi 4294967296, qi 0, qi 0, qi 0] false none)]⟩, (.bool true, ⟨1, [(0, .cells [qi 1, qi 4294967296, qi 0, qi 0, qi 0, .nils, qi 8589934592, qi 0, qi 0, qi 4294967296, qi 0, qi 0, qi 0] false none)]⟩)⟩]
theorem fk_f10_14_k : okM Tryz.prog 14 fk_f10_14 := chkM_ok (tell := fk_w10) fk_w10_ok (by kernel_rfl)
def fk_t11 : FTab := fk_t10
theorem fk_t11_ok : FTabOk Tryz.prog fk_t11 := fk_t10_ok
def fk_lm11 : MTab := fun f => cond (Nat.beq f 14) fk_f10_14 ([])
theorem fk_lm11_ok : MTabOk Tryz.prog fk_lm11 := (mtab_node (l := fk_f10_14) fk_f10_14_k mtab_leaf)
def fk_m11 : MTab := fun f => fk_lm11 f ++ fk_m10 f
theorem fk_m11_ok : MTabOk Tryz.prog fk_m11 := mtab_or fk_lm11_ok fk_m10_ok
noncomputable abbrev fk_c11 : CH := fk_ch fk_t11 fk_m11
theorem fk_c11_ok : CHOk Tryz.prog fk_c11 := fk_ch_ok fk_t11_ok fk_m11_ok
noncomputable abbrev fk_w11 : Teller := tellRD Tryz.prog tyTab 400 fk_ds fk_c11
theorem fk_w11_ok : TellOk Tryz.prog fk_w11 := tellRD_ok tab_ok mixed noNum fk_c11_ok
end Go.Ev
