import Derived.Test.YtdooglicnibhlaaGreatFkT3
namespace Go.Ev
open Go.Proofs
set_option linter.unusedVariables false
set_option maxRecDepth 100000
def e4_66 : List (List AVal × AVal) := [([.agg (qz [jG,jG,jG]),.agg (qz [jB,0,0,0])], .tup [.agg (qz [jG,0,0,0,jG,0,0,0,jG]),qi 0])]
theorem e4_66_k : okL Tryz.prog 66 e4_66 := fk_u4 (by kernel_rfl)
def e4_70 : List (List AVal × AVal) := [([.agg (qz [0,0,0,0,0,0,0,0,0]),.agg (qz [0,0,0])], .agg (qz [0,0,0])),
 ([.agg (qz [jG,0,0,0,jG,0,0,0,jG]),.agg (qz [0,0,0])], .agg (qz [0,0,0])),
 ([.agg (qz [0,0,0,0,0,0,0,0,0]),.agg (qz [jI,0,0])], .agg (qz [0,0,0])),
 ([.agg (qz [0,0,0,0,0,0,0,0,0]),.agg (qz [0,-jI,0])], .agg (qz [0,0,0]))]
theorem e4_70_k : okL Tryz.prog 70 e4_70 := fk_u4 (by kernel_rfl)
def e4_123 : List (List AVal × AVal) := [([.agg (qz [0,0,-jB])], .tup [.agg (qz [0,-jB,0]),.agg (qz [-jB,0,0]),qi 0])]
theorem e4_123_k : okL Tryz.prog 123 e4_123 := fk_u4 (by kernel_rfl)
def e4_124 : List (List AVal × AVal) := [((qz [0,jQ]), .tup (qz [0,0]))]
theorem e4_124_k : okL Tryz.prog 124 e4_124 := fk_u4 (by kernel_rfl)
def e4_133 : List (List AVal × AVal) := [([.agg (qz [0,0,jB,jB,0,0,0]),.agg (qz [0,0,0]),.agg (qz [0,0,0]),qi jQ], .tup [.agg (qz [0,0,jB,jB,0,0,0]),.bool false,qi 0])]
theorem e4_133_k : okL Tryz.prog 133 e4_133 := fk_u4 (by kernel_rfl)
def e4_150 : List (List AVal × AVal) := [([qi jB], qi jB),
 ([qi jb], qi jG)]
theorem e4_150_k : okL Tryz.prog 150 e4_150 := fk_u4 (by kernel_rfl)
def e4_308 : List (List AVal × AVal) := [([.agg (qz [0,0,0,0,0,0,0,0,0,0,0,0,0,0,0,0]),.agg (qz [0,0,jI])], .agg (qz [0,0,0])),
 ([.agg (qz [jB,jG,0,0,0,jG,0,0,0,jG,0,0,-jF,0,0,0]),.agg (qz [0,0,0])], .agg (qz [0,0,-jF])),
 ([.agg (qz [jB,jG,0,0,0,jG,0,0,0,jG,0,0,0,0,0,0]),.agg (qz [0,0,0])], .agg (qz [0,0,0]))]
theorem e4_308_k : okL Tryz.prog 308 e4_308 := fk_u4 (by kernel_rfl)
def f4_127 : List MF := [⟨[qi 2,.vec 0], ⟨1,[(0,.vec (qz [0,1,0,0,-jB,0,-jB,0,-jB,0,0,0,0,jI,0,0,0,jB,jB,jB,0,0,0,0,0]) 1 25 false)]⟩, (qi 0, ⟨1,[(0,.vec (qz [0,1,0,0,-jB,0,-jB,0,-jB,0,0,0,0,jI,0,0,0,jB,jB,jB,0,0,0,0,0]) 1 25 false)]⟩)⟩]
theorem f4_127_k : okM Tryz.prog 127 f4_127 := fk_v4 (by kernel_rfl)
def f4_143 : List MF := [⟨[.agg (qs [3,0,jE,jE,jB] (.nils :: (qs [0,0,-jB,jB,0,0,0] [])))], ⟨0,[]⟩, (qi 0, ⟨0,[]⟩)⟩,
 ⟨[.agg (qs [1,jB,0,0,0] (.nils :: (qs [0,0,jB,jB,0,0,0] [])))], ⟨0,[]⟩, (qi 0, ⟨0,[]⟩)⟩]
theorem f4_143_k : okM Tryz.prog 143 f4_143 := fk_v4 (by kernel_rfl)
def f4_144 : List MF := [⟨[.agg (qs [2,1,jB,0,0,0] (.nils :: (qs [0,0,jB,jB,0,0,0,jB,0,0,0,0,0,0,0] [])))], ⟨0,[]⟩, (.bool true, ⟨0,[]⟩)⟩,
 ⟨[.agg (qs [2,1,jB,0,0,0] (.nils :: (qs [0,0,jB,jB,0,0,0,jB,0,0,-jF,0,0,0,0] [])))], ⟨0,[]⟩, (.bool true, ⟨0,[]⟩)⟩]
theorem f4_144_k : okM Tryz.prog 144 f4_144 := fk_v4 (by kernel_rfl)
def f4_156a : List MF := [⟨(qs [0,0] [.ptr 0 0]), ⟨1,[(0,.cells [qi 0] false none)]⟩, (qi 0, ⟨1,[(0,.cells [qi 0] false none)]⟩)⟩,
 ⟨(qs [-jB,-jB] [.ptr 0 0]), ⟨1,[(0,.cells [qi 0] false none)]⟩, (qi 0, ⟨1,[(0,.cells [qi 0] false none)]⟩)⟩,
 ⟨(qs [0,0] [.ptr 0 0]), ⟨1,[(0,.cells [qi (-jB)] false none)]⟩, (qi 0, ⟨1,[(0,.cells [qi (-jB)] false none)]⟩)⟩,
 ⟨(qs [0,0] [.ptr 0 0]), ⟨1,[(0,.cells [qi jB] false none)]⟩, (qi 0, ⟨1,[(0,.cells [qi jB] false none)]⟩)⟩,
 ⟨(qs [0,0] [.ptr 0 0]), ⟨1,[(0,.cells [qi jF] false none)]⟩, (qi 0, ⟨1,[(0,.cells [qi jF] false none)]⟩)⟩,
 ⟨(qs [-jB,-jB] [.ptr 0 0]), ⟨1,[(0,.cells [qi jF] false none)]⟩, (qi (-jF), ⟨1,[(0,.cells [qi jF] false none)]⟩)⟩]
theorem f4_156a_k : okM Tryz.prog 156 f4_156a := fk_v4 (by kernel_rfl)
def f4_156b : List MF := [⟨(qs [-jF,-jF] [.ptr 0 0]), ⟨1,[(0,.cells [qi 0] false none)]⟩, (qi 0, ⟨1,[(0,.cells [qi 0] false none)]⟩)⟩,
 ⟨(qs [-jF,-jF] [.ptr 0 0]), ⟨1,[(0,.cells [qi (-jB)] false none)]⟩, (qi jF, ⟨1,[(0,.cells [qi (-jB)] false none)]⟩)⟩,
 ⟨(qs [jF,jF] [.ptr 0 0]), ⟨1,[(0,.cells [qi jB] false none)]⟩, (qi jF, ⟨1,[(0,.cells [qi jB] false none)]⟩)⟩]
theorem f4_156b_k : okM Tryz.prog 156 f4_156b := fk_v4 (by kernel_rfl)
def f4_173 : List MF := [⟨[.agg (qz [0,0,-jB,jB,0,0,0])], ⟨0,[]⟩, (.tup [.ptr 0 0,qi 0], ⟨1,[(0,.cells (qz [0,0,-jB,jB,0,0,0,jB,0,0,0,jB,0,0,0,jB]) true none)]⟩)⟩,
 ⟨[.agg (qz [0,0,jB,jB,0,0,0])], ⟨0,[]⟩, (.tup [.ptr 0 0,qi 0], ⟨1,[(0,.cells (qz [0,0,jB,jB,0,0,0,jB,0,0,0,jB,0,0,0,jB]) true none)]⟩)⟩]
theorem f4_173_k : okM Tryz.prog 173 f4_173 := fk_v4 (by kernel_rfl)
def f4_174 : List MF := [⟨[.agg (qs [3,0,jE,jE,jB] [.nils])], ⟨0,[]⟩, (.tup [.vec 0,qi 0], ⟨1,[(0,.vec (qz [-jE,-jE,-jB,jE,-jE,-jB,-jE,jE,-jB,jE,jE,-jB,-jE,-jE,jB,jE,-jE,jB,-jE,jE,jB,jE,jE,jB]) 8 3 true)]⟩)⟩,
 ⟨[.agg (qs [1,jB,0,0,0] [.nils])], ⟨0,[]⟩, (.tup [.slice 0 0 1 true 1,qi 0], ⟨1,[(0,.cells (qz [0,0,0]) true (some 3))]⟩)⟩]
theorem f4_174_k : okM Tryz.prog 174 f4_174 := fk_v4 (by kernel_rfl)
def f4_276a : List MF := [⟨[.vec 0], ⟨1,[(0,.vec (qz [-jA,-jA,-jD]) 1 3 false)]⟩, (.tup [.agg (c8 (-jA) (c8 (-jA) (c8 (-jD) (c8 1 [.vec 1])))),qi 0], ⟨2,[(0,.vec (qz [-jA,-jA,-jD]) 1 3 false),(1,.vec [qi 0] 1 1 true)]⟩)⟩,
 ⟨[.vec 0], ⟨1,[(0,.vec (qz [jA,-jA,-jD]) 1 3 false)]⟩, (.tup [.agg (c8 jA (c8 (-jA) (c8 (-jD) (c8 1 [.vec 1])))),qi 0], ⟨2,[(0,.vec (qz [jA,-jA,-jD]) 1 3 false),(1,.vec [qi 0] 1 1 true)]⟩)⟩,
 ⟨[.vec 0], ⟨1,[(0,.vec (qz [-jA,jA,-jD]) 1 3 false)]⟩, (.tup [.agg (c8 (-jA) (c8 jA (c8 (-jD) (c8 1 [.vec 1])))),qi 0], ⟨2,[(0,.vec (qz [-jA,jA,-jD]) 1 3 false),(1,.vec [qi 0] 1 1 true)]⟩)⟩,
 ⟨[.vec 0], ⟨1,[(0,.vec (qz [jA,jA,-jD]) 1 3 false)]⟩, (.tup [.agg (c8 jA (c8 jA (c8 (-jD) (c8 1 [.vec 1])))),qi 0], ⟨2,[(0,.vec (qz [jA,jA,-jD]) 1 3 false),(1,.vec [qi 0] 1 1 true)]⟩)⟩,
 ⟨[.vec 0], ⟨1,[(0,.vec (qz [-jA,-jA,-jC]) 1 3 false)]⟩, (.tup [.agg (c8 (-jA) (c8 (-jA) (c8 (-jC) (c8 1 [.vec 1])))),qi 0], ⟨2,[(0,.vec (qz [-jA,-jA,-jC]) 1 3 false),(1,.vec [qi 0] 1 1 true)]⟩)⟩,
 ⟨[.vec 0], ⟨1,[(0,.vec (qz [jA,-jA,-jC]) 1 3 false)]⟩, (.tup [.agg (c8 jA (c8 (-jA) (c8 (-jC) (c8 1 [.vec 1])))),qi 0], ⟨2,[(0,.vec (qz [jA,-jA,-jC]) 1 3 false),(1,.vec [qi 0] 1 1 true)]⟩)⟩]
theorem f4_276a_k : okM Tryz.prog 276 f4_276a := fk_v4 (by kernel_rfl)
def f4_276b : List MF := [⟨[.vec 0], ⟨1,[(0,.vec (qz [-jA,jA,-jC]) 1 3 false)]⟩, (.tup [.agg (c8 (-jA) (c8 jA (c8 (-jC) (c8 1 [.vec 1])))),qi 0], ⟨2,[(0,.vec (qz [-jA,jA,-jC]) 1 3 false),(1,.vec [qi 0] 1 1 true)]⟩)⟩,
 ⟨[.vec 0], ⟨1,[(0,.vec (qz [jA,jA,-jC]) 1 3 false)]⟩, (.tup [.agg (c8 jA (c8 jA (c8 (-jC) (c8 1 [.vec 1])))),qi 0], ⟨2,[(0,.vec (qz [jA,jA,-jC]) 1 3 false),(1,.vec [qi 0] 1 1 true)]⟩)⟩,
 ⟨[.vec 0], ⟨1,[(0,.vec (qz [jA,jA,jD]) 1 3 false)]⟩, (.tup [.agg (c8 jA (c8 jA (c8 jD (c8 1 [.vec 1])))),qi 0], ⟨2,[(0,.vec (qz [jA,jA,jD]) 1 3 false),(1,.vec [qi 0] 1 1 true)]⟩)⟩]
theorem f4_276b_k : okM Tryz.prog 276 f4_276b := fk_v4 (by kernel_rfl)
def f4_322 : List MF := [⟨[.vec 0], ⟨1,[(0,.vec (qz [-jA,-jA,-jD,-jA,-jA,-jC,jA,jA,-jC]) 3 3 false)]⟩, (.tup (qz [2,0]), ⟨1,[(0,.vec (qz [-jA,-jA,-jD,-jA,-jA,-jC,jA,jA,-jC]) 3 3 false)]⟩)⟩,
 ⟨[.vec 0], ⟨1,[(0,.vec (qz [jA,jA,jD,jA,jA,jC,-jA,-jA,jC]) 3 3 false)]⟩, (.tup (qz [2,0]), ⟨1,[(0,.vec (qz [jA,jA,jD,jA,jA,jC,-jA,-jA,jC]) 3 3 false)]⟩)⟩]
theorem f4_322_k : okM Tryz.prog 322 f4_322 := fk_v4 (by kernel_rfl)
def f4_349a : List MF := [⟨[.vec 0,.vec 1], ⟨2,[(0,.vec (qz [-jA,-jA,-jD,jA,jA,-jC]) 2 3 false),(1,.vec (qz [-jA,-jA,-jD,jA,jA,-jC]) 2 3 false)]⟩, (.tup [.agg (c8 jJ (c8 jJ (c8 (-jX) (c8 33 [.nils])))),.bool true], ⟨2,[(0,.vec (qz [-jA,-jA,-jD,jA,jA,-jC]) 2 3 false),(1,.vec (qz [-jA,-jA,-jD,jA,jA,-jC]) 2 3 false)]⟩)⟩,
 ⟨[.vec 0,.vec 1], ⟨2,[(0,.vec (qz [-jA,-jA,-jD,-jA,-jA,-jC,jA,jA,-jC]) 3 3 false),(1,.vec (qz [-jA,-jA,-jD,-jA,-jA,-jC]) 2 3 false)]⟩, (.tup [.agg (c8 0 (c8 0 (c8 0 (c8 0 [.nils])))),.bool false], ⟨2,[(0,.vec (qz [-jA,-jA,-jD,-jA,-jA,-jC,jA,jA,-jC]) 3 3 false),(1,.vec (qz [-jA,-jA,-jD,-jA,-jA,-jC]) 2 3 false)]⟩)⟩,
 ⟨[.vec 0,.vec 1], ⟨2,[(0,.vec (qz [-jA,-jA,-jD,-jA,-jA,-jC,jA,jA,-jC]) 3 3 false),(1,.vec (qz [-jA,-jA,-jD,jA,jA,-jC]) 2 3 false)]⟩, (.tup [.agg (c8 0 (c8 0 (c8 0 (c8 0 [.nils])))),.bool false], ⟨2,[(0,.vec (qz [-jA,-jA,-jD,-jA,-jA,-jC,jA,jA,-jC]) 3 3 false),(1,.vec (qz [-jA,-jA,-jD,jA,jA,-jC]) 2 3 false)]⟩)⟩,
 ⟨[.vec 0,.vec 1], ⟨2,[(0,.vec (qz [-jA,-jA,-jD,-jA,-jA,-jC,jA,jA,-jC]) 3 3 false),(1,.vec (qz [-jA,-jA,-jC,jA,jA,-jC]) 2 3 false)]⟩, (.tup [.agg (c8 0 (c8 0 (c8 (-jC) (c8 1 [.nils])))),.bool true], ⟨2,[(0,.vec (qz [-jA,-jA,-jD,-jA,-jA,-jC,jA,jA,-jC]) 3 3 false),(1,.vec (qz [-jA,-jA,-jC,jA,jA,-jC]) 2 3 false)]⟩)⟩,
 ⟨[.vec 0,.vec 1], ⟨2,[(0,.vec (qz [jA,jA,jD,-jA,-jA,jC]) 2 3 false),(1,.vec (qz [jA,jA,jD,-jA,-jA,jC]) 2 3 false)]⟩, (.tup [.agg (c8 (-jJ) (c8 (-jJ) (c8 jX (c8 33 [.nils])))),.bool true], ⟨2,[(0,.vec (qz [jA,jA,jD,-jA,-jA,jC]) 2 3 false),(1,.vec (qz [jA,jA,jD,-jA,-jA,jC]) 2 3 false)]⟩)⟩,
 ⟨[.vec 0,.vec 1], ⟨2,[(0,.vec (qz [jA,jA,jD,jA,jA,jC,-jA,-jA,jC]) 3 3 false),(1,.vec (qz [jA,jA,jD,jA,jA,jC]) 2 3 false)]⟩, (.tup [.agg (c8 0 (c8 0 (c8 0 (c8 0 [.nils])))),.bool false], ⟨2,[(0,.vec (qz [jA,jA,jD,jA,jA,jC,-jA,-jA,jC]) 3 3 false),(1,.vec (qz [jA,jA,jD,jA,jA,jC]) 2 3 false)]⟩)⟩]
theorem f4_349a_k : okM Tryz.prog 349 f4_349a := fk_v4 (by kernel_rfl)
def f4_349b : List MF := [⟨[.vec 0,.vec 1], ⟨2,[(0,.vec (qz [jA,jA,jD,jA,jA,jC,-jA,-jA,jC]) 3 3 false),(1,.vec (qz [jA,jA,jD,-jA,-jA,jC]) 2 3 false)]⟩, (.tup [.agg (c8 0 (c8 0 (c8 0 (c8 0 [.nils])))),.bool false], ⟨2,[(0,.vec (qz [jA,jA,jD,jA,jA,jC,-jA,-jA,jC]) 3 3 false),(1,.vec (qz [jA,jA,jD,-jA,-jA,jC]) 2 3 false)]⟩)⟩,
 ⟨[.vec 0,.vec 1], ⟨2,[(0,.vec (qz [jA,jA,jD,jA,jA,jC,-jA,-jA,jC]) 3 3 false),(1,.vec (qz [jA,jA,jC,-jA,-jA,jC]) 2 3 false)]⟩, (.tup [.agg (c8 0 (c8 0 (c8 jC (c8 1 [.nils])))),.bool true], ⟨2,[(0,.vec (qz [jA,jA,jD,jA,jA,jC,-jA,-jA,jC]) 3 3 false),(1,.vec (qz [jA,jA,jC,-jA,-jA,jC]) 2 3 false)]⟩)⟩]
theorem f4_349b_k : okM Tryz.prog 349 f4_349b := fk_v4 (by kernel_rfl)
def fk_lt5 : FTab := fun f => cond (Nat.beq f 66) e4_66 (cond (Nat.beq f 70) e4_70 (cond (Nat.beq f 123) e4_123 (cond (Nat.beq f 124) e4_124 (cond (Nat.beq f 133) e4_133 (cond (Nat.beq f 150) e4_150 (cond (Nat.beq f 308) e4_308 ([])))))))
theorem fk_lt5_ok : FTabOk Tryz.prog fk_lt5 := (ftab_node e4_66_k (ftab_node e4_70_k (ftab_node e4_123_k (ftab_node e4_124_k (ftab_node e4_133_k (ftab_node e4_150_k (ftab_node e4_308_k ftab_leaf)))))))
def fk_t5 : FTab := fun f => fk_lt5 f ++ fk_t4 f
theorem fk_t5_ok : FTabOk Tryz.prog fk_t5 := ftab_or fk_lt5_ok fk_t4_ok
def fk_lm5 : MTab := fun f => cond (Nat.beq f 127) f4_127 (cond (Nat.beq f 143) f4_143 (cond (Nat.beq f 144) f4_144 (cond (Nat.beq f 156) (f4_156a ++ (f4_156b)) (cond (Nat.beq f 173) f4_173 (cond (Nat.beq f 174) f4_174 (cond (Nat.beq f 276) (f4_276a ++ (f4_276b)) (cond (Nat.beq f 322) f4_322 (cond (Nat.beq f 349) (f4_349a ++ (f4_349b)) ([])))))))))
theorem fk_lm5_ok : MTabOk Tryz.prog fk_lm5 := (mtab_node f4_127_k (mtab_node f4_143_k (mtab_node f4_144_k (mtab_node (okM_app f4_156a_k f4_156b_k) (mtab_node f4_173_k (mtab_node f4_174_k (mtab_node (okM_app f4_276a_k f4_276b_k) (mtab_node f4_322_k (mtab_node (okM_app f4_349a_k f4_349b_k) mtab_leaf)))))))))
def fk_m5 : MTab := fun f => fk_lm5 f ++ fk_m4 f
theorem fk_m5_ok : MTabOk Tryz.prog fk_m5 := mtab_or fk_lm5_ok fk_m4_ok
noncomputable abbrev fk_c5 : CH := fk_ch fk_t5 fk_m5
theorem fk_c5_ok : CHOk Tryz.prog fk_c5 := fk_ch_ok fk_t5_ok fk_m5_ok
noncomputable abbrev fk_w5 : Teller := tellRD Tryz.prog tyTab 400 fk_ds fk_il fk_c5
theorem fk_w5_ok : TellOk Tryz.prog fk_w5 := tellRD_ok tab_ok mixed noNum fk_c5_ok
theorem fk_u5 {g l} (h : chkF (pureT fk_w5) g l = true) : okL Tryz.prog g l := chkF_ok (tell := fk_w5) fk_w5_ok h
theorem fk_v5 {g l} (h : chkM fk_w5 g l = true) : okM Tryz.prog g l := chkM_ok (tell := fk_w5) fk_w5_ok h
def e5_65 : List (List AVal × AVal) := [([.agg (qz [jB,jb,jb,jb])], .agg (qz [jB,jG,jG,jG]))]
theorem e5_65_k : okL Tryz.prog 65 e5_65 := fk_u5 (by kernel_rfl)
def e5_69a : List (List AVal × AVal) := [([.agg (qz [0,0,-jB]),qi 0], .agg (qz [0,0,0])),
 ([.agg (qz [0,-jB,0]),qi 0], .agg (qz [0,0,0])),
 ([.agg (qz [-jB,0,0]),qi 0], .agg (qz [0,0,0])),
 ([.agg (qz [0,0,0]),qi 0], .agg (qz [0,0,0])),
 ([.agg (qz [0,0,0]),qi (-jB)], .agg (qz [0,0,0])),
 ([.agg (qz [0,0,0]),qi jB], .agg (qz [0,0,0]))]
theorem e5_69a_k : okL Tryz.prog 69 e5_69a := fk_u5 (by kernel_rfl)
def e5_69b : List (List AVal × AVal) := [([.agg (qz [0,0,-jB]),qi jF], .agg (qz [0,0,-jF])),
 ([.agg (qz [0,0,-jF]),qi 0], .agg (qz [0,0,0])),
 ([.agg (qz [0,0,-jF]),qi (-jB)], .agg (qz [0,0,jF])),
 ([.agg (qz [0,0,jF]),qi jB], .agg (qz [0,0,jF]))]
theorem e5_69b_k : okL Tryz.prog 69 e5_69b := fk_u5 (by kernel_rfl)
def e5_217 : List (List AVal × AVal) := [([.agg (qz [0,0,0,0,0,0,0,0,0,0,0,0,0,0,0,0]),.agg (qz [0,0,jI]),.agg (qz [0,0,-jB])], qi 0),
 ([.agg (qz [jB,jG,0,0,0,jG,0,0,0,jG,0,0,-jF,0,0,0]),.agg (qz [0,0,0]),.agg (qz [0,0,-jB])], qi jB),
 ([.agg (qz [0,0,0,0,0,0,0,0,0,0,0,0,0,0,0,0]),.agg (qz [0,0,jI]),.agg (qz [0,-jB,0])], qi 0),
 ([.agg (qz [jB,jG,0,0,0,jG,0,0,0,jG,0,0,-jF,0,0,0]),.agg (qz [0,0,0]),.agg (qz [0,-jB,0])], qi jB),
 ([.agg (qz [0,0,0,0,0,0,0,0,0,0,0,0,0,0,0,0]),.agg (qz [0,0,jI]),.agg (qz [-jB,0,0])], qi 0),
 ([.agg (qz [jB,jG,0,0,0,jG,0,0,0,jG,0,0,-jF,0,0,0]),.agg (qz [0,0,0]),.agg (qz [-jB,0,0])], qi jB)]
theorem e5_217_k : okL Tryz.prog 217 e5_217 := fk_u5 (by kernel_rfl)
def f5_62 : List MF := [⟨[.agg (qs [1,3,0,jE,jE,jB] (.nils :: (qs [0,0,-jB,jB,0,0,0,0,0,0,0,0,0,0,0] [])))], ⟨0,[]⟩, (qi 0, ⟨0,[]⟩)⟩,
 ⟨[.agg (qs [2,1,jB,0,0,0] (.nils :: (qs [0,0,jB,jB,0,0,0,jB,0,0,0,0,0,0,0] [])))], ⟨0,[]⟩, (qi 0, ⟨0,[]⟩)⟩,
 ⟨[.agg (qs [2,1,jB,0,0,0] (.nils :: (qs [0,0,jB,jB,0,0,0,jB,0,0,-jF,0,0,0,0] [])))], ⟨0,[]⟩, (qi 0, ⟨0,[]⟩)⟩]
theorem f5_62_k : okM Tryz.prog 62 f5_62 := fk_v5 (by kernel_rfl)
def f5_83 : List MF := [⟨[.agg (qz [0,0,-jB,jB,0,0,0]),.agg (qs [3,0,jE,jE,jB] [.nils])], ⟨0,[]⟩, (.tup [.vec 0,qi 0], ⟨1,[(0,.vec (qz [-jA,-jA,-jK,jA,-jA,-jK,-jA,jA,-jK,jA,jA,-jK,-jA,-jA,0,jA,-jA,0,-jA,jA,0,jA,jA,0]) 8 3 true)]⟩)⟩,
 ⟨[.agg (qz [0,0,jB,jB,0,0,0]),.agg (qs [1,jB,0,0,0] [.nils])], ⟨0,[]⟩, (.tup [.vec 0,qi 0], ⟨1,[(0,.vec (qz [0,0,jC]) 1 3 true)]⟩)⟩]
theorem f5_83_k : okM Tryz.prog 83 f5_83 := fk_v5 (by kernel_rfl)
def f5_145 : List MF := [⟨[.agg (qs [1,jB,0,0,0] [.nils])], ⟨0,[]⟩, (.tup [.agg (qz [jB,jB,jB]),qi 0], ⟨0,[]⟩)⟩]
theorem f5_145_k : okM Tryz.prog 145 f5_145 := fk_v5 (by kernel_rfl)
def f5_219 : List MF := [⟨[.ptr 2 0,.agg (qz [0,1,0,0,-jB,0,-jB,0,-jB,0,0,0,0,jI,0,0,0,jB,jB,jB,0,0,0,0,0])], ⟨3,[(0,.vec (qz [0,0,0,0,0,0,0,0,0,0,0,0,0,0,0,0,jB,jG,0,0,0,jG,0,0,0,jG,0,0,-jF,0,0,0]) 2 16 false),(1,.vec (qz [0,1,0,0,-jB,0,-jB,0,-jB,0,0,0,0,jI,0,0,0,jB,jB,jB,0,0,0,0,0]) 1 25 false),(2,.cells [.vec 0,.vec 1] false none)]⟩, (.agg (qz [0,0,jF]), ⟨3,[(0,.vec (qz [0,0,0,0,0,0,0,0,0,0,0,0,0,0,0,0,jB,jG,0,0,0,jG,0,0,0,jG,0,0,-jF,0,0,0]) 2 16 false),(1,.vec (qz [0,1,0,0,-jB,0,-jB,0,-jB,0,0,0,0,jI,0,0,0,jB,jB,jB,0,0,0,0,0]) 1 25 false),(2,.cells [.vec 0,.vec 1] false none)]⟩)⟩,
 ⟨[.ptr 2 0,.agg (qz [0,1,0,0,-jB,0,-jB,0,-jB,0,0,0,0,jI,0,0,0,jB,jB,jB,0,0,jF,0,0])], ⟨3,[(0,.vec (qz [0,0,0,0,0,0,0,0,0,0,0,0,0,0,0,0,jB,jG,0,0,0,jG,0,0,0,jG,0,0,0,0,0,0]) 2 16 false),(1,.vec (qz [0,1,0,0,-jB,0,-jB,0,-jB,0,0,0,0,jI,0,0,0,jB,jB,jB,0,0,jF,0,0]) 1 25 false),(2,.cells [.vec 0,.vec 1] false none)]⟩, (.agg (qz [0,0,0]), ⟨3,[(0,.vec (qz [0,0,0,0,0,0,0,0,0,0,0,0,0,0,0,0,jB,jG,0,0,0,jG,0,0,0,jG,0,0,0,0,0,0]) 2 16 false),(1,.vec (qz [0,1,0,0,-jB,0,-jB,0,-jB,0,0,0,0,jI,0,0,0,jB,jB,jB,0,0,jF,0,0]) 1 25 false),(2,.cells [.vec 0,.vec 1] false none)]⟩)⟩]
theorem f5_219_k : okM Tryz.prog 219 f5_219 := fk_v5 (by kernel_rfl)
def f5_276 : List MF := [⟨[.vec 0], ⟨1,[(0,.vec (qz [-jA,-jA,-jD,jA,jA,-jC]) 2 3 false)]⟩, (.tup [.agg (c8 jJ (c8 jJ (c8 (-jX) (c8 33 [.vec 1])))),qi 0], ⟨2,[(0,.vec (qz [-jA,-jA,-jD,jA,jA,-jC]) 2 3 false),(1,.vec (qz [0,1]) 2 1 true)]⟩)⟩,
 ⟨[.vec 0], ⟨1,[(0,.vec (qz [-jA,-jA,-jD,-jA,-jA,-jC,jA,jA,-jC]) 3 3 false)]⟩, (.tup [.agg (c8 0 (c8 0 (c8 (-jC) (c8 1 [.vec 1])))),qi 0], ⟨2,[(0,.vec (qz [-jA,-jA,-jD,-jA,-jA,-jC,jA,jA,-jC]) 3 3 false),(1,.vec (qz [1,2]) 2 1 true)]⟩)⟩,
 ⟨[.vec 0], ⟨1,[(0,.vec (qz [jA,jA,jD,-jA,-jA,jC]) 2 3 false)]⟩, (.tup [.agg (c8 (-jJ) (c8 (-jJ) (c8 jX (c8 33 [.vec 1])))),qi 0], ⟨2,[(0,.vec (qz [jA,jA,jD,-jA,-jA,jC]) 2 3 false),(1,.vec (qz [0,1]) 2 1 true)]⟩)⟩,
 ⟨[.vec 0], ⟨1,[(0,.vec (qz [jA,jA,jD,jA,jA,jC,-jA,-jA,jC]) 3 3 false)]⟩, (.tup [.agg (c8 0 (c8 0 (c8 jC (c8 1 [.vec 1])))),qi 0], ⟨2,[(0,.vec (qz [jA,jA,jD,jA,jA,jC,-jA,-jA,jC]) 3 3 false),(1,.vec (qz [1,2]) 2 1 true)]⟩)⟩]
theorem f5_276_k : okM Tryz.prog 276 f5_276 := fk_v5 (by kernel_rfl)
def f5_347a : List MF := [⟨[.vec 0], ⟨1,[(0,.vec (qz [-jA,-jA,-jD]) 1 3 false)]⟩, (.tup [.agg (c8 (-jA) (c8 (-jA) (c8 (-jD) (c8 1 [.vec 1])))),qi 1], ⟨2,[(0,.vec (qz [-jA,-jA,-jD]) 1 3 false),(1,.vec [qi 0] 1 1 true)]⟩)⟩,
 ⟨[.vec 0], ⟨1,[(0,.vec (qz [jA,-jA,-jD]) 1 3 false)]⟩, (.tup [.agg (c8 jA (c8 (-jA) (c8 (-jD) (c8 1 [.vec 1])))),qi 1], ⟨2,[(0,.vec (qz [jA,-jA,-jD]) 1 3 false),(1,.vec [qi 0] 1 1 true)]⟩)⟩,
 ⟨[.vec 0], ⟨1,[(0,.vec (qz [-jA,jA,-jD]) 1 3 false)]⟩, (.tup [.agg (c8 (-jA) (c8 jA (c8 (-jD) (c8 1 [.vec 1])))),qi 1], ⟨2,[(0,.vec (qz [-jA,jA,-jD]) 1 3 false),(1,.vec [qi 0] 1 1 true)]⟩)⟩,
 ⟨[.vec 0], ⟨1,[(0,.vec (qz [jA,jA,-jD]) 1 3 false)]⟩, (.tup [.agg (c8 jA (c8 jA (c8 (-jD) (c8 1 [.vec 1])))),qi 1], ⟨2,[(0,.vec (qz [jA,jA,-jD]) 1 3 false),(1,.vec [qi 0] 1 1 true)]⟩)⟩,
 ⟨[.vec 0], ⟨1,[(0,.vec (qz [-jA,-jA,-jC]) 1 3 false)]⟩, (.tup [.agg (c8 (-jA) (c8 (-jA) (c8 (-jC) (c8 1 [.vec 1])))),qi 1], ⟨2,[(0,.vec (qz [-jA,-jA,-jC]) 1 3 false),(1,.vec [qi 0] 1 1 true)]⟩)⟩,
 ⟨[.vec 0], ⟨1,[(0,.vec (qz [jA,-jA,-jC]) 1 3 false)]⟩, (.tup [.agg (c8 jA (c8 (-jA) (c8 (-jC) (c8 1 [.vec 1])))),qi 1], ⟨2,[(0,.vec (qz [jA,-jA,-jC]) 1 3 false),(1,.vec [qi 0] 1 1 true)]⟩)⟩]
theorem f5_347a_k : okM Tryz.prog 347 f5_347a := fk_v5 (by kernel_rfl)
def f5_347b : List MF := [⟨[.vec 0], ⟨1,[(0,.vec (qz [-jA,jA,-jC]) 1 3 false)]⟩, (.tup [.agg (c8 (-jA) (c8 jA (c8 (-jC) (c8 1 [.vec 1])))),qi 1], ⟨2,[(0,.vec (qz [-jA,jA,-jC]) 1 3 false),(1,.vec [qi 0] 1 1 true)]⟩)⟩,
 ⟨[.vec 0], ⟨1,[(0,.vec (qz [jA,jA,-jC]) 1 3 false)]⟩, (.tup [.agg (c8 jA (c8 jA (c8 (-jC) (c8 1 [.vec 1])))),qi 1], ⟨2,[(0,.vec (qz [jA,jA,-jC]) 1 3 false),(1,.vec [qi 0] 1 1 true)]⟩)⟩]
theorem f5_347b_k : okM Tryz.prog 347 f5_347b := fk_v5 (by kernel_rfl)
def fk_lt6 : FTab := fun f => cond (Nat.beq f 65) e5_65 (cond (Nat.beq f 69) (e5_69a ++ (e5_69b)) (cond (Nat.beq f 217) e5_217 ([])))
theorem fk_lt6_ok : FTabOk Tryz.prog fk_lt6 := (ftab_node e5_65_k (ftab_node (okL_app e5_69a_k e5_69b_k) (ftab_node e5_217_k ftab_leaf)))
def fk_t6 : FTab := fun f => fk_lt6 f ++ fk_t5 f
theorem fk_t6_ok : FTabOk Tryz.prog fk_t6 := ftab_or fk_lt6_ok fk_t5_ok
def fk_lm6 : MTab := fun f => cond (Nat.beq f 62) f5_62 (cond (Nat.beq f 83) f5_83 (cond (Nat.beq f 145) f5_145 (cond (Nat.beq f 219) f5_219 (cond (Nat.beq f 276) f5_276 (cond (Nat.beq f 347) (f5_347a ++ (f5_347b)) ([]))))))
theorem fk_lm6_ok : MTabOk Tryz.prog fk_lm6 := (mtab_node f5_62_k (mtab_node f5_83_k (mtab_node f5_145_k (mtab_node f5_219_k (mtab_node f5_276_k (mtab_node (okM_app f5_347a_k f5_347b_k) mtab_leaf))))))
def fk_m6 : MTab := fun f => fk_lm6 f ++ fk_m5 f
theorem fk_m6_ok : MTabOk Tryz.prog fk_m6 := mtab_or fk_lm6_ok fk_m5_ok
noncomputable abbrev fk_c6 : CH := fk_ch fk_t6 fk_m6
theorem fk_c6_ok : CHOk Tryz.prog fk_c6 := fk_ch_ok fk_t6_ok fk_m6_ok
noncomputable abbrev fk_w6 : Teller := tellRD Tryz.prog tyTab 400 fk_ds fk_il fk_c6
theorem fk_w6_ok : TellOk Tryz.prog fk_w6 := tellRD_ok tab_ok mixed noNum fk_c6_ok
theorem fk_u6 {g l} (h : chkF (pureT fk_w6) g l = true) : okL Tryz.prog g l := chkF_ok (tell := fk_w6) fk_w6_ok h
theorem fk_v6 {g l} (h : chkM fk_w6 g l = true) : okM Tryz.prog g l := chkM_ok (tell := fk_w6) fk_w6_ok h
def e6_27 : List (List AVal × AVal) := [([.agg (qz [0,0,0,0,0,0,0,0,0,0,0,0,0,0,0,0]),.agg (qz [0,0,jI]),.agg (qz [0,0,0])], .agg (qz [0,0,0,0,0,0,0,0,0,0,0,0,0,0,0,0])),
 ([.agg (qz [jB,jG,0,0,0,jG,0,0,0,jG,0,0,-jF,0,0,0]),.agg (qz [0,0,0]),.agg (qz [0,0,0])], .agg (qz [jB,jG,0,0,0,jG,0,0,0,jG,0,0,-jF,0,0,0])),
 ([.agg (qz [0,0,0,0,0,0,0,0,0,0,0,0,0,0,0,0]),.agg (qz [0,0,jI]),.agg (qz [0,0,-jF])], .agg (qz [0,0,0,0,0,0,0,0,0,0,0,0,0,0,0,0])),
 ([.agg (qz [jB,jG,0,0,0,jG,0,0,0,jG,0,0,-jF,0,0,0]),.agg (qz [0,0,0]),.agg (qz [0,0,jF])], .agg (qz [jB,jG,0,0,0,jG,0,0,0,jG,0,0,0,0,0,0])),
 ([.agg (qz [jB,jG,0,0,0,jG,0,0,0,jG,0,0,0,0,0,0]),.agg (qz [0,0,0]),.agg (qz [0,0,0])], .agg (qz [jB,jG,0,0,0,jG,0,0,0,jG,0,0,0,0,0,0]))]
theorem e6_27_k : okL Tryz.prog 27 e6_27 := fk_u6 (by kernel_rfl)
def e6_126 : List (List AVal × AVal) := [([.agg (qz [0,0,0,0,0,0,0,0,0,0,0,0,0,0,0,0]),.agg (qz [jB,jG,0,0,0,jG,0,0,0,jG,0,0,-jF,0,0,0]),.agg (qz [0,0,jI]),.agg (qz [0,0,0]),.agg (qz [0,0,-jB])], qi jB),
 ([.agg (qz [0,0,0,0,0,0,0,0,0,0,0,0,0,0,0,0]),.agg (qz [jB,jG,0,0,0,jG,0,0,0,jG,0,0,-jF,0,0,0]),.agg (qz [0,0,jI]),.agg (qz [0,0,0]),.agg (qz [0,-jB,0])], qi jB),
 ([.agg (qz [0,0,0,0,0,0,0,0,0,0,0,0,0,0,0,0]),.agg (qz [jB,jG,0,0,0,jG,0,0,0,jG,0,0,-jF,0,0,0]),.agg (qz [0,0,jI]),.agg (qz [0,0,0]),.agg (qz [-jB,0,0])], qi jB)]
theorem e6_126_k : okL Tryz.prog 126 e6_126 := fk_u6 (by kernel_rfl)
def f6_26 : List MF := [⟨[.agg (qs [1,3,0,jE,jE,jB] (.nils :: (qs [0,0,-jB,jB,0,0,0,0,0,0,0,0,0,0,0] [])))], ⟨0,[]⟩, (.tup [.agg (qz [0,0,0,0,0,0,0,0,0,0,0,0,0,0,0,0]),qi 0], ⟨0,[]⟩)⟩]
theorem f6_26_k : okM Tryz.prog 26 f6_26 := fk_v6 (by kernel_rfl)
def f6_57 : List MF := [⟨[.agg (qs [1,3,0,jE,jE,jB] (.nils :: (qs [0,0,-jB,jB,0,0,0,0,0,0,0,0,0,0,0] [])))], ⟨0,[]⟩, (.tup [.agg (qz [-jL,-jL,-jO,jL,jL,jU]),qi 0], ⟨0,[]⟩)⟩,
 ⟨[.agg (qs [2,1,jB,0,0,0] (.nils :: (qs [0,0,jB,jB,0,0,0,jB,0,0,0,0,0,0,0] [])))], ⟨0,[]⟩, (.tup [.agg (qz [-jM,-jM,-jU,jM,jM,jO]),qi 0], ⟨0,[]⟩)⟩]
theorem f6_57_k : okM Tryz.prog 57 f6_57 := fk_v6 (by kernel_rfl)
def f6_64 : List MF := [⟨[.agg (qs [1,jB,0,0,0] [.nils]),qi jB], ⟨0,[]⟩, (.tup [.agg (qz [jB,jb,jb,jb]),qi 0], ⟨0,[]⟩)⟩]
theorem f6_64_k : okM Tryz.prog 64 f6_64 := fk_v6 (by kernel_rfl)
def f6_107 : List MF := [⟨[.agg (qs [1,3,0,jE,jE,jB] (.nils :: (qs [0,0,-jB,jB,0,0,0,0,0,0,0,0,0,0,0] []))),qi jQ], ⟨0,[]⟩, (qi 0, ⟨0,[]⟩)⟩,
 ⟨[.agg (qs [2,1,jB,0,0,0] (.nils :: (qs [0,0,jB,jB,0,0,0,jB,0,0,0,0,0,0,0] []))),qi jQ], ⟨0,[]⟩, (qi 0, ⟨0,[]⟩)⟩]
theorem f6_107_k : okM Tryz.prog 107 f6_107 := fk_v6 (by kernel_rfl)
def f6_275a : List MF := [⟨[.vec 0], ⟨1,[(0,.vec (qz [-jA,-jA,-jD]) 1 3 false)]⟩, (.tup [.agg (c8 (-jA) (c8 (-jA) (c8 (-jD) (c8 1 [.vec 1])))),qi 1,qi 0], ⟨2,[(0,.vec (qz [-jA,-jA,-jD]) 1 3 false),(1,.vec [qi 0] 1 1 true)]⟩)⟩,
 ⟨[.vec 0], ⟨1,[(0,.vec (qz [jA,-jA,-jD]) 1 3 false)]⟩, (.tup [.agg (c8 jA (c8 (-jA) (c8 (-jD) (c8 1 [.vec 1])))),qi 1,qi 0], ⟨2,[(0,.vec (qz [jA,-jA,-jD]) 1 3 false),(1,.vec [qi 0] 1 1 true)]⟩)⟩,
 ⟨[.vec 0], ⟨1,[(0,.vec (qz [-jA,jA,-jD]) 1 3 false)]⟩, (.tup [.agg (c8 (-jA) (c8 jA (c8 (-jD) (c8 1 [.vec 1])))),qi 1,qi 0], ⟨2,[(0,.vec (qz [-jA,jA,-jD]) 1 3 false),(1,.vec [qi 0] 1 1 true)]⟩)⟩,
 ⟨[.vec 0], ⟨1,[(0,.vec (qz [jA,jA,-jD]) 1 3 false)]⟩, (.tup [.agg (c8 jA (c8 jA (c8 (-jD) (c8 1 [.vec 1])))),qi 1,qi 0], ⟨2,[(0,.vec (qz [jA,jA,-jD]) 1 3 false),(1,.vec [qi 0] 1 1 true)]⟩)⟩,
 ⟨[.vec 0], ⟨1,[(0,.vec (qz [-jA,-jA,-jC]) 1 3 false)]⟩, (.tup [.agg (c8 (-jA) (c8 (-jA) (c8 (-jC) (c8 1 [.vec 1])))),qi 1,qi 0], ⟨2,[(0,.vec (qz [-jA,-jA,-jC]) 1 3 false),(1,.vec [qi 0] 1 1 true)]⟩)⟩,
 ⟨[.vec 0], ⟨1,[(0,.vec (qz [jA,-jA,-jC]) 1 3 false)]⟩, (.tup [.agg (c8 jA (c8 (-jA) (c8 (-jC) (c8 1 [.vec 1])))),qi 1,qi 0], ⟨2,[(0,.vec (qz [jA,-jA,-jC]) 1 3 false),(1,.vec [qi 0] 1 1 true)]⟩)⟩]
theorem f6_275a_k : okM Tryz.prog 275 f6_275a := fk_v6 (by kernel_rfl)
def f6_275b : List MF := [⟨[.vec 0], ⟨1,[(0,.vec (qz [-jA,jA,-jC]) 1 3 false)]⟩, (.tup [.agg (c8 (-jA) (c8 jA (c8 (-jC) (c8 1 [.vec 1])))),qi 1,qi 0], ⟨2,[(0,.vec (qz [-jA,jA,-jC]) 1 3 false),(1,.vec [qi 0] 1 1 true)]⟩)⟩,
 ⟨[.vec 0], ⟨1,[(0,.vec (qz [jA,jA,-jC]) 1 3 false)]⟩, (.tup [.agg (c8 jA (c8 jA (c8 (-jC) (c8 1 [.vec 1])))),qi 1,qi 0], ⟨2,[(0,.vec (qz [jA,jA,-jC]) 1 3 false),(1,.vec [qi 0] 1 1 true)]⟩)⟩]
theorem f6_275b_k : okM Tryz.prog 275 f6_275b := fk_v6 (by kernel_rfl)
def f6_347 : List MF := [⟨[.vec 0], ⟨1,[(0,.vec (qz [-jA,-jA,-jD,jA,-jA,-jD,-jA,jA,-jD,jA,jA,-jD,-jA,-jA,-jC,jA,-jA,-jC,-jA,jA,-jC,jA,jA,-jC]) 8 3 false)]⟩, (.tup [.agg (c8 0 (c8 0 (c8 (-jC) (c8 1 [.vec 1])))),qi 3], ⟨2,[(0,.vec (qz [-jA,-jA,-jD,jA,-jA,-jD,-jA,jA,-jD,jA,jA,-jD,-jA,-jA,-jC,jA,-jA,-jC,-jA,jA,-jC,jA,jA,-jC]) 8 3 false),(1,.vec (qz [4,7]) 2 1 true)]⟩)⟩,
 ⟨[.vec 0], ⟨1,[(0,.vec (qz [jA,jA,jD,-jA,jA,jD,jA,-jA,jD,-jA,-jA,jD,jA,jA,jC,-jA,jA,jC,jA,-jA,jC,-jA,-jA,jC]) 8 3 false)]⟩, (.tup [.agg (c8 0 (c8 0 (c8 jC (c8 1 [.vec 1])))),qi 3], ⟨2,[(0,.vec (qz [jA,jA,jD,-jA,jA,jD,jA,-jA,jD,-jA,-jA,jD,jA,jA,jC,-jA,jA,jC,jA,-jA,jC,-jA,-jA,jC]) 8 3 false),(1,.vec (qz [4,7]) 2 1 true)]⟩)⟩]
theorem f6_347_k : okM Tryz.prog 347 f6_347 := fk_v6 (by kernel_rfl)
def fk_lt7 : FTab := fun f => cond (Nat.beq f 27) e6_27 (cond (Nat.beq f 126) e6_126 ([]))
theorem fk_lt7_ok : FTabOk Tryz.prog fk_lt7 := (ftab_node e6_27_k (ftab_node e6_126_k ftab_leaf))
def fk_t7 : FTab := fun f => fk_lt7 f ++ fk_t6 f
theorem fk_t7_ok : FTabOk Tryz.prog fk_t7 := ftab_or fk_lt7_ok fk_t6_ok
def fk_lm7 : MTab := fun f => cond (Nat.beq f 26) f6_26 (cond (Nat.beq f 57) f6_57 (cond (Nat.beq f 64) f6_64 (cond (Nat.beq f 107) f6_107 (cond (Nat.beq f 275) (f6_275a ++ (f6_275b)) (cond (Nat.beq f 347) f6_347 ([]))))))
theorem fk_lm7_ok : MTabOk Tryz.prog fk_lm7 := (mtab_node f6_26_k (mtab_node f6_57_k (mtab_node f6_64_k (mtab_node f6_107_k (mtab_node (okM_app f6_275a_k f6_275b_k) (mtab_node f6_347_k mtab_leaf))))))
def fk_m7 : MTab := fun f => fk_lm7 f ++ fk_m6 f
theorem fk_m7_ok : MTabOk Tryz.prog fk_m7 := mtab_or fk_lm7_ok fk_m6_ok
noncomputable abbrev fk_c7 : CH := fk_ch fk_t7 fk_m7
theorem fk_c7_ok : CHOk Tryz.prog fk_c7 := fk_ch_ok fk_t7_ok fk_m7_ok
noncomputable abbrev fk_w7 : Teller := tellRD Tryz.prog tyTab 400 fk_ds fk_il fk_c7
theorem fk_w7_ok : TellOk Tryz.prog fk_w7 := tellRD_ok tab_ok mixed noNum fk_c7_ok
theorem fk_v7 {g l} (h : chkM fk_w7 g l = true) : okM Tryz.prog g l := chkM_ok (tell := fk_w7) fk_w7_ok h
def f7_26 : List MF := [⟨[.agg (qs [2,1,jB,0,0,0] (.nils :: (qs [0,0,jB,jB,0,0,0,jB,0,0,-jF,0,0,0,0] [])))], ⟨0,[]⟩, (.tup [.agg (qz [jB,jG,0,0,0,jG,0,0,0,jG,0,0,-jF,0,0,0]),qi 0], ⟨0,[]⟩)⟩]
theorem f7_26_k : okM Tryz.prog 26 f7_26 := fk_v7 (by kernel_rfl)
def f7_46 : List MF := [⟨[.agg (qs [1,3,0,jE,jE,jB] (.nils :: (qs [0,0,-jB,jB,0,0,0,0,0,0,0,0,0,0,0] []))),.agg (qz [0,0,-jj]),qi jQ], ⟨0,[]⟩, (.tup [.agg (qs [1,3,0,jE,jE,jB] (.nils :: (qs [0,0,-jB,jB,0,0,0,0,0,0,0,0,0,0,0] []))),.nils,qi 0], ⟨0,[]⟩)⟩,
 ⟨[.agg (qs [2,1,jB,0,0,0] (.nils :: (qs [0,0,jB,jB,0,0,0,jB,0,0,0,0,0,0,0] []))),.agg (qz [0,0,-jj]),qi jQ], ⟨0,[]⟩, (.tup [.agg (qs [2,1,jB,0,0,0] (.nils :: (qs [0,0,jB,jB,0,0,0,jB,0,0,-jF,0,0,0,0] []))),.nils,qi 0], ⟨0,[]⟩)⟩]
theorem f7_46_k : okM Tryz.prog 46 f7_46 := fk_v7 (by kernel_rfl)
def f7_53 : List MF := [⟨[.vec 0,.vec 1,qi 4], ⟨2,[(0,.vec (qz [0,0,0,0,0,0,0,0,0,0,0,0,0,0,0,0,jB,jG,0,0,0,jG,0,0,0,jG,0,0,-jF,0,0,0]) 2 16 false),(1,.vec (qz [0,1,0,0,-jB,0,-jB,0,-jB,0,0,0,0,jI,0,0,0,jB,jB,jB,0,0,0,0,0]) 1 25 false)]⟩, (.tup [.vec 2,.vec 3,qi 0], ⟨4,[(0,.vec (qz [0,0,0,0,0,0,0,0,0,0,0,0,0,0,0,0,jB,jG,0,0,0,jG,0,0,0,jG,0,0,-jF,0,0,0]) 2 16 false),(1,.vec (qz [0,1,0,0,-jB,0,-jB,0,-jB,0,0,0,0,jI,0,0,0,jB,jB,jB,0,0,0,0,0]) 1 25 false),(2,.vec (qz [0,0,0,0,0,0,0,0,0,0,0,0,0,0,0,0,jB,jG,0,0,0,jG,0,0,0,jG,0,0,0,0,0,0]) 2 16 true),(3,.vec (qz [0,1,0,0,-jB,0,-jB,0,-jB,0,0,0,0,jI,0,0,0,jB,jB,jB,0,0,jF,0,0]) 1 25 true)]⟩)⟩]
theorem f7_53_k : okM Tryz.prog 53 f7_53 := fk_v7 (by kernel_rfl)
def f7_54 : List MF := [⟨[.agg (qs [1,3,0,jE,jE,jB] (.nils :: (qs [0,0,-jB,jB,0,0,0,0,0,0,0,0,0,0,0] []))),qi jQ], ⟨0,[]⟩, (.tup [.agg (qs [1,3,0,jE,jE,jB] (.nils :: (qs [0,0,-jB,jB,0,0,0,0,0,0,0,0,0,0,0] []))),.nils,qi 0], ⟨0,[]⟩)⟩,
 ⟨[.agg (qs [2,1,jB,0,0,0] (.nils :: (qs [0,0,jB,jB,0,0,0,jB,0,0,0,0,0,0,0] []))),qi jQ], ⟨0,[]⟩, (.tup [.agg (qs [2,1,jB,0,0,0] (.nils :: (qs [0,0,jB,jB,0,0,0,jB,0,0,0,0,0,0,0] []))),.nils,qi 0], ⟨0,[]⟩)⟩]
theorem f7_54_k : okM Tryz.prog 54 f7_54 := fk_v7 (by kernel_rfl)
def f7_125 : List MF := [⟨[.agg (qz [0,0,-jB]),.ptr 0 0,.ptr 1 0,.ptr 2 0], ⟨3,[(0,.cells (qz [0,0,0,0,0,0,0,0,0,0,0,0,0,0,0,0]) false none),(1,.cells (qz [jB,jG,0,0,0,jG,0,0,0,jG,0,0,-jF,0,0,0]) false none),(2,.cells (qz [0,1,0,0,-jB,0,-jB,0,-jB,0,0,0,0,jI,0,0,0,0,0,0,0,0,0,0,0]) false none)]⟩, (qi jB, ⟨3,[(0,.cells (qz [0,0,0,0,0,0,0,0,0,0,0,0,0,0,0,0]) false none),(1,.cells (qz [jB,jG,0,0,0,jG,0,0,0,jG,0,0,-jF,0,0,0]) false none),(2,.cells (qz [0,1,0,0,-jB,0,-jB,0,-jB,0,0,0,0,jI,0,0,0,0,0,0,0,0,0,0,0]) false none)]⟩)⟩,
 ⟨[.agg (qz [0,-jB,0]),.ptr 0 0,.ptr 1 0,.ptr 2 0], ⟨3,[(0,.cells (qz [0,0,0,0,0,0,0,0,0,0,0,0,0,0,0,0]) false none),(1,.cells (qz [jB,jG,0,0,0,jG,0,0,0,jG,0,0,-jF,0,0,0]) false none),(2,.cells (qz [0,1,0,0,-jB,0,-jB,0,-jB,0,0,0,0,jI,0,0,0,0,0,0,0,0,0,0,0]) false none)]⟩, (qi jB, ⟨3,[(0,.cells (qz [0,0,0,0,0,0,0,0,0,0,0,0,0,0,0,0]) false none),(1,.cells (qz [jB,jG,0,0,0,jG,0,0,0,jG,0,0,-jF,0,0,0]) false none),(2,.cells (qz [0,1,0,0,-jB,0,-jB,0,-jB,0,0,0,0,jI,0,0,0,0,0,0,0,0,0,0,0]) false none)]⟩)⟩,
 ⟨[.agg (qz [-jB,0,0]),.ptr 0 0,.ptr 1 0,.ptr 2 0], ⟨3,[(0,.cells (qz [0,0,0,0,0,0,0,0,0,0,0,0,0,0,0,0]) false none),(1,.cells (qz [jB,jG,0,0,0,jG,0,0,0,jG,0,0,-jF,0,0,0]) false none),(2,.cells (qz [0,1,0,0,-jB,0,-jB,0,-jB,0,0,0,0,jI,0,0,0,0,0,0,0,0,0,0,0]) false none)]⟩, (qi jB, ⟨3,[(0,.cells (qz [0,0,0,0,0,0,0,0,0,0,0,0,0,0,0,0]) false none),(1,.cells (qz [jB,jG,0,0,0,jG,0,0,0,jG,0,0,-jF,0,0,0]) false none),(2,.cells (qz [0,1,0,0,-jB,0,-jB,0,-jB,0,0,0,0,jI,0,0,0,0,0,0,0,0,0,0,0]) false none)]⟩)⟩]
theorem f7_125_k : okM Tryz.prog 125 f7_125 := fk_v7 (by kernel_rfl)
def f7_178a : List MF := [⟨[.vec 0], ⟨1,[(0,.vec (qz [-jA,-jA,-jD]) 1 3 false)]⟩, (.tup [.agg (c8 (-jA) (c8 (-jA) (c8 (-jD) (c8 1 [.vec 1])))),qi 0], ⟨2,[(0,.vec (qz [-jA,-jA,-jD]) 1 3 false),(1,.vec [qi 0] 1 1 true)]⟩)⟩,
 ⟨[.vec 0], ⟨1,[(0,.vec (qz [jA,-jA,-jD]) 1 3 false)]⟩, (.tup [.agg (c8 jA (c8 (-jA) (c8 (-jD) (c8 1 [.vec 1])))),qi 0], ⟨2,[(0,.vec (qz [jA,-jA,-jD]) 1 3 false),(1,.vec [qi 0] 1 1 true)]⟩)⟩,
 ⟨[.vec 0], ⟨1,[(0,.vec (qz [-jA,jA,-jD]) 1 3 false)]⟩, (.tup [.agg (c8 (-jA) (c8 jA (c8 (-jD) (c8 1 [.vec 1])))),qi 0], ⟨2,[(0,.vec (qz [-jA,jA,-jD]) 1 3 false),(1,.vec [qi 0] 1 1 true)]⟩)⟩,
 ⟨[.vec 0], ⟨1,[(0,.vec (qz [jA,jA,-jD]) 1 3 false)]⟩, (.tup [.agg (c8 jA (c8 jA (c8 (-jD) (c8 1 [.vec 1])))),qi 0], ⟨2,[(0,.vec (qz [jA,jA,-jD]) 1 3 false),(1,.vec [qi 0] 1 1 true)]⟩)⟩,
 ⟨[.vec 0], ⟨1,[(0,.vec (qz [-jA,-jA,-jC]) 1 3 false)]⟩, (.tup [.agg (c8 (-jA) (c8 (-jA) (c8 (-jC) (c8 1 [.vec 1])))),qi 0], ⟨2,[(0,.vec (qz [-jA,-jA,-jC]) 1 3 false),(1,.vec [qi 0] 1 1 true)]⟩)⟩,
 ⟨[.vec 0], ⟨1,[(0,.vec (qz [jA,-jA,-jC]) 1 3 false)]⟩, (.tup [.agg (c8 jA (c8 (-jA) (c8 (-jC) (c8 1 [.vec 1])))),qi 0], ⟨2,[(0,.vec (qz [jA,-jA,-jC]) 1 3 false),(1,.vec [qi 0] 1 1 true)]⟩)⟩]
theorem f7_178a_k : okM Tryz.prog 178 f7_178a := fk_v7 (by kernel_rfl)
def f7_178b : List MF := [⟨[.vec 0], ⟨1,[(0,.vec (qz [-jA,jA,-jC]) 1 3 false)]⟩, (.tup [.agg (c8 (-jA) (c8 jA (c8 (-jC) (c8 1 [.vec 1])))),qi 0], ⟨2,[(0,.vec (qz [-jA,jA,-jC]) 1 3 false),(1,.vec [qi 0] 1 1 true)]⟩)⟩,
 ⟨[.vec 0], ⟨1,[(0,.vec (qz [jA,jA,-jC]) 1 3 false)]⟩, (.tup [.agg (c8 jA (c8 jA (c8 (-jC) (c8 1 [.vec 1])))),qi 0], ⟨2,[(0,.vec (qz [jA,jA,-jC]) 1 3 false),(1,.vec [qi 0] 1 1 true)]⟩)⟩]
theorem f7_178b_k : okM Tryz.prog 178 f7_178b := fk_v7 (by kernel_rfl)
def f7_275 : List MF := [⟨[.vec 0], ⟨1,[(0,.vec (qz [-jA,-jA,-jD,jA,-jA,-jD,-jA,jA,-jD,jA,jA,-jD,-jA,-jA,-jC,jA,-jA,-jC,-jA,jA,-jC,jA,jA,-jC]) 8 3 false)]⟩, (.tup [.agg (c8 0 (c8 0 (c8 (-jC) (c8 1 [.vec 1])))),qi 3,qi 0], ⟨2,[(0,.vec (qz [-jA,-jA,-jD,jA,-jA,-jD,-jA,jA,-jD,jA,jA,-jD,-jA,-jA,-jC,jA,-jA,-jC,-jA,jA,-jC,jA,jA,-jC]) 8 3 false),(1,.vec (qz [4,7]) 2 1 true)]⟩)⟩,
 ⟨[.vec 0], ⟨1,[(0,.vec (qz [jA,jA,jD,-jA,jA,jD,jA,-jA,jD,-jA,-jA,jD,jA,jA,jC,-jA,jA,jC,jA,-jA,jC,-jA,-jA,jC]) 8 3 false)]⟩, (.tup [.agg (c8 0 (c8 0 (c8 jC (c8 1 [.vec 1])))),qi 3,qi 0], ⟨2,[(0,.vec (qz [jA,jA,jD,-jA,jA,jD,jA,-jA,jD,-jA,-jA,jD,jA,jA,jC,-jA,jA,jC,jA,-jA,jC,-jA,-jA,jC]) 8 3 false),(1,.vec (qz [4,7]) 2 1 true)]⟩)⟩]
theorem f7_275_k : okM Tryz.prog 275 f7_275 := fk_v7 (by kernel_rfl)
def fk_t8 : FTab := fk_t7
theorem fk_t8_ok : FTabOk Tryz.prog fk_t8 := fk_t7_ok
def fk_lm8 : MTab := fun f => cond (Nat.beq f 26) f7_26 (cond (Nat.beq f 46) f7_46 (cond (Nat.beq f 53) f7_53 (cond (Nat.beq f 54) f7_54 (cond (Nat.beq f 125) f7_125 (cond (Nat.beq f 178) (f7_178a ++ (f7_178b)) (cond (Nat.beq f 275) f7_275 ([])))))))
theorem fk_lm8_ok : MTabOk Tryz.prog fk_lm8 := (mtab_node f7_26_k (mtab_node f7_46_k (mtab_node f7_53_k (mtab_node f7_54_k (mtab_node f7_125_k (mtab_node (okM_app f7_178a_k f7_178b_k) (mtab_node f7_275_k mtab_leaf)))))))
def fk_m8 : MTab := fun f => fk_lm8 f ++ fk_m7 f
theorem fk_m8_ok : MTabOk Tryz.prog fk_m8 := mtab_or fk_lm8_ok fk_m7_ok
noncomputable abbrev fk_c8 : CH := fk_ch fk_t8 fk_m8
theorem fk_c8_ok : CHOk Tryz.prog fk_c8 := fk_ch_ok fk_t8_ok fk_m8_ok
noncomputable abbrev fk_w8 : Teller := tellRD Tryz.prog tyTab 400 fk_ds fk_il fk_c8
theorem fk_w8_ok : TellOk Tryz.prog fk_w8 := tellRD_ok tab_ok mixed noNum fk_c8_ok
theorem fk_u8 {g l} (h : chkF (pureT fk_w8) g l = true) : okL Tryz.prog g l := chkF_ok (tell := fk_w8) fk_w8_ok h
theorem fk_v8 {g l} (h : chkM fk_w8 g l = true) : okM Tryz.prog g l := chkM_ok (tell := fk_w8) fk_w8_ok h
def e8_52 : List (List AVal × AVal) := [([.agg (qz [0,0,0,0,0,0,0,0,0,0,0,0,0,0,0,0]),.agg (qz [jB,jG,0,0,0,jG,0,0,0,jG,0,0,-jF,0,0,0]),.agg (qz [0,1,0,0,-jB,0,0,0,0,0,0,0,0,jI,0,0,0,0,0,0,0,0,0,0,0]),qi 0,qi jQ], .tup [.agg (qz [0,1,0,0,-jB,0,-jB,0,-jB,0,0,0,0,jI,0,0,0,jB,jB,jB,0,0,0,0,0]),qi 0])]
theorem e8_52_k : okL Tryz.prog 52 e8_52 := fk_u8 (by kernel_rfl)
def f8_84a : List MF := [⟨[.vec 0,.vec 1], ⟨2,[(0,.vec (qz [-jA,-jA,-jK]) 1 3 false),(1,.vec (qz [0,0,jC]) 1 3 false)]⟩, (.tup [.agg (c8 (-jA) (c8 (-jA) (c8 (-jD) (c8 1 [.vec 2])))),qi 0], ⟨3,[(0,.vec (qz [-jA,-jA,-jK]) 1 3 false),(1,.vec (qz [0,0,jC]) 1 3 false),(2,.vec [qi 0] 1 1 true)]⟩)⟩,
 ⟨[.vec 0,.vec 1], ⟨2,[(0,.vec (qz [jA,-jA,-jK]) 1 3 false),(1,.vec (qz [0,0,jC]) 1 3 false)]⟩, (.tup [.agg (c8 jA (c8 (-jA) (c8 (-jD) (c8 1 [.vec 2])))),qi 0], ⟨3,[(0,.vec (qz [jA,-jA,-jK]) 1 3 false),(1,.vec (qz [0,0,jC]) 1 3 false),(2,.vec [qi 0] 1 1 true)]⟩)⟩,
 ⟨[.vec 0,.vec 1], ⟨2,[(0,.vec (qz [-jA,jA,-jK]) 1 3 false),(1,.vec (qz [0,0,jC]) 1 3 false)]⟩, (.tup [.agg (c8 (-jA) (c8 jA (c8 (-jD) (c8 1 [.vec 2])))),qi 0], ⟨3,[(0,.vec (qz [-jA,jA,-jK]) 1 3 false),(1,.vec (qz [0,0,jC]) 1 3 false),(2,.vec [qi 0] 1 1 true)]⟩)⟩,
 ⟨[.vec 0,.vec 1], ⟨2,[(0,.vec (qz [jA,jA,-jK]) 1 3 false),(1,.vec (qz [0,0,jC]) 1 3 false)]⟩, (.tup [.agg (c8 jA (c8 jA (c8 (-jD) (c8 1 [.vec 2])))),qi 0], ⟨3,[(0,.vec (qz [jA,jA,-jK]) 1 3 false),(1,.vec (qz [0,0,jC]) 1 3 false),(2,.vec [qi 0] 1 1 true)]⟩)⟩,
 ⟨[.vec 0,.vec 1], ⟨2,[(0,.vec (qz [-jA,-jA,0]) 1 3 false),(1,.vec (qz [0,0,jC]) 1 3 false)]⟩, (.tup [.agg (c8 (-jA) (c8 (-jA) (c8 (-jC) (c8 1 [.vec 2])))),qi 0], ⟨3,[(0,.vec (qz [-jA,-jA,0]) 1 3 false),(1,.vec (qz [0,0,jC]) 1 3 false),(2,.vec [qi 0] 1 1 true)]⟩)⟩,
 ⟨[.vec 0,.vec 1], ⟨2,[(0,.vec (qz [jA,-jA,0]) 1 3 false),(1,.vec (qz [0,0,jC]) 1 3 false)]⟩, (.tup [.agg (c8 jA (c8 (-jA) (c8 (-jC) (c8 1 [.vec 2])))),qi 0], ⟨3,[(0,.vec (qz [jA,-jA,0]) 1 3 false),(1,.vec (qz [0,0,jC]) 1 3 false),(2,.vec [qi 0] 1 1 true)]⟩)⟩]
theorem f8_84a_k : okM Tryz.prog 84 f8_84a := fk_v8 (by kernel_rfl)
def f8_84b : List MF := [⟨[.vec 0,.vec 1], ⟨2,[(0,.vec (qz [-jA,jA,0]) 1 3 false),(1,.vec (qz [0,0,jC]) 1 3 false)]⟩, (.tup [.agg (c8 (-jA) (c8 jA (c8 (-jC) (c8 1 [.vec 2])))),qi 0], ⟨3,[(0,.vec (qz [-jA,jA,0]) 1 3 false),(1,.vec (qz [0,0,jC]) 1 3 false),(2,.vec [qi 0] 1 1 true)]⟩)⟩,
 ⟨[.vec 0,.vec 1], ⟨2,[(0,.vec (qz [jA,jA,0]) 1 3 false),(1,.vec (qz [0,0,jC]) 1 3 false)]⟩, (.tup [.agg (c8 jA (c8 jA (c8 (-jC) (c8 1 [.vec 2])))),qi 0], ⟨3,[(0,.vec (qz [jA,jA,0]) 1 3 false),(1,.vec (qz [0,0,jC]) 1 3 false),(2,.vec [qi 0] 1 1 true)]⟩)⟩]
theorem f8_84b_k : okM Tryz.prog 84 f8_84b := fk_v8 (by kernel_rfl)
def f8_178 : List MF := [⟨[.vec 0], ⟨1,[(0,.vec (qz [-jA,-jA,-jD,jA,-jA,-jD,-jA,jA,-jD,jA,jA,-jD,-jA,-jA,-jC,jA,-jA,-jC,-jA,jA,-jC,jA,jA,-jC]) 8 3 false)]⟩, (.tup [.agg (c8 0 (c8 0 (c8 (-jC) (c8 1 [.vec 1])))),qi 0], ⟨2,[(0,.vec (qz [-jA,-jA,-jD,jA,-jA,-jD,-jA,jA,-jD,jA,jA,-jD,-jA,-jA,-jC,jA,-jA,-jC,-jA,jA,-jC,jA,jA,-jC]) 8 3 false),(1,.vec (qz [4,7]) 2 1 true)]⟩)⟩,
 ⟨[.vec 0], ⟨1,[(0,.vec (qz [jA,jA,jD,-jA,jA,jD,jA,-jA,jD,-jA,-jA,jD,jA,jA,jC,-jA,jA,jC,jA,-jA,jC,-jA,-jA,jC]) 8 3 false)]⟩, (.tup [.agg (c8 0 (c8 0 (c8 jC (c8 1 [.vec 1])))),qi 0], ⟨2,[(0,.vec (qz [jA,jA,jD,-jA,jA,jD,jA,-jA,jD,-jA,-jA,jD,jA,jA,jC,-jA,jA,jC,jA,-jA,jC,-jA,-jA,jC]) 8 3 false),(1,.vec (qz [4,7]) 2 1 true)]⟩)⟩]
theorem f8_178_k : okM Tryz.prog 178 f8_178 := fk_v8 (by kernel_rfl)
def fk_lt9 : FTab := fun f => cond (Nat.beq f 52) e8_52 ([])
theorem fk_lt9_ok : FTabOk Tryz.prog fk_lt9 := (ftab_node e8_52_k ftab_leaf)
def fk_t9 : FTab := fun f => fk_lt9 f ++ fk_t8 f
theorem fk_t9_ok : FTabOk Tryz.prog fk_t9 := ftab_or fk_lt9_ok fk_t8_ok
def fk_lm9 : MTab := fun f => cond (Nat.beq f 84) (f8_84a ++ (f8_84b)) (cond (Nat.beq f 178) f8_178 ([]))
theorem fk_lm9_ok : MTabOk Tryz.prog fk_lm9 := (mtab_node (okM_app f8_84a_k f8_84b_k) (mtab_node f8_178_k mtab_leaf))
def fk_m9 : MTab := fun f => fk_lm9 f ++ fk_m8 f
theorem fk_m9_ok : MTabOk Tryz.prog fk_m9 := mtab_or fk_lm9_ok fk_m8_ok
noncomputable abbrev fk_c9 : CH := fk_ch fk_t9 fk_m9
theorem fk_c9_ok : CHOk Tryz.prog fk_c9 := fk_ch_ok fk_t9_ok fk_m9_ok
noncomputable abbrev fk_w9 : Teller := tellRD Tryz.prog tyTab 400 fk_ds fk_il fk_c9
theorem fk_w9_ok : TellOk Tryz.prog fk_w9 := tellRD_ok tab_ok mixed noNum fk_c9_ok
theorem fk_v9 {g l} (h : chkM fk_w9 g l = true) : okM Tryz.prog g l := chkM_ok (tell := fk_w9) fk_w9_ok h
def f9_84 : List MF := [⟨[.vec 0,.vec 1], ⟨2,[(0,.vec (qz [-jA,-jA,-jK,jA,-jA,-jK,-jA,jA,-jK,jA,jA,-jK,-jA,-jA,0,jA,-jA,0,-jA,jA,0,jA,jA,0]) 8 3 false),(1,.vec (qz [0,0,jC]) 1 3 false)]⟩, (.tup [.agg (c8 0 (c8 0 (c8 (-jC) (c8 1 [.vec 2])))),qi 0], ⟨3,[(0,.vec (qz [-jA,-jA,-jK,jA,-jA,-jK,-jA,jA,-jK,jA,jA,-jK,-jA,-jA,0,jA,-jA,0,-jA,jA,0,jA,jA,0]) 8 3 false),(1,.vec (qz [0,0,jC]) 1 3 false),(2,.vec (qz [4,7]) 2 1 true)]⟩)⟩,
 ⟨[.vec 0,.vec 1], ⟨2,[(0,.vec (qz [0,0,jC]) 1 3 false),(1,.vec (qz [-jA,-jA,-jK,jA,-jA,-jK,-jA,jA,-jK,jA,jA,-jK,-jA,-jA,0,jA,-jA,0,-jA,jA,0,jA,jA,0]) 8 3 false)]⟩, (.tup [.agg (c8 0 (c8 0 (c8 jC (c8 1 [.vec 2])))),qi 0], ⟨3,[(0,.vec (qz [0,0,jC]) 1 3 false),(1,.vec (qz [-jA,-jA,-jK,jA,-jA,-jK,-jA,jA,-jK,jA,jA,-jK,-jA,-jA,0,jA,-jA,0,-jA,jA,0,jA,jA,0]) 8 3 false),(2,.vec (qz [4,7]) 2 1 true)]⟩)⟩]
theorem f9_84_k : okM Tryz.prog 84 f9_84 := fk_v9 (by kernel_rfl)
def f9_95a : List MF := [⟨[.agg (qz [-jA,-jA,-jK]),.vec 0,qi jZ], ⟨1,[(0,.vec (qz [0,0,jC]) 1 3 false)]⟩, (.bool false, ⟨1,[(0,.vec (qz [0,0,jC]) 1 3 false)]⟩)⟩,
 ⟨[.agg (qz [jA,-jA,-jK]),.vec 0,qi jZ], ⟨1,[(0,.vec (qz [0,0,jC]) 1 3 false)]⟩, (.bool false, ⟨1,[(0,.vec (qz [0,0,jC]) 1 3 false)]⟩)⟩,
 ⟨[.agg (qz [-jA,jA,-jK]),.vec 0,qi jZ], ⟨1,[(0,.vec (qz [0,0,jC]) 1 3 false)]⟩, (.bool false, ⟨1,[(0,.vec (qz [0,0,jC]) 1 3 false)]⟩)⟩,
 ⟨[.agg (qz [jA,jA,-jK]),.vec 0,qi jZ], ⟨1,[(0,.vec (qz [0,0,jC]) 1 3 false)]⟩, (.bool false, ⟨1,[(0,.vec (qz [0,0,jC]) 1 3 false)]⟩)⟩,
 ⟨[.agg (qz [-jA,-jA,0]),.vec 0,qi jZ], ⟨1,[(0,.vec (qz [0,0,jC]) 1 3 false)]⟩, (.bool false, ⟨1,[(0,.vec (qz [0,0,jC]) 1 3 false)]⟩)⟩,
 ⟨[.agg (qz [jA,-jA,0]),.vec 0,qi jZ], ⟨1,[(0,.vec (qz [0,0,jC]) 1 3 false)]⟩, (.bool false, ⟨1,[(0,.vec (qz [0,0,jC]) 1 3 false)]⟩)⟩]
theorem f9_95a_k : okM Tryz.prog 95 f9_95a := fk_v9 (by kernel_rfl)
def f9_95b : List MF := [⟨[.agg (qz [-jA,jA,0]),.vec 0,qi jZ], ⟨1,[(0,.vec (qz [0,0,jC]) 1 3 false)]⟩, (.bool false, ⟨1,[(0,.vec (qz [0,0,jC]) 1 3 false)]⟩)⟩,
 ⟨[.agg (qz [jA,jA,0]),.vec 0,qi jZ], ⟨1,[(0,.vec (qz [0,0,jC]) 1 3 false)]⟩, (.bool false, ⟨1,[(0,.vec (qz [0,0,jC]) 1 3 false)]⟩)⟩]
theorem f9_95b_k : okM Tryz.prog 95 f9_95b := fk_v9 (by kernel_rfl)
def fk_t10 : FTab := fk_t9
theorem fk_t10_ok : FTabOk Tryz.prog fk_t10 := fk_t9_ok
def fk_lm10 : MTab := fun f => cond (Nat.beq f 84) f9_84 (cond (Nat.beq f 95) (f9_95a ++ (f9_95b)) ([]))
theorem fk_lm10_ok : MTabOk Tryz.prog fk_lm10 := (mtab_node f9_84_k (mtab_node (okM_app f9_95a_k f9_95b_k) mtab_leaf))
def fk_m10 : MTab := fun f => fk_lm10 f ++ fk_m9 f
theorem fk_m10_ok : MTabOk Tryz.prog fk_m10 := mtab_or fk_lm10_ok fk_m9_ok
noncomputable abbrev fk_c10 : CH := fk_ch fk_t10 fk_m10
theorem fk_c10_ok : CHOk Tryz.prog fk_c10 := fk_ch_ok fk_t10_ok fk_m10_ok
noncomputable abbrev fk_w10 : Teller := tellRD Tryz.prog tyTab 400 fk_ds fk_il fk_c10
theorem fk_w10_ok : TellOk Tryz.prog fk_w10 := tellRD_ok tab_ok mixed noNum fk_c10_ok
theorem fk_v10 {g l} (h : chkM fk_w10 g l = true) : okM Tryz.prog g l := chkM_ok (tell := fk_w10) fk_w10_ok h
def f10_43 : List MF := [⟨[.agg (qs [3,0,jE,jE,jB] (.nils :: (qs [0,0,-jB,jB,0,0,0] []))),.agg (qs [1,jB,0,0,0] (.nils :: (qs [0,0,jB,jB,0,0,0] [])))], ⟨0,[]⟩, (.tup [.agg (qz [0,0,0,-jB]),qi 0], ⟨0,[]⟩)⟩]
theorem f10_43_k : okM Tryz.prog 43 f10_43 := fk_v10 (by kernel_rfl)
def f10_95 : List MF := [⟨[.agg (qz [0,0,jC]),.vec 0,qi jZ], ⟨1,[(0,.vec (qz [-jA,-jA,-jK,jA,-jA,-jK,-jA,jA,-jK,jA,jA,-jK,-jA,-jA,0,jA,-jA,0,-jA,jA,0,jA,jA,0]) 8 3 false)]⟩, (.bool true, ⟨1,[(0,.vec (qz [-jA,-jA,-jK,jA,-jA,-jK,-jA,jA,-jK,jA,jA,-jK,-jA,-jA,0,jA,-jA,0,-jA,jA,0,jA,jA,0]) 8 3 false)]⟩)⟩]
theorem f10_95_k : okM Tryz.prog 95 f10_95 := fk_v10 (by kernel_rfl)
def fk_t11 : FTab := fk_t10
theorem fk_t11_ok : FTabOk Tryz.prog fk_t11 := fk_t10_ok
def fk_lm11 : MTab := fun f => cond (Nat.beq f 43) f10_43 (cond (Nat.beq f 95) f10_95 ([]))
theorem fk_lm11_ok : MTabOk Tryz.prog fk_lm11 := (mtab_node f10_43_k (mtab_node f10_95_k mtab_leaf))
def fk_m11 : MTab := fun f => fk_lm11 f ++ fk_m10 f
theorem fk_m11_ok : MTabOk Tryz.prog fk_m11 := mtab_or fk_lm11_ok fk_m10_ok
noncomputable abbrev fk_c11 : CH := fk_ch fk_t11 fk_m11
theorem fk_c11_ok : CHOk Tryz.prog fk_c11 := fk_ch_ok fk_t11_ok fk_m11_ok
noncomputable abbrev fk_w11 : Teller := tellRD Tryz.prog tyTab 400 fk_ds fk_il fk_c11
theorem fk_w11_ok : TellOk Tryz.prog fk_w11 := tellRD_ok tab_ok mixed noNum fk_c11_ok
theorem fk_v11 {g l} (h : chkM fk_w11 g l = true) : okM Tryz.prog g l := chkM_ok (tell := fk_w11) fk_w11_ok h
def f11_92 : List MF := [⟨[.agg (qs [3,0,jE,jE,jB] (.nils :: (qs [0,0,-jB,jB,0,0,0] []))),.agg (qs [1,jB,0,0,0] (.nils :: (qs [0,0,jB,jB,0,0,0] [])))], ⟨0,[]⟩, (.tup [.bool true,qi 0], ⟨0,[]⟩)⟩]
theorem f11_92_k : okM Tryz.prog 92 f11_92 := fk_v11 (by kernel_rfl)
def f11_93 : List MF := [⟨[.agg (qs [3,0,jE,jE,jB] (.nils :: (qs [0,0,-jB,jB,0,0,0] []))),.agg (qs [1,jB,0,0,0] (.nils :: (qs [0,0,jB,jB,0,0,0] [])))], ⟨0,[]⟩, (.tup (qz [jZ,0]), ⟨0,[]⟩)⟩]
theorem f11_93_k : okM Tryz.prog 93 f11_93 := fk_v11 (by kernel_rfl)
def fk_t12 : FTab := fk_t11
theorem fk_t12_ok : FTabOk Tryz.prog fk_t12 := fk_t11_ok
def fk_lm12 : MTab := fun f => cond (Nat.beq f 92) f11_92 (cond (Nat.beq f 93) f11_93 ([]))
theorem fk_lm12_ok : MTabOk Tryz.prog fk_lm12 := (mtab_node f11_92_k (mtab_node f11_93_k mtab_leaf))
def fk_m12 : MTab := fun f => fk_lm12 f ++ fk_m11 f
theorem fk_m12_ok : MTabOk Tryz.prog fk_m12 := mtab_or fk_lm12_ok fk_m11_ok
noncomputable abbrev fk_c12 : CH := fk_ch fk_t12 fk_m12
theorem fk_c12_ok : CHOk Tryz.prog fk_c12 := fk_ch_ok fk_t12_ok fk_m12_ok
noncomputable abbrev fk_w12 : Teller := tellRD Tryz.prog tyTab 400 fk_ds fk_il fk_c12
theorem fk_w12_ok : TellOk Tryz.prog fk_w12 := tellRD_ok tab_ok mixed noNum fk_c12_ok
theorem fk_v12 {g l} (h : chkM fk_w12 g l = true) : okM Tryz.prog g l := chkM_ok (tell := fk_w12) fk_w12_ok h
def f12_44 : List MF := [⟨[.agg (qs [3,0,jE,jE,jB] (.nils :: (qs [0,0,-jB,jB,0,0,0] []))),.agg (qs [1,jB,0,0,0] (.nils :: (qs [0,0,jB,jB,0,0,0] [])))], ⟨0,[]⟩, (.tup [.vec 0,qi 0], ⟨1,[(0,.vec (qz [2,0,0,0,jC]) 1 5 true)]⟩)⟩]
theorem f12_44_k : okM Tryz.prog 44 f12_44 := fk_v12 (by kernel_rfl)
def fk_t13 : FTab := fk_t12
theorem fk_t13_ok : FTabOk Tryz.prog fk_t13 := fk_t12_ok
def fk_lm13 : MTab := fun f => cond (Nat.beq f 44) f12_44 ([])
theorem fk_lm13_ok : MTabOk Tryz.prog fk_lm13 := (mtab_node f12_44_k mtab_leaf)
def fk_m13 : MTab := fun f => fk_lm13 f ++ fk_m12 f
theorem fk_m13_ok : MTabOk Tryz.prog fk_m13 := mtab_or fk_lm13_ok fk_m12_ok
noncomputable abbrev fk_c13 : CH := fk_ch fk_t13 fk_m13
theorem fk_c13_ok : CHOk Tryz.prog fk_c13 := fk_ch_ok fk_t13_ok fk_m13_ok
noncomputable abbrev fk_w13 : Teller := tellRD Tryz.prog tyTab 400 fk_ds fk_il fk_c13
theorem fk_w13_ok : TellOk Tryz.prog fk_w13 := tellRD_ok tab_ok mixed noNum fk_c13_ok
end Go.Ev

