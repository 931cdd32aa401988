import Derived.Test.YtdooglicnibhlaaGreatFkT2
namespace Go.Ev
open Go.Proofs
set_option linter.unusedVariables false
set_option maxRecDepth 100000
def e2_49 : List (List AVal × AVal) := [([.agg (qz [0,0,jB]),.agg (qz [0,0,-jB])], .agg (qz [0,0,jI])),
 ([.agg (qz [0,0,jB]),.agg (qz [0,0,jB])], .agg (qz [0,0,0])),
 ([.agg (qz [0,0,0]),.agg (qz [0,0,-jF])], .agg (qz [0,0,jF])),
 ([.agg (qz [0,0,0]),.agg (qz [0,0,0])], .agg (qz [0,0,0]))]
theorem e2_49_k : okL Tryz.prog 49 e2_49 := fk_u2 (by kernel_rfl)
def e2_67 : List (List AVal × AVal) := [([.agg (qz [0,0,0])], .agg (qz [0,0,0])),
 ([.agg (qz [0,0,-jF])], .agg (qz [0,0,-jF]))]
theorem e2_67_k : okL Tryz.prog 67 e2_67 := fk_u2 (by kernel_rfl)
def e2_68 : List (List AVal × AVal) := [([.agg (qz [0,0,0]),.agg (qz [jB,jB,jB])], .agg (qz [jB,jB,jB])),
 ([.agg (qz [0,0,0]),.agg (qz [0,0,0])], .agg (qz [0,0,0])),
 ([.agg (qz [0,0,-jF]),.agg (qz [0,0,0])], .agg (qz [0,0,-jF])),
 ([.agg (qz [0,0,-jF]),.agg (qz [0,0,jF])], .agg (qz [0,0,0]))]
theorem e2_68_k : okL Tryz.prog 68 e2_68 := fk_u2 (by kernel_rfl)
def e2_74 : List (List AVal × AVal) := [([.agg (qz [0,0,0])], .agg (qz [0,0,0])),
 ([.agg (qz [0,0,-jF])], .agg (qz [0,0,-jF]))]
theorem e2_74_k : okL Tryz.prog 74 e2_74 := fk_u2 (by kernel_rfl)
def e2_85 : List (List AVal × AVal) := [([.agg (c8 jH []),.agg (c8 1 []),.bool false], qi jB),
 ([.agg (c8 0 []),.agg (c8 jB []),.bool false], qi 0),
 ([.agg (c8 79228162514264337593543950336 []),.agg (c8 jB []),.bool true], qi (-jB))]
theorem e2_85_k : okL Tryz.prog 85 e2_85 := fk_u2 (by kernel_rfl)
def e2_111 : List (List AVal × AVal) := [([qi 0], qi 0),
 ([qi jC], qi jB)]
theorem e2_111_k : okL Tryz.prog 111 e2_111 := fk_u2 (by kernel_rfl)
def e2_115a : List (List AVal × AVal) := [((qz [0,0]), qi 0),
 ((qz [-jB,0]), qi 0),
 ((qz [0,-jB]), qi 0),
 ((qz [0,jB]), qi 0),
 ((qz [jB,0]), qi 0),
 ((qz [jB,jF]), qi jF)]
theorem e2_115a_k : okL Tryz.prog 115 e2_115a := fk_u2 (by kernel_rfl)
def e2_115b : List (List AVal × AVal) := [((qz [0,jF]), qi 0),
 ((qz [-jB,jF]), qi (-jF)),
 ((qz [-jF,0]), qi 0),
 ((qz [-jF,-jB]), qi jF),
 ((qz [jF,jB]), qi jF)]
theorem e2_115b_k : okL Tryz.prog 115 e2_115b := fk_u2 (by kernel_rfl)
def e2_116 : List (List AVal × AVal) := [((qz [0,0,0]), .bool false)]
theorem e2_116_k : okL Tryz.prog 116 e2_116 := fk_u2 (by kernel_rfl)
def e2_139 : List (List AVal × AVal) := [([.agg (qz [-jA,-jA,-jK,jA,jA,0]),qi jU], .agg (qz [-jL,-jL,-jO,jL,jL,jU])),
 ([.agg (qz [-jL,-jL,-jO,jL,jL,jU]),qi 8192], .agg (qz [-jN,-jN,-jS,jN,jN,jk])),
 ([.agg (qz [0,0,jC,0,0,jC]),qi jM], .agg (qz [-jM,-jM,-jU,jM,jM,jO])),
 ([.agg (qz [-jM,-jM,-jU,jM,jM,jO]),qi 8192], .agg (qz [-jV,-jV,-jk,jV,jV,jS]))]
theorem e2_139_k : okL Tryz.prog 139 e2_139 := fk_u2 (by kernel_rfl)
def e2_152 : List (List AVal × AVal) := [([.agg (qz [jB,0,0,0,jB,0,0,0,jB]),.agg (qz [jG,jG,jG])], .agg (qz [jG,0,0,0,jG,0,0,0,jG]))]
theorem e2_152_k : okL Tryz.prog 152 e2_152 := fk_u2 (by kernel_rfl)
def e2_158a : List (List AVal × AVal) := [((qz [0,0,-jB,0]), qi 0),
 ((qz [-jB,jB,0,0]), qi (-jB)),
 ((qz [0,0,0,jB]), qi 0),
 ((qz [0,0,-jB,-jB]), qi (-jB)),
 ((qz [-jB,0,0,0]), qi 0),
 ((qz [0,-jB,0,0]), qi 0)]
theorem e2_158a_k : okL Tryz.prog 158 e2_158a := fk_u2 (by kernel_rfl)
def e2_158b : List (List AVal × AVal) := [((qz [0,-jB,jI,0]), qi 0),
 ((qz [jI,0,0,-jB]), qi 0),
 ((qz [0,0,0,0]), qi 0),
 ((qz [0,jI,0,0]), qi 0),
 ((qz [0,0,0,jI]), qi 0),
 ((qz [0,0,0,-jB]), qi 0)]
theorem e2_158b_k : okL Tryz.prog 158 e2_158b := fk_u2 (by kernel_rfl)
def e2_158c : List (List AVal × AVal) := [((qz [0,0,jI,-jB]), qi jI),
 ((qz [jI,0,0,0]), qi 0),
 ((qz [0,0,jI,0]), qi 0),
 ((qz [jI,-jB,0,0]), qi (-jI)),
 ((qz [0,-jF,jI,0]), qi 0),
 ((qz [jI,0,0,-jF]), qi 0)]
theorem e2_158c_k : okL Tryz.prog 158 e2_158c := fk_u2 (by kernel_rfl)
def e2_158d : List (List AVal × AVal) := [((qz [0,jF,0,0]), qi 0),
 ((qz [0,0,0,jF]), qi 0)]
theorem e2_158d_k : okL Tryz.prog 158 e2_158d := fk_u2 (by kernel_rfl)
def e2_196a : List (List AVal × AVal) := [([.agg (qz [jJ,jJ,jK]),.agg (qz [jJ,jJ,jK])], .agg (c8 jl [])),
 ([.agg (qz [jJ,jJ,jK]),.agg (qz [-jA,-jA,-jD])], .agg (c8 (-jf) [])),
 ([.agg (qz [0,0,jK]),.agg (qz [0,0,jK])], .agg (c8 jE [])),
 ([.agg (qz [0,0,jK]),.agg (qz [-jA,-jA,-jD])], .agg (c8 (-jo) [])),
 ([.agg (qz [jJ,jJ,0]),.agg (qz [jJ,jJ,0])], .agg (c8 ja [])),
 ([.agg (qz [jJ,jJ,0]),.agg (qz [-jA,-jA,-jC])], .agg (c8 (-jT) []))]
theorem e2_196a_k : okL Tryz.prog 196 e2_196a := fk_u2 (by kernel_rfl)
def e2_196b : List (List AVal × AVal) := [([.agg (qz [-jJ,-jJ,-jK]),.agg (qz [-jJ,-jJ,-jK])], .agg (c8 jl [])),
 ([.agg (qz [-jJ,-jJ,-jK]),.agg (qz [jA,jA,jD])], .agg (c8 (-jf) [])),
 ([.agg (qz [0,0,-jK]),.agg (qz [0,0,-jK])], .agg (c8 jE [])),
 ([.agg (qz [0,0,-jK]),.agg (qz [jA,jA,jD])], .agg (c8 (-jo) [])),
 ([.agg (qz [-jJ,-jJ,0]),.agg (qz [-jJ,-jJ,0])], .agg (c8 ja [])),
 ([.agg (qz [-jJ,-jJ,0]),.agg (qz [jA,jA,jC])], .agg (c8 (-jT) []))]
theorem e2_196b_k : okL Tryz.prog 196 e2_196b := fk_u2 (by kernel_rfl)
def e2_223 : List (List AVal × AVal) := [([.agg (qz [jB,0,0,0]),.agg (qz [0,0,0]),qi jQ], .agg (qz [jB,0,0,0]))]
theorem e2_223_k : okL Tryz.prog 223 e2_223 := fk_u2 (by kernel_rfl)
def e2_234 : List (List AVal × AVal) := [([.agg (qz [-jN,-jN,-jS,jN,jN,jk]),.agg (qz [-jV,-jV,-jk,jV,jV,jS])], .agg (qz [-jN,-jN,-jS,jN,jN,jS])),
 ([.agg (qz [-jN,-jN,-jS,jN,jN,jk]),.agg (qz [-jL,-jL,-jO,jL,jL,jU])], .agg (qz [-jN,-jN,-jS,jN,jN,jk])),
 ([.agg (qz [-jV,-jV,-jk,jV,jV,jS]),.agg (qz [-jM,-jM,-jU,jM,jM,jO])], .agg (qz [-jV,-jV,-jk,jV,jV,jS]))]
theorem e2_234_k : okL Tryz.prog 234 e2_234 := fk_u2 (by kernel_rfl)
def e2_239 : List (List AVal × AVal) := [([.agg (qz [jB,0,0,0])], qi 0)]
theorem e2_239_k : okL Tryz.prog 239 e2_239 := fk_u2 (by kernel_rfl)
def e2_249a : List (List AVal × AVal) := [([.agg (qz [0,-jB,0]),.agg (qz [0,-jB,0])], .agg (c8 jH [])),
 ([.agg (qz [0,0,0]),.agg (qz [0,0,0])], .agg (c8 0 [])),
 ([.agg (qz [0,0,-jB]),.agg (qz [0,0,0])], .agg (c8 0 [])),
 ([.agg (qz [jG,0,0]),.agg (qz [0,0,0])], .agg (c8 0 [])),
 ([.agg (qz [0,jG,0]),.agg (qz [0,0,0])], .agg (c8 0 [])),
 ([.agg (qz [0,0,jG]),.agg (qz [0,0,0])], .agg (c8 0 []))]
theorem e2_249a_k : okL Tryz.prog 249 e2_249a := fk_u2 (by kernel_rfl)
def e2_249b : List (List AVal × AVal) := [([.agg (qz [0,0,0]),.agg (qz [jI,0,0])], .agg (c8 0 [])),
 ([.agg (qz [0,-jB,0]),.agg (qz [0,0,0])], .agg (c8 0 [])),
 ([.agg (qz [0,0,0]),.agg (qz [0,-jI,0])], .agg (c8 0 [])),
 ([.agg (qz [-jB,0,0]),.agg (qz [0,0,0])], .agg (c8 0 [])),
 ([.agg (qz [0,0,jF]),.agg (qz [0,-jB,0])], .agg (c8 0 [])),
 ([.agg (qz [0,0,jF]),.agg (qz [-jB,0,0])], .agg (c8 0 []))]
theorem e2_249b_k : okL Tryz.prog 249 e2_249b := fk_u2 (by kernel_rfl)
def e2_249c : List (List AVal × AVal) := [([.agg (qz [0,0,jF]),.agg (qz [0,0,-jB])], .agg (c8 (-jR) [])),
 ([.agg (qz [0,0,0]),.agg (qz [0,-jB,0])], .agg (c8 0 [])),
 ([.agg (qz [0,0,0]),.agg (qz [-jB,0,0])], .agg (c8 0 [])),
 ([.agg (qz [0,0,0]),.agg (qz [0,0,-jB])], .agg (c8 0 []))]
theorem e2_249c_k : okL Tryz.prog 249 e2_249c := fk_u2 (by kernel_rfl)
def e2_266a : List (List AVal × AVal) := [([.agg (qz [-jN,-jN,-jS,jN,jN,jS]),.agg (qz [-jL,-jL,-jO,jL,jL,jU])], .bool true),
 ([.agg (qz [-jV,-jV,-jk,jV,jV,jS]),.agg (qz [-jL,-jL,-jO,jL,jL,jU])], .bool true),
 ([.agg (qz [-jM,-jM,-jU,jM,jM,jO]),.agg (qz [-jL,-jL,-jO,jL,jL,jU])], .bool true),
 ([.agg (qz [-jN,-jN,-jS,jN,jN,jk]),.agg (qz [-jL,-jL,-jO,jL,jL,jU])], .bool true),
 ([.agg (qz [-jL,-jL,-jO,jL,jL,jU]),.agg (qz [-jL,-jL,-jO,jL,jL,jU])], .bool true),
 ([.agg (qz [-jN,-jN,-jS,jN,jN,jS]),.agg (qz [-jM,-jM,-jU,jM,jM,jO])], .bool true)]
theorem e2_266a_k : okL Tryz.prog 266 e2_266a := fk_u2 (by kernel_rfl)
def e2_266b : List (List AVal × AVal) := [([.agg (qz [-jV,-jV,-jk,jV,jV,jS]),.agg (qz [-jM,-jM,-jU,jM,jM,jO])], .bool true),
 ([.agg (qz [-jM,-jM,-jU,jM,jM,jO]),.agg (qz [-jM,-jM,-jU,jM,jM,jO])], .bool true),
 ([.agg (qz [-jN,-jN,-jS,jN,jN,jk]),.agg (qz [-jM,-jM,-jU,jM,jM,jO])], .bool true),
 ([.agg (qz [-jL,-jL,-jO,jL,jL,jU]),.agg (qz [-jM,-jM,-jU,jM,jM,jO])], .bool true)]
theorem e2_266b_k : okL Tryz.prog 266 e2_266b := fk_u2 (by kernel_rfl)
def e2_304 : List (List AVal × AVal) := [([.agg (c8 0 [])], qi 0),
 ([.agg (c8 (-jB) [])], qi (-jB))]
theorem e2_304_k : okL Tryz.prog 304 e2_304 := fk_u2 (by kernel_rfl)
def e2_307 : List (List AVal × AVal) := [((qz [jB,jB]), qi jB),
 ((qz [jB,jb]), qi jG),
 ((qz [0,jQ]), qi 0)]
theorem e2_307_k : okL Tryz.prog 307 e2_307 := fk_u2 (by kernel_rfl)
def e2_311 : List (List AVal × AVal) := [([.agg (c8 jB []),.agg (c8 jH [])], qi jB),
 ([.agg (c8 0 []),.agg (c8 jH [])], qi 0)]
theorem e2_311_k : okL Tryz.prog 311 e2_311 := fk_u2 (by kernel_rfl)
def f2_36 : List MF := [⟨[.agg (qz [0,0,-jj,jQ,4])], ⟨0,[]⟩, (.tup [.ptr 0 0,qi 0], ⟨5,[(0,.cells (.ptr 1 0 :: (qs [0,0,-jj,jQ,4] [.nils,.nils])) true none),(1,.cells [.ptr 2 0,.map 3] true none),(2,.cells [.bool true,qi 8192,.nils,.nils,qi (-1),.map 4] true none),(3,.map [] 0),(4,.map [] 0)]⟩)⟩]
theorem f2_36_k : okM Tryz.prog 36 f2_36 := fk_v2 (by kernel_rfl)
def f2_39 : List MF := [⟨[.agg (qs [1,3,0,jE,jE,jB] (.nils :: (qs [0,0,-jB,jB,0,0,0,0,0,0,0,0,0,0,0] [])))], ⟨0,[]⟩, (.agg (qs [1,3,0,jE,jE,jB] (.nils :: (qs [0,0,-jB,jB,0,0,0,0,0,0,0,0,0,0,0] []))), ⟨0,[]⟩)⟩,
 ⟨[.agg (qs [2,1,jB,0,0,0] (.nils :: (qs [0,0,jB,jB,0,0,0,jB,0,0,0,0,0,0,0] [])))], ⟨0,[]⟩, (.agg (qs [2,1,jB,0,0,0] (.nils :: (qs [0,0,jB,jB,0,0,0,jB,0,0,0,0,0,0,0] []))), ⟨0,[]⟩)⟩]
theorem f2_39_k : okM Tryz.prog 39 f2_39 := fk_v2 (by kernel_rfl)
def f2_45 : List MF := [⟨[.vec 0], ⟨1,[(0,.vec (qz [2,0,0,0,jC]) 1 5 false)]⟩, (.tup [.vec 1,qi 0], ⟨2,[(0,.vec (qz [2,0,0,0,jC]) 1 5 false),(1,.vec (qz [2,0,0,0,jC]) 1 5 true)]⟩)⟩]
theorem f2_45_k : okM Tryz.prog 45 f2_45 := fk_v2 (by kernel_rfl)
def f2_47 : List MF := [⟨[.nils,.vec 0], ⟨1,[(0,.vec (qz [1,2,2,0]) 1 4 false)]⟩, (.tup [.vec 1,qi 0], ⟨2,[(0,.vec (qz [1,2,2,0]) 1 4 false),(1,.vec (qz [1,2,2,0,0,0,0]) 1 7 true)]⟩)⟩]
theorem f2_47_k : okM Tryz.prog 47 f2_47 := fk_v2 (by kernel_rfl)
def f2_134 : List MF := [⟨[.vec 0], ⟨1,[(0,.vec (qz [1,2]) 1 2 false)]⟩, (qi 0, ⟨1,[(0,.vec (qz [1,2]) 1 2 false)]⟩)⟩]
theorem f2_134_k : okM Tryz.prog 134 f2_134 := fk_v2 (by kernel_rfl)
def f2_148 : List MF := [⟨(qs [jB,jB] [.ptr 0 0,.ptr 1 0]), ⟨2,[(0,.cells [qi jB] false none),(1,.cells [.func 146 [] []] false none)]⟩, (qi jb, ⟨2,[(0,.cells [qi jB] false none),(1,.cells [.func 146 [] []] false none)]⟩)⟩]
theorem f2_148_k : okM Tryz.prog 148 f2_148 := fk_v2 (by kernel_rfl)
def f2_172 : List MF := [⟨[.vec 0,.func 170 [] []], ⟨1,[(0,.vec (qz [1,2]) 1 2 false)]⟩, (.tup [], ⟨1,[(0,.vec (qz [1,2]) 1 2 false)]⟩)⟩]
theorem f2_172_k : okM Tryz.prog 172 f2_172 := fk_v2 (by kernel_rfl)
def f2_175a : List MF := [⟨[.ptr 0 0,.agg (qz [-jE,-jE,-jB])], ⟨1,[(0,.cells (qz [0,0,-jB,jB,0,0,0,jB,0,0,0,jB,0,0,0,jB]) false none)]⟩, (.agg (qz [-jE,-jE,-jI]), ⟨1,[(0,.cells (qz [0,0,-jB,jB,0,0,0,jB,0,0,0,jB,0,0,0,jB]) false none)]⟩)⟩,
 ⟨[.ptr 0 0,.agg (qz [jE,-jE,-jB])], ⟨1,[(0,.cells (qz [0,0,-jB,jB,0,0,0,jB,0,0,0,jB,0,0,0,jB]) false none)]⟩, (.agg (qz [jE,-jE,-jI]), ⟨1,[(0,.cells (qz [0,0,-jB,jB,0,0,0,jB,0,0,0,jB,0,0,0,jB]) false none)]⟩)⟩,
 ⟨[.ptr 0 0,.agg (qz [-jE,jE,-jB])], ⟨1,[(0,.cells (qz [0,0,-jB,jB,0,0,0,jB,0,0,0,jB,0,0,0,jB]) false none)]⟩, (.agg (qz [-jE,jE,-jI]), ⟨1,[(0,.cells (qz [0,0,-jB,jB,0,0,0,jB,0,0,0,jB,0,0,0,jB]) false none)]⟩)⟩,
 ⟨[.ptr 0 0,.agg (qz [jE,jE,-jB])], ⟨1,[(0,.cells (qz [0,0,-jB,jB,0,0,0,jB,0,0,0,jB,0,0,0,jB]) false none)]⟩, (.agg (qz [jE,jE,-jI]), ⟨1,[(0,.cells (qz [0,0,-jB,jB,0,0,0,jB,0,0,0,jB,0,0,0,jB]) false none)]⟩)⟩,
 ⟨[.ptr 0 0,.agg (qz [-jE,-jE,jB])], ⟨1,[(0,.cells (qz [0,0,-jB,jB,0,0,0,jB,0,0,0,jB,0,0,0,jB]) false none)]⟩, (.agg (qz [-jE,-jE,0]), ⟨1,[(0,.cells (qz [0,0,-jB,jB,0,0,0,jB,0,0,0,jB,0,0,0,jB]) false none)]⟩)⟩,
 ⟨[.ptr 0 0,.agg (qz [jE,-jE,jB])], ⟨1,[(0,.cells (qz [0,0,-jB,jB,0,0,0,jB,0,0,0,jB,0,0,0,jB]) false none)]⟩, (.agg (qz [jE,-jE,0]), ⟨1,[(0,.cells (qz [0,0,-jB,jB,0,0,0,jB,0,0,0,jB,0,0,0,jB]) false none)]⟩)⟩]
theorem f2_175a_k : okM Tryz.prog 175 f2_175a := fk_v2 (by kernel_rfl)
def f2_175b : List MF := [⟨[.ptr 0 0,.agg (qz [-jE,jE,jB])], ⟨1,[(0,.cells (qz [0,0,-jB,jB,0,0,0,jB,0,0,0,jB,0,0,0,jB]) false none)]⟩, (.agg (qz [-jE,jE,0]), ⟨1,[(0,.cells (qz [0,0,-jB,jB,0,0,0,jB,0,0,0,jB,0,0,0,jB]) false none)]⟩)⟩,
 ⟨[.ptr 0 0,.agg (qz [jE,jE,jB])], ⟨1,[(0,.cells (qz [0,0,-jB,jB,0,0,0,jB,0,0,0,jB,0,0,0,jB]) false none)]⟩, (.agg (qz [jE,jE,0]), ⟨1,[(0,.cells (qz [0,0,-jB,jB,0,0,0,jB,0,0,0,jB,0,0,0,jB]) false none)]⟩)⟩,
 ⟨[.ptr 0 0,.agg (qz [0,0,0])], ⟨1,[(0,.cells (qz [0,0,jB,jB,0,0,0,jB,0,0,0,jB,0,0,0,jB]) false none)]⟩, (.agg (qz [0,0,jB]), ⟨1,[(0,.cells (qz [0,0,jB,jB,0,0,0,jB,0,0,0,jB,0,0,0,jB]) false none)]⟩)⟩]
theorem f2_175b_k : okM Tryz.prog 175 f2_175b := fk_v2 (by kernel_rfl)
def f2_200 : List MF := [⟨(qs [0,0] [.ptr 0 0]), ⟨1,[(0,.cells [qi jQ] false none)]⟩, (qi 0, ⟨1,[(0,.cells [qi jQ] false none)]⟩)⟩,
 ⟨(qs [0,-jj] [.ptr 0 0]), ⟨1,[(0,.cells [qi jQ] false none)]⟩, (qi (-jF), ⟨1,[(0,.cells [qi jQ] false none)]⟩)⟩,
 ⟨(qs [jB,0] [.ptr 0 0]), ⟨1,[(0,.cells [qi jQ] false none)]⟩, (qi jB, ⟨1,[(0,.cells [qi jQ] false none)]⟩)⟩]
theorem f2_200_k : okM Tryz.prog 200 f2_200 := fk_v2 (by kernel_rfl)
def f2_281a : List MF := [⟨[.vec 0], ⟨1,[(0,.vec (qz [-jA,-jA,-jD]) 1 3 false)]⟩, (.tup [.vec 1,qi 0], ⟨2,[(0,.vec (qz [-jA,-jA,-jD]) 1 3 false),(1,.vec [qi 0] 1 1 true)]⟩)⟩,
 ⟨[.vec 0], ⟨1,[(0,.vec (qz [-jA,-jA,-jD,jA,jA,-jC]) 2 3 false)]⟩, (.tup [.vec 1,qi 0], ⟨2,[(0,.vec (qz [-jA,-jA,-jD,jA,jA,-jC]) 2 3 false),(1,.vec (qz [0,1]) 2 1 true)]⟩)⟩,
 ⟨[.vec 0], ⟨1,[(0,.vec (qz [jA,jA,-jC]) 1 3 false)]⟩, (.tup [.vec 1,qi 0], ⟨2,[(0,.vec (qz [jA,jA,-jC]) 1 3 false),(1,.vec [qi 0] 1 1 true)]⟩)⟩,
 ⟨[.vec 0], ⟨1,[(0,.vec (qz [-jA,-jA,-jC]) 1 3 false)]⟩, (.tup [.vec 1,qi 0], ⟨2,[(0,.vec (qz [-jA,-jA,-jC]) 1 3 false),(1,.vec [qi 0] 1 1 true)]⟩)⟩,
 ⟨[.vec 0], ⟨1,[(0,.vec (qz [-jA,-jA,-jD,-jA,-jA,-jC]) 2 3 false)]⟩, (.tup [.vec 1,qi 0], ⟨2,[(0,.vec (qz [-jA,-jA,-jD,-jA,-jA,-jC]) 2 3 false),(1,.vec (qz [0,1]) 2 1 true)]⟩)⟩,
 ⟨[.vec 0], ⟨1,[(0,.vec (qz [-jA,-jA,-jC,jA,jA,-jC]) 2 3 false)]⟩, (.tup [.vec 1,qi 0], ⟨2,[(0,.vec (qz [-jA,-jA,-jC,jA,jA,-jC]) 2 3 false),(1,.vec (qz [0,1]) 2 1 true)]⟩)⟩]
theorem f2_281a_k : okM Tryz.prog 281 f2_281a := fk_v2 (by kernel_rfl)
def f2_281b : List MF := [⟨[.vec 0], ⟨1,[(0,.vec (qz [jA,-jA,-jD]) 1 3 false)]⟩, (.tup [.vec 1,qi 0], ⟨2,[(0,.vec (qz [jA,-jA,-jD]) 1 3 false),(1,.vec [qi 0] 1 1 true)]⟩)⟩,
 ⟨[.vec 0], ⟨1,[(0,.vec (qz [-jA,jA,-jD]) 1 3 false)]⟩, (.tup [.vec 1,qi 0], ⟨2,[(0,.vec (qz [-jA,jA,-jD]) 1 3 false),(1,.vec [qi 0] 1 1 true)]⟩)⟩,
 ⟨[.vec 0], ⟨1,[(0,.vec (qz [jA,jA,-jD]) 1 3 false)]⟩, (.tup [.vec 1,qi 0], ⟨2,[(0,.vec (qz [jA,jA,-jD]) 1 3 false),(1,.vec [qi 0] 1 1 true)]⟩)⟩,
 ⟨[.vec 0], ⟨1,[(0,.vec (qz [jA,-jA,-jC]) 1 3 false)]⟩, (.tup [.vec 1,qi 0], ⟨2,[(0,.vec (qz [jA,-jA,-jC]) 1 3 false),(1,.vec [qi 0] 1 1 true)]⟩)⟩,
 ⟨[.vec 0], ⟨1,[(0,.vec (qz [-jA,jA,-jC]) 1 3 false)]⟩, (.tup [.vec 1,qi 0], ⟨2,[(0,.vec (qz [-jA,jA,-jC]) 1 3 false),(1,.vec [qi 0] 1 1 true)]⟩)⟩,
 ⟨[.vec 0], ⟨1,[(0,.vec (qz [jA,jA,jD]) 1 3 false)]⟩, (.tup [.vec 1,qi 0], ⟨2,[(0,.vec (qz [jA,jA,jD]) 1 3 false),(1,.vec [qi 0] 1 1 true)]⟩)⟩]
theorem f2_281b_k : okM Tryz.prog 281 f2_281b := fk_v2 (by kernel_rfl)
def f2_281c : List MF := [⟨[.vec 0], ⟨1,[(0,.vec (qz [jA,jA,jD,-jA,-jA,jC]) 2 3 false)]⟩, (.tup [.vec 1,qi 0], ⟨2,[(0,.vec (qz [jA,jA,jD,-jA,-jA,jC]) 2 3 false),(1,.vec (qz [0,1]) 2 1 true)]⟩)⟩,
 ⟨[.vec 0], ⟨1,[(0,.vec (qz [-jA,-jA,jC]) 1 3 false)]⟩, (.tup [.vec 1,qi 0], ⟨2,[(0,.vec (qz [-jA,-jA,jC]) 1 3 false),(1,.vec [qi 0] 1 1 true)]⟩)⟩,
 ⟨[.vec 0], ⟨1,[(0,.vec (qz [jA,jA,jC]) 1 3 false)]⟩, (.tup [.vec 1,qi 0], ⟨2,[(0,.vec (qz [jA,jA,jC]) 1 3 false),(1,.vec [qi 0] 1 1 true)]⟩)⟩,
 ⟨[.vec 0], ⟨1,[(0,.vec (qz [jA,jA,jD,jA,jA,jC]) 2 3 false)]⟩, (.tup [.vec 1,qi 0], ⟨2,[(0,.vec (qz [jA,jA,jD,jA,jA,jC]) 2 3 false),(1,.vec (qz [0,1]) 2 1 true)]⟩)⟩,
 ⟨[.vec 0], ⟨1,[(0,.vec (qz [jA,jA,jC,-jA,-jA,jC]) 2 3 false)]⟩, (.tup [.vec 1,qi 0], ⟨2,[(0,.vec (qz [jA,jA,jC,-jA,-jA,jC]) 2 3 false),(1,.vec (qz [0,1]) 2 1 true)]⟩)⟩]
theorem f2_281c_k : okM Tryz.prog 281 f2_281c := fk_v2 (by kernel_rfl)
def f2_322 : List MF := [⟨[.nils], ⟨0,[]⟩, (.tup (qz [-1,0]), ⟨0,[]⟩)⟩]
theorem f2_322_k : okM Tryz.prog 322 f2_322 := fk_v2 (by kernel_rfl)
def f2_350 : List MF := [⟨[.ptr 1 0,.agg (qz [jA,jA,-jC])], ⟨2,[(0,.vec (qz [-jA,-jA,-jD,-jA,-jA,-jC]) 2 3 false),(1,.cells [.vec 0] false none)]⟩, (.bool true, ⟨2,[(0,.vec (qz [-jA,-jA,-jD,-jA,-jA,-jC]) 2 3 false),(1,.cells [.vec 0] false none)]⟩)⟩,
 ⟨[.ptr 1 0,.agg (qz [-jA,-jA,jC])], ⟨2,[(0,.vec (qz [jA,jA,jD,jA,jA,jC]) 2 3 false),(1,.cells [.vec 0] false none)]⟩, (.bool true, ⟨2,[(0,.vec (qz [jA,jA,jD,jA,jA,jC]) 2 3 false),(1,.cells [.vec 0] false none)]⟩)⟩]
theorem f2_350_k : okM Tryz.prog 350 f2_350 := fk_v2 (by kernel_rfl)
def f2_365a : List MF := [⟨[.agg (c8 (-jA) (c8 (-jA) (c8 (-jD) (c8 1 [.vec 0])))),.ptr 2 0], ⟨3,[(0,.vec [qi 0] 1 1 false),(1,.vec (qz [-jA,-jA,-jD,jA,-jA,-jD,-jA,jA,-jD,jA,jA,-jD,-jA,-jA,-jC,jA,-jA,-jC,-jA,jA,-jC,jA,jA,-jC]) 8 3 false),(2,.cells [.vec 1] false none)]⟩, (qi 7, ⟨3,[(0,.vec [qi 0] 1 1 false),(1,.vec (qz [-jA,-jA,-jD,jA,-jA,-jD,-jA,jA,-jD,jA,jA,-jD,-jA,-jA,-jC,jA,-jA,-jC,-jA,jA,-jC,jA,jA,-jC]) 8 3 false),(2,.cells [.vec 1] false none)]⟩)⟩,
 ⟨[.agg (c8 jJ (c8 jJ (c8 (-jX) (c8 33 [.vec 0])))),.ptr 2 0], ⟨3,[(0,.vec (qz [0,7]) 2 1 false),(1,.vec (qz [-jA,-jA,-jD,jA,-jA,-jD,-jA,jA,-jD,jA,jA,-jD,-jA,-jA,-jC,jA,-jA,-jC,-jA,jA,-jC,jA,jA,-jC]) 8 3 false),(2,.cells [.vec 1] false none)]⟩, (qi 4, ⟨3,[(0,.vec (qz [0,7]) 2 1 false),(1,.vec (qz [-jA,-jA,-jD,jA,-jA,-jD,-jA,jA,-jD,jA,jA,-jD,-jA,-jA,-jC,jA,-jA,-jC,-jA,jA,-jC,jA,jA,-jC]) 8 3 false),(2,.cells [.vec 1] false none)]⟩)⟩,
 ⟨[.agg (c8 0 (c8 0 (c8 (-jC) (c8 1 [.vec 0])))),.ptr 2 0], ⟨3,[(0,.vec (qz [4,7]) 2 1 false),(1,.vec (qz [-jA,-jA,-jD,jA,-jA,-jD,-jA,jA,-jD,jA,jA,-jD,-jA,-jA,-jC,jA,-jA,-jC,-jA,jA,-jC,jA,jA,-jC]) 8 3 false),(2,.cells [.vec 1] false none)]⟩, (qi 4, ⟨3,[(0,.vec (qz [4,7]) 2 1 false),(1,.vec (qz [-jA,-jA,-jD,jA,-jA,-jD,-jA,jA,-jD,jA,jA,-jD,-jA,-jA,-jC,jA,-jA,-jC,-jA,jA,-jC,jA,jA,-jC]) 8 3 false),(2,.cells [.vec 1] false none)]⟩)⟩,
 ⟨[.agg (c8 (-jA) (c8 (-jA) (c8 (-jD) (c8 1 [.vec 0])))),.ptr 2 0], ⟨3,[(0,.vec [qi 0] 1 1 false),(1,.vec (qz [-jA,-jA,-jD]) 1 3 false),(2,.cells [.vec 1] false none)]⟩, (qi 0, ⟨3,[(0,.vec [qi 0] 1 1 false),(1,.vec (qz [-jA,-jA,-jD]) 1 3 false),(2,.cells [.vec 1] false none)]⟩)⟩,
 ⟨[.agg (c8 jA (c8 (-jA) (c8 (-jD) (c8 1 [.vec 0])))),.ptr 2 0], ⟨3,[(0,.vec [qi 0] 1 1 false),(1,.vec (qz [jA,-jA,-jD]) 1 3 false),(2,.cells [.vec 1] false none)]⟩, (qi 0, ⟨3,[(0,.vec [qi 0] 1 1 false),(1,.vec (qz [jA,-jA,-jD]) 1 3 false),(2,.cells [.vec 1] false none)]⟩)⟩,
 ⟨[.agg (c8 (-jA) (c8 jA (c8 (-jD) (c8 1 [.vec 0])))),.ptr 2 0], ⟨3,[(0,.vec [qi 0] 1 1 false),(1,.vec (qz [-jA,jA,-jD]) 1 3 false),(2,.cells [.vec 1] false none)]⟩, (qi 0, ⟨3,[(0,.vec [qi 0] 1 1 false),(1,.vec (qz [-jA,jA,-jD]) 1 3 false),(2,.cells [.vec 1] false none)]⟩)⟩]
theorem f2_365a_k : okM Tryz.prog 365 f2_365a := fk_v2 (by kernel_rfl)
def f2_365b : List MF := [⟨[.agg (c8 jA (c8 jA (c8 (-jD) (c8 1 [.vec 0])))),.ptr 2 0], ⟨3,[(0,.vec [qi 0] 1 1 false),(1,.vec (qz [jA,jA,-jD]) 1 3 false),(2,.cells [.vec 1] false none)]⟩, (qi 0, ⟨3,[(0,.vec [qi 0] 1 1 false),(1,.vec (qz [jA,jA,-jD]) 1 3 false),(2,.cells [.vec 1] false none)]⟩)⟩,
 ⟨[.agg (c8 (-jA) (c8 (-jA) (c8 (-jC) (c8 1 [.vec 0])))),.ptr 2 0], ⟨3,[(0,.vec [qi 0] 1 1 false),(1,.vec (qz [-jA,-jA,-jC]) 1 3 false),(2,.cells [.vec 1] false none)]⟩, (qi 0, ⟨3,[(0,.vec [qi 0] 1 1 false),(1,.vec (qz [-jA,-jA,-jC]) 1 3 false),(2,.cells [.vec 1] false none)]⟩)⟩,
 ⟨[.agg (c8 jA (c8 (-jA) (c8 (-jC) (c8 1 [.vec 0])))),.ptr 2 0], ⟨3,[(0,.vec [qi 0] 1 1 false),(1,.vec (qz [jA,-jA,-jC]) 1 3 false),(2,.cells [.vec 1] false none)]⟩, (qi 0, ⟨3,[(0,.vec [qi 0] 1 1 false),(1,.vec (qz [jA,-jA,-jC]) 1 3 false),(2,.cells [.vec 1] false none)]⟩)⟩,
 ⟨[.agg (c8 (-jA) (c8 jA (c8 (-jC) (c8 1 [.vec 0])))),.ptr 2 0], ⟨3,[(0,.vec [qi 0] 1 1 false),(1,.vec (qz [-jA,jA,-jC]) 1 3 false),(2,.cells [.vec 1] false none)]⟩, (qi 0, ⟨3,[(0,.vec [qi 0] 1 1 false),(1,.vec (qz [-jA,jA,-jC]) 1 3 false),(2,.cells [.vec 1] false none)]⟩)⟩,
 ⟨[.agg (c8 jA (c8 jA (c8 (-jC) (c8 1 [.vec 0])))),.ptr 2 0], ⟨3,[(0,.vec [qi 0] 1 1 false),(1,.vec (qz [jA,jA,-jC]) 1 3 false),(2,.cells [.vec 1] false none)]⟩, (qi 0, ⟨3,[(0,.vec [qi 0] 1 1 false),(1,.vec (qz [jA,jA,-jC]) 1 3 false),(2,.cells [.vec 1] false none)]⟩)⟩,
 ⟨[.agg (c8 jA (c8 jA (c8 jD (c8 1 [.vec 0])))),.ptr 2 0], ⟨3,[(0,.vec [qi 0] 1 1 false),(1,.vec (qz [jA,jA,jD,-jA,jA,jD,jA,-jA,jD,-jA,-jA,jD,jA,jA,jC,-jA,jA,jC,jA,-jA,jC,-jA,-jA,jC]) 8 3 false),(2,.cells [.vec 1] false none)]⟩, (qi 7, ⟨3,[(0,.vec [qi 0] 1 1 false),(1,.vec (qz [jA,jA,jD,-jA,jA,jD,jA,-jA,jD,-jA,-jA,jD,jA,jA,jC,-jA,jA,jC,jA,-jA,jC,-jA,-jA,jC]) 8 3 false),(2,.cells [.vec 1] false none)]⟩)⟩]
theorem f2_365b_k : okM Tryz.prog 365 f2_365b := fk_v2 (by kernel_rfl)
def f2_365c : List MF := [⟨[.agg (c8 (-jJ) (c8 (-jJ) (c8 jX (c8 33 [.vec 0])))),.ptr 2 0], ⟨3,[(0,.vec (qz [0,7]) 2 1 false),(1,.vec (qz [jA,jA,jD,-jA,jA,jD,jA,-jA,jD,-jA,-jA,jD,jA,jA,jC,-jA,jA,jC,jA,-jA,jC,-jA,-jA,jC]) 8 3 false),(2,.cells [.vec 1] false none)]⟩, (qi 4, ⟨3,[(0,.vec (qz [0,7]) 2 1 false),(1,.vec (qz [jA,jA,jD,-jA,jA,jD,jA,-jA,jD,-jA,-jA,jD,jA,jA,jC,-jA,jA,jC,jA,-jA,jC,-jA,-jA,jC]) 8 3 false),(2,.cells [.vec 1] false none)]⟩)⟩,
 ⟨[.agg (c8 0 (c8 0 (c8 jC (c8 1 [.vec 0])))),.ptr 2 0], ⟨3,[(0,.vec (qz [4,7]) 2 1 false),(1,.vec (qz [jA,jA,jD,-jA,jA,jD,jA,-jA,jD,-jA,-jA,jD,jA,jA,jC,-jA,jA,jC,jA,-jA,jC,-jA,-jA,jC]) 8 3 false),(2,.cells [.vec 1] false none)]⟩, (qi 4, ⟨3,[(0,.vec (qz [4,7]) 2 1 false),(1,.vec (qz [jA,jA,jD,-jA,jA,jD,jA,-jA,jD,-jA,-jA,jD,jA,jA,jC,-jA,jA,jC,jA,-jA,jC,-jA,-jA,jC]) 8 3 false),(2,.cells [.vec 1] false none)]⟩)⟩]
theorem f2_365c_k : okM Tryz.prog 365 f2_365c := fk_v2 (by kernel_rfl)
def f2_367a : List MF := [⟨[.agg (c8 (-jA) (c8 (-jA) (c8 (-jD) (c8 1 [.nils])))),.agg (qz [-jA,-jA,-jD])], ⟨0,[]⟩, (.bool false, ⟨0,[]⟩)⟩,
 ⟨[.agg (c8 (-jA) (c8 (-jA) (c8 (-jD) (c8 1 [.vec 0])))),.agg (qz [jA,jA,-jC])], ⟨1,[(0,.vec [qi 0] 1 1 false)]⟩, (.bool true, ⟨1,[(0,.vec [qi 0] 1 1 false)]⟩)⟩,
 ⟨[.agg (c8 (-jA) (c8 (-jA) (c8 (-jD) (c8 1 [.nils])))),.agg (qz [jA,jA,-jC])], ⟨0,[]⟩, (.bool true, ⟨0,[]⟩)⟩,
 ⟨[.agg (c8 jA (c8 jA (c8 (-jC) (c8 1 [.nils])))),.agg (qz [-jA,-jA,-jD])], ⟨0,[]⟩, (.bool true, ⟨0,[]⟩)⟩,
 ⟨[.agg (c8 jJ (c8 jJ (c8 (-jX) (c8 33 [.nils])))),.agg (qz [-jA,-jA,-jD])], ⟨0,[]⟩, (.bool false, ⟨0,[]⟩)⟩,
 ⟨[.agg (c8 jJ (c8 jJ (c8 (-jX) (c8 33 [.nils])))),.agg (qz [jA,jA,-jC])], ⟨0,[]⟩, (.bool false, ⟨0,[]⟩)⟩]
theorem f2_367a_k : okM Tryz.prog 367 f2_367a := fk_v2 (by kernel_rfl)
def f2_367b : List MF := [⟨[.agg (c8 jJ (c8 jJ (c8 (-jX) (c8 33 [.vec 0])))),.agg (qz [-jA,-jA,-jC])], ⟨1,[(0,.vec (qz [0,7]) 2 1 false)]⟩, (.bool true, ⟨1,[(0,.vec (qz [0,7]) 2 1 false)]⟩)⟩,
 ⟨[.agg (c8 (-jA) (c8 (-jA) (c8 (-jD) (c8 1 [.nils])))),.agg (qz [-jA,-jA,-jC])], ⟨0,[]⟩, (.bool true, ⟨0,[]⟩)⟩,
 ⟨[.agg (c8 (-jA) (c8 (-jA) (c8 (-jC) (c8 1 [.nils])))),.agg (qz [-jA,-jA,-jD])], ⟨0,[]⟩, (.bool false, ⟨0,[]⟩)⟩,
 ⟨[.agg (c8 (-jA) (c8 (-jA) (c8 (-jC) (c8 1 [.nils])))),.agg (qz [-jA,-jA,-jC])], ⟨0,[]⟩, (.bool false, ⟨0,[]⟩)⟩,
 ⟨[.agg (c8 (-jA) (c8 (-jA) (c8 (-jC) (c8 1 [.nils])))),.agg (qz [jA,jA,-jC])], ⟨0,[]⟩, (.bool true, ⟨0,[]⟩)⟩,
 ⟨[.agg (c8 jJ (c8 jJ (c8 (-jX) (c8 33 [.nils])))),.agg (qz [-jA,-jA,-jC])], ⟨0,[]⟩, (.bool true, ⟨0,[]⟩)⟩]
theorem f2_367b_k : okM Tryz.prog 367 f2_367b := fk_v2 (by kernel_rfl)
def f2_367c : List MF := [⟨[.agg (c8 0 (c8 0 (c8 (-jC) (c8 1 [.nils])))),.agg (qz [-jA,-jA,-jD])], ⟨0,[]⟩, (.bool false, ⟨0,[]⟩)⟩,
 ⟨[.agg (c8 0 (c8 0 (c8 (-jC) (c8 1 [.nils])))),.agg (qz [-jA,-jA,-jC])], ⟨0,[]⟩, (.bool false, ⟨0,[]⟩)⟩,
 ⟨[.agg (c8 0 (c8 0 (c8 (-jC) (c8 1 [.nils])))),.agg (qz [jA,jA,-jC])], ⟨0,[]⟩, (.bool false, ⟨0,[]⟩)⟩,
 ⟨[.agg (c8 0 (c8 0 (c8 (-jC) (c8 1 [.vec 0])))),.agg (qz [-jA,-jA,-jC])], ⟨1,[(0,.vec (qz [4,7]) 2 1 false)]⟩, (.bool false, ⟨1,[(0,.vec (qz [4,7]) 2 1 false)]⟩)⟩,
 ⟨[.agg (c8 (-jA) (c8 (-jA) (c8 (-jD) (c8 1 [.vec 0])))),.agg (qz [-jA,-jA,-jD])], ⟨1,[(0,.vec [qi 0] 1 1 false)]⟩, (.bool false, ⟨1,[(0,.vec [qi 0] 1 1 false)]⟩)⟩,
 ⟨[.agg (c8 jA (c8 (-jA) (c8 (-jD) (c8 1 [.nils])))),.agg (qz [jA,-jA,-jD])], ⟨0,[]⟩, (.bool false, ⟨0,[]⟩)⟩]
theorem f2_367c_k : okM Tryz.prog 367 f2_367c := fk_v2 (by kernel_rfl)
def f2_367d : List MF := [⟨[.agg (c8 jA (c8 (-jA) (c8 (-jD) (c8 1 [.vec 0])))),.agg (qz [jA,-jA,-jD])], ⟨1,[(0,.vec [qi 0] 1 1 false)]⟩, (.bool false, ⟨1,[(0,.vec [qi 0] 1 1 false)]⟩)⟩,
 ⟨[.agg (c8 (-jA) (c8 jA (c8 (-jD) (c8 1 [.nils])))),.agg (qz [-jA,jA,-jD])], ⟨0,[]⟩, (.bool false, ⟨0,[]⟩)⟩,
 ⟨[.agg (c8 (-jA) (c8 jA (c8 (-jD) (c8 1 [.vec 0])))),.agg (qz [-jA,jA,-jD])], ⟨1,[(0,.vec [qi 0] 1 1 false)]⟩, (.bool false, ⟨1,[(0,.vec [qi 0] 1 1 false)]⟩)⟩,
 ⟨[.agg (c8 jA (c8 jA (c8 (-jD) (c8 1 [.nils])))),.agg (qz [jA,jA,-jD])], ⟨0,[]⟩, (.bool false, ⟨0,[]⟩)⟩,
 ⟨[.agg (c8 jA (c8 jA (c8 (-jD) (c8 1 [.vec 0])))),.agg (qz [jA,jA,-jD])], ⟨1,[(0,.vec [qi 0] 1 1 false)]⟩, (.bool false, ⟨1,[(0,.vec [qi 0] 1 1 false)]⟩)⟩,
 ⟨[.agg (c8 (-jA) (c8 (-jA) (c8 (-jC) (c8 1 [.vec 0])))),.agg (qz [-jA,-jA,-jC])], ⟨1,[(0,.vec [qi 0] 1 1 false)]⟩, (.bool false, ⟨1,[(0,.vec [qi 0] 1 1 false)]⟩)⟩]
theorem f2_367d_k : okM Tryz.prog 367 f2_367d := fk_v2 (by kernel_rfl)
def f2_367e : List MF := [⟨[.agg (c8 jA (c8 (-jA) (c8 (-jC) (c8 1 [.nils])))),.agg (qz [jA,-jA,-jC])], ⟨0,[]⟩, (.bool false, ⟨0,[]⟩)⟩,
 ⟨[.agg (c8 jA (c8 (-jA) (c8 (-jC) (c8 1 [.vec 0])))),.agg (qz [jA,-jA,-jC])], ⟨1,[(0,.vec [qi 0] 1 1 false)]⟩, (.bool false, ⟨1,[(0,.vec [qi 0] 1 1 false)]⟩)⟩,
 ⟨[.agg (c8 (-jA) (c8 jA (c8 (-jC) (c8 1 [.nils])))),.agg (qz [-jA,jA,-jC])], ⟨0,[]⟩, (.bool false, ⟨0,[]⟩)⟩,
 ⟨[.agg (c8 (-jA) (c8 jA (c8 (-jC) (c8 1 [.vec 0])))),.agg (qz [-jA,jA,-jC])], ⟨1,[(0,.vec [qi 0] 1 1 false)]⟩, (.bool false, ⟨1,[(0,.vec [qi 0] 1 1 false)]⟩)⟩,
 ⟨[.agg (c8 jA (c8 jA (c8 (-jC) (c8 1 [.nils])))),.agg (qz [jA,jA,-jC])], ⟨0,[]⟩, (.bool false, ⟨0,[]⟩)⟩,
 ⟨[.agg (c8 jA (c8 jA (c8 (-jC) (c8 1 [.vec 0])))),.agg (qz [jA,jA,-jC])], ⟨1,[(0,.vec [qi 0] 1 1 false)]⟩, (.bool false, ⟨1,[(0,.vec [qi 0] 1 1 false)]⟩)⟩]
theorem f2_367e_k : okM Tryz.prog 367 f2_367e := fk_v2 (by kernel_rfl)
def f2_367f : List MF := [⟨[.agg (c8 jA (c8 jA (c8 jD (c8 1 [.nils])))),.agg (qz [jA,jA,jD])], ⟨0,[]⟩, (.bool false, ⟨0,[]⟩)⟩,
 ⟨[.agg (c8 jA (c8 jA (c8 jD (c8 1 [.vec 0])))),.agg (qz [-jA,-jA,jC])], ⟨1,[(0,.vec [qi 0] 1 1 false)]⟩, (.bool true, ⟨1,[(0,.vec [qi 0] 1 1 false)]⟩)⟩,
 ⟨[.agg (c8 jA (c8 jA (c8 jD (c8 1 [.nils])))),.agg (qz [-jA,-jA,jC])], ⟨0,[]⟩, (.bool true, ⟨0,[]⟩)⟩,
 ⟨[.agg (c8 (-jA) (c8 (-jA) (c8 jC (c8 1 [.nils])))),.agg (qz [jA,jA,jD])], ⟨0,[]⟩, (.bool true, ⟨0,[]⟩)⟩,
 ⟨[.agg (c8 (-jJ) (c8 (-jJ) (c8 jX (c8 33 [.nils])))),.agg (qz [jA,jA,jD])], ⟨0,[]⟩, (.bool false, ⟨0,[]⟩)⟩,
 ⟨[.agg (c8 (-jJ) (c8 (-jJ) (c8 jX (c8 33 [.nils])))),.agg (qz [-jA,-jA,jC])], ⟨0,[]⟩, (.bool false, ⟨0,[]⟩)⟩]
theorem f2_367f_k : okM Tryz.prog 367 f2_367f := fk_v2 (by kernel_rfl)
def f2_367g : List MF := [⟨[.agg (c8 (-jJ) (c8 (-jJ) (c8 jX (c8 33 [.vec 0])))),.agg (qz [jA,jA,jC])], ⟨1,[(0,.vec (qz [0,7]) 2 1 false)]⟩, (.bool true, ⟨1,[(0,.vec (qz [0,7]) 2 1 false)]⟩)⟩,
 ⟨[.agg (c8 jA (c8 jA (c8 jD (c8 1 [.nils])))),.agg (qz [jA,jA,jC])], ⟨0,[]⟩, (.bool true, ⟨0,[]⟩)⟩,
 ⟨[.agg (c8 jA (c8 jA (c8 jC (c8 1 [.nils])))),.agg (qz [jA,jA,jD])], ⟨0,[]⟩, (.bool false, ⟨0,[]⟩)⟩,
 ⟨[.agg (c8 jA (c8 jA (c8 jC (c8 1 [.nils])))),.agg (qz [jA,jA,jC])], ⟨0,[]⟩, (.bool false, ⟨0,[]⟩)⟩,
 ⟨[.agg (c8 jA (c8 jA (c8 jC (c8 1 [.nils])))),.agg (qz [-jA,-jA,jC])], ⟨0,[]⟩, (.bool true, ⟨0,[]⟩)⟩,
 ⟨[.agg (c8 (-jJ) (c8 (-jJ) (c8 jX (c8 33 [.nils])))),.agg (qz [jA,jA,jC])], ⟨0,[]⟩, (.bool true, ⟨0,[]⟩)⟩]
theorem f2_367g_k : okM Tryz.prog 367 f2_367g := fk_v2 (by kernel_rfl)
def f2_367h : List MF := [⟨[.agg (c8 0 (c8 0 (c8 jC (c8 1 [.nils])))),.agg (qz [jA,jA,jD])], ⟨0,[]⟩, (.bool false, ⟨0,[]⟩)⟩,
 ⟨[.agg (c8 0 (c8 0 (c8 jC (c8 1 [.nils])))),.agg (qz [jA,jA,jC])], ⟨0,[]⟩, (.bool false, ⟨0,[]⟩)⟩,
 ⟨[.agg (c8 0 (c8 0 (c8 jC (c8 1 [.nils])))),.agg (qz [-jA,-jA,jC])], ⟨0,[]⟩, (.bool false, ⟨0,[]⟩)⟩,
 ⟨[.agg (c8 0 (c8 0 (c8 jC (c8 1 [.vec 0])))),.agg (qz [jA,jA,jC])], ⟨1,[(0,.vec (qz [4,7]) 2 1 false)]⟩, (.bool false, ⟨1,[(0,.vec (qz [4,7]) 2 1 false)]⟩)⟩]
theorem f2_367h_k : okM Tryz.prog 367 f2_367h := fk_v2 (by kernel_rfl)
def f2_370 : List MF := [⟨(qz [1,1]), ⟨0,[]⟩, (.slice 0 0 1 false 0, ⟨2,[(0,.cells [.vec 1] true (some 1)),(1,.vec [qi 0] 1 1 true)]⟩)⟩,
 ⟨(qz [2,1]), ⟨0,[]⟩, (.slice 0 0 2 false 0, ⟨3,[(0,.cells [.vec 1,.vec 2] true (some 1)),(1,.vec [qi 0] 1 1 true),(2,.vec [qi 1] 1 1 true)]⟩)⟩,
 ⟨(qz [2,2]), ⟨0,[]⟩, (.slice 0 0 1 false 0, ⟨2,[(0,.cells [.vec 1] true (some 1)),(1,.vec (qz [0,1]) 2 1 true)]⟩)⟩,
 ⟨(qz [3,1]), ⟨0,[]⟩, (.slice 0 0 3 false 0, ⟨4,[(0,.cells [.vec 1,.vec 2,.vec 3] true (some 1)),(1,.vec [qi 0] 1 1 true),(2,.vec [qi 1] 1 1 true),(3,.vec [qi 2] 1 1 true)]⟩)⟩,
 ⟨(qz [3,2]), ⟨0,[]⟩, (.slice 0 0 3 false 0, ⟨4,[(0,.cells [.vec 1,.vec 2,.vec 3] true (some 1)),(1,.vec (qz [0,1]) 2 1 true),(2,.vec (qz [0,2]) 2 1 true),(3,.vec (qz [1,2]) 2 1 true)]⟩)⟩]
theorem f2_370_k : okM Tryz.prog 370 f2_370 := fk_v2 (by kernel_rfl)
def fk_lt3 : FTab := fun f => cond (Nat.beq f 49) e2_49 (cond (Nat.beq f 67) e2_67 (cond (Nat.beq f 68) e2_68 (cond (Nat.beq f 74) e2_74 (cond (Nat.beq f 85) e2_85 (cond (Nat.beq f 111) e2_111 (cond (Nat.beq f 115) (e2_115a ++ (e2_115b)) (cond (Nat.beq f 116) e2_116 (cond (Nat.beq f 139) e2_139 (cond (Nat.beq f 152) e2_152 (cond (Nat.beq f 158) (e2_158a ++ (e2_158b ++ (e2_158c ++ (e2_158d)))) (cond (Nat.beq f 196) (e2_196a ++ (e2_196b)) (cond (Nat.beq f 223) e2_223 (cond (Nat.beq f 234) e2_234 (cond (Nat.beq f 239) e2_239 (cond (Nat.beq f 249) (e2_249a ++ (e2_249b ++ (e2_249c))) (cond (Nat.beq f 266) (e2_266a ++ (e2_266b)) (cond (Nat.beq f 304) e2_304 (cond (Nat.beq f 307) e2_307 (cond (Nat.beq f 311) e2_311 ([]))))))))))))))))))))
theorem fk_lt3_ok : FTabOk Tryz.prog fk_lt3 := (ftab_node e2_49_k (ftab_node e2_67_k (ftab_node e2_68_k (ftab_node e2_74_k (ftab_node e2_85_k (ftab_node e2_111_k (ftab_node (okL_app e2_115a_k e2_115b_k) (ftab_node e2_116_k (ftab_node e2_139_k (ftab_node e2_152_k (ftab_node (okL_app e2_158a_k (okL_app e2_158b_k (okL_app e2_158c_k e2_158d_k))) (ftab_node (okL_app e2_196a_k e2_196b_k) (ftab_node e2_223_k (ftab_node e2_234_k (ftab_node e2_239_k (ftab_node (okL_app e2_249a_k (okL_app e2_249b_k e2_249c_k)) (ftab_node (okL_app e2_266a_k e2_266b_k) (ftab_node e2_304_k (ftab_node e2_307_k (ftab_node e2_311_k ftab_leaf))))))))))))))))))))
def fk_t3 : FTab := fun f => fk_lt3 f ++ fk_t2 f
theorem fk_t3_ok : FTabOk Tryz.prog fk_t3 := ftab_or fk_lt3_ok fk_t2_ok
def fk_lm3 : MTab := fun f => cond (Nat.beq f 36) f2_36 (cond (Nat.beq f 39) f2_39 (cond (Nat.beq f 45) f2_45 (cond (Nat.beq f 47) f2_47 (cond (Nat.beq f 134) f2_134 (cond (Nat.beq f 148) f2_148 (cond (Nat.beq f 172) f2_172 (cond (Nat.beq f 175) (f2_175a ++ (f2_175b)) (cond (Nat.beq f 200) f2_200 (cond (Nat.beq f 281) (f2_281a ++ (f2_281b ++ (f2_281c))) (cond (Nat.beq f 322) f2_322 (cond (Nat.beq f 350) f2_350 (cond (Nat.beq f 365) (f2_365a ++ (f2_365b ++ (f2_365c))) (cond (Nat.beq f 367) (f2_367a ++ (f2_367b ++ (f2_367c ++ (f2_367d ++ (f2_367e ++ (f2_367f ++ (f2_367g ++ (f2_367h)))))))) (cond (Nat.beq f 370) f2_370 ([])))))))))))))))
theorem fk_lm3_ok : MTabOk Tryz.prog fk_lm3 := (mtab_node f2_36_k (mtab_node f2_39_k (mtab_node f2_45_k (mtab_node f2_47_k (mtab_node f2_134_k (mtab_node f2_148_k (mtab_node f2_172_k (mtab_node (okM_app f2_175a_k f2_175b_k) (mtab_node f2_200_k (mtab_node (okM_app f2_281a_k (okM_app f2_281b_k f2_281c_k)) (mtab_node f2_322_k (mtab_node f2_350_k (mtab_node (okM_app f2_365a_k (okM_app f2_365b_k f2_365c_k)) (mtab_node (okM_app f2_367a_k (okM_app f2_367b_k (okM_app f2_367c_k (okM_app f2_367d_k (okM_app f2_367e_k (okM_app f2_367f_k (okM_app f2_367g_k f2_367h_k))))))) (mtab_node f2_370_k mtab_leaf)))))))))))))))
def fk_m3 : MTab := fun f => fk_lm3 f ++ fk_m2 f
theorem fk_m3_ok : MTabOk Tryz.prog fk_m3 := mtab_or fk_lm3_ok fk_m2_ok
noncomputable abbrev fk_c3 : CH := fk_ch fk_t3 fk_m3
theorem fk_c3_ok : CHOk Tryz.prog fk_c3 := fk_ch_ok fk_t3_ok fk_m3_ok
noncomputable abbrev fk_w3 : Teller := tellRD Tryz.prog tyTab 400 fk_ds fk_il fk_c3
theorem fk_w3_ok : TellOk Tryz.prog fk_w3 := tellRD_ok tab_ok mixed noNum fk_c3_ok
theorem fk_u3 {g l} (h : chkF (pureT fk_w3) g l = true) : okL Tryz.prog g l := chkF_ok (tell := fk_w3) fk_w3_ok h
theorem fk_v3 {g l} (h : chkM fk_w3 g l = true) : okM Tryz.prog g l := chkM_ok (tell := fk_w3) fk_w3_ok h
def e3_48 : List (List AVal × AVal) := [([.agg (qz [0,0,jC])], .agg (qz [0,0,jB]))]
theorem e3_48_k : okL Tryz.prog 48 e3_48 := fk_u3 (by kernel_rfl)
def e3_50a : List (List AVal × AVal) := [((qz [0,0]), qi 0),
 ((qz [-jB,0]), qi 0),
 ((qz [0,-jB]), qi 0),
 ((qz [0,jB]), qi 0),
 ((qz [jB,0]), qi 0),
 ((qz [jB,jF]), qi jF)]
theorem e3_50a_k : okL Tryz.prog 50 e3_50a := fk_u3 (by kernel_rfl)
def e3_50b : List (List AVal × AVal) := [((qz [0,jF]), qi 0),
 ((qz [-jB,jF]), qi (-jF)),
 ((qz [-jF,0]), qi 0),
 ((qz [-jF,-jB]), qi jF),
 ((qz [jF,jB]), qi jF)]
theorem e3_50b_k : okL Tryz.prog 50 e3_50b := fk_u3 (by kernel_rfl)
def e3_51 : List (List AVal × AVal) := [((qz [0,0,0]), .tup (qz [0,0]))]
theorem e3_51_k : okL Tryz.prog 51 e3_51 := fk_u3 (by kernel_rfl)
def e3_71a : List (List AVal × AVal) := [([.agg (qz [0,0,-jB]),.agg (qz [jB,0,0])], .agg (qz [0,-jB,0])),
 ([.agg (qz [0,0,-jB]),.agg (qz [0,-jB,0])], .agg (qz [-jB,0,0])),
 ([.agg (qz [0,0,jI]),.agg (qz [0,0,-jB])], .agg (qz [0,0,0])),
 ([.agg (qz [0,0,0]),.agg (qz [0,0,jI])], .agg (qz [0,0,0])),
 ([.agg (qz [0,0,0]),.agg (qz [0,0,-jB])], .agg (qz [0,0,0])),
 ([.agg (qz [0,0,0]),.agg (qz [0,0,0])], .agg (qz [0,0,0]))]
theorem e3_71a_k : okL Tryz.prog 71 e3_71a := fk_u3 (by kernel_rfl)
def e3_71b : List (List AVal × AVal) := [([.agg (qz [0,0,jI]),.agg (qz [0,-jB,0])], .agg (qz [jI,0,0])),
 ([.agg (qz [0,0,0]),.agg (qz [0,-jB,0])], .agg (qz [0,0,0])),
 ([.agg (qz [0,0,jI]),.agg (qz [-jB,0,0])], .agg (qz [0,-jI,0])),
 ([.agg (qz [0,0,0]),.agg (qz [-jB,0,0])], .agg (qz [0,0,0])),
 ([.agg (qz [0,0,jI]),.agg (qz [0,0,0])], .agg (qz [0,0,0])),
 ([.agg (qz [0,0,jI]),.agg (qz [0,0,-jF])], .agg (qz [0,0,0]))]
theorem e3_71b_k : okL Tryz.prog 71 e3_71b := fk_u3 (by kernel_rfl)
def e3_71c : List (List AVal × AVal) := [([.agg (qz [0,0,0]),.agg (qz [0,0,jF])], .agg (qz [0,0,0]))]
theorem e3_71c_k : okL Tryz.prog 71 e3_71c := fk_u3 (by kernel_rfl)
def e3_89 : List (List AVal × AVal) := [([.agg (c8 0 (c8 0 (c8 (-jC) []))),.bool false], .agg (qz [0,0,-jB]))]
theorem e3_89_k : okL Tryz.prog 89 e3_89 := fk_u3 (by kernel_rfl)
def e3_108 : List (List AVal × AVal) := [([.agg (qz [0,0,0]),.agg (qz [0,0,-jj]),qi jQ], .agg (qz [0,0,-jF])),
 ([.agg (qz [0,0,jB]),.agg (qz [0,0,0]),qi jQ], .agg (qz [0,0,jB]))]
theorem e3_108_k : okL Tryz.prog 108 e3_108 := fk_u3 (by kernel_rfl)
def e3_151 : List (List AVal × AVal) := [([.agg (qz [jB,0,0,0])], .tup [.agg (qz [jB,0,0,0,jB,0,0,0,jB]),qi 0])]
theorem e3_151_k : okL Tryz.prog 151 e3_151 := fk_u3 (by kernel_rfl)
def e3_157a : List (List AVal × AVal) := [([.agg (qz [0,0,0]),.agg (qz [0,0,0])], qi 0),
 ([.agg (qz [0,0,-jB]),.agg (qz [0,0,0])], qi 0),
 ([.agg (qz [jG,0,0]),.agg (qz [0,0,0])], qi 0),
 ([.agg (qz [0,jG,0]),.agg (qz [0,0,0])], qi 0),
 ([.agg (qz [0,0,jG]),.agg (qz [0,0,0])], qi 0),
 ([.agg (qz [0,0,0]),.agg (qz [jI,0,0])], qi 0)]
theorem e3_157a_k : okL Tryz.prog 157 e3_157a := fk_u3 (by kernel_rfl)
def e3_157b : List (List AVal × AVal) := [([.agg (qz [0,-jB,0]),.agg (qz [0,0,0])], qi 0),
 ([.agg (qz [0,0,0]),.agg (qz [0,-jI,0])], qi 0),
 ([.agg (qz [-jB,0,0]),.agg (qz [0,0,0])], qi 0),
 ([.agg (qz [0,0,jF]),.agg (qz [0,-jB,0])], qi 0),
 ([.agg (qz [0,0,jF]),.agg (qz [-jB,0,0])], qi 0),
 ([.agg (qz [0,0,jF]),.agg (qz [0,0,-jB])], qi (-jF))]
theorem e3_157b_k : okL Tryz.prog 157 e3_157b := fk_u3 (by kernel_rfl)
def e3_157c : List (List AVal × AVal) := [([.agg (qz [0,0,0]),.agg (qz [0,-jB,0])], qi 0),
 ([.agg (qz [0,0,0]),.agg (qz [-jB,0,0])], qi 0),
 ([.agg (qz [0,0,0]),.agg (qz [0,0,-jB])], qi 0)]
theorem e3_157c_k : okL Tryz.prog 157 e3_157c := fk_u3 (by kernel_rfl)
def e3_161 : List (List AVal × AVal) := [([.agg (qz [-jN,-jN,-jS,jN,jN,jk]),.agg (qz [-jL,-jL,-jO,jL,jL,jU])], .bool true),
 ([.agg (qz [-jV,-jV,-jk,jV,jV,jS]),.agg (qz [-jM,-jM,-jU,jM,jM,jO])], .bool true)]
theorem e3_161_k : okL Tryz.prog 161 e3_161 := fk_u3 (by kernel_rfl)
def e3_214 : List (List AVal × AVal) := [([.agg (qz [0,-jB,0])], .tup [.agg (qz [0,-jB,0]),.bool true])]
theorem e3_214_k : okL Tryz.prog 214 e3_214 := fk_u3 (by kernel_rfl)
def e3_216 : List (List AVal × AVal) := [((qz [jB,jB]), qi jB),
 ((qz [jB,jb]), qi jG),
 ((qz [0,jQ]), qi 0)]
theorem e3_216_k : okL Tryz.prog 216 e3_216 := fk_u3 (by kernel_rfl)
def e3_221 : List (List AVal × AVal) := [([.agg (qz [0,0,-jB,jB,0,0,0])], qi 0),
 ([.agg (qz [0,0,jB,jB,0,0,0])], qi 0)]
theorem e3_221_k : okL Tryz.prog 221 e3_221 := fk_u3 (by kernel_rfl)
def e3_222 : List (List AVal × AVal) := [([.agg (qz [jB,0,0,0])], .tup [.agg (qz [jB,0,0,0]),qi 0])]
theorem e3_222_k : okL Tryz.prog 222 e3_222 := fk_u3 (by kernel_rfl)
def e3_238 : List (List AVal × AVal) := [([.agg (qz [0,0,0])], .bool true),
 ([.agg (qz [0,0,-jF])], .bool true)]
theorem e3_238_k : okL Tryz.prog 238 e3_238 := fk_u3 (by kernel_rfl)
def f3_29 : List MF := [⟨[.agg (qs [2,1,jB,0,0,0] (.nils :: (qs [0,0,jB,jB,0,0,0,jB,0,0,-jF,0,0,0,0] []))),.agg (qz [0,0,0]),.agg (qz [0,0,0])], ⟨0,[]⟩, (.agg (qs [2,1,jB,0,0,0] (.nils :: (qs [0,0,jB,jB,0,0,0,jB,0,0,0,0,0,0,0] []))), ⟨0,[]⟩)⟩]
theorem f3_29_k : okM Tryz.prog 29 f3_29 := fk_v3 (by kernel_rfl)
def f3_136 : List MF := [⟨[.vec 0,qi jU], ⟨1,[(0,.vec (qz [-jA,-jA,-jK,jA,-jA,-jK,-jA,jA,-jK,jA,jA,-jK,-jA,-jA,0,jA,-jA,0,-jA,jA,0,jA,jA,0]) 8 3 false)]⟩, (.tup [.agg (qz [-jL,-jL,-jO,jL,jL,jU]),qi 0], ⟨1,[(0,.vec (qz [-jA,-jA,-jK,jA,-jA,-jK,-jA,jA,-jK,jA,jA,-jK,-jA,-jA,0,jA,-jA,0,-jA,jA,0,jA,jA,0]) 8 3 false)]⟩)⟩,
 ⟨[.vec 0,qi jM], ⟨1,[(0,.vec (qz [0,0,jC]) 1 3 false)]⟩, (.tup [.agg (qz [-jM,-jM,-jU,jM,jM,jO]),qi 0], ⟨1,[(0,.vec (qz [0,0,jC]) 1 3 false)]⟩)⟩]
theorem f3_136_k : okM Tryz.prog 136 f3_136 := fk_v3 (by kernel_rfl)
def f3_237 : List MF := [⟨[.agg (qs [3,0,jE,jE,jB] [.nils])], ⟨0,[]⟩, (qi 0, ⟨0,[]⟩)⟩,
 ⟨[.agg (qs [1,jB,0,0,0] [.nils])], ⟨0,[]⟩, (qi 0, ⟨0,[]⟩)⟩]
theorem f3_237_k : okM Tryz.prog 237 f3_237 := fk_v3 (by kernel_rfl)
def f3_265a : List MF := [⟨[.agg (qz [-jN,-jN,-jS,jN,jN,jS]),.ptr 0 0], ⟨1,[(0,.cells (qz [-jL,-jL,-jO,jL,jL,jU]) false none)]⟩, (.bool true, ⟨1,[(0,.cells (qz [-jL,-jL,-jO,jL,jL,jU]) false none)]⟩)⟩,
 ⟨[.agg (qz [-jV,-jV,-jk,jV,jV,jS]),.ptr 0 0], ⟨1,[(0,.cells (qz [-jL,-jL,-jO,jL,jL,jU]) false none)]⟩, (.bool true, ⟨1,[(0,.cells (qz [-jL,-jL,-jO,jL,jL,jU]) false none)]⟩)⟩,
 ⟨[.agg (qz [-jM,-jM,-jU,jM,jM,jO]),.ptr 0 0], ⟨1,[(0,.cells (qz [-jL,-jL,-jO,jL,jL,jU]) false none)]⟩, (.bool true, ⟨1,[(0,.cells (qz [-jL,-jL,-jO,jL,jL,jU]) false none)]⟩)⟩,
 ⟨[.agg (qz [-jN,-jN,-jS,jN,jN,jk]),.ptr 0 0], ⟨1,[(0,.cells (qz [-jL,-jL,-jO,jL,jL,jU]) false none)]⟩, (.bool true, ⟨1,[(0,.cells (qz [-jL,-jL,-jO,jL,jL,jU]) false none)]⟩)⟩,
 ⟨[.agg (qz [-jL,-jL,-jO,jL,jL,jU]),.ptr 0 0], ⟨1,[(0,.cells (qz [-jL,-jL,-jO,jL,jL,jU]) false none)]⟩, (.bool true, ⟨1,[(0,.cells (qz [-jL,-jL,-jO,jL,jL,jU]) false none)]⟩)⟩,
 ⟨[.agg (qz [-jN,-jN,-jS,jN,jN,jS]),.ptr 0 0], ⟨1,[(0,.cells (qz [-jM,-jM,-jU,jM,jM,jO]) false none)]⟩, (.bool true, ⟨1,[(0,.cells (qz [-jM,-jM,-jU,jM,jM,jO]) false none)]⟩)⟩]
theorem f3_265a_k : okM Tryz.prog 265 f3_265a := fk_v3 (by kernel_rfl)
def f3_265b : List MF := [⟨[.agg (qz [-jV,-jV,-jk,jV,jV,jS]),.ptr 0 0], ⟨1,[(0,.cells (qz [-jM,-jM,-jU,jM,jM,jO]) false none)]⟩, (.bool true, ⟨1,[(0,.cells (qz [-jM,-jM,-jU,jM,jM,jO]) false none)]⟩)⟩,
 ⟨[.agg (qz [-jM,-jM,-jU,jM,jM,jO]),.ptr 0 0], ⟨1,[(0,.cells (qz [-jM,-jM,-jU,jM,jM,jO]) false none)]⟩, (.bool true, ⟨1,[(0,.cells (qz [-jM,-jM,-jU,jM,jM,jO]) false none)]⟩)⟩,
 ⟨[.agg (qz [-jN,-jN,-jS,jN,jN,jk]),.ptr 0 0], ⟨1,[(0,.cells (qz [-jM,-jM,-jU,jM,jM,jO]) false none)]⟩, (.bool true, ⟨1,[(0,.cells (qz [-jM,-jM,-jU,jM,jM,jO]) false none)]⟩)⟩,
 ⟨[.agg (qz [-jL,-jL,-jO,jL,jL,jU]),.ptr 0 0], ⟨1,[(0,.cells (qz [-jM,-jM,-jU,jM,jM,jO]) false none)]⟩, (.bool true, ⟨1,[(0,.cells (qz [-jM,-jM,-jU,jM,jM,jO]) false none)]⟩)⟩]
theorem f3_265b_k : okM Tryz.prog 265 f3_265b := fk_v3 (by kernel_rfl)
def f3_281 : List MF := [⟨[.vec 0], ⟨1,[(0,.vec (qz [-jA,-jA,-jD,-jA,-jA,-jC,jA,jA,-jC]) 3 3 false)]⟩, (.tup [.vec 1,qi 0], ⟨2,[(0,.vec (qz [-jA,-jA,-jD,-jA,-jA,-jC,jA,jA,-jC]) 3 3 false),(1,.vec (qz [0,1,2]) 3 1 true)]⟩)⟩,
 ⟨[.vec 0], ⟨1,[(0,.vec (qz [jA,jA,jD,jA,jA,jC,-jA,-jA,jC]) 3 3 false)]⟩, (.tup [.vec 1,qi 0], ⟨2,[(0,.vec (qz [jA,jA,jD,jA,jA,jC,-jA,-jA,jC]) 3 3 false),(1,.vec (qz [0,1,2]) 3 1 true)]⟩)⟩]
theorem f3_281_k : okM Tryz.prog 281 f3_281 := fk_v3 (by kernel_rfl)
def f3_322a : List MF := [⟨[.vec 0], ⟨1,[(0,.vec (qz [-jA,-jA,-jD]) 1 3 false)]⟩, (.tup (qz [0,0]), ⟨1,[(0,.vec (qz [-jA,-jA,-jD]) 1 3 false)]⟩)⟩,
 ⟨[.vec 0], ⟨1,[(0,.vec (qz [-jA,-jA,-jD,jA,jA,-jC]) 2 3 false)]⟩, (.tup (qz [1,0]), ⟨1,[(0,.vec (qz [-jA,-jA,-jD,jA,jA,-jC]) 2 3 false)]⟩)⟩,
 ⟨[.vec 0], ⟨1,[(0,.vec (qz [jA,jA,-jC]) 1 3 false)]⟩, (.tup (qz [0,0]), ⟨1,[(0,.vec (qz [jA,jA,-jC]) 1 3 false)]⟩)⟩,
 ⟨[.vec 0], ⟨1,[(0,.vec (qz [-jA,-jA,-jC]) 1 3 false)]⟩, (.tup (qz [0,0]), ⟨1,[(0,.vec (qz [-jA,-jA,-jC]) 1 3 false)]⟩)⟩,
 ⟨[.vec 0], ⟨1,[(0,.vec (qz [-jA,-jA,-jD,-jA,-jA,-jC]) 2 3 false)]⟩, (.tup (qz [1,0]), ⟨1,[(0,.vec (qz [-jA,-jA,-jD,-jA,-jA,-jC]) 2 3 false)]⟩)⟩,
 ⟨[.vec 0], ⟨1,[(0,.vec (qz [-jA,-jA,-jC,jA,jA,-jC]) 2 3 false)]⟩, (.tup (qz [1,0]), ⟨1,[(0,.vec (qz [-jA,-jA,-jC,jA,jA,-jC]) 2 3 false)]⟩)⟩]
theorem f3_322a_k : okM Tryz.prog 322 f3_322a := fk_v3 (by kernel_rfl)
def f3_322b : List MF := [⟨[.vec 0], ⟨1,[(0,.vec (qz [jA,-jA,-jD]) 1 3 false)]⟩, (.tup (qz [0,0]), ⟨1,[(0,.vec (qz [jA,-jA,-jD]) 1 3 false)]⟩)⟩,
 ⟨[.vec 0], ⟨1,[(0,.vec (qz [-jA,jA,-jD]) 1 3 false)]⟩, (.tup (qz [0,0]), ⟨1,[(0,.vec (qz [-jA,jA,-jD]) 1 3 false)]⟩)⟩,
 ⟨[.vec 0], ⟨1,[(0,.vec (qz [jA,jA,-jD]) 1 3 false)]⟩, (.tup (qz [0,0]), ⟨1,[(0,.vec (qz [jA,jA,-jD]) 1 3 false)]⟩)⟩,
 ⟨[.vec 0], ⟨1,[(0,.vec (qz [jA,-jA,-jC]) 1 3 false)]⟩, (.tup (qz [0,0]), ⟨1,[(0,.vec (qz [jA,-jA,-jC]) 1 3 false)]⟩)⟩,
 ⟨[.vec 0], ⟨1,[(0,.vec (qz [-jA,jA,-jC]) 1 3 false)]⟩, (.tup (qz [0,0]), ⟨1,[(0,.vec (qz [-jA,jA,-jC]) 1 3 false)]⟩)⟩,
 ⟨[.vec 0], ⟨1,[(0,.vec (qz [jA,jA,jD]) 1 3 false)]⟩, (.tup (qz [0,0]), ⟨1,[(0,.vec (qz [jA,jA,jD]) 1 3 false)]⟩)⟩]
theorem f3_322b_k : okM Tryz.prog 322 f3_322b := fk_v3 (by kernel_rfl)
def f3_322c : List MF := [⟨[.vec 0], ⟨1,[(0,.vec (qz [jA,jA,jD,-jA,-jA,jC]) 2 3 false)]⟩, (.tup (qz [1,0]), ⟨1,[(0,.vec (qz [jA,jA,jD,-jA,-jA,jC]) 2 3 false)]⟩)⟩,
 ⟨[.vec 0], ⟨1,[(0,.vec (qz [-jA,-jA,jC]) 1 3 false)]⟩, (.tup (qz [0,0]), ⟨1,[(0,.vec (qz [-jA,-jA,jC]) 1 3 false)]⟩)⟩,
 ⟨[.vec 0], ⟨1,[(0,.vec (qz [jA,jA,jC]) 1 3 false)]⟩, (.tup (qz [0,0]), ⟨1,[(0,.vec (qz [jA,jA,jC]) 1 3 false)]⟩)⟩,
 ⟨[.vec 0], ⟨1,[(0,.vec (qz [jA,jA,jD,jA,jA,jC]) 2 3 false)]⟩, (.tup (qz [1,0]), ⟨1,[(0,.vec (qz [jA,jA,jD,jA,jA,jC]) 2 3 false)]⟩)⟩,
 ⟨[.vec 0], ⟨1,[(0,.vec (qz [jA,jA,jC,-jA,-jA,jC]) 2 3 false)]⟩, (.tup (qz [1,0]), ⟨1,[(0,.vec (qz [jA,jA,jC,-jA,-jA,jC]) 2 3 false)]⟩)⟩]
theorem f3_322c_k : okM Tryz.prog 322 f3_322c := fk_v3 (by kernel_rfl)
def f3_349a : List MF := [⟨[.vec 0,.vec 1], ⟨2,[(0,.vec (qz [-jA,-jA,-jD]) 1 3 false),(1,.vec (qz [-jA,-jA,-jD]) 1 3 false)]⟩, (.tup [.agg (c8 (-jA) (c8 (-jA) (c8 (-jD) (c8 1 [.nils])))),.bool true], ⟨2,[(0,.vec (qz [-jA,-jA,-jD]) 1 3 false),(1,.vec (qz [-jA,-jA,-jD]) 1 3 false)]⟩)⟩,
 ⟨[.vec 0,.vec 1], ⟨2,[(0,.vec (qz [-jA,-jA,-jD,jA,jA,-jC]) 2 3 false),(1,.vec (qz [-jA,-jA,-jD]) 1 3 false)]⟩, (.tup [.agg (c8 0 (c8 0 (c8 0 (c8 0 [.nils])))),.bool false], ⟨2,[(0,.vec (qz [-jA,-jA,-jD,jA,jA,-jC]) 2 3 false),(1,.vec (qz [-jA,-jA,-jD]) 1 3 false)]⟩)⟩,
 ⟨[.vec 0,.vec 1], ⟨2,[(0,.vec (qz [-jA,-jA,-jD,jA,jA,-jC]) 2 3 false),(1,.vec (qz [jA,jA,-jC]) 1 3 false)]⟩, (.tup [.agg (c8 0 (c8 0 (c8 0 (c8 0 [.nils])))),.bool false], ⟨2,[(0,.vec (qz [-jA,-jA,-jD,jA,jA,-jC]) 2 3 false),(1,.vec (qz [jA,jA,-jC]) 1 3 false)]⟩)⟩,
 ⟨[.vec 0,.vec 1], ⟨2,[(0,.vec (qz [-jA,-jA,-jD,-jA,-jA,-jC,jA,jA,-jC]) 3 3 false),(1,.vec (qz [-jA,-jA,-jD]) 1 3 false)]⟩, (.tup [.agg (c8 0 (c8 0 (c8 0 (c8 0 [.nils])))),.bool false], ⟨2,[(0,.vec (qz [-jA,-jA,-jD,-jA,-jA,-jC,jA,jA,-jC]) 3 3 false),(1,.vec (qz [-jA,-jA,-jD]) 1 3 false)]⟩)⟩,
 ⟨[.vec 0,.vec 1], ⟨2,[(0,.vec (qz [-jA,-jA,-jD,-jA,-jA,-jC,jA,jA,-jC]) 3 3 false),(1,.vec (qz [-jA,-jA,-jC]) 1 3 false)]⟩, (.tup [.agg (c8 0 (c8 0 (c8 0 (c8 0 [.nils])))),.bool false], ⟨2,[(0,.vec (qz [-jA,-jA,-jD,-jA,-jA,-jC,jA,jA,-jC]) 3 3 false),(1,.vec (qz [-jA,-jA,-jC]) 1 3 false)]⟩)⟩,
 ⟨[.vec 0,.vec 1], ⟨2,[(0,.vec (qz [-jA,-jA,-jD,-jA,-jA,-jC,jA,jA,-jC]) 3 3 false),(1,.vec (qz [jA,jA,-jC]) 1 3 false)]⟩, (.tup [.agg (c8 0 (c8 0 (c8 0 (c8 0 [.nils])))),.bool false], ⟨2,[(0,.vec (qz [-jA,-jA,-jD,-jA,-jA,-jC,jA,jA,-jC]) 3 3 false),(1,.vec (qz [jA,jA,-jC]) 1 3 false)]⟩)⟩]
theorem f3_349a_k : okM Tryz.prog 349 f3_349a := fk_v3 (by kernel_rfl)
def f3_349b : List MF := [⟨[.vec 0,.vec 1], ⟨2,[(0,.vec (qz [jA,-jA,-jD]) 1 3 false),(1,.vec (qz [jA,-jA,-jD]) 1 3 false)]⟩, (.tup [.agg (c8 jA (c8 (-jA) (c8 (-jD) (c8 1 [.nils])))),.bool true], ⟨2,[(0,.vec (qz [jA,-jA,-jD]) 1 3 false),(1,.vec (qz [jA,-jA,-jD]) 1 3 false)]⟩)⟩,
 ⟨[.vec 0,.vec 1], ⟨2,[(0,.vec (qz [-jA,jA,-jD]) 1 3 false),(1,.vec (qz [-jA,jA,-jD]) 1 3 false)]⟩, (.tup [.agg (c8 (-jA) (c8 jA (c8 (-jD) (c8 1 [.nils])))),.bool true], ⟨2,[(0,.vec (qz [-jA,jA,-jD]) 1 3 false),(1,.vec (qz [-jA,jA,-jD]) 1 3 false)]⟩)⟩,
 ⟨[.vec 0,.vec 1], ⟨2,[(0,.vec (qz [jA,jA,-jD]) 1 3 false),(1,.vec (qz [jA,jA,-jD]) 1 3 false)]⟩, (.tup [.agg (c8 jA (c8 jA (c8 (-jD) (c8 1 [.nils])))),.bool true], ⟨2,[(0,.vec (qz [jA,jA,-jD]) 1 3 false),(1,.vec (qz [jA,jA,-jD]) 1 3 false)]⟩)⟩,
 ⟨[.vec 0,.vec 1], ⟨2,[(0,.vec (qz [-jA,-jA,-jC]) 1 3 false),(1,.vec (qz [-jA,-jA,-jC]) 1 3 false)]⟩, (.tup [.agg (c8 (-jA) (c8 (-jA) (c8 (-jC) (c8 1 [.nils])))),.bool true], ⟨2,[(0,.vec (qz [-jA,-jA,-jC]) 1 3 false),(1,.vec (qz [-jA,-jA,-jC]) 1 3 false)]⟩)⟩,
 ⟨[.vec 0,.vec 1], ⟨2,[(0,.vec (qz [jA,-jA,-jC]) 1 3 false),(1,.vec (qz [jA,-jA,-jC]) 1 3 false)]⟩, (.tup [.agg (c8 jA (c8 (-jA) (c8 (-jC) (c8 1 [.nils])))),.bool true], ⟨2,[(0,.vec (qz [jA,-jA,-jC]) 1 3 false),(1,.vec (qz [jA,-jA,-jC]) 1 3 false)]⟩)⟩,
 ⟨[.vec 0,.vec 1], ⟨2,[(0,.vec (qz [-jA,jA,-jC]) 1 3 false),(1,.vec (qz [-jA,jA,-jC]) 1 3 false)]⟩, (.tup [.agg (c8 (-jA) (c8 jA (c8 (-jC) (c8 1 [.nils])))),.bool true], ⟨2,[(0,.vec (qz [-jA,jA,-jC]) 1 3 false),(1,.vec (qz [-jA,jA,-jC]) 1 3 false)]⟩)⟩]
theorem f3_349b_k : okM Tryz.prog 349 f3_349b := fk_v3 (by kernel_rfl)
def f3_349c : List MF := [⟨[.vec 0,.vec 1], ⟨2,[(0,.vec (qz [jA,jA,-jC]) 1 3 false),(1,.vec (qz [jA,jA,-jC]) 1 3 false)]⟩, (.tup [.agg (c8 jA (c8 jA (c8 (-jC) (c8 1 [.nils])))),.bool true], ⟨2,[(0,.vec (qz [jA,jA,-jC]) 1 3 false),(1,.vec (qz [jA,jA,-jC]) 1 3 false)]⟩)⟩,
 ⟨[.vec 0,.vec 1], ⟨2,[(0,.vec (qz [jA,jA,jD]) 1 3 false),(1,.vec (qz [jA,jA,jD]) 1 3 false)]⟩, (.tup [.agg (c8 jA (c8 jA (c8 jD (c8 1 [.nils])))),.bool true], ⟨2,[(0,.vec (qz [jA,jA,jD]) 1 3 false),(1,.vec (qz [jA,jA,jD]) 1 3 false)]⟩)⟩,
 ⟨[.vec 0,.vec 1], ⟨2,[(0,.vec (qz [jA,jA,jD,-jA,-jA,jC]) 2 3 false),(1,.vec (qz [jA,jA,jD]) 1 3 false)]⟩, (.tup [.agg (c8 0 (c8 0 (c8 0 (c8 0 [.nils])))),.bool false], ⟨2,[(0,.vec (qz [jA,jA,jD,-jA,-jA,jC]) 2 3 false),(1,.vec (qz [jA,jA,jD]) 1 3 false)]⟩)⟩,
 ⟨[.vec 0,.vec 1], ⟨2,[(0,.vec (qz [jA,jA,jD,-jA,-jA,jC]) 2 3 false),(1,.vec (qz [-jA,-jA,jC]) 1 3 false)]⟩, (.tup [.agg (c8 0 (c8 0 (c8 0 (c8 0 [.nils])))),.bool false], ⟨2,[(0,.vec (qz [jA,jA,jD,-jA,-jA,jC]) 2 3 false),(1,.vec (qz [-jA,-jA,jC]) 1 3 false)]⟩)⟩,
 ⟨[.vec 0,.vec 1], ⟨2,[(0,.vec (qz [jA,jA,jD,jA,jA,jC,-jA,-jA,jC]) 3 3 false),(1,.vec (qz [jA,jA,jD]) 1 3 false)]⟩, (.tup [.agg (c8 0 (c8 0 (c8 0 (c8 0 [.nils])))),.bool false], ⟨2,[(0,.vec (qz [jA,jA,jD,jA,jA,jC,-jA,-jA,jC]) 3 3 false),(1,.vec (qz [jA,jA,jD]) 1 3 false)]⟩)⟩,
 ⟨[.vec 0,.vec 1], ⟨2,[(0,.vec (qz [jA,jA,jD,jA,jA,jC,-jA,-jA,jC]) 3 3 false),(1,.vec (qz [jA,jA,jC]) 1 3 false)]⟩, (.tup [.agg (c8 0 (c8 0 (c8 0 (c8 0 [.nils])))),.bool false], ⟨2,[(0,.vec (qz [jA,jA,jD,jA,jA,jC,-jA,-jA,jC]) 3 3 false),(1,.vec (qz [jA,jA,jC]) 1 3 false)]⟩)⟩]
theorem f3_349c_k : okM Tryz.prog 349 f3_349c := fk_v3 (by kernel_rfl)
def f3_349d : List MF := [⟨[.vec 0,.vec 1], ⟨2,[(0,.vec (qz [jA,jA,jD,jA,jA,jC,-jA,-jA,jC]) 3 3 false),(1,.vec (qz [-jA,-jA,jC]) 1 3 false)]⟩, (.tup [.agg (c8 0 (c8 0 (c8 0 (c8 0 [.nils])))),.bool false], ⟨2,[(0,.vec (qz [jA,jA,jD,jA,jA,jC,-jA,-jA,jC]) 3 3 false),(1,.vec (qz [-jA,-jA,jC]) 1 3 false)]⟩)⟩]
theorem f3_349d_k : okM Tryz.prog 349 f3_349d := fk_v3 (by kernel_rfl)
def f3_371 : List MF := [⟨[.vec 0], ⟨1,[(0,.vec (qz [-jA,-jA,-jD,jA,jA,-jC]) 2 3 false)]⟩, (.tup [.vec 1,.agg (c8 jl [])], ⟨2,[(0,.vec (qz [-jA,-jA,-jD,jA,jA,-jC]) 2 3 false),(1,.vec (c8 jm (c8 jf [])) 2 8 true)]⟩)⟩,
 ⟨[.vec 0], ⟨1,[(0,.vec (qz [-jA,-jA,-jD,-jA,-jA,-jC]) 2 3 false)]⟩, (.tup [.vec 1,.agg (c8 jE [])], ⟨2,[(0,.vec (qz [-jA,-jA,-jD,-jA,-jA,-jC]) 2 3 false),(1,.vec (c8 (-jI) (c8 jo [])) 2 8 true)]⟩)⟩,
 ⟨[.vec 0], ⟨1,[(0,.vec (qz [-jA,-jA,-jC,jA,jA,-jC]) 2 3 false)]⟩, (.tup [.vec 1,.agg (c8 ja [])], ⟨2,[(0,.vec (qz [-jA,-jA,-jC,jA,jA,-jC]) 2 3 false),(1,.vec (c8 jT (c8 jT [])) 2 8 true)]⟩)⟩,
 ⟨[.vec 0], ⟨1,[(0,.vec (qz [jA,jA,jD,-jA,-jA,jC]) 2 3 false)]⟩, (.tup [.vec 1,.agg (c8 jl [])], ⟨2,[(0,.vec (qz [jA,jA,jD,-jA,-jA,jC]) 2 3 false),(1,.vec (c8 jm (c8 jf [])) 2 8 true)]⟩)⟩,
 ⟨[.vec 0], ⟨1,[(0,.vec (qz [jA,jA,jD,jA,jA,jC]) 2 3 false)]⟩, (.tup [.vec 1,.agg (c8 jE [])], ⟨2,[(0,.vec (qz [jA,jA,jD,jA,jA,jC]) 2 3 false),(1,.vec (c8 (-jI) (c8 jo [])) 2 8 true)]⟩)⟩,
 ⟨[.vec 0], ⟨1,[(0,.vec (qz [jA,jA,jC,-jA,-jA,jC]) 2 3 false)]⟩, (.tup [.vec 1,.agg (c8 ja [])], ⟨2,[(0,.vec (qz [jA,jA,jC,-jA,-jA,jC]) 2 3 false),(1,.vec (c8 jT (c8 jT [])) 2 8 true)]⟩)⟩]
theorem f3_371_k : okM Tryz.prog 371 f3_371 := fk_v3 (by kernel_rfl)
def fk_lt4 : FTab := fun f => cond (Nat.beq f 48) e3_48 (cond (Nat.beq f 50) (e3_50a ++ (e3_50b)) (cond (Nat.beq f 51) e3_51 (cond (Nat.beq f 71) (e3_71a ++ (e3_71b ++ (e3_71c))) (cond (Nat.beq f 89) e3_89 (cond (Nat.beq f 108) e3_108 (cond (Nat.beq f 151) e3_151 (cond (Nat.beq f 157) (e3_157a ++ (e3_157b ++ (e3_157c))) (cond (Nat.beq f 161) e3_161 (cond (Nat.beq f 214) e3_214 (cond (Nat.beq f 216) e3_216 (cond (Nat.beq f 221) e3_221 (cond (Nat.beq f 222) e3_222 (cond (Nat.beq f 238) e3_238 ([]))))))))))))))
theorem fk_lt4_ok : FTabOk Tryz.prog fk_lt4 := (ftab_node e3_48_k (ftab_node (okL_app e3_50a_k e3_50b_k) (ftab_node e3_51_k (ftab_node (okL_app e3_71a_k (okL_app e3_71b_k e3_71c_k)) (ftab_node e3_89_k (ftab_node e3_108_k (ftab_node e3_151_k (ftab_node (okL_app e3_157a_k (okL_app e3_157b_k e3_157c_k)) (ftab_node e3_161_k (ftab_node e3_214_k (ftab_node e3_216_k (ftab_node e3_221_k (ftab_node e3_222_k (ftab_node e3_238_k ftab_leaf))))))))))))))
def fk_t4 : FTab := fun f => fk_lt4 f ++ fk_t3 f
theorem fk_t4_ok : FTabOk Tryz.prog fk_t4 := ftab_or fk_lt4_ok fk_t3_ok
def fk_lm4 : MTab := fun f => cond (Nat.beq f 29) f3_29 (cond (Nat.beq f 136) f3_136 (cond (Nat.beq f 237) f3_237 (cond (Nat.beq f 265) (f3_265a ++ (f3_265b)) (cond (Nat.beq f 281) f3_281 (cond (Nat.beq f 322) (f3_322a ++ (f3_322b ++ (f3_322c))) (cond (Nat.beq f 349) (f3_349a ++ (f3_349b ++ (f3_349c ++ (f3_349d)))) (cond (Nat.beq f 371) f3_371 ([]))))))))
theorem fk_lm4_ok : MTabOk Tryz.prog fk_lm4 := (mtab_node f3_29_k (mtab_node f3_136_k (mtab_node f3_237_k (mtab_node (okM_app f3_265a_k f3_265b_k) (mtab_node f3_281_k (mtab_node (okM_app f3_322a_k (okM_app f3_322b_k f3_322c_k)) (mtab_node (okM_app f3_349a_k (okM_app f3_349b_k (okM_app f3_349c_k f3_349d_k))) (mtab_node f3_371_k mtab_leaf))))))))
def fk_m4 : MTab := fun f => fk_lm4 f ++ fk_m3 f
theorem fk_m4_ok : MTabOk Tryz.prog fk_m4 := mtab_or fk_lm4_ok fk_m3_ok
noncomputable abbrev fk_c4 : CH := fk_ch fk_t4 fk_m4
theorem fk_c4_ok : CHOk Tryz.prog fk_c4 := fk_ch_ok fk_t4_ok fk_m4_ok
noncomputable abbrev fk_w4 : Teller := tellRD Tryz.prog tyTab 400 fk_ds fk_il fk_c4
theorem fk_w4_ok : TellOk Tryz.prog fk_w4 := tellRD_ok tab_ok mixed noNum fk_c4_ok
theorem fk_u4 {g l} (h : chkF (pureT fk_w4) g l = true) : okL Tryz.prog g l := chkF_ok (tell := fk_w4) fk_w4_ok h
theorem fk_v4 {g l} (h : chkM fk_w4 g l = true) : okM Tryz.prog g l := chkM_ok (tell := fk_w4) fk_w4_ok h
end Go.Ev

