import Derived.Test.YtdooglicnibhlaaGreatFkBase
namespace Go.Ev
open Go.Proofs
set_option linter.unusedVariables false
set_option maxRecDepth 100000
def e0_76 : List (List AVal × AVal) := [([.agg (qz [0,0,-jj,jQ,4])], qi 0)]
theorem e0_76_k : okL Tryz.prog 76 e0_76 := fk_u0 (by kernel_rfl)
def e0_86 : List (List AVal × AVal) := [([.agg (c8 jB [])], .agg (c8 jH []))]
theorem e0_86_k : okL Tryz.prog 86 e0_86 := fk_u0 (by kernel_rfl)
def e0_88 : List (List AVal × AVal) := [([.agg (c8 0 []),.agg (c8 0 [])], .agg (c8 0 [])),
 ([.agg (c8 (-jC) []),.agg (c8 (-jC) [])], .agg (c8 jB [])),
 ([.agg (c8 1 []),.agg (c8 1 [])], .agg (c8 1 [])),
 ([.agg (c8 jB []),.agg (c8 jB [])], .agg (c8 jH []))]
theorem e0_88_k : okL Tryz.prog 88 e0_88 := fk_u0 (by kernel_rfl)
def e0_117 : List (List AVal × AVal) := [([.agg (c8 0 []),.agg (c8 0 [])], .agg (c8 0 []))]
theorem e0_117_k : okL Tryz.prog 117 e0_117 := fk_u0 (by kernel_rfl)
def e0_121 : List (List AVal × AVal) := [([.agg (c8 0 []),.agg (c8 0 [])], .agg (c8 0 []))]
theorem e0_121_k : okL Tryz.prog 121 e0_121 := fk_u0 (by kernel_rfl)
def e0_147 : List (List AVal × AVal) := [([.agg (c8 jB []),.agg (c8 jB [])], .agg (c8 jH [])),
 ([.agg (c8 jB []),.agg (c8 jW [])], .agg (c8 jd []))]
theorem e0_147_k : okL Tryz.prog 147 e0_147 := fk_u0 (by kernel_rfl)
def e0_149 : List (List AVal × AVal) := [([.agg (c8 jH []),.agg (c8 jH [])], .agg (c8 jW []))]
theorem e0_149_k : okL Tryz.prog 149 e0_149 := fk_u0 (by kernel_rfl)
def e0_154 : List (List AVal × AVal) := [((qz [0,-jn,jn]), qi 0),
 ((qz [-jF,-jn,jn]), qi (-jF)),
 ((qz [0,-4398046511104,4398046511104]), qi 0),
 ((qz [jB,-4398046511104,4398046511104]), qi jB)]
theorem e0_154_k : okL Tryz.prog 154 e0_154 := fk_u0 (by kernel_rfl)
def e0_159 : List (List AVal × AVal) := [([.agg (c8 0 []),.agg (c8 0 [])], .agg (c8 0 [])),
 ([.agg (c8 (-jH) []),.agg (c8 0 [])], .agg (c8 (-jH) [])),
 ([.agg (c8 0 []),.agg (c8 jB [])], .agg (c8 (-jB) [])),
 ([.agg (c8 0 []),.agg (c8 jH [])], .agg (c8 (-jH) [])),
 ([.agg (c8 0 []),.agg (c8 (-jW) [])], .agg (c8 jW [])),
 ([.agg (c8 (-jW) []),.agg (c8 0 [])], .agg (c8 (-jW) []))]
theorem e0_159_k : okL Tryz.prog 159 e0_159 := fk_u0 (by kernel_rfl)
def e0_180 : List (List AVal × AVal) := [([.agg (c8 0 []),.agg (c8 0 [])], .agg (c8 0 [])),
 ([.agg (c8 0 []),.agg (c8 jB [])], .agg (c8 jB []))]
theorem e0_180_k : okL Tryz.prog 180 e0_180 := fk_u0 (by kernel_rfl)
def e0_181 : List (List AVal × AVal) := [([.agg (c8 jB [])], .agg (c8 (-jB) []))]
theorem e0_181_k : okL Tryz.prog 181 e0_181 := fk_u0 (by kernel_rfl)
def e0_186a : List (List AVal × AVal) := [([.agg (c8 jB [])], qi jB),
 ([.agg (c8 0 [])], qi 0),
 ([.agg (c8 (-jE) [])], qi (-jE)),
 ([.agg (c8 (-jI) [])], qi (-jI)),
 ([.agg (c8 jE [])], qi jE),
 ([.agg (c8 (-jB) [])], qi (-jB))]
theorem e0_186a_k : okL Tryz.prog 186 e0_186a := fk_u0 (by kernel_rfl)
def e0_186b : List (List AVal × AVal) := [([.agg (c8 jZ [])], qi jZ),
 ([.agg (c8 (-jF) [])], qi (-jF)),
 ([.agg (c8 jI [])], qi jI),
 ([.agg (c8 jb [])], qi jb),
 ([.agg (c8 jG [])], qi jG),
 ([.agg (c8 jF [])], qi jF)]
theorem e0_186b_k : okL Tryz.prog 186 e0_186b := fk_u0 (by kernel_rfl)
def e0_187a : List (List AVal × AVal) := [([.agg (c8 jB []),.agg (c8 0 [])], .agg (c8 jB [])),
 ([.agg (c8 jB []),.agg (c8 (-jB) [])], .agg (c8 0 [])),
 ([.agg (c8 0 []),.agg (c8 0 [])], .agg (c8 0 [])),
 ([.agg (c8 0 []),.agg (c8 jB [])], .agg (c8 jB [])),
 ([.agg (c8 jB []),.agg (c8 67108864 [])], .agg (c8 jZ [])),
 ([.agg (c8 jB []),.agg (c8 jB [])], .agg (c8 jI []))]
theorem e0_187a_k : okL Tryz.prog 187 e0_187a := fk_u0 (by kernel_rfl)
def e0_187b : List (List AVal × AVal) := [([.agg (c8 (-jF) []),.agg (c8 0 [])], .agg (c8 (-jF) [])),
 ([.agg (c8 0 []),.agg (c8 jF [])], .agg (c8 jF [])),
 ([.agg (c8 jF []),.agg (c8 0 [])], .agg (c8 jF [])),
 ([.agg (c8 (-jF) []),.agg (c8 jF [])], .agg (c8 0 [])),
 ([.agg (c8 jF []),.agg (c8 (-jF) [])], .agg (c8 0 []))]
theorem e0_187b_k : okL Tryz.prog 187 e0_187b := fk_u0 (by kernel_rfl)
def e0_188a : List (List AVal × AVal) := [([qi jB], .agg (c8 jB [])),
 ([qi 0], .agg (c8 0 [])),
 ([qi 67108864], .agg (c8 67108864 [])),
 ([qi (-jB)], .agg (c8 (-jB) [])),
 ([qi jb], .agg (c8 jb [])),
 ([qi jQ], .agg (c8 jQ []))]
theorem e0_188a_k : okL Tryz.prog 188 e0_188a := fk_u0 (by kernel_rfl)
def e0_188b : List (List AVal × AVal) := [([qi (-jF)], .agg (c8 (-jF) [])),
 ([qi jF], .agg (c8 jF []))]
theorem e0_188b_k : okL Tryz.prog 188 e0_188b := fk_u0 (by kernel_rfl)
def e0_189 : List (List AVal × AVal) := [([.agg (c8 0 [])], .agg (c8 0 [])),
 ([.agg (c8 jB [])], .agg (c8 (-jB) [])),
 ([.agg (c8 (-jB) [])], .agg (c8 jB [])),
 ([.agg (c8 (-jF) [])], .agg (c8 jF [])),
 ([.agg (c8 jF [])], .agg (c8 (-jF) []))]
theorem e0_189_k : okL Tryz.prog 189 e0_189 := fk_u0 (by kernel_rfl)
def e0_191a : List (List AVal × AVal) := [([.agg (c8 (-jA) []),.agg (c8 (-jA) [])], .agg (c8 jh [])),
 ([.agg (c8 (-jD) []),.agg (c8 (-jD) [])], .agg (c8 38654705664 [])),
 ([.agg (c8 jZ []),.agg (c8 1 [])], .agg (c8 jZ [])),
 ([.agg (c8 jZ []),.agg (c8 jZ [])], .agg (c8 19027708425640345600 [])),
 ([.agg (c8 jA []),.agg (c8 jA [])], .agg (c8 jh [])),
 ([.agg (c8 (-jC) []),.agg (c8 (-jC) [])], .agg (c8 jB []))]
theorem e0_191a_k : okL Tryz.prog 191 e0_191a := fk_u0 (by kernel_rfl)
def e0_191b : List (List AVal × AVal) := [([.agg (c8 0 []),.agg (c8 0 [])], .agg (c8 0 [])),
 ([.agg (c8 jC []),.agg (c8 jC [])], .agg (c8 jB []))]
theorem e0_191b_k : okL Tryz.prog 191 e0_191b := fk_u0 (by kernel_rfl)
def e0_194a : List (List AVal × AVal) := [([.agg (qz [-jA,-jA,-jK])], qi 0),
 ([.agg (qz [jA,-jA,-jK])], qi 0),
 ([.agg (qz [-jA,jA,-jK])], qi 0),
 ([.agg (qz [jA,jA,-jK])], qi 0),
 ([.agg (qz [-jA,-jA,0])], qi 0),
 ([.agg (qz [jA,-jA,0])], qi 0)]
theorem e0_194a_k : okL Tryz.prog 194 e0_194a := fk_u0 (by kernel_rfl)
def e0_194b : List (List AVal × AVal) := [([.agg (qz [-jA,jA,0])], qi 0),
 ([.agg (qz [jA,jA,0])], qi 0),
 ([.agg (qz [-jL,-jL,-jO])], qi 0),
 ([.agg (qz [jL,jL,jU])], qi 0),
 ([.agg (qz [0,0,jC])], qi 0),
 ([.agg (qz [-jM,-jM,-jU])], qi 0)]
theorem e0_194b_k : okL Tryz.prog 194 e0_194b := fk_u0 (by kernel_rfl)
def e0_194c : List (List AVal × AVal) := [([.agg (qz [jM,jM,jO])], qi 0),
 ([.agg (qz [-jN,-jN,-jS])], qi 0),
 ([.agg (qz [jN,jN,jk])], qi 0),
 ([.agg (qz [-jV,-jV,-jk])], qi 0),
 ([.agg (qz [jV,jV,jS])], qi 0),
 ([.agg (qz [jN,jN,jS])], qi 0)]
theorem e0_194c_k : okL Tryz.prog 194 e0_194c := fk_u0 (by kernel_rfl)
def e0_194d : List (List AVal × AVal) := [([.agg (qz [jV,jV,jU])], qi 0),
 ([.agg (qz [jM,jM,jU])], qi 0),
 ([.agg (qz [jM,jM,jk])], qi 0),
 ([.agg (qz [-jA,-jA,-jD])], qi 0),
 ([.agg (qz [jA,-jA,-jD])], qi 0),
 ([.agg (qz [-jA,jA,-jD])], qi 0)]
theorem e0_194d_k : okL Tryz.prog 194 e0_194d := fk_u0 (by kernel_rfl)
def e0_194e : List (List AVal × AVal) := [([.agg (qz [jA,jA,-jD])], qi 0),
 ([.agg (qz [-jA,-jA,-jC])], qi 0),
 ([.agg (qz [jA,-jA,-jC])], qi 0),
 ([.agg (qz [-jA,jA,-jC])], qi 0),
 ([.agg (qz [jA,jA,-jC])], qi 0),
 ([.agg (qz [jA,jA,jD])], qi 0)]
theorem e0_194e_k : okL Tryz.prog 194 e0_194e := fk_u0 (by kernel_rfl)
def e0_194f : List (List AVal × AVal) := [([.agg (qz [-jA,jA,jD])], qi 0),
 ([.agg (qz [jA,-jA,jD])], qi 0),
 ([.agg (qz [-jA,-jA,jD])], qi 0),
 ([.agg (qz [jA,jA,jC])], qi 0),
 ([.agg (qz [-jA,jA,jC])], qi 0),
 ([.agg (qz [jA,-jA,jC])], qi 0)]
theorem e0_194f_k : okL Tryz.prog 194 e0_194f := fk_u0 (by kernel_rfl)
def e0_194g : List (List AVal × AVal) := [([.agg (qz [-jA,-jA,jC])], qi 0)]
theorem e0_194g_k : okL Tryz.prog 194 e0_194g := fk_u0 (by kernel_rfl)
def e0_201a : List (List AVal × AVal) := [([qi 0], .agg (c8 0 [])),
 ([qi jQ], .agg (c8 jQ [])),
 ([qi (-jj)], .agg (c8 (-jj) [])),
 ([qi (-jB)], .agg (c8 (-jB) [])),
 ([qi jB], .agg (c8 jB [])),
 ([qi jI], .agg (c8 jI []))]
theorem e0_201a_k : okL Tryz.prog 201 e0_201a := fk_u0 (by kernel_rfl)
def e0_201b : List (List AVal × AVal) := [([qi jG], .agg (c8 jG [])),
 ([qi (-jI)], .agg (c8 (-jI) [])),
 ([qi jF], .agg (c8 jF [])),
 ([qi (-jF)], .agg (c8 (-jF) []))]
theorem e0_201b_k : okL Tryz.prog 201 e0_201b := fk_u0 (by kernel_rfl)
def e0_203 : List (List AVal × AVal) := [([.agg (qz [1,2,2,0])], .bool true)]
theorem e0_203_k : okL Tryz.prog 203 e0_203 := fk_u0 (by kernel_rfl)
def e0_240 : List (List AVal × AVal) := [([.agg (qz [jB,0,0,0])], .agg (c8 jB (c8 0 (c8 0 (c8 0 []))))),
 ([.agg (qz [0,0,0,0])], .agg (c8 0 (c8 0 (c8 0 (c8 0 [])))))]
theorem e0_240_k : okL Tryz.prog 240 e0_240 := fk_u0 (by kernel_rfl)
def e0_245 : List (List AVal × AVal) := [([.agg (qz [jB,0,0])], .agg (c8 jB (c8 0 (c8 0 [])))),
 ([.agg (qz [0,jB,0])], .agg (c8 0 (c8 jB (c8 0 [])))),
 ([.agg (qz [0,0,jB])], .agg (c8 0 (c8 0 (c8 jB [])))),
 ([.agg (qz [jG,jG,jG])], .agg (c8 jG (c8 jG (c8 jG []))))]
theorem e0_245_k : okL Tryz.prog 245 e0_245 := fk_u0 (by kernel_rfl)
def e0_247 : List (List AVal × AVal) := [([.agg (c8 0 []),.agg (c8 jY [])], .agg (c8 jY [])),
 ([.agg (c8 jY []),.agg (c8 0 [])], .agg (c8 jY [])),
 ([.agg (c8 0 []),.agg (c8 0 [])], .agg (c8 0 []))]
theorem e0_247_k : okL Tryz.prog 247 e0_247 := fk_u0 (by kernel_rfl)
def e0_248 : List (List AVal × AVal) := [([.agg (c8 jB []),.agg (c8 jG [])], .agg (c8 27670116114859294720 [])),
 ([.agg (c8 27670116114859294720 []),.agg (c8 jB [])], .agg (c8 jY [])),
 ([.agg (c8 0 []),.agg (c8 jG [])], .agg (c8 0 [])),
 ([.agg (c8 0 []),.agg (c8 0 [])], .agg (c8 0 [])),
 ([.agg (c8 27670116114859294720 []),.agg (c8 0 [])], .agg (c8 0 [])),
 ([.agg (c8 0 []),.agg (c8 jB [])], .agg (c8 0 []))]
theorem e0_248_k : okL Tryz.prog 248 e0_248 := fk_u0 (by kernel_rfl)
def e0_251a : List (List AVal × AVal) := [([.agg (c8 0 []),.agg (c8 jQ [])], .agg (c8 0 [])),
 ([.agg (c8 (-jj) []),.agg (c8 jQ [])], .agg (c8 (-jR) [])),
 ([.agg (c8 0 []),.agg (c8 0 [])], .agg (c8 0 [])),
 ([.agg (c8 (-jB) []),.agg (c8 0 [])], .agg (c8 0 [])),
 ([.agg (c8 (-jB) []),.agg (c8 jB [])], .agg (c8 (-jH) [])),
 ([.agg (c8 0 []),.agg (c8 jB [])], .agg (c8 0 []))]
theorem e0_251a_k : okL Tryz.prog 251 e0_251a := fk_u0 (by kernel_rfl)
def e0_251b : List (List AVal × AVal) := [([.agg (c8 (-jB) []),.agg (c8 (-jB) [])], .agg (c8 jH [])),
 ([.agg (c8 jB []),.agg (c8 jB [])], .agg (c8 jH [])),
 ([.agg (c8 0 []),.agg (c8 (-jB) [])], .agg (c8 0 [])),
 ([.agg (c8 jI []),.agg (c8 0 [])], .agg (c8 0 [])),
 ([.agg (c8 0 []),.agg (c8 jI [])], .agg (c8 0 [])),
 ([.agg (c8 jG []),.agg (c8 0 [])], .agg (c8 0 []))]
theorem e0_251b_k : okL Tryz.prog 251 e0_251b := fk_u0 (by kernel_rfl)
def e0_251c : List (List AVal × AVal) := [([.agg (c8 jI []),.agg (c8 (-jB) [])], .agg (c8 (-jW) [])),
 ([.agg (c8 0 []),.agg (c8 (-jI) [])], .agg (c8 0 [])),
 ([.agg (c8 jF []),.agg (c8 0 [])], .agg (c8 0 [])),
 ([.agg (c8 jF []),.agg (c8 (-jB) [])], .agg (c8 (-jR) [])),
 ([.agg (c8 0 []),.agg (c8 (-jF) [])], .agg (c8 0 [])),
 ([.agg (c8 0 []),.agg (c8 jF [])], .agg (c8 0 []))]
theorem e0_251c_k : okL Tryz.prog 251 e0_251c := fk_u0 (by kernel_rfl)
def e0_263 : List (List AVal × AVal) := [([qu 2], qi 2),
 ([qu 1], qi 1),
 ([qu 3], qi 2)]
theorem e0_263_k : okL Tryz.prog 263 e0_263 := fk_u0 (by kernel_rfl)
def e0_270 : List (List AVal × AVal) := [([qi 0], .agg (c8 0 [])),
 ([qi jB], .agg (c8 jB [])),
 ([qi (-jE)], .agg (c8 (-jE) [])),
 ([qi (-jB)], .agg (c8 (-jB) [])),
 ([qi jE], .agg (c8 jE []))]
theorem e0_270_k : okL Tryz.prog 270 e0_270 := fk_u0 (by kernel_rfl)
def e0_272a : List (List AVal × AVal) := [([.agg (c8 jB []),.agg (c8 (-jE) [])], .agg (c8 (-jP) [])),
 ([.agg (c8 0 []),.agg (c8 (-jE) [])], .agg (c8 0 [])),
 ([.agg (c8 0 []),.agg (c8 (-jB) [])], .agg (c8 0 [])),
 ([.agg (c8 jB []),.agg (c8 (-jB) [])], .agg (c8 (-jH) [])),
 ([.agg (c8 jB []),.agg (c8 jE [])], .agg (c8 jP [])),
 ([.agg (c8 0 []),.agg (c8 jE [])], .agg (c8 0 []))]
theorem e0_272a_k : okL Tryz.prog 272 e0_272a := fk_u0 (by kernel_rfl)
def e0_272b : List (List AVal × AVal) := [([.agg (c8 0 []),.agg (c8 jB [])], .agg (c8 0 [])),
 ([.agg (c8 jB []),.agg (c8 jB [])], .agg (c8 jH [])),
 ([.agg (c8 jB []),.agg (c8 0 [])], .agg (c8 0 [])),
 ([.agg (c8 0 []),.agg (c8 0 [])], .agg (c8 0 []))]
theorem e0_272b_k : okL Tryz.prog 272 e0_272b := fk_u0 (by kernel_rfl)
def e0_273 : List (List AVal × AVal) := [([qi (-jE)], qi (-jA)),
 ([qi (-jI)], qi (-jK)),
 ([qi jE], qi jA),
 ([qi 0], qi 0),
 ([qi jB], qi jC)]
theorem e0_273_k : okL Tryz.prog 273 e0_273 := fk_u0 (by kernel_rfl)
def e0_292a : List (List AVal × AVal) := [([.agg (qz [-jA,-jA,-jD])], .agg (c8 (-jA) (c8 (-jA) (c8 (-jD) [])))),
 ([.agg (qz [jA,-jA,-jD])], .agg (c8 jA (c8 (-jA) (c8 (-jD) [])))),
 ([.agg (qz [-jA,jA,-jD])], .agg (c8 (-jA) (c8 jA (c8 (-jD) [])))),
 ([.agg (qz [jA,jA,-jD])], .agg (c8 jA (c8 jA (c8 (-jD) [])))),
 ([.agg (qz [-jA,-jA,-jC])], .agg (c8 (-jA) (c8 (-jA) (c8 (-jC) [])))),
 ([.agg (qz [jA,-jA,-jC])], .agg (c8 jA (c8 (-jA) (c8 (-jC) []))))]
theorem e0_292a_k : okL Tryz.prog 292 e0_292a := fk_u0 (by kernel_rfl)
def e0_292b : List (List AVal × AVal) := [([.agg (qz [-jA,jA,-jC])], .agg (c8 (-jA) (c8 jA (c8 (-jC) [])))),
 ([.agg (qz [jA,jA,-jC])], .agg (c8 jA (c8 jA (c8 (-jC) [])))),
 ([.agg (qz [jJ,jJ,jK])], .agg (c8 jJ (c8 jJ (c8 jK [])))),
 ([.agg (qz [0,0,jK])], .agg (c8 0 (c8 0 (c8 jK [])))),
 ([.agg (qz [jJ,jJ,0])], .agg (c8 jJ (c8 jJ (c8 0 [])))),
 ([.agg (qz [jA,jA,jD])], .agg (c8 jA (c8 jA (c8 jD []))))]
theorem e0_292b_k : okL Tryz.prog 292 e0_292b := fk_u0 (by kernel_rfl)
def e0_292c : List (List AVal × AVal) := [([.agg (qz [-jA,jA,jD])], .agg (c8 (-jA) (c8 jA (c8 jD [])))),
 ([.agg (qz [jA,-jA,jD])], .agg (c8 jA (c8 (-jA) (c8 jD [])))),
 ([.agg (qz [-jA,-jA,jD])], .agg (c8 (-jA) (c8 (-jA) (c8 jD [])))),
 ([.agg (qz [jA,jA,jC])], .agg (c8 jA (c8 jA (c8 jC [])))),
 ([.agg (qz [-jA,jA,jC])], .agg (c8 (-jA) (c8 jA (c8 jC [])))),
 ([.agg (qz [jA,-jA,jC])], .agg (c8 jA (c8 (-jA) (c8 jC []))))]
theorem e0_292c_k : okL Tryz.prog 292 e0_292c := fk_u0 (by kernel_rfl)
def e0_292d : List (List AVal × AVal) := [([.agg (qz [-jA,-jA,jC])], .agg (c8 (-jA) (c8 (-jA) (c8 jC [])))),
 ([.agg (qz [-jJ,-jJ,-jK])], .agg (c8 (-jJ) (c8 (-jJ) (c8 (-jK) [])))),
 ([.agg (qz [0,0,-jK])], .agg (c8 0 (c8 0 (c8 (-jK) [])))),
 ([.agg (qz [-jJ,-jJ,0])], .agg (c8 (-jJ) (c8 (-jJ) (c8 0 []))))]
theorem e0_292d_k : okL Tryz.prog 292 e0_292d := fk_u0 (by kernel_rfl)
def e0_293 : List (List AVal × AVal) := [([.agg (c8 0 []),.agg (c8 jh [])], .agg (c8 (-jh) [])),
 ([.agg (c8 jh []),.agg (c8 0 [])], .agg (c8 jh [])),
 ([.agg (c8 0 []),.agg (c8 0 [])], .agg (c8 0 []))]
theorem e0_293_k : okL Tryz.prog 293 e0_293 := fk_u0 (by kernel_rfl)
def e0_294 : List (List AVal × AVal) := [([.agg (c8 0 []),.agg (c8 jK [])], .agg (c8 0 [])),
 ([.agg (c8 jK []),.agg (c8 jJ [])], .agg (c8 jh [])),
 ([.agg (c8 0 []),.agg (c8 jJ [])], .agg (c8 0 [])),
 ([.agg (c8 0 []),.agg (c8 (-jK) [])], .agg (c8 0 [])),
 ([.agg (c8 (-jK) []),.agg (c8 (-jJ) [])], .agg (c8 jh [])),
 ([.agg (c8 0 []),.agg (c8 (-jJ) [])], .agg (c8 0 []))]
theorem e0_294_k : okL Tryz.prog 294 e0_294 := fk_u0 (by kernel_rfl)
def e0_298 : List (List AVal × AVal) := [([], .bool false)]
theorem e0_298_k : okL Tryz.prog 298 e0_298 := fk_u0 (by kernel_rfl)
def e0_306 : List (List AVal × AVal) := [((qz [0,0]), .bool false),
 ((qz [-jB,0]), .bool false)]
theorem e0_306_k : okL Tryz.prog 306 e0_306 := fk_u0 (by kernel_rfl)
def e0_314 : List (List AVal × AVal) := [([.agg (c8 0 []),.agg (c8 jH [])], .agg (c8 jH [])),
 ([.agg (c8 jH []),.agg (c8 0 [])], .agg (c8 jH [])),
 ([.agg (c8 0 []),.agg (c8 0 [])], .agg (c8 0 [])),
 ([.agg (c8 jd []),.agg (c8 0 [])], .agg (c8 jd []))]
theorem e0_314_k : okL Tryz.prog 314 e0_314 := fk_u0 (by kernel_rfl)
def e0_315a : List (List AVal × AVal) := [([.agg (c8 jB []),.agg (c8 jB [])], .agg (c8 jH [])),
 ([.agg (c8 0 []),.agg (c8 0 [])], .agg (c8 0 [])),
 ([.agg (c8 1 []),.agg (c8 jH [])], .agg (c8 jH [])),
 ([.agg (c8 1 []),.agg (c8 0 [])], .agg (c8 0 [])),
 ([.agg (c8 (-1) []),.agg (c8 0 [])], .agg (c8 0 [])),
 ([.agg (c8 2 []),.agg (c8 0 [])], .agg (c8 0 []))]
theorem e0_315a_k : okL Tryz.prog 315 e0_315a := fk_u0 (by kernel_rfl)
def e0_315b : List (List AVal × AVal) := [([.agg (c8 jB []),.agg (c8 0 [])], .agg (c8 0 [])),
 ([.agg (c8 (-2) []),.agg (c8 0 [])], .agg (c8 0 [])),
 ([.agg (c8 0 []),.agg (c8 jB [])], .agg (c8 0 [])),
 ([.agg (c8 jQ []),.agg (c8 0 [])], .agg (c8 0 []))]
theorem e0_315b_k : okL Tryz.prog 315 e0_315b := fk_u0 (by kernel_rfl)
def e0_316 : List (List AVal × AVal) := [([.agg (qz [1,2])], .bool true)]
theorem e0_316_k : okL Tryz.prog 316 e0_316 := fk_u0 (by kernel_rfl)
def e0_317a : List (List AVal × AVal) := [((qz [-jA,-jA]), qi (-jA)),
 ((qz [-jK,-jK]), qi (-jK)),
 ((qz [-jA,jA]), qi (-jA)),
 ((qz [-jK,0]), qi (-jK)),
 ((qz [-jL,jL]), qi (-jL)),
 ((qz [-jO,jU]), qi (-jO))]
theorem e0_317a_k : okL Tryz.prog 317 e0_317a := fk_u0 (by kernel_rfl)
def e0_317b : List (List AVal × AVal) := [((qz [0,0]), qi 0),
 ((qz [jC,jC]), qi jC),
 ((qz [-jM,jM]), qi (-jM)),
 ((qz [-jU,jO]), qi (-jU)),
 ((qz [-jN,jN]), qi (-jN)),
 ((qz [-jS,jk]), qi (-jS))]
theorem e0_317b_k : okL Tryz.prog 317 e0_317b := fk_u0 (by kernel_rfl)
def e0_317c : List (List AVal × AVal) := [((qz [-jV,jV]), qi (-jV)),
 ((qz [-jk,jS]), qi (-jk)),
 ((qz [-jN,-jV]), qi (-jN)),
 ((qz [-jS,-jk]), qi (-jS)),
 ((qz [-jS,jS]), qi (-jS)),
 ((qz [jN,jL]), qi jL)]
theorem e0_317c_k : okL Tryz.prog 317 e0_317c := fk_u0 (by kernel_rfl)
def e0_317d : List (List AVal × AVal) := [((qz [jS,jU]), qi jU),
 ((qz [jV,jL]), qi jV),
 ((qz [-jk,jU]), qi (-jk)),
 ((qz [jM,jL]), qi jM),
 ((qz [jO,jU]), qi jU),
 ((qz [-jU,jU]), qi (-jU))]
theorem e0_317d_k : okL Tryz.prog 317 e0_317d := fk_u0 (by kernel_rfl)
def e0_317e : List (List AVal × AVal) := [((qz [jk,jU]), qi jU),
 ((qz [jL,jL]), qi jL),
 ((qz [jU,jU]), qi jU),
 ((qz [jN,jM]), qi jM),
 ((qz [jS,jO]), qi jO),
 ((qz [jV,jM]), qi jM)]
theorem e0_317e_k : okL Tryz.prog 317 e0_317e := fk_u0 (by kernel_rfl)
def e0_317f : List (List AVal × AVal) := [((qz [jM,jM]), qi jM),
 ((qz [jO,jO]), qi jO),
 ((qz [jk,jO]), qi jk),
 ((qz [-jU,jk]), qi (-jU)),
 ((qz [jL,jM]), qi jM),
 ((qz [jU,jO]), qi jU)]
theorem e0_317f_k : okL Tryz.prog 317 e0_317f := fk_u0 (by kernel_rfl)
def e0_317g : List (List AVal × AVal) := [((qz [-jN,-jL]), qi (-jN)),
 ((qz [-jS,-jO]), qi (-jS)),
 ((qz [-jV,-jM]), qi (-jV)),
 ((qz [-jk,-jU]), qi (-jk))]
theorem e0_317g_k : okL Tryz.prog 317 e0_317g := fk_u0 (by kernel_rfl)
def e0_318a : List (List AVal × AVal) := [((qz [-jA,-jA]), qi (-jA)),
 ((qz [-jK,-jK]), qi (-jK)),
 ((qz [-jA,jA]), qi jA),
 ((qz [jA,-jA]), qi jA),
 ((qz [jA,jA]), qi jA),
 ((qz [-jK,0]), qi 0)]
theorem e0_318a_k : okL Tryz.prog 318 e0_318a := fk_u0 (by kernel_rfl)
def e0_318b : List (List AVal × AVal) := [((qz [0,0]), qi 0),
 ((qz [jC,jC]), qi jC),
 ((qz [jN,jV]), qi jN),
 ((qz [jk,jS]), qi jS),
 ((qz [-jN,-jL]), qi (-jL)),
 ((qz [-jS,-jO]), qi (-jO))]
theorem e0_318b_k : okL Tryz.prog 318 e0_318b := fk_u0 (by kernel_rfl)
def e0_318c : List (List AVal × AVal) := [((qz [-jV,-jL]), qi (-jV)),
 ((qz [-jk,-jO]), qi (-jk)),
 ((qz [-jM,-jL]), qi (-jM)),
 ((qz [-jU,-jO]), qi (-jU)),
 ((qz [-jL,-jL]), qi (-jL)),
 ((qz [-jO,-jO]), qi (-jO))]
theorem e0_318c_k : okL Tryz.prog 318 e0_318c := fk_u0 (by kernel_rfl)
def e0_318d : List (List AVal × AVal) := [((qz [-jN,-jM]), qi (-jM)),
 ((qz [-jS,-jU]), qi (-jU)),
 ((qz [-jV,-jM]), qi (-jM)),
 ((qz [-jk,-jU]), qi (-jU)),
 ((qz [-jM,-jM]), qi (-jM)),
 ((qz [-jU,-jU]), qi (-jU))]
theorem e0_318d_k : okL Tryz.prog 318 e0_318d := fk_u0 (by kernel_rfl)
def e0_318e : List (List AVal × AVal) := [((qz [-jL,-jM]), qi (-jM)),
 ((qz [-jO,-jU]), qi (-jU)),
 ((qz [jN,jL]), qi jN),
 ((qz [jk,jU]), qi jk),
 ((qz [jV,jM]), qi jV),
 ((qz [jS,jO]), qi jS)]
theorem e0_318e_k : okL Tryz.prog 318 e0_318e := fk_u0 (by kernel_rfl)
def e0_321 : List (List AVal × AVal) := [([.agg (qz [jE,jE,jB])], .bool true),
 ([.agg (qz [0,0,0])], .bool true)]
theorem e0_321_k : okL Tryz.prog 321 e0_321 := fk_u0 (by kernel_rfl)
def e0_328 : List (List AVal × AVal) := [([qi 2], .bool false),
 ([qi 1], .bool false),
 ([qi 7], .bool false),
 ([qi 4], .bool false)]
theorem e0_328_k : okL Tryz.prog 328 e0_328 := fk_u0 (by kernel_rfl)
def e0_364a : List (List AVal × AVal) := [((qz [0,jE]), qi (-jE)),
 ((qz [0,jB]), qi (-jB)),
 ((qz [1,jE]), qi jE),
 ((qz [2,jE]), qi (-jE)),
 ((qz [3,jE]), qi jE),
 ((qz [4,jE]), qi (-jE))]
theorem e0_364a_k : okL Tryz.prog 364 e0_364a := fk_u0 (by kernel_rfl)
def e0_364b : List (List AVal × AVal) := [((qz [1,jB]), qi jB),
 ((qz [5,jE]), qi jE),
 ((qz [6,jE]), qi (-jE)),
 ((qz [7,jE]), qi jE)]
theorem e0_364b_k : okL Tryz.prog 364 e0_364b := fk_u0 (by kernel_rfl)
def e0_366 : List (List AVal × AVal) := [([qi 8], qi 162),
 ([qi 1], qi 1)]
theorem e0_366_k : okL Tryz.prog 366 e0_366 := fk_u0 (by kernel_rfl)
def e0_373 : List (List AVal × AVal) := [([.agg (qz [-jA,-jA,-jC]),.agg (qz [-jA,-jA,-jD])], .agg (qz [0,0,jK])),
 ([.agg (qz [jA,jA,-jC]),.agg (qz [-jA,-jA,-jD])], .agg (qz [jJ,jJ,jK])),
 ([.agg (qz [jA,jA,jC]),.agg (qz [jA,jA,jD])], .agg (qz [0,0,-jK])),
 ([.agg (qz [-jA,-jA,jC]),.agg (qz [jA,jA,jD])], .agg (qz [-jJ,-jJ,-jK]))]
theorem e0_373_k : okL Tryz.prog 373 e0_373 := fk_u0 (by kernel_rfl)
def e0_383a : List (List AVal × AVal) := [([.agg (c8 (-jA) (c8 (-jA) (c8 (-jD) [])))], .agg (c8 ji [])),
 ([.agg (c8 jA (c8 jA (c8 (-jC) [])))], .agg (c8 je [])),
 ([.agg (c8 jJ (c8 jJ (c8 (-jX) [])))], .agg (c8 18141941858304 [])),
 ([.agg (c8 (-jA) (c8 (-jA) (c8 (-jC) [])))], .agg (c8 je [])),
 ([.agg (c8 0 (c8 0 (c8 (-jC) [])))], .agg (c8 jB [])),
 ([.agg (c8 jA (c8 (-jA) (c8 (-jD) [])))], .agg (c8 ji []))]
theorem e0_383a_k : okL Tryz.prog 383 e0_383a := fk_u0 (by kernel_rfl)
def e0_383b : List (List AVal × AVal) := [([.agg (c8 (-jA) (c8 jA (c8 (-jD) [])))], .agg (c8 ji [])),
 ([.agg (c8 jA (c8 jA (c8 (-jD) [])))], .agg (c8 ji [])),
 ([.agg (c8 jA (c8 (-jA) (c8 (-jC) [])))], .agg (c8 je [])),
 ([.agg (c8 (-jA) (c8 jA (c8 (-jC) [])))], .agg (c8 je [])),
 ([.agg (c8 jA (c8 jA (c8 jD [])))], .agg (c8 ji [])),
 ([.agg (c8 (-jA) (c8 (-jA) (c8 jC [])))], .agg (c8 je []))]
theorem e0_383b_k : okL Tryz.prog 383 e0_383b := fk_u0 (by kernel_rfl)
def e0_383c : List (List AVal × AVal) := [([.agg (c8 (-jJ) (c8 (-jJ) (c8 jX [])))], .agg (c8 18141941858304 [])),
 ([.agg (c8 jA (c8 jA (c8 jC [])))], .agg (c8 je [])),
 ([.agg (c8 0 (c8 0 (c8 jC [])))], .agg (c8 jB []))]
theorem e0_383c_k : okL Tryz.prog 383 e0_383c := fk_u0 (by kernel_rfl)
def e0_385 : List (List AVal × AVal) := [([.agg (qz [jA,jA,-jC]),.agg (qz [-jA,-jA,-jD])], .agg (qz [jJ,jJ,jK])),
 ([.agg (qz [-jA,-jA,-jC]),.agg (qz [-jA,-jA,-jD])], .agg (qz [0,0,jK])),
 ([.agg (qz [jA,jA,-jC]),.agg (qz [-jA,-jA,-jC])], .agg (qz [jJ,jJ,0])),
 ([.agg (qz [-jA,-jA,jC]),.agg (qz [jA,jA,jD])], .agg (qz [-jJ,-jJ,-jK])),
 ([.agg (qz [jA,jA,jC]),.agg (qz [jA,jA,jD])], .agg (qz [0,0,-jK])),
 ([.agg (qz [-jA,-jA,jC]),.agg (qz [jA,jA,jC])], .agg (qz [-jJ,-jJ,0]))]
theorem e0_385_k : okL Tryz.prog 385 e0_385 := fk_u0 (by kernel_rfl)
def e0_388 : List (List AVal × AVal) := [([.agg (c8 jl []),.agg (c8 jf [])], .agg (c8 jm [])),
 ([.agg (c8 jE []),.agg (c8 jo [])], .agg (c8 (-jI) [])),
 ([.agg (c8 ja []),.agg (c8 jT [])], .agg (c8 jT []))]
theorem e0_388_k : okL Tryz.prog 388 e0_388 := fk_u0 (by kernel_rfl)
def e0_399a : List (List AVal × AVal) := [([qu 1], qi 1),
 ([qu 3], qi 2),
 ([qu 2], qi 1),
 ([qu 7], qi 3),
 ([qu 6], qi 2),
 ([qu 5], qi 2)]
theorem e0_399a_k : okL Tryz.prog 399 e0_399a := fk_u0 (by kernel_rfl)
def e0_399b : List (List AVal × AVal) := [([qu 4], qi 1)]
theorem e0_399b_k : okL Tryz.prog 399 e0_399b := fk_u0 (by kernel_rfl)
def f0_37 : List MF := [⟨[], ⟨0,[]⟩, (.slice 0 0 2 true 2, ⟨1,[(0,.cells (qs [1,3,0,jE,jE,jB] (.nils :: (qs [0,0,-jB,jB,0,0,0,0,0,0,0,0,0,0,0,2,1,jB,0,0,0] (.nils :: (qs [0,0,jB,jB,0,0,0,jB,0,0,0,0,0,0,0] []))))) true (some 22))]⟩)⟩]
theorem f0_37_k : okM Tryz.prog 37 f0_37 := fk_v0 (by kernel_rfl)
def f0_63 : List MF := [⟨[.agg (qs [1,3,0,jE,jE,jB] (.nils :: (qs [0,0,-jB,jB,0,0,0,0,0,0,0,0,0,0,0] [])))], ⟨0,[]⟩, (.bool true, ⟨0,[]⟩)⟩,
 ⟨[.agg (qs [2,1,jB,0,0,0] (.nils :: (qs [0,0,jB,jB,0,0,0,jB,0,0,0,0,0,0,0] [])))], ⟨0,[]⟩, (.bool false, ⟨0,[]⟩)⟩,
 ⟨[.agg (qs [2,1,jB,0,0,0] (.nils :: (qs [0,0,jB,jB,0,0,0,jB,0,0,-jF,0,0,0,0] [])))], ⟨0,[]⟩, (.bool false, ⟨0,[]⟩)⟩]
theorem f0_63_k : okM Tryz.prog 63 f0_63 := fk_v0 (by kernel_rfl)
def f0_98 : List MF := [⟨[.vec 0], ⟨1,[(0,.vec (qz [2,0,0,0,jC]) 1 5 false)]⟩, (.vec 1, ⟨2,[(0,.vec (qz [2,0,0,0,jC]) 1 5 false),(1,.vec (qz [2,0,0,0,jC]) 1 5 true)]⟩)⟩]
theorem f0_98_k : okM Tryz.prog 98 f0_98 := fk_v0 (by kernel_rfl)
def f0_109 : List MF := [⟨[qi 0,.func 142 [] [.ptr 0 0]], ⟨1,[(0,.cells [.nils] false none)]⟩, (qi 0, ⟨1,[(0,.cells [.nils] false none)]⟩)⟩]
theorem f0_109_k : okM Tryz.prog 109 f0_109 := fk_v0 (by kernel_rfl)
def f0_110 : List MF := [⟨[qi 0,.ptr 1 0], ⟨2,[(0,.vec (qz [1,2,2,0]) 1 4 false),(1,.cells [.vec 0] false none)]⟩, (.agg (qz [1,2,2,0]), ⟨2,[(0,.vec (qz [1,2,2,0]) 1 4 false),(1,.cells [.vec 0] false none)]⟩)⟩]
theorem f0_110_k : okM Tryz.prog 110 f0_110 := fk_v0 (by kernel_rfl)
def f0_128 : List MF := [⟨[.vec 0], ⟨1,[(0,.vec (qz [0,0,0,0,0,0,0,0,0,0,0,0,0,0,0,0,jB,jG,0,0,0,jG,0,0,0,jG,0,0,-jF,0,0,0]) 2 16 false)]⟩, (.vec 1, ⟨2,[(0,.vec (qz [0,0,0,0,0,0,0,0,0,0,0,0,0,0,0,0,jB,jG,0,0,0,jG,0,0,0,jG,0,0,-jF,0,0,0]) 2 16 false),(1,.vec (qz [0,0,0,0,0,0,0,0,0,0,0,0,0,0,0,0,jB,jG,0,0,0,jG,0,0,0,jG,0,0,-jF,0,0,0]) 2 16 true)]⟩)⟩]
theorem f0_128_k : okM Tryz.prog 128 f0_128 := fk_v0 (by kernel_rfl)
def f0_129 : List MF := [⟨[.vec 0], ⟨1,[(0,.vec (qz [0,1,0,0,-jB,0,-jB,0,-jB,0,0,0,0,jI,0,0,0,jB,jB,jB,0,0,0,0,0]) 1 25 false)]⟩, (.vec 1, ⟨2,[(0,.vec (qz [0,1,0,0,-jB,0,-jB,0,-jB,0,0,0,0,jI,0,0,0,jB,jB,jB,0,0,0,0,0]) 1 25 false),(1,.vec (qz [0,1,0,0,-jB,0,-jB,0,-jB,0,0,0,0,jI,0,0,0,jB,jB,jB,0,0,0,0,0]) 1 25 true)]⟩)⟩]
theorem f0_129_k : okM Tryz.prog 129 f0_129 := fk_v0 (by kernel_rfl)
def f0_162 : List MF := [⟨[.nils], ⟨0,[]⟩, (.nils, ⟨0,[]⟩)⟩]
theorem f0_162_k : okM Tryz.prog 162 f0_162 := fk_v0 (by kernel_rfl)
def f0_165 : List MF := [⟨[qi 8192], ⟨0,[]⟩, (.tup [.ptr 0 0,qi 0], ⟨2,[(0,.cells [.bool true,qi 8192,.nils,.nils,qi (-1),.map 1] true none),(1,.map [] 0)]⟩)⟩]
theorem f0_165_k : okM Tryz.prog 165 f0_165 := fk_v0 (by kernel_rfl)
def f0_202 : List MF := [⟨[.vec 0], ⟨1,[(0,.vec (c8 0 (c8 0 [])) 2 8 false)]⟩, (.agg (c8 0 []), ⟨1,[(0,.vec (c8 0 (c8 0 [])) 2 8 false)]⟩)⟩,
 ⟨[.vec 0], ⟨1,[(0,.vec (c8 0 (c8 (-jR) [])) 2 8 false)]⟩, (.agg (c8 (-jR) []), ⟨1,[(0,.vec (c8 0 (c8 (-jR) [])) 2 8 false)]⟩)⟩,
 ⟨[.vec 0], ⟨1,[(0,.vec (c8 0 (c8 jH (c8 0 []))) 3 8 false)]⟩, (.agg (c8 jH []), ⟨1,[(0,.vec (c8 0 (c8 jH (c8 0 []))) 3 8 false)]⟩)⟩,
 ⟨[.vec 0], ⟨1,[(0,.vec (c8 0 (c8 0 (c8 0 []))) 3 8 false)]⟩, (.agg (c8 0 []), ⟨1,[(0,.vec (c8 0 (c8 0 (c8 0 []))) 3 8 false)]⟩)⟩,
 ⟨[.vec 0], ⟨1,[(0,.vec (c8 0 (c8 0 (c8 (-jR) []))) 3 8 false)]⟩, (.agg (c8 (-jR) []), ⟨1,[(0,.vec (c8 0 (c8 0 (c8 (-jR) []))) 3 8 false)]⟩)⟩,
 ⟨[.vec 0], ⟨1,[(0,.vec (c8 jH (c8 0 [])) 2 8 false)]⟩, (.agg (c8 jH []), ⟨1,[(0,.vec (c8 jH (c8 0 [])) 2 8 false)]⟩)⟩]
theorem f0_202_k : okM Tryz.prog 202 f0_202 := fk_v0 (by kernel_rfl)
def f0_224 : List MF := [⟨[.nils], ⟨0,[]⟩, (qi 0, ⟨0,[]⟩)⟩]
theorem f0_224_k : okM Tryz.prog 224 f0_224 := fk_v0 (by kernel_rfl)
def f0_230a : List MF := [⟨(qs [-jA,jc] [.ptr 0 0]), ⟨1,[(0,.cells [qi jU] false none)]⟩, (qi (-jL), ⟨1,[(0,.cells [qi jU] false none)]⟩)⟩,
 ⟨(qs [-jK,jc] [.ptr 0 0]), ⟨1,[(0,.cells [qi jU] false none)]⟩, (qi (-jO), ⟨1,[(0,.cells [qi jU] false none)]⟩)⟩,
 ⟨(qs [-jL,jc] [.ptr 0 0]), ⟨1,[(0,.cells [qi 8192] false none)]⟩, (qi (-jN), ⟨1,[(0,.cells [qi 8192] false none)]⟩)⟩,
 ⟨(qs [-jO,jc] [.ptr 0 0]), ⟨1,[(0,.cells [qi 8192] false none)]⟩, (qi (-jS), ⟨1,[(0,.cells [qi 8192] false none)]⟩)⟩,
 ⟨(qs [0,jc] [.ptr 0 0]), ⟨1,[(0,.cells [qi jM] false none)]⟩, (qi (-jM), ⟨1,[(0,.cells [qi jM] false none)]⟩)⟩,
 ⟨(qs [jC,jc] [.ptr 0 0]), ⟨1,[(0,.cells [qi jM] false none)]⟩, (qi (-jU), ⟨1,[(0,.cells [qi jM] false none)]⟩)⟩]
theorem f0_230a_k : okM Tryz.prog 230 f0_230a := fk_v0 (by kernel_rfl)
def f0_230b : List MF := [⟨(qs [-jM,jc] [.ptr 0 0]), ⟨1,[(0,.cells [qi 8192] false none)]⟩, (qi (-jV), ⟨1,[(0,.cells [qi 8192] false none)]⟩)⟩,
 ⟨(qs [-jU,jc] [.ptr 0 0]), ⟨1,[(0,.cells [qi 8192] false none)]⟩, (qi (-jk), ⟨1,[(0,.cells [qi 8192] false none)]⟩)⟩]
theorem f0_230b_k : okM Tryz.prog 230 f0_230b := fk_v0 (by kernel_rfl)
def f0_231a : List MF := [⟨(qs [jA,jc] [.ptr 0 0]), ⟨1,[(0,.cells [qi jU] false none)]⟩, (qi jL, ⟨1,[(0,.cells [qi jU] false none)]⟩)⟩,
 ⟨(qs [0,jc] [.ptr 0 0]), ⟨1,[(0,.cells [qi jU] false none)]⟩, (qi jU, ⟨1,[(0,.cells [qi jU] false none)]⟩)⟩,
 ⟨(qs [jL,jc] [.ptr 0 0]), ⟨1,[(0,.cells [qi 8192] false none)]⟩, (qi jN, ⟨1,[(0,.cells [qi 8192] false none)]⟩)⟩,
 ⟨(qs [jU,jc] [.ptr 0 0]), ⟨1,[(0,.cells [qi 8192] false none)]⟩, (qi jk, ⟨1,[(0,.cells [qi 8192] false none)]⟩)⟩,
 ⟨(qs [0,jc] [.ptr 0 0]), ⟨1,[(0,.cells [qi jM] false none)]⟩, (qi jM, ⟨1,[(0,.cells [qi jM] false none)]⟩)⟩,
 ⟨(qs [jC,jc] [.ptr 0 0]), ⟨1,[(0,.cells [qi jM] false none)]⟩, (qi jO, ⟨1,[(0,.cells [qi jM] false none)]⟩)⟩]
theorem f0_231a_k : okM Tryz.prog 231 f0_231a := fk_v0 (by kernel_rfl)
def f0_231b : List MF := [⟨(qs [jM,jc] [.ptr 0 0]), ⟨1,[(0,.cells [qi 8192] false none)]⟩, (qi jV, ⟨1,[(0,.cells [qi 8192] false none)]⟩)⟩,
 ⟨(qs [jO,jc] [.ptr 0 0]), ⟨1,[(0,.cells [qi 8192] false none)]⟩, (qi jS, ⟨1,[(0,.cells [qi 8192] false none)]⟩)⟩]
theorem f0_231b_k : okM Tryz.prog 231 f0_231b := fk_v0 (by kernel_rfl)
def f0_268 : List MF := [⟨[], ⟨0,[]⟩, (.agg [.nilf,.nilf,.func 338 [] [.ptr 0 0],.func 339 [] [],.func 340 [] [],.func 341 [] [],.func 342 [] [],.func 343 [] [],.func 344 [] [],.func 345 [] []], ⟨1,[(0,.cells [.func 337 [] []] true none)]⟩)⟩]
theorem f0_268_k : okM Tryz.prog 268 f0_268 := fk_v0 (by kernel_rfl)
def f0_271a : List MF := [⟨[.vec 0], ⟨1,[(0,.vec (c8 0 (c8 (-jP) (c8 0 (c8 0 [])))) 4 8 false)]⟩, (.agg (c8 (-jP) []), ⟨1,[(0,.vec (c8 0 (c8 (-jP) (c8 0 (c8 0 [])))) 4 8 false)]⟩)⟩,
 ⟨[.vec 0], ⟨1,[(0,.vec (c8 0 (c8 0 (c8 (-jP) (c8 0 [])))) 4 8 false)]⟩, (.agg (c8 (-jP) []), ⟨1,[(0,.vec (c8 0 (c8 0 (c8 (-jP) (c8 0 [])))) 4 8 false)]⟩)⟩,
 ⟨[.vec 0], ⟨1,[(0,.vec (c8 (-jH) (c8 0 (c8 0 (c8 (-jH) [])))) 4 8 false)]⟩, (.agg (c8 (-jW) []), ⟨1,[(0,.vec (c8 (-jH) (c8 0 (c8 0 (c8 (-jH) [])))) 4 8 false)]⟩)⟩,
 ⟨[.vec 0], ⟨1,[(0,.vec (c8 0 (c8 jP (c8 0 (c8 0 [])))) 4 8 false)]⟩, (.agg (c8 jP []), ⟨1,[(0,.vec (c8 0 (c8 jP (c8 0 (c8 0 [])))) 4 8 false)]⟩)⟩,
 ⟨[.vec 0], ⟨1,[(0,.vec (c8 0 (c8 0 (c8 jP (c8 0 [])))) 4 8 false)]⟩, (.agg (c8 jP []), ⟨1,[(0,.vec (c8 0 (c8 0 (c8 jP (c8 0 [])))) 4 8 false)]⟩)⟩,
 ⟨[.vec 0], ⟨1,[(0,.vec (c8 (-jH) (c8 0 (c8 0 (c8 jH [])))) 4 8 false)]⟩, (.agg (c8 0 []), ⟨1,[(0,.vec (c8 (-jH) (c8 0 (c8 0 (c8 jH [])))) 4 8 false)]⟩)⟩]
theorem f0_271a_k : okM Tryz.prog 271 f0_271a := fk_v0 (by kernel_rfl)
def f0_271b : List MF := [⟨[.vec 0], ⟨1,[(0,.vec (c8 0 (c8 0 (c8 0 (c8 0 [])))) 4 8 false)]⟩, (.agg (c8 0 []), ⟨1,[(0,.vec (c8 0 (c8 0 (c8 0 (c8 0 [])))) 4 8 false)]⟩)⟩,
 ⟨[.vec 0], ⟨1,[(0,.vec (c8 jH (c8 0 (c8 0 (c8 0 [])))) 4 8 false)]⟩, (.agg (c8 jH []), ⟨1,[(0,.vec (c8 jH (c8 0 (c8 0 (c8 0 [])))) 4 8 false)]⟩)⟩]
theorem f0_271b_k : okM Tryz.prog 271 f0_271b := fk_v0 (by kernel_rfl)
def f0_329 : List MF := [⟨[.vec 0,qi 0,qi 1,.func 170 [] []], ⟨1,[(0,.vec (qz [1,2]) 1 2 false)]⟩, (.tup [], ⟨1,[(0,.vec (qz [1,2]) 1 2 false)]⟩)⟩]
theorem f0_329_k : okM Tryz.prog 329 f0_329 := fk_v0 (by kernel_rfl)
def f0_337 : List MF := [⟨[.agg (qs [1,jB,0,0,0] [.nils])], ⟨0,[]⟩, (.bool true, ⟨0,[]⟩)⟩]
theorem f0_337_k : okM Tryz.prog 337 f0_337 := fk_v0 (by kernel_rfl)
def f0_339 : List MF := [⟨[.agg (qs [1,jB,0,0,0] [.nils])], ⟨0,[]⟩, (.slice 0 0 1 true 1, ⟨1,[(0,.cells (qz [0,0,0]) true (some 3))]⟩)⟩]
theorem f0_339_k : okM Tryz.prog 339 f0_339 := fk_v0 (by kernel_rfl)
def f0_342 : List MF := [⟨[.agg (qs [3,0,jE,jE,jB] [.nils])], ⟨0,[]⟩, (.bool true, ⟨0,[]⟩)⟩]
theorem f0_342_k : okM Tryz.prog 342 f0_342 := fk_v0 (by kernel_rfl)
def f0_348 : List MF := [⟨[qi 1], ⟨0,[]⟩, (.func 369 [] [.ptr 0 0], ⟨1,[(0,.cells [qi 1] true none)]⟩)⟩,
 ⟨[qi 2], ⟨0,[]⟩, (.func 369 [] [.ptr 0 0], ⟨1,[(0,.cells [qi 2] true none)]⟩)⟩,
 ⟨[qi 3], ⟨0,[]⟩, (.func 369 [] [.ptr 0 0], ⟨1,[(0,.cells [qi 3] true none)]⟩)⟩]
theorem f0_348_k : okM Tryz.prog 348 f0_348 := fk_v0 (by kernel_rfl)
def f0_350a : List MF := [⟨[.ptr 0 0,.agg (qz [-jA,-jA,-jD])], ⟨1,[(0,.cells [.nils] false none)]⟩, (.bool true, ⟨1,[(0,.cells [.nils] false none)]⟩)⟩,
 ⟨[.ptr 1 0,.agg (qz [jA,jA,-jC])], ⟨2,[(0,.vec (qz [-jA,-jA,-jD]) 1 3 false),(1,.cells [.vec 0] false none)]⟩, (.bool true, ⟨2,[(0,.vec (qz [-jA,-jA,-jD]) 1 3 false),(1,.cells [.vec 0] false none)]⟩)⟩,
 ⟨[.ptr 0 0,.agg (qz [jA,jA,-jC])], ⟨1,[(0,.cells [.nils] false none)]⟩, (.bool true, ⟨1,[(0,.cells [.nils] false none)]⟩)⟩,
 ⟨[.ptr 1 0,.agg (qz [-jA,-jA,-jC])], ⟨2,[(0,.vec (qz [-jA,-jA,-jD]) 1 3 false),(1,.cells [.vec 0] false none)]⟩, (.bool true, ⟨2,[(0,.vec (qz [-jA,-jA,-jD]) 1 3 false),(1,.cells [.vec 0] false none)]⟩)⟩,
 ⟨[.ptr 0 0,.agg (qz [-jA,-jA,-jC])], ⟨1,[(0,.cells [.nils] false none)]⟩, (.bool true, ⟨1,[(0,.cells [.nils] false none)]⟩)⟩,
 ⟨[.ptr 1 0,.agg (qz [jA,jA,-jC])], ⟨2,[(0,.vec (qz [-jA,-jA,-jC]) 1 3 false),(1,.cells [.vec 0] false none)]⟩, (.bool true, ⟨2,[(0,.vec (qz [-jA,-jA,-jC]) 1 3 false),(1,.cells [.vec 0] false none)]⟩)⟩]
theorem f0_350a_k : okM Tryz.prog 350 f0_350a := fk_v0 (by kernel_rfl)
def f0_350b : List MF := [⟨[.ptr 0 0,.agg (qz [jA,-jA,-jD])], ⟨1,[(0,.cells [.nils] false none)]⟩, (.bool true, ⟨1,[(0,.cells [.nils] false none)]⟩)⟩,
 ⟨[.ptr 0 0,.agg (qz [-jA,jA,-jD])], ⟨1,[(0,.cells [.nils] false none)]⟩, (.bool true, ⟨1,[(0,.cells [.nils] false none)]⟩)⟩,
 ⟨[.ptr 0 0,.agg (qz [jA,jA,-jD])], ⟨1,[(0,.cells [.nils] false none)]⟩, (.bool true, ⟨1,[(0,.cells [.nils] false none)]⟩)⟩,
 ⟨[.ptr 0 0,.agg (qz [jA,-jA,-jC])], ⟨1,[(0,.cells [.nils] false none)]⟩, (.bool true, ⟨1,[(0,.cells [.nils] false none)]⟩)⟩,
 ⟨[.ptr 0 0,.agg (qz [-jA,jA,-jC])], ⟨1,[(0,.cells [.nils] false none)]⟩, (.bool true, ⟨1,[(0,.cells [.nils] false none)]⟩)⟩,
 ⟨[.ptr 0 0,.agg (qz [jA,jA,jD])], ⟨1,[(0,.cells [.nils] false none)]⟩, (.bool true, ⟨1,[(0,.cells [.nils] false none)]⟩)⟩]
theorem f0_350b_k : okM Tryz.prog 350 f0_350b := fk_v0 (by kernel_rfl)
def f0_350c : List MF := [⟨[.ptr 1 0,.agg (qz [-jA,-jA,jC])], ⟨2,[(0,.vec (qz [jA,jA,jD]) 1 3 false),(1,.cells [.vec 0] false none)]⟩, (.bool true, ⟨2,[(0,.vec (qz [jA,jA,jD]) 1 3 false),(1,.cells [.vec 0] false none)]⟩)⟩,
 ⟨[.ptr 0 0,.agg (qz [-jA,-jA,jC])], ⟨1,[(0,.cells [.nils] false none)]⟩, (.bool true, ⟨1,[(0,.cells [.nils] false none)]⟩)⟩,
 ⟨[.ptr 1 0,.agg (qz [jA,jA,jC])], ⟨2,[(0,.vec (qz [jA,jA,jD]) 1 3 false),(1,.cells [.vec 0] false none)]⟩, (.bool true, ⟨2,[(0,.vec (qz [jA,jA,jD]) 1 3 false),(1,.cells [.vec 0] false none)]⟩)⟩,
 ⟨[.ptr 0 0,.agg (qz [jA,jA,jC])], ⟨1,[(0,.cells [.nils] false none)]⟩, (.bool true, ⟨1,[(0,.cells [.nils] false none)]⟩)⟩,
 ⟨[.ptr 1 0,.agg (qz [-jA,-jA,jC])], ⟨2,[(0,.vec (qz [jA,jA,jC]) 1 3 false),(1,.cells [.vec 0] false none)]⟩, (.bool true, ⟨2,[(0,.vec (qz [jA,jA,jC]) 1 3 false),(1,.cells [.vec 0] false none)]⟩)⟩]
theorem f0_350c_k : okM Tryz.prog 350 f0_350c := fk_v0 (by kernel_rfl)
def f0_351 : List MF := [⟨[.nils], ⟨0,[]⟩, (.bool true, ⟨0,[]⟩)⟩]
theorem f0_351_k : okM Tryz.prog 351 f0_351 := fk_v0 (by kernel_rfl)
def f0_368 : List MF := [⟨[.vec 0], ⟨1,[(0,.vec [qi 0] 1 1 false)]⟩, (.vec 1, ⟨2,[(0,.vec [qi 0] 1 1 false),(1,.vec [qi 0] 1 1 true)]⟩)⟩,
 ⟨[.vec 0], ⟨1,[(0,.vec (qz [0,7]) 2 1 false)]⟩, (.vec 1, ⟨2,[(0,.vec (qz [0,7]) 2 1 false),(1,.vec (qz [0,7]) 2 1 true)]⟩)⟩]
theorem f0_368_k : okM Tryz.prog 368 f0_368 := fk_v0 (by kernel_rfl)
def f0_371a : List MF := [⟨[.vec 0], ⟨1,[(0,.vec (qz [-jA,-jA,-jD]) 1 3 false)]⟩, (.tup [.vec 1,.agg (c8 1 [])], ⟨2,[(0,.vec (qz [-jA,-jA,-jD]) 1 3 false),(1,.vec (c8 1 []) 1 8 true)]⟩)⟩,
 ⟨[.vec 0], ⟨1,[(0,.vec (qz [jA,jA,-jC]) 1 3 false)]⟩, (.tup [.vec 1,.agg (c8 1 [])], ⟨2,[(0,.vec (qz [jA,jA,-jC]) 1 3 false),(1,.vec (c8 1 []) 1 8 true)]⟩)⟩,
 ⟨[.vec 0], ⟨1,[(0,.vec (qz [-jA,-jA,-jC]) 1 3 false)]⟩, (.tup [.vec 1,.agg (c8 1 [])], ⟨2,[(0,.vec (qz [-jA,-jA,-jC]) 1 3 false),(1,.vec (c8 1 []) 1 8 true)]⟩)⟩,
 ⟨[.vec 0], ⟨1,[(0,.vec (qz [jA,-jA,-jD]) 1 3 false)]⟩, (.tup [.vec 1,.agg (c8 1 [])], ⟨2,[(0,.vec (qz [jA,-jA,-jD]) 1 3 false),(1,.vec (c8 1 []) 1 8 true)]⟩)⟩,
 ⟨[.vec 0], ⟨1,[(0,.vec (qz [-jA,jA,-jD]) 1 3 false)]⟩, (.tup [.vec 1,.agg (c8 1 [])], ⟨2,[(0,.vec (qz [-jA,jA,-jD]) 1 3 false),(1,.vec (c8 1 []) 1 8 true)]⟩)⟩,
 ⟨[.vec 0], ⟨1,[(0,.vec (qz [jA,jA,-jD]) 1 3 false)]⟩, (.tup [.vec 1,.agg (c8 1 [])], ⟨2,[(0,.vec (qz [jA,jA,-jD]) 1 3 false),(1,.vec (c8 1 []) 1 8 true)]⟩)⟩]
theorem f0_371a_k : okM Tryz.prog 371 f0_371a := fk_v0 (by kernel_rfl)
def f0_371b : List MF := [⟨[.vec 0], ⟨1,[(0,.vec (qz [jA,-jA,-jC]) 1 3 false)]⟩, (.tup [.vec 1,.agg (c8 1 [])], ⟨2,[(0,.vec (qz [jA,-jA,-jC]) 1 3 false),(1,.vec (c8 1 []) 1 8 true)]⟩)⟩,
 ⟨[.vec 0], ⟨1,[(0,.vec (qz [-jA,jA,-jC]) 1 3 false)]⟩, (.tup [.vec 1,.agg (c8 1 [])], ⟨2,[(0,.vec (qz [-jA,jA,-jC]) 1 3 false),(1,.vec (c8 1 []) 1 8 true)]⟩)⟩,
 ⟨[.vec 0], ⟨1,[(0,.vec (qz [jA,jA,jD]) 1 3 false)]⟩, (.tup [.vec 1,.agg (c8 1 [])], ⟨2,[(0,.vec (qz [jA,jA,jD]) 1 3 false),(1,.vec (c8 1 []) 1 8 true)]⟩)⟩,
 ⟨[.vec 0], ⟨1,[(0,.vec (qz [-jA,-jA,jC]) 1 3 false)]⟩, (.tup [.vec 1,.agg (c8 1 [])], ⟨2,[(0,.vec (qz [-jA,-jA,jC]) 1 3 false),(1,.vec (c8 1 []) 1 8 true)]⟩)⟩,
 ⟨[.vec 0], ⟨1,[(0,.vec (qz [jA,jA,jC]) 1 3 false)]⟩, (.tup [.vec 1,.agg (c8 1 [])], ⟨2,[(0,.vec (qz [jA,jA,jC]) 1 3 false),(1,.vec (c8 1 []) 1 8 true)]⟩)⟩]
theorem f0_371b_k : okM Tryz.prog 371 f0_371b := fk_v0 (by kernel_rfl)
def f0_372a : List MF := [⟨[.vec 0,.vec 1,.agg (c8 1 [])], ⟨2,[(0,.vec (qz [-jA,-jA,-jD]) 1 3 false),(1,.vec (c8 1 []) 1 8 false)]⟩, (.agg (c8 (-jA) (c8 (-jA) (c8 (-jD) (c8 1 [.nils])))), ⟨2,[(0,.vec (qz [-jA,-jA,-jD]) 1 3 false),(1,.vec (c8 1 []) 1 8 false)]⟩)⟩,
 ⟨[.vec 0,.vec 1,.agg (c8 1 [])], ⟨2,[(0,.vec (qz [jA,jA,-jC]) 1 3 false),(1,.vec (c8 1 []) 1 8 false)]⟩, (.agg (c8 jA (c8 jA (c8 (-jC) (c8 1 [.nils])))), ⟨2,[(0,.vec (qz [jA,jA,-jC]) 1 3 false),(1,.vec (c8 1 []) 1 8 false)]⟩)⟩,
 ⟨[.vec 0,.vec 1,.agg (c8 jl [])], ⟨2,[(0,.vec (qz [-jA,-jA,-jD,jA,jA,-jC]) 2 3 false),(1,.vec (c8 jm (c8 jf [])) 2 8 false)]⟩, (.agg (c8 jJ (c8 jJ (c8 (-jX) (c8 33 [.nils])))), ⟨2,[(0,.vec (qz [-jA,-jA,-jD,jA,jA,-jC]) 2 3 false),(1,.vec (c8 jm (c8 jf [])) 2 8 false)]⟩)⟩,
 ⟨[.vec 0,.vec 1,.agg (c8 1 [])], ⟨2,[(0,.vec (qz [-jA,-jA,-jC]) 1 3 false),(1,.vec (c8 1 []) 1 8 false)]⟩, (.agg (c8 (-jA) (c8 (-jA) (c8 (-jC) (c8 1 [.nils])))), ⟨2,[(0,.vec (qz [-jA,-jA,-jC]) 1 3 false),(1,.vec (c8 1 []) 1 8 false)]⟩)⟩,
 ⟨[.vec 0,.vec 1,.agg (c8 ja [])], ⟨2,[(0,.vec (qz [-jA,-jA,-jC,jA,jA,-jC]) 2 3 false),(1,.vec (c8 jT (c8 jT [])) 2 8 false)]⟩, (.agg (c8 0 (c8 0 (c8 (-jC) (c8 1 [.nils])))), ⟨2,[(0,.vec (qz [-jA,-jA,-jC,jA,jA,-jC]) 2 3 false),(1,.vec (c8 jT (c8 jT [])) 2 8 false)]⟩)⟩,
 ⟨[.vec 0,.vec 1,.agg (c8 1 [])], ⟨2,[(0,.vec (qz [jA,-jA,-jD]) 1 3 false),(1,.vec (c8 1 []) 1 8 false)]⟩, (.agg (c8 jA (c8 (-jA) (c8 (-jD) (c8 1 [.nils])))), ⟨2,[(0,.vec (qz [jA,-jA,-jD]) 1 3 false),(1,.vec (c8 1 []) 1 8 false)]⟩)⟩]
theorem f0_372a_k : okM Tryz.prog 372 f0_372a := fk_v0 (by kernel_rfl)
def f0_372b : List MF := [⟨[.vec 0,.vec 1,.agg (c8 1 [])], ⟨2,[(0,.vec (qz [-jA,jA,-jD]) 1 3 false),(1,.vec (c8 1 []) 1 8 false)]⟩, (.agg (c8 (-jA) (c8 jA (c8 (-jD) (c8 1 [.nils])))), ⟨2,[(0,.vec (qz [-jA,jA,-jD]) 1 3 false),(1,.vec (c8 1 []) 1 8 false)]⟩)⟩,
 ⟨[.vec 0,.vec 1,.agg (c8 1 [])], ⟨2,[(0,.vec (qz [jA,jA,-jD]) 1 3 false),(1,.vec (c8 1 []) 1 8 false)]⟩, (.agg (c8 jA (c8 jA (c8 (-jD) (c8 1 [.nils])))), ⟨2,[(0,.vec (qz [jA,jA,-jD]) 1 3 false),(1,.vec (c8 1 []) 1 8 false)]⟩)⟩,
 ⟨[.vec 0,.vec 1,.agg (c8 1 [])], ⟨2,[(0,.vec (qz [jA,-jA,-jC]) 1 3 false),(1,.vec (c8 1 []) 1 8 false)]⟩, (.agg (c8 jA (c8 (-jA) (c8 (-jC) (c8 1 [.nils])))), ⟨2,[(0,.vec (qz [jA,-jA,-jC]) 1 3 false),(1,.vec (c8 1 []) 1 8 false)]⟩)⟩,
 ⟨[.vec 0,.vec 1,.agg (c8 1 [])], ⟨2,[(0,.vec (qz [-jA,jA,-jC]) 1 3 false),(1,.vec (c8 1 []) 1 8 false)]⟩, (.agg (c8 (-jA) (c8 jA (c8 (-jC) (c8 1 [.nils])))), ⟨2,[(0,.vec (qz [-jA,jA,-jC]) 1 3 false),(1,.vec (c8 1 []) 1 8 false)]⟩)⟩,
 ⟨[.vec 0,.vec 1,.agg (c8 1 [])], ⟨2,[(0,.vec (qz [jA,jA,jD]) 1 3 false),(1,.vec (c8 1 []) 1 8 false)]⟩, (.agg (c8 jA (c8 jA (c8 jD (c8 1 [.nils])))), ⟨2,[(0,.vec (qz [jA,jA,jD]) 1 3 false),(1,.vec (c8 1 []) 1 8 false)]⟩)⟩,
 ⟨[.vec 0,.vec 1,.agg (c8 1 [])], ⟨2,[(0,.vec (qz [-jA,-jA,jC]) 1 3 false),(1,.vec (c8 1 []) 1 8 false)]⟩, (.agg (c8 (-jA) (c8 (-jA) (c8 jC (c8 1 [.nils])))), ⟨2,[(0,.vec (qz [-jA,-jA,jC]) 1 3 false),(1,.vec (c8 1 []) 1 8 false)]⟩)⟩]
theorem f0_372b_k : okM Tryz.prog 372 f0_372b := fk_v0 (by kernel_rfl)
def f0_372c : List MF := [⟨[.vec 0,.vec 1,.agg (c8 jl [])], ⟨2,[(0,.vec (qz [jA,jA,jD,-jA,-jA,jC]) 2 3 false),(1,.vec (c8 jm (c8 jf [])) 2 8 false)]⟩, (.agg (c8 (-jJ) (c8 (-jJ) (c8 jX (c8 33 [.nils])))), ⟨2,[(0,.vec (qz [jA,jA,jD,-jA,-jA,jC]) 2 3 false),(1,.vec (c8 jm (c8 jf [])) 2 8 false)]⟩)⟩,
 ⟨[.vec 0,.vec 1,.agg (c8 1 [])], ⟨2,[(0,.vec (qz [jA,jA,jC]) 1 3 false),(1,.vec (c8 1 []) 1 8 false)]⟩, (.agg (c8 jA (c8 jA (c8 jC (c8 1 [.nils])))), ⟨2,[(0,.vec (qz [jA,jA,jC]) 1 3 false),(1,.vec (c8 1 []) 1 8 false)]⟩)⟩,
 ⟨[.vec 0,.vec 1,.agg (c8 ja [])], ⟨2,[(0,.vec (qz [jA,jA,jC,-jA,-jA,jC]) 2 3 false),(1,.vec (c8 jT (c8 jT [])) 2 8 false)]⟩, (.agg (c8 0 (c8 0 (c8 jC (c8 1 [.nils])))), ⟨2,[(0,.vec (qz [jA,jA,jC,-jA,-jA,jC]) 2 3 false),(1,.vec (c8 jT (c8 jT [])) 2 8 false)]⟩)⟩]
theorem f0_372c_k : okM Tryz.prog 372 f0_372c := fk_v0 (by kernel_rfl)
def fk_lt1 : FTab := fun f => cond (Nat.beq f 76) e0_76 (cond (Nat.beq f 86) e0_86 (cond (Nat.beq f 88) e0_88 (cond (Nat.beq f 117) e0_117 (cond (Nat.beq f 121) e0_121 (cond (Nat.beq f 147) e0_147 (cond (Nat.beq f 149) e0_149 (cond (Nat.beq f 154) e0_154 (cond (Nat.beq f 159) e0_159 (cond (Nat.beq f 180) e0_180 (cond (Nat.beq f 181) e0_181 (cond (Nat.beq f 186) (e0_186a ++ (e0_186b)) (cond (Nat.beq f 187) (e0_187a ++ (e0_187b)) (cond (Nat.beq f 188) (e0_188a ++ (e0_188b)) (cond (Nat.beq f 189) e0_189 (cond (Nat.beq f 191) (e0_191a ++ (e0_191b)) (cond (Nat.beq f 194) (e0_194a ++ (e0_194b ++ (e0_194c ++ (e0_194d ++ (e0_194e ++ (e0_194f ++ (e0_194g))))))) (cond (Nat.beq f 201) (e0_201a ++ (e0_201b)) (cond (Nat.beq f 203) e0_203 (cond (Nat.beq f 240) e0_240 (cond (Nat.beq f 245) e0_245 (cond (Nat.beq f 247) e0_247 (cond (Nat.beq f 248) e0_248 (cond (Nat.beq f 251) (e0_251a ++ (e0_251b ++ (e0_251c))) (cond (Nat.beq f 263) e0_263 (cond (Nat.beq f 270) e0_270 (cond (Nat.beq f 272) (e0_272a ++ (e0_272b)) (cond (Nat.beq f 273) e0_273 (cond (Nat.beq f 292) (e0_292a ++ (e0_292b ++ (e0_292c ++ (e0_292d)))) (cond (Nat.beq f 293) e0_293 (cond (Nat.beq f 294) e0_294 (cond (Nat.beq f 298) e0_298 (cond (Nat.beq f 306) e0_306 (cond (Nat.beq f 314) e0_314 (cond (Nat.beq f 315) (e0_315a ++ (e0_315b)) (cond (Nat.beq f 316) e0_316 (cond (Nat.beq f 317) (e0_317a ++ (e0_317b ++ (e0_317c ++ (e0_317d ++ (e0_317e ++ (e0_317f ++ (e0_317g))))))) (cond (Nat.beq f 318) (e0_318a ++ (e0_318b ++ (e0_318c ++ (e0_318d ++ (e0_318e))))) (cond (Nat.beq f 321) e0_321 (cond (Nat.beq f 328) e0_328 (cond (Nat.beq f 364) (e0_364a ++ (e0_364b)) (cond (Nat.beq f 366) e0_366 (cond (Nat.beq f 373) e0_373 (cond (Nat.beq f 383) (e0_383a ++ (e0_383b ++ (e0_383c))) (cond (Nat.beq f 385) e0_385 (cond (Nat.beq f 388) e0_388 (cond (Nat.beq f 399) (e0_399a ++ (e0_399b)) ([])))))))))))))))))))))))))))))))))))))))))))))))
theorem fk_lt1_ok : FTabOk Tryz.prog fk_lt1 := (ftab_node e0_76_k (ftab_node e0_86_k (ftab_node e0_88_k (ftab_node e0_117_k (ftab_node e0_121_k (ftab_node e0_147_k (ftab_node e0_149_k (ftab_node e0_154_k (ftab_node e0_159_k (ftab_node e0_180_k (ftab_node e0_181_k (ftab_node (okL_app e0_186a_k e0_186b_k) (ftab_node (okL_app e0_187a_k e0_187b_k) (ftab_node (okL_app e0_188a_k e0_188b_k) (ftab_node e0_189_k (ftab_node (okL_app e0_191a_k e0_191b_k) (ftab_node (okL_app e0_194a_k (okL_app e0_194b_k (okL_app e0_194c_k (okL_app e0_194d_k (okL_app e0_194e_k (okL_app e0_194f_k e0_194g_k)))))) (ftab_node (okL_app e0_201a_k e0_201b_k) (ftab_node e0_203_k (ftab_node e0_240_k (ftab_node e0_245_k (ftab_node e0_247_k (ftab_node e0_248_k (ftab_node (okL_app e0_251a_k (okL_app e0_251b_k e0_251c_k)) (ftab_node e0_263_k (ftab_node e0_270_k (ftab_node (okL_app e0_272a_k e0_272b_k) (ftab_node e0_273_k (ftab_node (okL_app e0_292a_k (okL_app e0_292b_k (okL_app e0_292c_k e0_292d_k))) (ftab_node e0_293_k (ftab_node e0_294_k (ftab_node e0_298_k (ftab_node e0_306_k (ftab_node e0_314_k (ftab_node (okL_app e0_315a_k e0_315b_k) (ftab_node e0_316_k (ftab_node (okL_app e0_317a_k (okL_app e0_317b_k (okL_app e0_317c_k (okL_app e0_317d_k (okL_app e0_317e_k (okL_app e0_317f_k e0_317g_k)))))) (ftab_node (okL_app e0_318a_k (okL_app e0_318b_k (okL_app e0_318c_k (okL_app e0_318d_k e0_318e_k)))) (ftab_node e0_321_k (ftab_node e0_328_k (ftab_node (okL_app e0_364a_k e0_364b_k) (ftab_node e0_366_k (ftab_node e0_373_k (ftab_node (okL_app e0_383a_k (okL_app e0_383b_k e0_383c_k)) (ftab_node e0_385_k (ftab_node e0_388_k (ftab_node (okL_app e0_399a_k e0_399b_k) ftab_leaf)))))))))))))))))))))))))))))))))))))))))))))))
def fk_t1 : FTab := fun f => fk_lt1 f ++ fk_t0 f
theorem fk_t1_ok : FTabOk Tryz.prog fk_t1 := ftab_or fk_lt1_ok fk_t0_ok
def fk_lm1 : MTab := fun f => cond (Nat.beq f 37) f0_37 (cond (Nat.beq f 63) f0_63 (cond (Nat.beq f 98) f0_98 (cond (Nat.beq f 109) f0_109 (cond (Nat.beq f 110) f0_110 (cond (Nat.beq f 128) f0_128 (cond (Nat.beq f 129) f0_129 (cond (Nat.beq f 162) f0_162 (cond (Nat.beq f 165) f0_165 (cond (Nat.beq f 202) f0_202 (cond (Nat.beq f 224) f0_224 (cond (Nat.beq f 230) (f0_230a ++ (f0_230b)) (cond (Nat.beq f 231) (f0_231a ++ (f0_231b)) (cond (Nat.beq f 268) f0_268 (cond (Nat.beq f 271) (f0_271a ++ (f0_271b)) (cond (Nat.beq f 329) f0_329 (cond (Nat.beq f 337) f0_337 (cond (Nat.beq f 339) f0_339 (cond (Nat.beq f 342) f0_342 (cond (Nat.beq f 348) f0_348 (cond (Nat.beq f 350) (f0_350a ++ (f0_350b ++ (f0_350c))) (cond (Nat.beq f 351) f0_351 (cond (Nat.beq f 368) f0_368 (cond (Nat.beq f 371) (f0_371a ++ (f0_371b)) (cond (Nat.beq f 372) (f0_372a ++ (f0_372b ++ (f0_372c))) ([])))))))))))))))))))))))))
theorem fk_lm1_ok : MTabOk Tryz.prog fk_lm1 := (mtab_node f0_37_k (mtab_node f0_63_k (mtab_node f0_98_k (mtab_node f0_109_k (mtab_node f0_110_k (mtab_node f0_128_k (mtab_node f0_129_k (mtab_node f0_162_k (mtab_node f0_165_k (mtab_node f0_202_k (mtab_node f0_224_k (mtab_node (okM_app f0_230a_k f0_230b_k) (mtab_node (okM_app f0_231a_k f0_231b_k) (mtab_node f0_268_k (mtab_node (okM_app f0_271a_k f0_271b_k) (mtab_node f0_329_k (mtab_node f0_337_k (mtab_node f0_339_k (mtab_node f0_342_k (mtab_node f0_348_k (mtab_node (okM_app f0_350a_k (okM_app f0_350b_k f0_350c_k)) (mtab_node f0_351_k (mtab_node f0_368_k (mtab_node (okM_app f0_371a_k f0_371b_k) (mtab_node (okM_app f0_372a_k (okM_app f0_372b_k f0_372c_k)) mtab_leaf)))))))))))))))))))))))))
def fk_m1 : MTab := fun f => fk_lm1 f ++ fk_m0 f
theorem fk_m1_ok : MTabOk Tryz.prog fk_m1 := mtab_or fk_lm1_ok fk_m0_ok
noncomputable abbrev fk_c1 : CH := fk_ch fk_t1 fk_m1
theorem fk_c1_ok : CHOk Tryz.prog fk_c1 := fk_ch_ok fk_t1_ok fk_m1_ok
noncomputable abbrev fk_w1 : Teller := tellRD Tryz.prog tyTab 400 fk_ds fk_il fk_c1
theorem fk_w1_ok : TellOk Tryz.prog fk_w1 := tellRD_ok tab_ok mixed noNum fk_c1_ok
theorem fk_u1 {g l} (h : chkF (pureT fk_w1) g l = true) : okL Tryz.prog g l := chkF_ok (tell := fk_w1) fk_w1_ok h
theorem fk_v1 {g l} (h : chkM fk_w1 g l = true) : okM Tryz.prog g l := chkM_ok (tell := fk_w1) fk_w1_ok h
end Go.Ev

