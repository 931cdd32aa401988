import Derived.Test.YtdooglicnibhlaaGreatFkT1
namespace Go.Ev
open Go.Proofs
set_option linter.unusedVariables false
set_option maxRecDepth 100000
def e1_87 : List (List AVal × AVal) := [([.agg (c8 0 (c8 0 (c8 (-jC) [])))], .agg (c8 jB []))]
theorem e1_87_k : okL Tryz.prog 87 e1_87 := fk_u1 (by kernel_rfl)
def e1_91a : List (List AVal × AVal) := [((qz [jB,0]), qi jB),
 ((qz [jB,jB]), qi 0),
 ((qz [0,0]), qi 0),
 ((qz [jB,-jB]), qi jI),
 ((qz [0,-jF]), qi jF),
 ((qz [jF,0]), qi jF)]
theorem e1_91a_k : okL Tryz.prog 91 e1_91a := fk_u1 (by kernel_rfl)
def e1_91b : List (List AVal × AVal) := [((qz [jF,jF]), qi 0)]
theorem e1_91b_k : okL Tryz.prog 91 e1_91b := fk_u1 (by kernel_rfl)
def e1_112a : List (List AVal × AVal) := [([.agg (c8 jB []),qi 32], qi jB),
 ([.agg (c8 0 []),qi 32], qi 0),
 ([.agg (c8 (-jP) []),qi 64], qi (-jE)),
 ([.agg (c8 (-jW) []),qi 64], qi (-jI)),
 ([.agg (c8 jP []),qi 64], qi jE),
 ([.agg (c8 0 []),qi 64], qi 0)]
theorem e1_112a_k : okL Tryz.prog 112 e1_112a := fk_u1 (by kernel_rfl)
def e1_112b : List (List AVal × AVal) := [([.agg (c8 jH []),qi 64], qi jB),
 ([.agg (c8 (-jB) []),qi 32], qi (-jB)),
 ([.agg (c8 (-jR) []),qi 64], qi (-jF)),
 ([.agg (c8 0 []),qi 16], qi 0),
 ([.agg (c8 jC []),qi 16], qi jB),
 ([.agg (c8 52818775009509558395695966890 []),qi 96], qi jb)]
theorem e1_112b_k : okL Tryz.prog 112 e1_112b := fk_u1 (by kernel_rfl)
def e1_112c : List (List AVal × AVal) := [([.agg (c8 jY []),qi 96], qi jG),
 ([.agg (c8 0 []),qi 96], qi 0),
 ([.agg (c8 (-jH) []),qi 64], qi (-jB)),
 ([.agg (c8 jW []),qi 64], qi jI),
 ([.agg (c8 jd []),qi 97], qi jB),
 ([.agg (c8 0 []),qi 97], qi 0)]
theorem e1_112c_k : okL Tryz.prog 112 e1_112c := fk_u1 (by kernel_rfl)
def e1_118 : List (List AVal × AVal) := [([qi 0], .agg (c8 0 []))]
theorem e1_118_k : okL Tryz.prog 118 e1_118 := fk_u1 (by kernel_rfl)
def e1_146 : List (List AVal × AVal) := [([qi jB], .agg (c8 jH []))]
theorem e1_146_k : okL Tryz.prog 146 e1_146 := fk_u1 (by kernel_rfl)
def e1_153 : List (List AVal × AVal) := [([qi 0], qi 0),
 ([qi (-jF)], qi (-jF))]
theorem e1_153_k : okL Tryz.prog 153 e1_153 := fk_u1 (by kernel_rfl)
def e1_155a : List (List AVal × AVal) := [((qz [0,0]), qi 0),
 ((qz [0,jB]), qi jB),
 ((qz [jB,67108864]), qi jZ),
 ((qz [jB,0]), qi jB),
 ((qz [-jF,0]), qi (-jF)),
 ((qz [0,jF]), qi jF)]
theorem e1_155a_k : okL Tryz.prog 155 e1_155a := fk_u1 (by kernel_rfl)
def e1_155b : List (List AVal × AVal) := [((qz [-jF,jF]), qi 0),
 ((qz [jF,0]), qi jF)]
theorem e1_155b_k : okL Tryz.prog 155 e1_155b := fk_u1 (by kernel_rfl)
def e1_160a : List (List AVal × AVal) := [((qz [0,jQ]), .agg (c8 0 [])),
 ((qz [-jj,jQ]), .agg (c8 (-jR) [])),
 ((qz [0,0]), .agg (c8 0 [])),
 ((qz [-jB,0]), .agg (c8 0 [])),
 ((qz [-jB,jB]), .agg (c8 (-jH) [])),
 ((qz [0,jB]), .agg (c8 0 []))]
theorem e1_160a_k : okL Tryz.prog 160 e1_160a := fk_u1 (by kernel_rfl)
def e1_160b : List (List AVal × AVal) := [((qz [-jB,-jB]), .agg (c8 jH [])),
 ((qz [0,-jB]), .agg (c8 0 [])),
 ((qz [jI,0]), .agg (c8 0 [])),
 ((qz [0,jI]), .agg (c8 0 [])),
 ((qz [jG,0]), .agg (c8 0 [])),
 ((qz [jI,-jB]), .agg (c8 (-jW) []))]
theorem e1_160b_k : okL Tryz.prog 160 e1_160b := fk_u1 (by kernel_rfl)
def e1_160c : List (List AVal × AVal) := [((qz [0,-jI]), .agg (c8 0 [])),
 ((qz [jF,0]), .agg (c8 0 [])),
 ((qz [jF,-jB]), .agg (c8 (-jR) [])),
 ((qz [0,-jF]), .agg (c8 0 [])),
 ((qz [0,jF]), .agg (c8 0 []))]
theorem e1_160c_k : okL Tryz.prog 160 e1_160c := fk_u1 (by kernel_rfl)
def e1_163 : List (List AVal × AVal) := [([qi 0], qi 0),
 ([qi (-jF)], qi (-jF))]
theorem e1_163_k : okL Tryz.prog 163 e1_163 := fk_u1 (by kernel_rfl)
def e1_168 : List (List AVal × AVal) := [([qu 2], qi 2),
 ([qu 1], qi 1),
 ([qu 3], qi 2)]
theorem e1_168_k : okL Tryz.prog 168 e1_168 := fk_u1 (by kernel_rfl)
def e1_176a : List (List AVal × AVal) := [([.agg (qz [-jE,-jE,-jI])], .tup [.agg (qz [-jA,-jA,-jK]),qi 0]),
 ([.agg (qz [jE,-jE,-jI])], .tup [.agg (qz [jA,-jA,-jK]),qi 0]),
 ([.agg (qz [-jE,jE,-jI])], .tup [.agg (qz [-jA,jA,-jK]),qi 0]),
 ([.agg (qz [jE,jE,-jI])], .tup [.agg (qz [jA,jA,-jK]),qi 0]),
 ([.agg (qz [-jE,-jE,0])], .tup [.agg (qz [-jA,-jA,0]),qi 0]),
 ([.agg (qz [jE,-jE,0])], .tup [.agg (qz [jA,-jA,0]),qi 0])]
theorem e1_176a_k : okL Tryz.prog 176 e1_176a := fk_u1 (by kernel_rfl)
def e1_176b : List (List AVal × AVal) := [([.agg (qz [-jE,jE,0])], .tup [.agg (qz [-jA,jA,0]),qi 0]),
 ([.agg (qz [jE,jE,0])], .tup [.agg (qz [jA,jA,0]),qi 0]),
 ([.agg (qz [0,0,jB])], .tup [.agg (qz [0,0,jC]),qi 0])]
theorem e1_176b_k : okL Tryz.prog 176 e1_176b := fk_u1 (by kernel_rfl)
def e1_197 : List (List AVal × AVal) := [([.agg (qz [0,0,jK]),.agg (qz [jJ,jJ,jK])], .agg (c8 (-jh) (c8 jh (c8 0 [])))),
 ([.agg (qz [0,0,-jK]),.agg (qz [-jJ,-jJ,-jK])], .agg (c8 (-jh) (c8 jh (c8 0 []))))]
theorem e1_197_k : okL Tryz.prog 197 e1_197 := fk_u1 (by kernel_rfl)
def e1_207 : List (List AVal × AVal) := [([.agg (c8 0 []),.agg (c8 jB [])], .agg (c8 0 [])),
 ([.agg (c8 jH []),.agg (c8 jB [])], .agg (c8 jB [])),
 ([.agg (c8 jH []),.agg (c8 jb [])], .agg (c8 jG [])),
 ([.agg (c8 0 []),.agg (c8 jQ [])], .agg (c8 0 [])),
 ([.agg (c8 jR []),.agg (c8 jB [])], .agg (c8 jF [])),
 ([.agg (c8 (-jR) []),.agg (c8 jB [])], .agg (c8 (-jF) []))]
theorem e1_207_k : okL Tryz.prog 207 e1_207 := fk_u1 (by kernel_rfl)
def e1_215 : List (List AVal × AVal) := [([.agg (qz [0,0,-jB])], .agg (qz [jB,0,0]))]
theorem e1_215_k : okL Tryz.prog 215 e1_215 := fk_u1 (by kernel_rfl)
def e1_227a : List (List AVal × AVal) := [([.agg (qz [-jA,-jA,-jK,jA,jA,0])], qi 0),
 ([.agg (qz [-jL,-jL,-jO,jL,jL,jU])], qi 0),
 ([.agg (qz [0,0,jC,0,0,jC])], qi 0),
 ([.agg (qz [-jM,-jM,-jU,jM,jM,jO])], qi 0),
 ([.agg (qz [-jN,-jN,-jS,jN,jN,jk])], qi 0),
 ([.agg (qz [-jV,-jV,-jk,jV,jV,jS])], qi 0)]
theorem e1_227a_k : okL Tryz.prog 227 e1_227a := fk_u1 (by kernel_rfl)
def e1_227b : List (List AVal × AVal) := [([.agg (qz [-jN,-jN,-jS,jN,jN,jS])], qi 0),
 ([.agg (qz [-jV,-jV,-jk,jV,jV,jU])], qi 0),
 ([.agg (qz [-jM,-jM,-jU,jM,jM,jU])], qi 0),
 ([.agg (qz [-jM,-jM,-jU,jM,jM,jk])], qi 0)]
theorem e1_227b_k : okL Tryz.prog 227 e1_227b := fk_u1 (by kernel_rfl)
def e1_241 : List (List AVal × AVal) := [([.agg (c8 jB (c8 0 (c8 0 (c8 0 []))))], .agg (c8 jH []))]
theorem e1_241_k : okL Tryz.prog 241 e1_241 := fk_u1 (by kernel_rfl)
def e1_244 : List (List AVal × AVal) := [([.agg (qz [jB,0,0,0,jB,0,0,0,jB])], .agg (c8 jB (c8 0 (c8 0 (c8 0 (c8 jB (c8 0 (c8 0 (c8 0 (c8 jB []))))))))))]
theorem e1_244_k : okL Tryz.prog 244 e1_244 := fk_u1 (by kernel_rfl)
def e1_259 : List (List AVal × AVal) := [((qz [2,1]), .bool false),
 ((qz [1,2]), .bool true),
 ((qz [7,0]), .bool false),
 ((qz [4,7]), .bool true),
 ((qz [4,0]), .bool false)]
theorem e1_259_k : okL Tryz.prog 259 e1_259 := fk_u1 (by kernel_rfl)
def e1_291a : List (List AVal × AVal) := [([.agg (c8 (-jA) (c8 (-jA) (c8 (-jD) []))),.agg (qz [-jA,-jA,-jD])], .tup [.agg (c8 ji []),.bool true]),
 ([.agg (c8 (-jA) (c8 (-jA) (c8 (-jD) []))),.agg (qz [jA,-jA,-jD])], .tup [.agg (c8 38654705664 []),.bool true]),
 ([.agg (c8 (-jA) (c8 (-jA) (c8 (-jD) []))),.agg (qz [-jA,jA,-jD])], .tup [.agg (c8 38654705664 []),.bool true]),
 ([.agg (c8 (-jA) (c8 (-jA) (c8 (-jD) []))),.agg (qz [jA,jA,-jD])], .tup [.agg (c8 (-98784247808) []),.bool true]),
 ([.agg (c8 (-jA) (c8 (-jA) (c8 (-jD) []))),.agg (qz [-jA,-jA,-jC])], .tup [.agg (c8 150323855360 []),.bool true]),
 ([.agg (c8 (-jA) (c8 (-jA) (c8 (-jD) []))),.agg (qz [jA,-jA,-jC])], .tup [.agg (c8 jg []),.bool true])]
theorem e1_291a_k : okL Tryz.prog 291 e1_291a := fk_u1 (by kernel_rfl)
def e1_291b : List (List AVal × AVal) := [([.agg (c8 (-jA) (c8 (-jA) (c8 (-jD) []))),.agg (qz [-jA,jA,-jC])], .tup [.agg (c8 jg []),.bool true]),
 ([.agg (c8 (-jA) (c8 (-jA) (c8 (-jD) []))),.agg (qz [jA,jA,-jC])], .tup [.agg (c8 (-124554051584) []),.bool true]),
 ([.agg (c8 jA (c8 jA (c8 (-jC) []))),.agg (qz [-jA,-jA,-jD])], .tup [.agg (c8 (-124554051584) []),.bool true]),
 ([.agg (c8 jJ (c8 jJ (c8 jK []))),.agg (qz [jJ,jJ,jK])], .tup [.agg (c8 jl []),.bool true]),
 ([.agg (c8 jJ (c8 jJ (c8 jK []))),.agg (qz [-jA,-jA,-jD])], .tup [.agg (c8 (-jf) []),.bool true]),
 ([.agg (c8 jJ (c8 jJ (c8 (-jX) []))),.agg (qz [-jA,-jA,-jD])], .tup [.agg (c8 ja []),.bool true])]
theorem e1_291b_k : okL Tryz.prog 291 e1_291b := fk_u1 (by kernel_rfl)
def e1_291c : List (List AVal × AVal) := [([.agg (c8 jJ (c8 jJ (c8 (-jX) []))),.agg (qz [jA,jA,-jC])], .tup [.agg (c8 ja []),.bool true]),
 ([.agg (c8 jJ (c8 jJ (c8 (-jX) []))),.agg (qz [jA,-jA,-jD])], .tup [.agg (c8 824633720832 []),.bool true]),
 ([.agg (c8 jJ (c8 jJ (c8 (-jX) []))),.agg (qz [-jA,jA,-jD])], .tup [.agg (c8 824633720832 []),.bool true]),
 ([.agg (c8 jJ (c8 jJ (c8 (-jX) []))),.agg (qz [jA,jA,-jD])], .tup [.agg (c8 jn []),.bool true]),
 ([.agg (c8 jJ (c8 jJ (c8 (-jX) []))),.agg (qz [-jA,-jA,-jC])], .tup [.agg (c8 0 []),.bool true]),
 ([.agg (c8 jJ (c8 jJ (c8 (-jX) []))),.agg (qz [jA,-jA,-jC])], .tup [.agg (c8 jT []),.bool true])]
theorem e1_291c_k : okL Tryz.prog 291 e1_291c := fk_u1 (by kernel_rfl)
def e1_291d : List (List AVal × AVal) := [([.agg (c8 jJ (c8 jJ (c8 (-jX) []))),.agg (qz [-jA,jA,-jC])], .tup [.agg (c8 jT []),.bool true]),
 ([.agg (c8 (-jA) (c8 (-jA) (c8 (-jC) []))),.agg (qz [-jA,-jA,-jD])], .tup [.agg (c8 150323855360 []),.bool true]),
 ([.agg (c8 (-jA) (c8 (-jA) (c8 (-jC) []))),.agg (qz [-jA,-jA,-jC])], .tup [.agg (c8 je []),.bool true]),
 ([.agg (c8 (-jA) (c8 (-jA) (c8 (-jC) []))),.agg (qz [jA,jA,-jC])], .tup [.agg (c8 (-133143986176) []),.bool true]),
 ([.agg (c8 0 (c8 0 (c8 jK []))),.agg (qz [0,0,jK])], .tup [.agg (c8 jE []),.bool true]),
 ([.agg (c8 0 (c8 0 (c8 jK []))),.agg (qz [-jA,-jA,-jD])], .tup [.agg (c8 (-jo) []),.bool true])]
theorem e1_291d_k : okL Tryz.prog 291 e1_291d := fk_u1 (by kernel_rfl)
def e1_291e : List (List AVal × AVal) := [([.agg (c8 jJ (c8 jJ (c8 0 []))),.agg (qz [jJ,jJ,0])], .tup [.agg (c8 ja []),.bool true]),
 ([.agg (c8 jJ (c8 jJ (c8 0 []))),.agg (qz [-jA,-jA,-jC])], .tup [.agg (c8 (-jT) []),.bool true]),
 ([.agg (c8 0 (c8 0 (c8 (-jC) []))),.agg (qz [-jA,-jA,-jD])], .tup [.agg (c8 jg []),.bool true]),
 ([.agg (c8 0 (c8 0 (c8 (-jC) []))),.agg (qz [-jA,-jA,-jC])], .tup [.agg (c8 jB []),.bool true]),
 ([.agg (c8 0 (c8 0 (c8 (-jC) []))),.agg (qz [jA,jA,-jC])], .tup [.agg (c8 jB []),.bool true]),
 ([.agg (c8 0 (c8 0 (c8 (-jC) []))),.agg (qz [jA,-jA,-jD])], .tup [.agg (c8 jg []),.bool true])]
theorem e1_291e_k : okL Tryz.prog 291 e1_291e := fk_u1 (by kernel_rfl)
def e1_291f : List (List AVal × AVal) := [([.agg (c8 0 (c8 0 (c8 (-jC) []))),.agg (qz [-jA,jA,-jD])], .tup [.agg (c8 jg []),.bool true]),
 ([.agg (c8 0 (c8 0 (c8 (-jC) []))),.agg (qz [jA,jA,-jD])], .tup [.agg (c8 jg []),.bool true]),
 ([.agg (c8 0 (c8 0 (c8 (-jC) []))),.agg (qz [jA,-jA,-jC])], .tup [.agg (c8 jB []),.bool true]),
 ([.agg (c8 0 (c8 0 (c8 (-jC) []))),.agg (qz [-jA,jA,-jC])], .tup [.agg (c8 jB []),.bool true]),
 ([.agg (c8 jA (c8 (-jA) (c8 (-jD) []))),.agg (qz [jA,-jA,-jD])], .tup [.agg (c8 ji []),.bool true]),
 ([.agg (c8 (-jA) (c8 jA (c8 (-jD) []))),.agg (qz [-jA,jA,-jD])], .tup [.agg (c8 ji []),.bool true])]
theorem e1_291f_k : okL Tryz.prog 291 e1_291f := fk_u1 (by kernel_rfl)
def e1_291g : List (List AVal × AVal) := [([.agg (c8 jA (c8 jA (c8 (-jD) []))),.agg (qz [jA,jA,-jD])], .tup [.agg (c8 ji []),.bool true]),
 ([.agg (c8 jA (c8 (-jA) (c8 (-jC) []))),.agg (qz [jA,-jA,-jC])], .tup [.agg (c8 je []),.bool true]),
 ([.agg (c8 (-jA) (c8 jA (c8 (-jC) []))),.agg (qz [-jA,jA,-jC])], .tup [.agg (c8 je []),.bool true]),
 ([.agg (c8 jA (c8 jA (c8 (-jC) []))),.agg (qz [jA,jA,-jC])], .tup [.agg (c8 je []),.bool true]),
 ([.agg (c8 jA (c8 jA (c8 jD []))),.agg (qz [jA,jA,jD])], .tup [.agg (c8 ji []),.bool true]),
 ([.agg (c8 jA (c8 jA (c8 jD []))),.agg (qz [-jA,jA,jD])], .tup [.agg (c8 38654705664 []),.bool true])]
theorem e1_291g_k : okL Tryz.prog 291 e1_291g := fk_u1 (by kernel_rfl)
def e1_291h : List (List AVal × AVal) := [([.agg (c8 jA (c8 jA (c8 jD []))),.agg (qz [jA,-jA,jD])], .tup [.agg (c8 38654705664 []),.bool true]),
 ([.agg (c8 jA (c8 jA (c8 jD []))),.agg (qz [-jA,-jA,jD])], .tup [.agg (c8 (-98784247808) []),.bool true]),
 ([.agg (c8 jA (c8 jA (c8 jD []))),.agg (qz [jA,jA,jC])], .tup [.agg (c8 150323855360 []),.bool true]),
 ([.agg (c8 jA (c8 jA (c8 jD []))),.agg (qz [-jA,jA,jC])], .tup [.agg (c8 jg []),.bool true]),
 ([.agg (c8 jA (c8 jA (c8 jD []))),.agg (qz [jA,-jA,jC])], .tup [.agg (c8 jg []),.bool true]),
 ([.agg (c8 jA (c8 jA (c8 jD []))),.agg (qz [-jA,-jA,jC])], .tup [.agg (c8 (-124554051584) []),.bool true])]
theorem e1_291h_k : okL Tryz.prog 291 e1_291h := fk_u1 (by kernel_rfl)
def e1_291i : List (List AVal × AVal) := [([.agg (c8 (-jA) (c8 (-jA) (c8 jC []))),.agg (qz [jA,jA,jD])], .tup [.agg (c8 (-124554051584) []),.bool true]),
 ([.agg (c8 (-jJ) (c8 (-jJ) (c8 (-jK) []))),.agg (qz [-jJ,-jJ,-jK])], .tup [.agg (c8 jl []),.bool true]),
 ([.agg (c8 (-jJ) (c8 (-jJ) (c8 (-jK) []))),.agg (qz [jA,jA,jD])], .tup [.agg (c8 (-jf) []),.bool true]),
 ([.agg (c8 (-jJ) (c8 (-jJ) (c8 jX []))),.agg (qz [jA,jA,jD])], .tup [.agg (c8 ja []),.bool true]),
 ([.agg (c8 (-jJ) (c8 (-jJ) (c8 jX []))),.agg (qz [-jA,-jA,jC])], .tup [.agg (c8 ja []),.bool true]),
 ([.agg (c8 (-jJ) (c8 (-jJ) (c8 jX []))),.agg (qz [-jA,jA,jD])], .tup [.agg (c8 824633720832 []),.bool true])]
theorem e1_291i_k : okL Tryz.prog 291 e1_291i := fk_u1 (by kernel_rfl)
def e1_291j : List (List AVal × AVal) := [([.agg (c8 (-jJ) (c8 (-jJ) (c8 jX []))),.agg (qz [jA,-jA,jD])], .tup [.agg (c8 824633720832 []),.bool true]),
 ([.agg (c8 (-jJ) (c8 (-jJ) (c8 jX []))),.agg (qz [-jA,-jA,jD])], .tup [.agg (c8 jn []),.bool true]),
 ([.agg (c8 (-jJ) (c8 (-jJ) (c8 jX []))),.agg (qz [jA,jA,jC])], .tup [.agg (c8 0 []),.bool true]),
 ([.agg (c8 (-jJ) (c8 (-jJ) (c8 jX []))),.agg (qz [-jA,jA,jC])], .tup [.agg (c8 jT []),.bool true]),
 ([.agg (c8 (-jJ) (c8 (-jJ) (c8 jX []))),.agg (qz [jA,-jA,jC])], .tup [.agg (c8 jT []),.bool true]),
 ([.agg (c8 jA (c8 jA (c8 jC []))),.agg (qz [jA,jA,jD])], .tup [.agg (c8 150323855360 []),.bool true])]
theorem e1_291j_k : okL Tryz.prog 291 e1_291j := fk_u1 (by kernel_rfl)
def e1_291k : List (List AVal × AVal) := [([.agg (c8 jA (c8 jA (c8 jC []))),.agg (qz [jA,jA,jC])], .tup [.agg (c8 je []),.bool true]),
 ([.agg (c8 jA (c8 jA (c8 jC []))),.agg (qz [-jA,-jA,jC])], .tup [.agg (c8 (-133143986176) []),.bool true]),
 ([.agg (c8 0 (c8 0 (c8 (-jK) []))),.agg (qz [0,0,-jK])], .tup [.agg (c8 jE []),.bool true]),
 ([.agg (c8 0 (c8 0 (c8 (-jK) []))),.agg (qz [jA,jA,jD])], .tup [.agg (c8 (-jo) []),.bool true]),
 ([.agg (c8 (-jJ) (c8 (-jJ) (c8 0 []))),.agg (qz [-jJ,-jJ,0])], .tup [.agg (c8 ja []),.bool true]),
 ([.agg (c8 (-jJ) (c8 (-jJ) (c8 0 []))),.agg (qz [jA,jA,jC])], .tup [.agg (c8 (-jT) []),.bool true])]
theorem e1_291k_k : okL Tryz.prog 291 e1_291k := fk_u1 (by kernel_rfl)
def e1_291l : List (List AVal × AVal) := [([.agg (c8 0 (c8 0 (c8 jC []))),.agg (qz [jA,jA,jD])], .tup [.agg (c8 jg []),.bool true]),
 ([.agg (c8 0 (c8 0 (c8 jC []))),.agg (qz [jA,jA,jC])], .tup [.agg (c8 jB []),.bool true]),
 ([.agg (c8 0 (c8 0 (c8 jC []))),.agg (qz [-jA,-jA,jC])], .tup [.agg (c8 jB []),.bool true]),
 ([.agg (c8 0 (c8 0 (c8 jC []))),.agg (qz [-jA,jA,jD])], .tup [.agg (c8 jg []),.bool true]),
 ([.agg (c8 0 (c8 0 (c8 jC []))),.agg (qz [jA,-jA,jD])], .tup [.agg (c8 jg []),.bool true]),
 ([.agg (c8 0 (c8 0 (c8 jC []))),.agg (qz [-jA,-jA,jD])], .tup [.agg (c8 jg []),.bool true])]
theorem e1_291l_k : okL Tryz.prog 291 e1_291l := fk_u1 (by kernel_rfl)
def e1_291m : List (List AVal × AVal) := [([.agg (c8 0 (c8 0 (c8 jC []))),.agg (qz [-jA,jA,jC])], .tup [.agg (c8 jB []),.bool true]),
 ([.agg (c8 0 (c8 0 (c8 jC []))),.agg (qz [jA,-jA,jC])], .tup [.agg (c8 jB []),.bool true])]
theorem e1_291m_k : okL Tryz.prog 291 e1_291m := fk_u1 (by kernel_rfl)
def e1_305 : List (List AVal × AVal) := [([.agg (c8 jH [])], .agg (c8 jB []))]
theorem e1_305_k : okL Tryz.prog 305 e1_305 := fk_u1 (by kernel_rfl)
def e1_312 : List (List AVal × AVal) := [([.agg (c8 0 (c8 0 (c8 0 (c8 0 [])))),.agg (c8 jB (c8 0 (c8 0 (c8 0 []))))], .agg (c8 0 (c8 0 (c8 0 (c8 0 [])))))]
theorem e1_312_k : okL Tryz.prog 312 e1_312 := fk_u1 (by kernel_rfl)
def e1_384a : List (List AVal × AVal) := [([qu 1], qi 1),
 ([qu 3], qi 2),
 ([qu 2], qi 1),
 ([qu 7], qi 3),
 ([qu 6], qi 2),
 ([qu 5], qi 2)]
theorem e1_384a_k : okL Tryz.prog 384 e1_384a := fk_u1 (by kernel_rfl)
def e1_384b : List (List AVal × AVal) := [([qu 4], qi 1)]
theorem e1_384b_k : okL Tryz.prog 384 e1_384b := fk_u1 (by kernel_rfl)
def f1_60 : List MF := [⟨[.nils], ⟨0,[]⟩, (qi 0, ⟨0,[]⟩)⟩]
theorem f1_60_k : okM Tryz.prog 60 f1_60 := fk_v1 (by kernel_rfl)
def f1_73 : List MF := [⟨[.agg (qs [3,0,jE,jE,jB] [.nils])], ⟨0,[]⟩, (.agg (qs [3,0,jE,jE,jB] [.nils]), ⟨0,[]⟩)⟩,
 ⟨[.agg (qs [1,jB,0,0,0] [.nils])], ⟨0,[]⟩, (.agg (qs [1,jB,0,0,0] [.nils]), ⟨0,[]⟩)⟩]
theorem f1_73_k : okM Tryz.prog 73 f1_73 := fk_v1 (by kernel_rfl)
def f1_77 : List MF := [⟨[], ⟨0,[]⟩, (.ptr 0 0, ⟨4,[(0,.cells [.ptr 1 0,.map 2] true none),(1,.cells [.bool true,qi 8192,.nils,.nils,qi (-1),.map 3] true none),(2,.map [] 0),(3,.map [] 0)]⟩)⟩]
theorem f1_77_k : okM Tryz.prog 77 f1_77 := fk_v1 (by kernel_rfl)
def f1_97 : List MF := [⟨[.vec 0], ⟨1,[(0,.vec (qz [2,0,0,0,jC]) 1 5 false)]⟩, (qi 0, ⟨1,[(0,.vec (qz [2,0,0,0,jC]) 1 5 false)]⟩)⟩]
theorem f1_97_k : okM Tryz.prog 97 f1_97 := fk_v1 (by kernel_rfl)
def f1_109 : List MF := [⟨[qi 1,.func 110 [] [.ptr 1 0]], ⟨2,[(0,.vec (qz [1,2,2,0]) 1 4 false),(1,.cells [.vec 0] false none)]⟩, (qi 0, ⟨2,[(0,.vec (qz [1,2,2,0]) 1 4 false),(1,.cells [.vec 0] false none)]⟩)⟩]
theorem f1_109_k : okM Tryz.prog 109 f1_109 := fk_v1 (by kernel_rfl)
def f1_134 : List MF := [⟨[.nils], ⟨0,[]⟩, (qi 0, ⟨0,[]⟩)⟩]
theorem f1_134_k : okM Tryz.prog 134 f1_134 := fk_v1 (by kernel_rfl)
def f1_144 : List MF := [⟨[.agg (qs [1,3,0,jE,jE,jB] (.nils :: (qs [0,0,-jB,jB,0,0,0,0,0,0,0,0,0,0,0] [])))], ⟨0,[]⟩, (.bool true, ⟨0,[]⟩)⟩]
theorem f1_144_k : okM Tryz.prog 144 f1_144 := fk_v1 (by kernel_rfl)
def f1_177a : List MF := [⟨[.vec 0,.vec 1], ⟨2,[(0,.vec (qz [-jA,-jA,-jK,jA,-jA,-jK,-jA,jA,-jK,jA,jA,-jK,-jA,-jA,0,jA,-jA,0,-jA,jA,0,jA,jA,0]) 8 3 false),(1,.vec (qz [0,0,jC]) 1 3 false)]⟩, (.tup [.vec 2,qi 0], ⟨3,[(0,.vec (qz [-jA,-jA,-jK,jA,-jA,-jK,-jA,jA,-jK,jA,jA,-jK,-jA,-jA,0,jA,-jA,0,-jA,jA,0,jA,jA,0]) 8 3 false),(1,.vec (qz [0,0,jC]) 1 3 false),(2,.vec (qz [-jA,-jA,-jD,jA,-jA,-jD,-jA,jA,-jD,jA,jA,-jD,-jA,-jA,-jC,jA,-jA,-jC,-jA,jA,-jC,jA,jA,-jC]) 8 3 true)]⟩)⟩,
 ⟨[.vec 0,.vec 1], ⟨2,[(0,.vec (qz [-jA,-jA,-jK]) 1 3 false),(1,.vec (qz [0,0,jC]) 1 3 false)]⟩, (.tup [.vec 2,qi 0], ⟨3,[(0,.vec (qz [-jA,-jA,-jK]) 1 3 false),(1,.vec (qz [0,0,jC]) 1 3 false),(2,.vec (qz [-jA,-jA,-jD]) 1 3 true)]⟩)⟩,
 ⟨[.vec 0,.vec 1], ⟨2,[(0,.vec (qz [jA,-jA,-jK]) 1 3 false),(1,.vec (qz [0,0,jC]) 1 3 false)]⟩, (.tup [.vec 2,qi 0], ⟨3,[(0,.vec (qz [jA,-jA,-jK]) 1 3 false),(1,.vec (qz [0,0,jC]) 1 3 false),(2,.vec (qz [jA,-jA,-jD]) 1 3 true)]⟩)⟩,
 ⟨[.vec 0,.vec 1], ⟨2,[(0,.vec (qz [-jA,jA,-jK]) 1 3 false),(1,.vec (qz [0,0,jC]) 1 3 false)]⟩, (.tup [.vec 2,qi 0], ⟨3,[(0,.vec (qz [-jA,jA,-jK]) 1 3 false),(1,.vec (qz [0,0,jC]) 1 3 false),(2,.vec (qz [-jA,jA,-jD]) 1 3 true)]⟩)⟩,
 ⟨[.vec 0,.vec 1], ⟨2,[(0,.vec (qz [jA,jA,-jK]) 1 3 false),(1,.vec (qz [0,0,jC]) 1 3 false)]⟩, (.tup [.vec 2,qi 0], ⟨3,[(0,.vec (qz [jA,jA,-jK]) 1 3 false),(1,.vec (qz [0,0,jC]) 1 3 false),(2,.vec (qz [jA,jA,-jD]) 1 3 true)]⟩)⟩,
 ⟨[.vec 0,.vec 1], ⟨2,[(0,.vec (qz [-jA,-jA,0]) 1 3 false),(1,.vec (qz [0,0,jC]) 1 3 false)]⟩, (.tup [.vec 2,qi 0], ⟨3,[(0,.vec (qz [-jA,-jA,0]) 1 3 false),(1,.vec (qz [0,0,jC]) 1 3 false),(2,.vec (qz [-jA,-jA,-jC]) 1 3 true)]⟩)⟩]
theorem f1_177a_k : okM Tryz.prog 177 f1_177a := fk_v1 (by kernel_rfl)
def f1_177b : List MF := [⟨[.vec 0,.vec 1], ⟨2,[(0,.vec (qz [jA,-jA,0]) 1 3 false),(1,.vec (qz [0,0,jC]) 1 3 false)]⟩, (.tup [.vec 2,qi 0], ⟨3,[(0,.vec (qz [jA,-jA,0]) 1 3 false),(1,.vec (qz [0,0,jC]) 1 3 false),(2,.vec (qz [jA,-jA,-jC]) 1 3 true)]⟩)⟩,
 ⟨[.vec 0,.vec 1], ⟨2,[(0,.vec (qz [-jA,jA,0]) 1 3 false),(1,.vec (qz [0,0,jC]) 1 3 false)]⟩, (.tup [.vec 2,qi 0], ⟨3,[(0,.vec (qz [-jA,jA,0]) 1 3 false),(1,.vec (qz [0,0,jC]) 1 3 false),(2,.vec (qz [-jA,jA,-jC]) 1 3 true)]⟩)⟩,
 ⟨[.vec 0,.vec 1], ⟨2,[(0,.vec (qz [jA,jA,0]) 1 3 false),(1,.vec (qz [0,0,jC]) 1 3 false)]⟩, (.tup [.vec 2,qi 0], ⟨3,[(0,.vec (qz [jA,jA,0]) 1 3 false),(1,.vec (qz [0,0,jC]) 1 3 false),(2,.vec (qz [jA,jA,-jC]) 1 3 true)]⟩)⟩,
 ⟨[.vec 0,.vec 1], ⟨2,[(0,.vec (qz [0,0,jC]) 1 3 false),(1,.vec (qz [-jA,-jA,-jK,jA,-jA,-jK,-jA,jA,-jK,jA,jA,-jK,-jA,-jA,0,jA,-jA,0,-jA,jA,0,jA,jA,0]) 8 3 false)]⟩, (.tup [.vec 2,qi 0], ⟨3,[(0,.vec (qz [0,0,jC]) 1 3 false),(1,.vec (qz [-jA,-jA,-jK,jA,-jA,-jK,-jA,jA,-jK,jA,jA,-jK,-jA,-jA,0,jA,-jA,0,-jA,jA,0,jA,jA,0]) 8 3 false),(2,.vec (qz [jA,jA,jD,-jA,jA,jD,jA,-jA,jD,-jA,-jA,jD,jA,jA,jC,-jA,jA,jC,jA,-jA,jC,-jA,-jA,jC]) 8 3 true)]⟩)⟩]
theorem f1_177b_k : okM Tryz.prog 177 f1_177b := fk_v1 (by kernel_rfl)
def f1_224 : List MF := [⟨[.vec 0], ⟨1,[(0,.vec (qz [1,2]) 1 2 false)]⟩, (qi 0, ⟨1,[(0,.vec (qz [1,2]) 1 2 false)]⟩)⟩]
theorem f1_224_k : okM Tryz.prog 224 f1_224 := fk_v1 (by kernel_rfl)
def f1_267 : List MF := [⟨[.vec 0,qi 0,qi 1,qi 1,.func 170 [] []], ⟨1,[(0,.vec (qz [1,2]) 1 2 false)]⟩, (.tup [], ⟨1,[(0,.vec (qz [1,2]) 1 2 false)]⟩)⟩]
theorem f1_267_k : okM Tryz.prog 267 f1_267 := fk_v1 (by kernel_rfl)
def f1_281 : List MF := [⟨[.nils], ⟨0,[]⟩, (.tup [.nils,qi 0], ⟨0,[]⟩)⟩]
theorem f1_281_k : okM Tryz.prog 281 f1_281 := fk_v1 (by kernel_rfl)
def f1_338 : List MF := [⟨[.agg (qs [1,jB,0,0,0] [.nils]),.ptr 0 0], ⟨1,[(0,.cells [.func 337 [] []] false none)]⟩, (.bool true, ⟨1,[(0,.cells [.func 337 [] []] false none)]⟩)⟩]
theorem f1_338_k : okM Tryz.prog 338 f1_338 := fk_v1 (by kernel_rfl)
def f1_343 : List MF := [⟨[.agg (qs [3,0,jE,jE,jB] [.nils])], ⟨0,[]⟩, (.vec 0, ⟨1,[(0,.vec (qz [-jE,-jE,-jB,jE,-jE,-jB,-jE,jE,-jB,jE,jE,-jB,-jE,-jE,jB,jE,-jE,jB,-jE,jE,jB,jE,jE,jB]) 8 3 true)]⟩)⟩]
theorem f1_343_k : okM Tryz.prog 343 f1_343 := fk_v1 (by kernel_rfl)
def f1_351a : List MF := [⟨[.vec 0], ⟨1,[(0,.vec (qz [-jA,-jA,-jD]) 1 3 false)]⟩, (.bool true, ⟨1,[(0,.vec (qz [-jA,-jA,-jD]) 1 3 false)]⟩)⟩,
 ⟨[.vec 0], ⟨1,[(0,.vec (qz [-jA,-jA,-jD,jA,jA,-jC]) 2 3 false)]⟩, (.bool true, ⟨1,[(0,.vec (qz [-jA,-jA,-jD,jA,jA,-jC]) 2 3 false)]⟩)⟩,
 ⟨[.vec 0], ⟨1,[(0,.vec (qz [jA,jA,-jC]) 1 3 false)]⟩, (.bool true, ⟨1,[(0,.vec (qz [jA,jA,-jC]) 1 3 false)]⟩)⟩,
 ⟨[.vec 0], ⟨1,[(0,.vec (qz [-jA,-jA,-jD,-jA,-jA,-jC,jA,jA,-jC]) 3 3 false)]⟩, (.bool true, ⟨1,[(0,.vec (qz [-jA,-jA,-jD,-jA,-jA,-jC,jA,jA,-jC]) 3 3 false)]⟩)⟩,
 ⟨[.vec 0], ⟨1,[(0,.vec (qz [-jA,-jA,-jC]) 1 3 false)]⟩, (.bool true, ⟨1,[(0,.vec (qz [-jA,-jA,-jC]) 1 3 false)]⟩)⟩,
 ⟨[.vec 0], ⟨1,[(0,.vec (qz [-jA,-jA,-jD,-jA,-jA,-jC]) 2 3 false)]⟩, (.bool true, ⟨1,[(0,.vec (qz [-jA,-jA,-jD,-jA,-jA,-jC]) 2 3 false)]⟩)⟩]
theorem f1_351a_k : okM Tryz.prog 351 f1_351a := fk_v1 (by kernel_rfl)
def f1_351b : List MF := [⟨[.vec 0], ⟨1,[(0,.vec (qz [-jA,-jA,-jC,jA,jA,-jC]) 2 3 false)]⟩, (.bool true, ⟨1,[(0,.vec (qz [-jA,-jA,-jC,jA,jA,-jC]) 2 3 false)]⟩)⟩,
 ⟨[.vec 0], ⟨1,[(0,.vec (qz [jA,-jA,-jD]) 1 3 false)]⟩, (.bool true, ⟨1,[(0,.vec (qz [jA,-jA,-jD]) 1 3 false)]⟩)⟩,
 ⟨[.vec 0], ⟨1,[(0,.vec (qz [-jA,jA,-jD]) 1 3 false)]⟩, (.bool true, ⟨1,[(0,.vec (qz [-jA,jA,-jD]) 1 3 false)]⟩)⟩,
 ⟨[.vec 0], ⟨1,[(0,.vec (qz [jA,jA,-jD]) 1 3 false)]⟩, (.bool true, ⟨1,[(0,.vec (qz [jA,jA,-jD]) 1 3 false)]⟩)⟩,
 ⟨[.vec 0], ⟨1,[(0,.vec (qz [jA,-jA,-jC]) 1 3 false)]⟩, (.bool true, ⟨1,[(0,.vec (qz [jA,-jA,-jC]) 1 3 false)]⟩)⟩,
 ⟨[.vec 0], ⟨1,[(0,.vec (qz [-jA,jA,-jC]) 1 3 false)]⟩, (.bool true, ⟨1,[(0,.vec (qz [-jA,jA,-jC]) 1 3 false)]⟩)⟩]
theorem f1_351b_k : okM Tryz.prog 351 f1_351b := fk_v1 (by kernel_rfl)
def f1_351c : List MF := [⟨[.vec 0], ⟨1,[(0,.vec (qz [jA,jA,jD]) 1 3 false)]⟩, (.bool true, ⟨1,[(0,.vec (qz [jA,jA,jD]) 1 3 false)]⟩)⟩,
 ⟨[.vec 0], ⟨1,[(0,.vec (qz [jA,jA,jD,-jA,-jA,jC]) 2 3 false)]⟩, (.bool true, ⟨1,[(0,.vec (qz [jA,jA,jD,-jA,-jA,jC]) 2 3 false)]⟩)⟩,
 ⟨[.vec 0], ⟨1,[(0,.vec (qz [-jA,-jA,jC]) 1 3 false)]⟩, (.bool true, ⟨1,[(0,.vec (qz [-jA,-jA,jC]) 1 3 false)]⟩)⟩,
 ⟨[.vec 0], ⟨1,[(0,.vec (qz [jA,jA,jD,jA,jA,jC,-jA,-jA,jC]) 3 3 false)]⟩, (.bool true, ⟨1,[(0,.vec (qz [jA,jA,jD,jA,jA,jC,-jA,-jA,jC]) 3 3 false)]⟩)⟩,
 ⟨[.vec 0], ⟨1,[(0,.vec (qz [jA,jA,jC]) 1 3 false)]⟩, (.bool true, ⟨1,[(0,.vec (qz [jA,jA,jC]) 1 3 false)]⟩)⟩,
 ⟨[.vec 0], ⟨1,[(0,.vec (qz [jA,jA,jD,jA,jA,jC]) 2 3 false)]⟩, (.bool true, ⟨1,[(0,.vec (qz [jA,jA,jD,jA,jA,jC]) 2 3 false)]⟩)⟩]
theorem f1_351c_k : okM Tryz.prog 351 f1_351c := fk_v1 (by kernel_rfl)
def f1_351d : List MF := [⟨[.vec 0], ⟨1,[(0,.vec (qz [jA,jA,jC,-jA,-jA,jC]) 2 3 false)]⟩, (.bool true, ⟨1,[(0,.vec (qz [jA,jA,jC,-jA,-jA,jC]) 2 3 false)]⟩)⟩]
theorem f1_351d_k : okM Tryz.prog 351 f1_351d := fk_v1 (by kernel_rfl)
def fk_lt2 : FTab := fun f => cond (Nat.beq f 87) e1_87 (cond (Nat.beq f 91) (e1_91a ++ (e1_91b)) (cond (Nat.beq f 112) (e1_112a ++ (e1_112b ++ (e1_112c))) (cond (Nat.beq f 118) e1_118 (cond (Nat.beq f 146) e1_146 (cond (Nat.beq f 153) e1_153 (cond (Nat.beq f 155) (e1_155a ++ (e1_155b)) (cond (Nat.beq f 160) (e1_160a ++ (e1_160b ++ (e1_160c))) (cond (Nat.beq f 163) e1_163 (cond (Nat.beq f 168) e1_168 (cond (Nat.beq f 176) (e1_176a ++ (e1_176b)) (cond (Nat.beq f 197) e1_197 (cond (Nat.beq f 207) e1_207 (cond (Nat.beq f 215) e1_215 (cond (Nat.beq f 227) (e1_227a ++ (e1_227b)) (cond (Nat.beq f 241) e1_241 (cond (Nat.beq f 244) e1_244 (cond (Nat.beq f 259) e1_259 (cond (Nat.beq f 291) (e1_291a ++ (e1_291b ++ (e1_291c ++ (e1_291d ++ (e1_291e ++ (e1_291f ++ (e1_291g ++ (e1_291h ++ (e1_291i ++ (e1_291j ++ (e1_291k ++ (e1_291l ++ (e1_291m))))))))))))) (cond (Nat.beq f 305) e1_305 (cond (Nat.beq f 312) e1_312 (cond (Nat.beq f 384) (e1_384a ++ (e1_384b)) ([]))))))))))))))))))))))
theorem fk_lt2_ok : FTabOk Tryz.prog fk_lt2 := (ftab_node e1_87_k (ftab_node (okL_app e1_91a_k e1_91b_k) (ftab_node (okL_app e1_112a_k (okL_app e1_112b_k e1_112c_k)) (ftab_node e1_118_k (ftab_node e1_146_k (ftab_node e1_153_k (ftab_node (okL_app e1_155a_k e1_155b_k) (ftab_node (okL_app e1_160a_k (okL_app e1_160b_k e1_160c_k)) (ftab_node e1_163_k (ftab_node e1_168_k (ftab_node (okL_app e1_176a_k e1_176b_k) (ftab_node e1_197_k (ftab_node e1_207_k (ftab_node e1_215_k (ftab_node (okL_app e1_227a_k e1_227b_k) (ftab_node e1_241_k (ftab_node e1_244_k (ftab_node e1_259_k (ftab_node (okL_app e1_291a_k (okL_app e1_291b_k (okL_app e1_291c_k (okL_app e1_291d_k (okL_app e1_291e_k (okL_app e1_291f_k (okL_app e1_291g_k (okL_app e1_291h_k (okL_app e1_291i_k (okL_app e1_291j_k (okL_app e1_291k_k (okL_app e1_291l_k e1_291m_k)))))))))))) (ftab_node e1_305_k (ftab_node e1_312_k (ftab_node (okL_app e1_384a_k e1_384b_k) ftab_leaf))))))))))))))))))))))
def fk_t2 : FTab := fun f => fk_lt2 f ++ fk_t1 f
theorem fk_t2_ok : FTabOk Tryz.prog fk_t2 := ftab_or fk_lt2_ok fk_t1_ok
def fk_lm2 : MTab := fun f => cond (Nat.beq f 60) f1_60 (cond (Nat.beq f 73) f1_73 (cond (Nat.beq f 77) f1_77 (cond (Nat.beq f 97) f1_97 (cond (Nat.beq f 109) f1_109 (cond (Nat.beq f 134) f1_134 (cond (Nat.beq f 144) f1_144 (cond (Nat.beq f 177) (f1_177a ++ (f1_177b)) (cond (Nat.beq f 224) f1_224 (cond (Nat.beq f 267) f1_267 (cond (Nat.beq f 281) f1_281 (cond (Nat.beq f 338) f1_338 (cond (Nat.beq f 343) f1_343 (cond (Nat.beq f 351) (f1_351a ++ (f1_351b ++ (f1_351c ++ (f1_351d)))) ([]))))))))))))))
theorem fk_lm2_ok : MTabOk Tryz.prog fk_lm2 := (mtab_node f1_60_k (mtab_node f1_73_k (mtab_node f1_77_k (mtab_node f1_97_k (mtab_node f1_109_k (mtab_node f1_134_k (mtab_node f1_144_k (mtab_node (okM_app f1_177a_k f1_177b_k) (mtab_node f1_224_k (mtab_node f1_267_k (mtab_node f1_281_k (mtab_node f1_338_k (mtab_node f1_343_k (mtab_node (okM_app f1_351a_k (okM_app f1_351b_k (okM_app f1_351c_k f1_351d_k))) mtab_leaf))))))))))))))
def fk_m2 : MTab := fun f => fk_lm2 f ++ fk_m1 f
theorem fk_m2_ok : MTabOk Tryz.prog fk_m2 := mtab_or fk_lm2_ok fk_m1_ok
noncomputable abbrev fk_c2 : CH := fk_ch fk_t2 fk_m2
theorem fk_c2_ok : CHOk Tryz.prog fk_c2 := fk_ch_ok fk_t2_ok fk_m2_ok
noncomputable abbrev fk_w2 : Teller := tellRD Tryz.prog tyTab 400 fk_ds fk_il fk_c2
theorem fk_w2_ok : TellOk Tryz.prog fk_w2 := tellRD_ok tab_ok mixed noNum fk_c2_ok
theorem fk_u2 {g l} (h : chkF (pureT fk_w2) g l = true) : okL Tryz.prog g l := chkF_ok (tell := fk_w2) fk_w2_ok h
theorem fk_v2 {g l} (h : chkM fk_w2 g l = true) : okM Tryz.prog g l := chkM_ok (tell := fk_w2) fk_w2_ok h
end Go.Ev

