/- What calls answer. No statement is proved here. Printed by facts2.py. -/
import Derived.Test.YtjmefokfnehefaaGreatFkT1
namespace Go.Ev
open Go.Proofs
set_option linter.unusedVariables false
set_option maxRecDepth 100000
def fk_e1_20 : List (List AVal × AVal) := [([qi 4294967296, qi 4294967296], qi 8589934592)]
theorem fk_e1_20_k : okL Tryz.prog 20 fk_e1_20 := chkF_ok (tell := fk_w1) fk_w1_ok (by kernel_rfl)
def fk_e1_35 : List (List AVal × AVal) := [([.agg [qi 0, qi 0, qi 0]], .tup [.agg [qi 0, qi 0, qi 0], qi 0]),
 ([.agg [qi 17179869184, qi 0, qi 0]], .tup [.agg [qi 262144, qi 0, qi 0], qi 0]),
 ([.agg [qi 8589934592, qi 0, qi 0]], .tup [.agg [qi 131072, qi 0, qi 0], qi 0])]
theorem fk_e1_35_k : okL Tryz.prog 35 fk_e1_35 := chkF_ok (tell := fk_w1) fk_w1_ok (by kernel_rfl)
def fk_e1_44 : List (List AVal × AVal) := [([.agg [qu 18446744073709420544, qu 18446744073709551615, qu 18446744073709551615, qu 18446744073709551615, qu 18446744073709551615, qu 18446744073709551615, qu 18446744073709551615, qu 18446744073709551615, qu 0, qu 0, qu 0, qu 0, qu 0, qu 0, qu 0, qu 0, qu 0, qu 0, qu 0, qu 0, qu 0, qu 0, qu 0, qu 0]], .agg [qu 17179869184, qu 0, qu 0, qu 0, qu 0, qu 0, qu 0, qu 0]),
 ([.agg [qu 131072, qu 0, qu 0, qu 0, qu 0, qu 0, qu 0, qu 0, qu 0, qu 0, qu 0, qu 0, qu 0, qu 0, qu 0, qu 0, qu 0, qu 0, qu 0, qu 0, qu 0, qu 0, qu 0, qu 0]], .agg [qu 17179869184, qu 0, qu 0, qu 0, qu 0, qu 0, qu 0, qu 0])]
theorem fk_e1_44_k : okL Tryz.prog 44 fk_e1_44 := chkF_ok (tell := fk_w1) fk_w1_ok (by kernel_rfl)
def fk_e1_48 : List (List AVal × AVal) := [([qi 8589934592, qi 4294967296], qi 4294967296),
 ([qi 4294967296, qi 4294967296], qi 0)]
theorem fk_e1_48_k : okL Tryz.prog 48 fk_e1_48 := chkF_ok (tell := fk_w1) fk_w1_ok (by kernel_rfl)
def fk_e1_77a : List (List AVal × AVal) := [([.agg [qu 4294967296, qu 0, qu 0, qu 0, qu 0, qu 0, qu 0, qu 0], qi 32], qi 4294967296),
 ([.agg [qu 0, qu 0, qu 0, qu 0, qu 0, qu 0, qu 0, qu 0], qi 32], qi 0),
 ([.agg [qu 0, qu 0, qu 0, qu 0, qu 0, qu 0, qu 0, qu 0], qi 64], qi 0),
 ([.agg [qu 0, qu 4, qu 0, qu 0, qu 0, qu 0, qu 0, qu 0], qi 64], qi 17179869184),
 ([.agg [qu 0, qu 2, qu 0, qu 0, qu 0, qu 0, qu 0, qu 0], qi 64], qi 8589934592),
 ([.agg [qu 8589934592, qu 0, qu 0, qu 0, qu 0, qu 0, qu 0, qu 0], qi 32], qi 8589934592)]
theorem fk_e1_77a_k : okL Tryz.prog 77 fk_e1_77a := chkF_ok (tell := fk_w1) fk_w1_ok (by kernel_rfl)
def fk_e1_77b : List (List AVal × AVal) := [([.agg [qu 18446744069414584320, qu 18446744073709551615, qu 18446744073709551615, qu 18446744073709551615, qu 18446744073709551615, qu 18446744073709551615, qu 18446744073709551615, qu 18446744073709551615], qi 32], qi (-4294967296))]
theorem fk_e1_77b_k : okL Tryz.prog 77 fk_e1_77b := chkF_ok (tell := fk_w1) fk_w1_ok (by kernel_rfl)
def fk_e1_91 : List (List AVal × AVal) := [([.agg [qu 0, qu 4, qu 0, qu 0, qu 0, qu 0, qu 0, qu 0]], .tup [.agg [qu 8589934592, qu 0, qu 0, qu 0, qu 0, qu 0, qu 0, qu 0], .bool true]),
 ([.agg [qu 0, qu 1, qu 0, qu 0, qu 0, qu 0, qu 0, qu 0]], .tup [.agg [qu 4294967296, qu 0, qu 0, qu 0, qu 0, qu 0, qu 0, qu 0], .bool true]),
 ([.agg [qu 0, qu 0, qu 0, qu 0, qu 0, qu 0, qu 0, qu 0]], .tup [.agg [qu 0, qu 0, qu 0, qu 0, qu 0, qu 0, qu 0, qu 0], .bool true])]
theorem fk_e1_91_k : okL Tryz.prog 91 fk_e1_91 := chkF_ok (tell := fk_w1) fk_w1_ok (by kernel_rfl)
def fk_e1_112 : List (List AVal × AVal) := [([.agg [qu 4294967296, qu 0, qu 0, qu 0, qu 0, qu 0, qu 0, qu 0, qu 0, qu 0, qu 0, qu 0, qu 0, qu 0, qu 0, qu 0, qu 0, qu 0, qu 0, qu 0, qu 0, qu 0, qu 0, qu 0, qu 0, qu 0, qu 0, qu 0, qu 0, qu 0, qu 0, qu 0]], .agg [qu 0, qu 1, qu 0, qu 0, qu 0, qu 0, qu 0, qu 0])]
theorem fk_e1_112_k : okL Tryz.prog 112 fk_e1_112 := chkF_ok (tell := fk_w1) fk_w1_ok (by kernel_rfl)
def fk_e1_128a : List (List AVal × AVal) := [([.agg [qi 0, qi 0, qi 0, qi 0, qi 0, qi 0]], qi 0),
 ([.agg [qi (-66560), qi (-66560), qi (-66560), qi 66560, qi 66560, qi 66560]], qi 0),
 ([.agg [qi 262144, qi 0, qi 0, qi 262144, qi 0, qi 0]], qi 0),
 ([.agg [qi 195584, qi (-66560), qi (-66560), qi 328704, qi 66560, qi 66560]], qi 0),
 ([.agg [qi (-74752), qi (-74752), qi (-74752), qi 74752, qi 74752, qi 74752]], qi 0),
 ([.agg [qi 187392, qi (-74752), qi (-74752), qi 336896, qi 74752, qi 74752]], qi 0)]
theorem fk_e1_128a_k : okL Tryz.prog 128 fk_e1_128a := chkF_ok (tell := fk_w1) fk_w1_ok (by kernel_rfl)
def fk_e1_128b : List (List AVal × AVal) := [([.agg [qi (-74752), qi (-74752), qi (-74752), qi 336896, qi 74752, qi 74752]], qi 0),
 ([.agg [qi 187392, qi 0, qi 0, qi 0, qi 0, qi 0]], qi 7),
 ([.agg [qi 131072, qi 0, qi 0, qi 131072, qi 0, qi 0]], qi 0),
 ([.agg [qi 65534, qi (-65538), qi (-65538), qi 196610, qi 65538, qi 65538]], qi 0),
 ([.agg [qi 187392, qi (-65538), qi (-65538), qi 196610, qi 65538, qi 65538]], qi 0),
 ([.agg [qi 195584, qi (-65538), qi (-65538), qi 196610, qi 65538, qi 65538]], qi 0)]
theorem fk_e1_128b_k : okL Tryz.prog 128 fk_e1_128b := chkF_ok (tell := fk_w1) fk_w1_ok (by kernel_rfl)
def fk_e1_128c : List (List AVal × AVal) := [([.agg [qi 65534, qi (-65538), qi (-65538), qi 74752, qi 65538, qi 65538]], qi 0),
 ([.agg [qi 65534, qi (-65538), qi (-65538), qi 66560, qi 65538, qi 65538]], qi 0),
 ([.agg [qi 0, qi 131072, qi 0, qi 262144, qi 131072, qi 0]], qi 0),
 ([.agg [qi (-2), qi 131070, qi (-2), qi 262146, qi 131074, qi 2]], qi 0),
 ([.agg [qi (-2), qi 131070, qi (-2), qi 262146, qi 74752, qi 2]], qi 7),
 ([.agg [qi (-65538), qi 65534, qi (-65538), qi 327682, qi 196610, qi 65538]], qi 0)]
theorem fk_e1_128c_k : okL Tryz.prog 128 fk_e1_128c := chkF_ok (tell := fk_w1) fk_w1_ok (by kernel_rfl)
def fk_e1_128d : List (List AVal × AVal) := [([.agg [qi (-65538), qi 65534, qi (-65538), qi 327682, qi 74752, qi 65538]], qi 0),
 ([.agg [qi 187392, qi 65534, qi (-65538), qi 327682, qi 74752, qi 65538]], qi 0),
 ([.agg [qi 195584, qi 65534, qi (-65538), qi 327682, qi 66560, qi 65538]], qi 0),
 ([.agg [qi (-65538), qi 65534, qi (-65538), qi 74752, qi 74752, qi 65538]], qi 0),
 ([.agg [qi (-65538), qi 65534, qi (-65538), qi 66560, qi 66560, qi 65538]], qi 0)]
theorem fk_e1_128d_k : okL Tryz.prog 128 fk_e1_128d := chkF_ok (tell := fk_w1) fk_w1_ok (by kernel_rfl)
def fk_e1_172a : List (List AVal × AVal) := [([.agg [qu 18446744073709420544, qu 18446744073709551615, qu 18446744073709551615, qu 18446744073709551615, qu 18446744073709551615, qu 18446744073709551615, qu 18446744073709551615, qu 18446744073709551615, qu 0, qu 0, qu 0, qu 0, qu 0, qu 0, qu 0, qu 0, qu 0, qu 0, qu 0, qu 0, qu 0, qu 0, qu 0, qu 0], .agg [qi (-131072), qi 0, qi 0]], .tup [.agg [qu 17179869184, qu 0, qu 0, qu 0, qu 0, qu 0, qu 0, qu 0], .bool true]),
 ([.agg [qu 131072, qu 0, qu 0, qu 0, qu 0, qu 0, qu 0, qu 0, qu 0, qu 0, qu 0, qu 0, qu 0, qu 0, qu 0, qu 0, qu 0, qu 0, qu 0, qu 0, qu 0, qu 0, qu 0, qu 0], .agg [qi 131072, qi 0, qi 0]], .tup [.agg [qu 17179869184, qu 0, qu 0, qu 0, qu 0, qu 0, qu 0, qu 0], .bool true]),
 ([.agg [qu 0, qu 0, qu 0, qu 0, qu 0, qu 0, qu 0, qu 0, qu 18446744073709420544, qu 18446744073709551615, qu 18446744073709551615, qu 18446744073709551615, qu 18446744073709551615, qu 18446744073709551615, qu 18446744073709551615, qu 18446744073709551615, qu 0, qu 0, qu 0, qu 0, qu 0, qu 0, qu 0, qu 0], .agg [qi 0, qi (-131072), qi 0]], .tup [.agg [qu 17179869184, qu 0, qu 0, qu 0, qu 0, qu 0, qu 0, qu 0], .bool true]),
 ([.agg [qu 0, qu 0, qu 0, qu 0, qu 0, qu 0, qu 0, qu 0, qu 18446744073709420544, qu 18446744073709551615, qu 18446744073709551615, qu 18446744073709551615, qu 18446744073709551615, qu 18446744073709551615, qu 18446744073709551615, qu 18446744073709551615, qu 0, qu 0, qu 0, qu 0, qu 0, qu 0, qu 0, qu 0], .agg [qi (-262144), qi (-131072), qi 0]], .tup [.agg [qu 17179869184, qu 0, qu 0, qu 0, qu 0, qu 0, qu 0, qu 0], .bool true]),
 ([.agg [qu 262144, qu 0, qu 0, qu 0, qu 0, qu 0, qu 0, qu 0, qu 18446744073709420544, qu 18446744073709551615, qu 18446744073709551615, qu 18446744073709551615, qu 18446744073709551615, qu 18446744073709551615, qu 18446744073709551615, qu 18446744073709551615, qu 0, qu 0, qu 0, qu 0, qu 0, qu 0, qu 0, qu 0], .agg [qi 262144, qi (-131072), qi 0]], .tup [.agg [qu 85899345920, qu 0, qu 0, qu 0, qu 0, qu 0, qu 0, qu 0], .bool true]),
 ([.agg [qu 262144, qu 0, qu 0, qu 0, qu 0, qu 0, qu 0, qu 0, qu 18446744073709420544, qu 18446744073709551615, qu 18446744073709551615, qu 18446744073709551615, qu 18446744073709551615, qu 18446744073709551615, qu 18446744073709551615, qu 18446744073709551615, qu 0, qu 0, qu 0, qu 0, qu 0, qu 0, qu 0, qu 0], .agg [qi 0, qi (-131072), qi 0]], .tup [.agg [qu 17179869184, qu 0, qu 0, qu 0, qu 0, qu 0, qu 0, qu 0], .bool true])]
theorem fk_e1_172a_k : okL Tryz.prog 172 fk_e1_172a := chkF_ok (tell := fk_w1) fk_w1_ok (by kernel_rfl)
def fk_e1_172b : List (List AVal × AVal) := [([.agg [qu 0, qu 0, qu 0, qu 0, qu 0, qu 0, qu 0, qu 0, qu 18446744073709420544, qu 18446744073709551615, qu 18446744073709551615, qu 18446744073709551615, qu 18446744073709551615, qu 18446744073709551615, qu 18446744073709551615, qu 18446744073709551615, qu 0, qu 0, qu 0, qu 0, qu 0, qu 0, qu 0, qu 0], .agg [qi 262144, qi (-131072), qi 0]], .tup [.agg [qu 17179869184, qu 0, qu 0, qu 0, qu 0, qu 0, qu 0, qu 0], .bool true])]
theorem fk_e1_172b_k : okL Tryz.prog 172 fk_e1_172b := chkF_ok (tell := fk_w1) fk_w1_ok (by kernel_rfl)
def fk_e1_187 : List (List AVal × AVal) := [([qu 1], qi 1),
 ([qu 2], qi 2),
 ([qu 0], qi 0)]
theorem fk_e1_187_k : okL Tryz.prog 187 fk_e1_187 := chkF_ok (tell := fk_w1) fk_w1_ok (by kernel_rfl)
def fk_e1_198 : List (List AVal × AVal) := [([.agg [qu 18446744073709420544, qu 18446744073709551615, qu 18446744073709551615, qu 18446744073709551615, qu 18446744073709551615, qu 18446744073709551615, qu 18446744073709551615, qu 18446744073709551615, qu 0, qu 0, qu 0, qu 0, qu 0, qu 0, qu 0, qu 0, qu 0, qu 0, qu 0, qu 0, qu 0, qu 0, qu 0, qu 0]], .agg [qu 17179869184, qu 0, qu 0, qu 0, qu 0, qu 0, qu 0, qu 0]),
 ([.agg [qu 131072, qu 0, qu 0, qu 0, qu 0, qu 0, qu 0, qu 0, qu 0, qu 0, qu 0, qu 0, qu 0, qu 0, qu 0, qu 0, qu 0, qu 0, qu 0, qu 0, qu 0, qu 0, qu 0, qu 0]], .agg [qu 17179869184, qu 0, qu 0, qu 0, qu 0, qu 0, qu 0, qu 0]),
 ([.agg [qu 0, qu 0, qu 0, qu 0, qu 0, qu 0, qu 0, qu 0, qu 18446744073709420544, qu 18446744073709551615, qu 18446744073709551615, qu 18446744073709551615, qu 18446744073709551615, qu 18446744073709551615, qu 18446744073709551615, qu 18446744073709551615, qu 0, qu 0, qu 0, qu 0, qu 0, qu 0, qu 0, qu 0]], .agg [qu 17179869184, qu 0, qu 0, qu 0, qu 0, qu 0, qu 0, qu 0]),
 ([.agg [qu 262144, qu 0, qu 0, qu 0, qu 0, qu 0, qu 0, qu 0, qu 18446744073709420544, qu 18446744073709551615, qu 18446744073709551615, qu 18446744073709551615, qu 18446744073709551615, qu 18446744073709551615, qu 18446744073709551615, qu 18446744073709551615, qu 0, qu 0, qu 0, qu 0, qu 0, qu 0, qu 0, qu 0]], .agg [qu 85899345920, qu 0, qu 0, qu 0, qu 0, qu 0, qu 0, qu 0])]
theorem fk_e1_198_k : okL Tryz.prog 198 fk_e1_198 := chkF_ok (tell := fk_w1) fk_w1_ok (by kernel_rfl)
def fk_e1_199 : List (List AVal × AVal) := [([qu 1], qi 1),
 ([qu 3], qi 2),
 ([qu 2], qi 1)]
theorem fk_e1_199_k : okL Tryz.prog 199 fk_e1_199 := chkF_ok (tell := fk_w1) fk_w1_ok (by kernel_rfl)
def fk_e1_217 : List (List AVal × AVal) := [([qi 1, qi 2], .bool true),
 ([qi 1, qi 0], .bool false)]
theorem fk_e1_217_k : okL Tryz.prog 217 fk_e1_217 := chkF_ok (tell := fk_w1) fk_w1_ok (by kernel_rfl)
def fk_f1_67 : List MF := [⟨[], ⟨0, []⟩, (.ptr 0 0, ⟨4, [(0, .cells [.ptr 1 0, .map 2] true none), (1, .cells [.bool true, qi 8192, .nils, .nils, qi (-1), .map 3] true none), (2, .map [] 0), (3, .map [] 0)]⟩)⟩]
theorem fk_f1_67_k : okM Tryz.prog 67 fk_f1_67 := chkM_ok (tell := fk_w1) fk_w1_ok (by kernel_rfl)
def fk_f1_96a : List MF := [⟨[.vec 0], ⟨1, [(0, .vec [qi 0, qi 0, qi 0] 1 3 false)]⟩, (qi 0, ⟨1, [(0, .vec [qi 0, qi 0, qi 0] 1 3 false)]⟩)⟩,
 ⟨[.vec 0], ⟨1, [(0, .vec [qi 131072, qi 0, qi 0] 1 3 false)]⟩, (qi 0, ⟨1, [(0, .vec [qi 131072, qi 0, qi 0] 1 3 false)]⟩)⟩,
 ⟨[.vec 0], ⟨1, [(0, .vec [qi (-131072), qi 0, qi 0] 1 3 false)]⟩, (qi 0, ⟨1, [(0, .vec [qi (-131072), qi 0, qi 0] 1 3 false)]⟩)⟩,
 ⟨[.vec 0], ⟨1, [(0, .vec [qi 262144, qi 0, qi 0] 1 3 false)]⟩, (qi 0, ⟨1, [(0, .vec [qi 262144, qi 0, qi 0] 1 3 false)]⟩)⟩,
 ⟨[.vec 0], ⟨1, [(0, .vec [qi 0, qi 131072, qi 0, qi 262144, qi 131072, qi 0] 2 3 false)]⟩, (qi 0, ⟨1, [(0, .vec [qi 0, qi 131072, qi 0, qi 262144, qi 131072, qi 0] 2 3 false)]⟩)⟩,
 ⟨[.vec 0], ⟨1, [(0, .vec [qi 0, qi (-131072), qi 0, qi (-262144), qi (-131072), qi 0] 2 3 false)]⟩, (qi 0, ⟨1, [(0, .vec [qi 0, qi (-131072), qi 0, qi (-262144), qi (-131072), qi 0] 2 3 false)]⟩)⟩]
theorem fk_f1_96a_k : okM Tryz.prog 96 fk_f1_96a := chkM_ok (tell := fk_w1) fk_w1_ok (by kernel_rfl)
def fk_f1_96b : List MF := [⟨[.vec 0], ⟨1, [(0, .vec [qi 262144, qi (-131072), qi 0, qi 0, qi (-131072), qi 0] 2 3 false)]⟩, (qi 0, ⟨1, [(0, .vec [qi 262144, qi (-131072), qi 0, qi 0, qi (-131072), qi 0] 2 3 false)]⟩)⟩]
theorem fk_f1_96b_k : okM Tryz.prog 96 fk_f1_96b := chkM_ok (tell := fk_w1) fk_w1_ok (by kernel_rfl)
def fk_f1_102 : List MF := [⟨[.agg [qi 1, qi 4294967296, qi 0, qi 0, qi 0, .nils]], ⟨0, []⟩, (.agg [qi 1, qi 4294967296, qi 0, qi 0, qi 0, .nils], ⟨0, []⟩)⟩]
theorem fk_f1_102_k : okM Tryz.prog 102 fk_f1_102 := chkM_ok (tell := fk_w1) fk_w1_ok (by kernel_rfl)
def fk_f1_115 : List MF := [⟨[.agg [qi 1, qi 4294967296, qi 0, qi 0, qi 0, .nils], .ptr 0 0], ⟨1, [(0, .cells [.func 114 [] []] false none)]⟩, (.bool true, ⟨1, [(0, .cells [.func 114 [] []] false none)]⟩)⟩]
theorem fk_f1_115_k : okM Tryz.prog 115 fk_f1_115 := chkM_ok (tell := fk_w1) fk_w1_ok (by kernel_rfl)
def fk_f1_124 : List MF := [⟨[.nils], ⟨0, []⟩, (.tup [.nils, qi 0], ⟨0, []⟩)⟩]
theorem fk_f1_124_k : okM Tryz.prog 124 fk_f1_124 := chkM_ok (tell := fk_w1) fk_w1_ok (by kernel_rfl)
def fk_f1_156 : List MF := [⟨[.vec 0], ⟨1, [(0, .vec [qi (-131072), qi 0, qi 0] 1 3 false)]⟩, (.bool true, ⟨1, [(0, .vec [qi (-131072), qi 0, qi 0] 1 3 false)]⟩)⟩,
 ⟨[.vec 0], ⟨1, [(0, .vec [qi 131072, qi 0, qi 0] 1 3 false)]⟩, (.bool true, ⟨1, [(0, .vec [qi 131072, qi 0, qi 0] 1 3 false)]⟩)⟩,
 ⟨[.vec 0], ⟨1, [(0, .vec [qi 0, qi (-131072), qi 0] 1 3 false)]⟩, (.bool true, ⟨1, [(0, .vec [qi 0, qi (-131072), qi 0] 1 3 false)]⟩)⟩,
 ⟨[.vec 0], ⟨1, [(0, .vec [qi 0, qi (-131072), qi 0, qi (-262144), qi (-131072), qi 0] 2 3 false)]⟩, (.bool true, ⟨1, [(0, .vec [qi 0, qi (-131072), qi 0, qi (-262144), qi (-131072), qi 0] 2 3 false)]⟩)⟩,
 ⟨[.vec 0], ⟨1, [(0, .vec [qi 262144, qi (-131072), qi 0] 1 3 false)]⟩, (.bool true, ⟨1, [(0, .vec [qi 262144, qi (-131072), qi 0] 1 3 false)]⟩)⟩,
 ⟨[.vec 0], ⟨1, [(0, .vec [qi 262144, qi (-131072), qi 0, qi 0, qi (-131072), qi 0] 2 3 false)]⟩, (.bool true, ⟨1, [(0, .vec [qi 262144, qi (-131072), qi 0, qi 0, qi (-131072), qi 0] 2 3 false)]⟩)⟩]
theorem fk_f1_156_k : okM Tryz.prog 156 fk_f1_156 := chkM_ok (tell := fk_w1) fk_w1_ok (by kernel_rfl)
def fk_f1_179 : List MF := [⟨[.vec 0, .vec 1, .agg [qu 1, qu 0, qu 0, qu 0, qu 0, qu 0, qu 0, qu 0]], ⟨2, [(0, .vec [qi (-131072), qi 0, qi 0] 1 3 false), (1, .vec [qu 1, qu 0, qu 0, qu 0, qu 0, qu 0, qu 0, qu 0] 1 8 false)]⟩, (.agg [qu 18446744073709420544, qu 18446744073709551615, qu 18446744073709551615, qu 18446744073709551615, qu 18446744073709551615, qu 18446744073709551615, qu 18446744073709551615, qu 18446744073709551615, qu 0, qu 0, qu 0, qu 0, qu 0, qu 0, qu 0, qu 0, qu 0, qu 0, qu 0, qu 0, qu 0, qu 0, qu 0, qu 0, qu 1, qu 0, qu 0, qu 0, qu 0, qu 0, qu 0, qu 0, .nils], ⟨2, [(0, .vec [qi (-131072), qi 0, qi 0] 1 3 false), (1, .vec [qu 1, qu 0, qu 0, qu 0, qu 0, qu 0, qu 0, qu 0] 1 8 false)]⟩)⟩,
 ⟨[.vec 0, .vec 1, .agg [qu 1, qu 0, qu 0, qu 0, qu 0, qu 0, qu 0, qu 0]], ⟨2, [(0, .vec [qi 131072, qi 0, qi 0] 1 3 false), (1, .vec [qu 1, qu 0, qu 0, qu 0, qu 0, qu 0, qu 0, qu 0] 1 8 false)]⟩, (.agg [qu 131072, qu 0, qu 0, qu 0, qu 0, qu 0, qu 0, qu 0, qu 0, qu 0, qu 0, qu 0, qu 0, qu 0, qu 0, qu 0, qu 0, qu 0, qu 0, qu 0, qu 0, qu 0, qu 0, qu 0, qu 1, qu 0, qu 0, qu 0, qu 0, qu 0, qu 0, qu 0, .nils], ⟨2, [(0, .vec [qi 131072, qi 0, qi 0] 1 3 false), (1, .vec [qu 1, qu 0, qu 0, qu 0, qu 0, qu 0, qu 0, qu 0] 1 8 false)]⟩)⟩,
 ⟨[.vec 0, .vec 1, .agg [qu 1, qu 0, qu 0, qu 0, qu 0, qu 0, qu 0, qu 0]], ⟨2, [(0, .vec [qi 0, qi (-131072), qi 0] 1 3 false), (1, .vec [qu 1, qu 0, qu 0, qu 0, qu 0, qu 0, qu 0, qu 0] 1 8 false)]⟩, (.agg [qu 0, qu 0, qu 0, qu 0, qu 0, qu 0, qu 0, qu 0, qu 18446744073709420544, qu 18446744073709551615, qu 18446744073709551615, qu 18446744073709551615, qu 18446744073709551615, qu 18446744073709551615, qu 18446744073709551615, qu 18446744073709551615, qu 0, qu 0, qu 0, qu 0, qu 0, qu 0, qu 0, qu 0, qu 1, qu 0, qu 0, qu 0, qu 0, qu 0, qu 0, qu 0, .nils], ⟨2, [(0, .vec [qi 0, qi (-131072), qi 0] 1 3 false), (1, .vec [qu 1, qu 0, qu 0, qu 0, qu 0, qu 0, qu 0, qu 0] 1 8 false)]⟩)⟩,
 ⟨[.vec 0, .vec 1, .agg [qu 1, qu 0, qu 0, qu 0, qu 0, qu 0, qu 0, qu 0]], ⟨2, [(0, .vec [qi 262144, qi (-131072), qi 0] 1 3 false), (1, .vec [qu 1, qu 0, qu 0, qu 0, qu 0, qu 0, qu 0, qu 0] 1 8 false)]⟩, (.agg [qu 262144, qu 0, qu 0, qu 0, qu 0, qu 0, qu 0, qu 0, qu 18446744073709420544, qu 18446744073709551615, qu 18446744073709551615, qu 18446744073709551615, qu 18446744073709551615, qu 18446744073709551615, qu 18446744073709551615, qu 18446744073709551615, qu 0, qu 0, qu 0, qu 0, qu 0, qu 0, qu 0, qu 0, qu 1, qu 0, qu 0, qu 0, qu 0, qu 0, qu 0, qu 0, .nils], ⟨2, [(0, .vec [qi 262144, qi (-131072), qi 0] 1 3 false), (1, .vec [qu 1, qu 0, qu 0, qu 0, qu 0, qu 0, qu 0, qu 0] 1 8 false)]⟩)⟩]
theorem fk_f1_179_k : okM Tryz.prog 179 fk_f1_179 := chkM_ok (tell := fk_w1) fk_w1_ok (by kernel_rfl)
def fk_f1_180 : List MF := [⟨[.agg [qi 1, qi 1, qi 4294967296, qi 0, qi 0, qi 0, .nils, qi 0, qi 0, qi 0, qi 4294967296, qi 0, qi 0, qi 0, qi 0, qi 0, qi 0, qi 0, qi 0, qi 0, qi 0, qi 0]], ⟨0, []⟩, (.bool true, ⟨0, []⟩)⟩,
 ⟨[.agg [qi 2, qi 1, qi 4294967296, qi 0, qi 0, qi 0, .nils, qi 17179869184, qi 0, qi 0, qi 4294967296, qi 0, qi 0, qi 0, qi 0, qi 0, qi 0, qi 0, qi 0, qi 0, qi 0, qi 0]], ⟨0, []⟩, (.bool true, ⟨0, []⟩)⟩]
theorem fk_f1_180_k : okM Tryz.prog 180 fk_f1_180 := chkM_ok (tell := fk_w1) fk_w1_ok (by kernel_rfl)
def fk_lt2 : FTab := fun f => cond (Nat.beq f 20) fk_e1_20 (cond (Nat.beq f 35) fk_e1_35 (cond (Nat.beq f 44) fk_e1_44 (cond (Nat.beq f 48) fk_e1_48 (cond (Nat.beq f 77) (fk_e1_77a ++ (fk_e1_77b)) (cond (Nat.beq f 91) fk_e1_91 (cond (Nat.beq f 112) fk_e1_112 (cond (Nat.beq f 128) (fk_e1_128a ++ (fk_e1_128b ++ (fk_e1_128c ++ (fk_e1_128d)))) (cond (Nat.beq f 172) (fk_e1_172a ++ (fk_e1_172b)) (cond (Nat.beq f 187) fk_e1_187 (cond (Nat.beq f 198) fk_e1_198 (cond (Nat.beq f 199) fk_e1_199 (cond (Nat.beq f 217) fk_e1_217 ([])))))))))))))
theorem fk_lt2_ok : FTabOk Tryz.prog fk_lt2 := (ftab_node (l := fk_e1_20) fk_e1_20_k (ftab_node (l := fk_e1_35) fk_e1_35_k (ftab_node (l := fk_e1_44) fk_e1_44_k (ftab_node (l := fk_e1_48) fk_e1_48_k (ftab_node (l := fk_e1_77a ++ (fk_e1_77b)) (okL_app fk_e1_77a_k fk_e1_77b_k) (ftab_node (l := fk_e1_91) fk_e1_91_k (ftab_node (l := fk_e1_112) fk_e1_112_k (ftab_node (l := fk_e1_128a ++ (fk_e1_128b ++ (fk_e1_128c ++ (fk_e1_128d)))) (okL_app fk_e1_128a_k (okL_app fk_e1_128b_k (okL_app fk_e1_128c_k fk_e1_128d_k))) (ftab_node (l := fk_e1_172a ++ (fk_e1_172b)) (okL_app fk_e1_172a_k fk_e1_172b_k) (ftab_node (l := fk_e1_187) fk_e1_187_k (ftab_node (l := fk_e1_198) fk_e1_198_k (ftab_node (l := fk_e1_199) fk_e1_199_k (ftab_node (l := fk_e1_217) fk_e1_217_k ftab_leaf)))))))))))))
def fk_t2 : FTab := fun f => fk_lt2 f ++ fk_t1 f
theorem fk_t2_ok : FTabOk Tryz.prog fk_t2 := ftab_or fk_lt2_ok fk_t1_ok
def fk_lm2 : MTab := fun f => cond (Nat.beq f 67) fk_f1_67 (cond (Nat.beq f 96) (fk_f1_96a ++ (fk_f1_96b)) (cond (Nat.beq f 102) fk_f1_102 (cond (Nat.beq f 115) fk_f1_115 (cond (Nat.beq f 124) fk_f1_124 (cond (Nat.beq f 156) fk_f1_156 (cond (Nat.beq f 179) fk_f1_179 (cond (Nat.beq f 180) fk_f1_180 ([]))))))))
theorem fk_lm2_ok : MTabOk Tryz.prog fk_lm2 := (mtab_node (l := fk_f1_67) fk_f1_67_k (mtab_node (l := fk_f1_96a ++ (fk_f1_96b)) (okM_app fk_f1_96a_k fk_f1_96b_k) (mtab_node (l := fk_f1_102) fk_f1_102_k (mtab_node (l := fk_f1_115) fk_f1_115_k (mtab_node (l := fk_f1_124) fk_f1_124_k (mtab_node (l := fk_f1_156) fk_f1_156_k (mtab_node (l := fk_f1_179) fk_f1_179_k (mtab_node (l := fk_f1_180) fk_f1_180_k mtab_leaf))))))))
def fk_m2 : MTab := fun f => fk_lm2 f ++ fk_m1 f
theorem fk_m2_ok : MTabOk Tryz.prog fk_m2 := mtab_or fk_lm2_ok fk_m1_ok
noncomputable abbrev fk_c2 : CH := fk_ch fk_t2 fk_m2
theorem fk_c2_ok : CHOk Tryz.prog fk_c2 := fk_ch_ok fk_t2_ok fk_m2_ok
noncomputable abbrev fk_w2 : Teller := tellRD Tryz.prog tyTab 400 fk_ds fk_c2
theorem fk_w2_ok : TellOk Tryz.prog fk_w2 := tellRD_ok tab_ok mixed noNum fk_c2_ok
end Go.Ev
