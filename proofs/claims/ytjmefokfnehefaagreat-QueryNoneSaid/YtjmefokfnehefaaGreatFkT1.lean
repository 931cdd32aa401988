/- What calls answer. No statement is proved here. Printed by facts2.py. -/
import Derived.Test.YtjmefokfnehefaaGreatFkBase
namespace Go.Ev
open Go.Proofs
set_option linter.unusedVariables false
set_option maxRecDepth 100000
def fk_e0_12 : List (List AVal × AVal) := [([qi 4294967296], qi 65538),
 ([qi 0], qi 2)]
theorem fk_e0_12_k : okL Tryz.prog 12 fk_e0_12 := chkF_ok (tell := fk_w0) fk_w0_ok (by kernel_rfl)
def fk_e0_16 : List (List AVal × AVal) := [([.agg [qi 0, qi 131072, qi 0]], .bool true),
 ([.agg [qi 262144, qi 131072, qi 0]], .bool true)]
theorem fk_e0_16_k : okL Tryz.prog 16 fk_e0_16 := chkF_ok (tell := fk_w0) fk_w0_ok (by kernel_rfl)
def fk_e0_36a : List (List AVal × AVal) := [([.agg [qi 0, qi 0, qi 0]], qi 0),
 ([.agg [qi (-66560), qi (-66560), qi (-66560)]], qi 0),
 ([.agg [qi 66560, qi 66560, qi 66560]], qi 0),
 ([.agg [qi 262144, qi 0, qi 0]], qi 0),
 ([.agg [qi 195584, qi (-66560), qi (-66560)]], qi 0),
 ([.agg [qi 328704, qi 66560, qi 66560]], qi 0)]
theorem fk_e0_36a_k : okL Tryz.prog 36 fk_e0_36a := chkF_ok (tell := fk_w0) fk_w0_ok (by kernel_rfl)
def fk_e0_36b : List (List AVal × AVal) := [([.agg [qi (-74752), qi (-74752), qi (-74752)]], qi 0),
 ([.agg [qi 74752, qi 74752, qi 74752]], qi 0),
 ([.agg [qi 187392, qi (-74752), qi (-74752)]], qi 0),
 ([.agg [qi 336896, qi 74752, qi 74752]], qi 0),
 ([.agg [qi 187392, qi 0, qi 0]], qi 0),
 ([.agg [qi 131072, qi 0, qi 0]], qi 0)]
theorem fk_e0_36b_k : okL Tryz.prog 36 fk_e0_36b := chkF_ok (tell := fk_w0) fk_w0_ok (by kernel_rfl)
def fk_e0_36c : List (List AVal × AVal) := [([.agg [qi 65534, qi (-65538), qi (-65538)]], qi 0),
 ([.agg [qi 196610, qi 65538, qi 65538]], qi 0),
 ([.agg [qi 187392, qi (-65538), qi (-65538)]], qi 0),
 ([.agg [qi 195584, qi (-65538), qi (-65538)]], qi 0),
 ([.agg [qi 74752, qi 65538, qi 65538]], qi 0),
 ([.agg [qi 66560, qi 65538, qi 65538]], qi 0)]
theorem fk_e0_36c_k : okL Tryz.prog 36 fk_e0_36c := chkF_ok (tell := fk_w0) fk_w0_ok (by kernel_rfl)
def fk_e0_36d : List (List AVal × AVal) := [([.agg [qi (-131072), qi 0, qi 0]], qi 0),
 ([.agg [qi 0, qi 131072, qi 0]], qi 0),
 ([.agg [qi 262144, qi 131072, qi 0]], qi 0),
 ([.agg [qi (-2), qi 131070, qi (-2)]], qi 0),
 ([.agg [qi 262146, qi 131074, qi 2]], qi 0),
 ([.agg [qi 262146, qi 74752, qi 2]], qi 0)]
theorem fk_e0_36d_k : okL Tryz.prog 36 fk_e0_36d := chkF_ok (tell := fk_w0) fk_w0_ok (by kernel_rfl)
def fk_e0_36e : List (List AVal × AVal) := [([.agg [qi (-65538), qi 65534, qi (-65538)]], qi 0),
 ([.agg [qi 327682, qi 196610, qi 65538]], qi 0),
 ([.agg [qi 327682, qi 74752, qi 65538]], qi 0),
 ([.agg [qi 187392, qi 65534, qi (-65538)]], qi 0),
 ([.agg [qi 195584, qi 65534, qi (-65538)]], qi 0),
 ([.agg [qi 327682, qi 66560, qi 65538]], qi 0)]
theorem fk_e0_36e_k : okL Tryz.prog 36 fk_e0_36e := chkF_ok (tell := fk_w0) fk_w0_ok (by kernel_rfl)
def fk_e0_36f : List (List AVal × AVal) := [([.agg [qi 74752, qi 74752, qi 65538]], qi 0),
 ([.agg [qi 66560, qi 66560, qi 65538]], qi 0),
 ([.agg [qi 0, qi (-131072), qi 0]], qi 0),
 ([.agg [qi (-262144), qi (-131072), qi 0]], qi 0),
 ([.agg [qi 262144, qi (-131072), qi 0]], qi 0)]
theorem fk_e0_36f_k : okL Tryz.prog 36 fk_e0_36f := chkF_ok (tell := fk_w0) fk_w0_ok (by kernel_rfl)
def fk_e0_43 : List (List AVal × AVal) := [([.agg [qu 17179869184, qu 0, qu 0, qu 0, qu 0, qu 0, qu 0, qu 0]], .agg [qu 0, qu 4, qu 0, qu 0, qu 0, qu 0, qu 0, qu 0])]
theorem fk_e0_43_k : okL Tryz.prog 43 fk_e0_43 := chkF_ok (tell := fk_w0) fk_w0_ok (by kernel_rfl)
def fk_e0_45 : List (List AVal × AVal) := [([.agg [qu 18446744073709420544, qu 18446744073709551615, qu 18446744073709551615, qu 18446744073709551615, qu 18446744073709551615, qu 18446744073709551615, qu 18446744073709551615, qu 18446744073709551615], .agg [qu 18446744073709420544, qu 18446744073709551615, qu 18446744073709551615, qu 18446744073709551615, qu 18446744073709551615, qu 18446744073709551615, qu 18446744073709551615, qu 18446744073709551615]], .agg [qu 17179869184, qu 0, qu 0, qu 0, qu 0, qu 0, qu 0, qu 0]),
 ([.agg [qu 0, qu 0, qu 0, qu 0, qu 0, qu 0, qu 0, qu 0], .agg [qu 0, qu 0, qu 0, qu 0, qu 0, qu 0, qu 0, qu 0]], .agg [qu 0, qu 0, qu 0, qu 0, qu 0, qu 0, qu 0, qu 0]),
 ([.agg [qu 1, qu 0, qu 0, qu 0, qu 0, qu 0, qu 0, qu 0], .agg [qu 1, qu 0, qu 0, qu 0, qu 0, qu 0, qu 0, qu 0]], .agg [qu 1, qu 0, qu 0, qu 0, qu 0, qu 0, qu 0, qu 0]),
 ([.agg [qu 4294967296, qu 0, qu 0, qu 0, qu 0, qu 0, qu 0, qu 0], .agg [qu 4294967296, qu 0, qu 0, qu 0, qu 0, qu 0, qu 0, qu 0]], .agg [qu 0, qu 1, qu 0, qu 0, qu 0, qu 0, qu 0, qu 0]),
 ([.agg [qu 131072, qu 0, qu 0, qu 0, qu 0, qu 0, qu 0, qu 0], .agg [qu 131072, qu 0, qu 0, qu 0, qu 0, qu 0, qu 0, qu 0]], .agg [qu 17179869184, qu 0, qu 0, qu 0, qu 0, qu 0, qu 0, qu 0])]
theorem fk_e0_45_k : okL Tryz.prog 45 fk_e0_45 := chkF_ok (tell := fk_w0) fk_w0_ok (by kernel_rfl)
def fk_e0_53 : List (List AVal × AVal) := [([.agg [qu 4294967296, qu 0, qu 0, qu 0, qu 0, qu 0, qu 0, qu 0]], qi 4294967296),
 ([.agg [qu 0, qu 0, qu 0, qu 0, qu 0, qu 0, qu 0, qu 0]], qi 0),
 ([.agg [qu 17179869184, qu 0, qu 0, qu 0, qu 0, qu 0, qu 0, qu 0]], qi 17179869184),
 ([.agg [qu 8589934592, qu 0, qu 0, qu 0, qu 0, qu 0, qu 0, qu 0]], qi 8589934592),
 ([.agg [qu 18446744069414584320, qu 18446744073709551615, qu 18446744073709551615, qu 18446744073709551615, qu 18446744073709551615, qu 18446744073709551615, qu 18446744073709551615, qu 18446744073709551615]], qi (-4294967296))]
theorem fk_e0_53_k : okL Tryz.prog 53 fk_e0_53 := chkF_ok (tell := fk_w0) fk_w0_ok (by kernel_rfl)
def fk_e0_54 : List (List AVal × AVal) := [([.agg [qu 8589934592, qu 0, qu 0, qu 0, qu 0, qu 0, qu 0, qu 0], .agg [qu 18446744069414584320, qu 18446744073709551615, qu 18446744073709551615, qu 18446744073709551615, qu 18446744073709551615, qu 18446744073709551615, qu 18446744073709551615, qu 18446744073709551615]], .agg [qu 4294967296, qu 0, qu 0, qu 0, qu 0, qu 0, qu 0, qu 0]),
 ([.agg [qu 4294967296, qu 0, qu 0, qu 0, qu 0, qu 0, qu 0, qu 0], .agg [qu 18446744069414584320, qu 18446744073709551615, qu 18446744073709551615, qu 18446744073709551615, qu 18446744073709551615, qu 18446744073709551615, qu 18446744073709551615, qu 18446744073709551615]], .agg [qu 0, qu 0, qu 0, qu 0, qu 0, qu 0, qu 0, qu 0]),
 ([.agg [qu 4294967296, qu 0, qu 0, qu 0, qu 0, qu 0, qu 0, qu 0], .agg [qu 4294967296, qu 0, qu 0, qu 0, qu 0, qu 0, qu 0, qu 0]], .agg [qu 8589934592, qu 0, qu 0, qu 0, qu 0, qu 0, qu 0, qu 0])]
theorem fk_e0_54_k : okL Tryz.prog 54 fk_e0_54 := chkF_ok (tell := fk_w0) fk_w0_ok (by kernel_rfl)
def fk_e0_55 : List (List AVal × AVal) := [([qi 8589934592], .agg [qu 8589934592, qu 0, qu 0, qu 0, qu 0, qu 0, qu 0, qu 0]),
 ([qi 4294967296], .agg [qu 4294967296, qu 0, qu 0, qu 0, qu 0, qu 0, qu 0, qu 0])]
theorem fk_e0_55_k : okL Tryz.prog 55 fk_e0_55 := chkF_ok (tell := fk_w0) fk_w0_ok (by kernel_rfl)
def fk_e0_65 : List (List AVal × AVal) := [([.agg [qu 0, qu 4, qu 0, qu 0, qu 0, qu 0, qu 0, qu 0]], .bool false),
 ([.agg [qu 0, qu 1, qu 0, qu 0, qu 0, qu 0, qu 0, qu 0]], .bool false),
 ([.agg [qu 0, qu 0, qu 0, qu 0, qu 0, qu 0, qu 0, qu 0]], .bool false)]
theorem fk_e0_65_k : okL Tryz.prog 65 fk_e0_65 := chkF_ok (tell := fk_w0) fk_w0_ok (by kernel_rfl)
def fk_e0_72 : List (List AVal × AVal) := [([.agg [qi 0, qi 0, qi 0]], .bool true)]
theorem fk_e0_72_k : okL Tryz.prog 72 fk_e0_72 := chkF_ok (tell := fk_w0) fk_w0_ok (by kernel_rfl)
def fk_e0_76 : List (List AVal × AVal) := [([qi 0], .agg [qu 0, qu 0, qu 0, qu 0, qu 0, qu 0, qu 0, qu 0]),
 ([qi 4294967296], .agg [qu 4294967296, qu 0, qu 0, qu 0, qu 0, qu 0, qu 0, qu 0]),
 ([qi 17179869184], .agg [qu 17179869184, qu 0, qu 0, qu 0, qu 0, qu 0, qu 0, qu 0]),
 ([qi 8589934592], .agg [qu 8589934592, qu 0, qu 0, qu 0, qu 0, qu 0, qu 0, qu 0])]
theorem fk_e0_76_k : okL Tryz.prog 76 fk_e0_76 := chkF_ok (tell := fk_w0) fk_w0_ok (by kernel_rfl)
def fk_e0_79 : List (List AVal × AVal) := [([.agg [qu 4294967296, qu 0, qu 0, qu 0, qu 0, qu 0, qu 0, qu 0], .agg [qu 0, qu 0, qu 0, qu 0, qu 0, qu 0, qu 0, qu 0]], .agg [qu 0, qu 0, qu 0, qu 0, qu 0, qu 0, qu 0, qu 0]),
 ([.agg [qu 0, qu 0, qu 0, qu 0, qu 0, qu 0, qu 0, qu 0], .agg [qu 0, qu 0, qu 0, qu 0, qu 0, qu 0, qu 0, qu 0]], .agg [qu 0, qu 0, qu 0, qu 0, qu 0, qu 0, qu 0, qu 0])]
theorem fk_e0_79_k : okL Tryz.prog 79 fk_e0_79 := chkF_ok (tell := fk_w0) fk_w0_ok (by kernel_rfl)
def fk_e0_80 : List (List AVal × AVal) := [([qi 0], qi 0),
 ([qi 17179869184], qi 262144),
 ([qi 8589934592], qi 131072)]
theorem fk_e0_80_k : okL Tryz.prog 80 fk_e0_80 := chkF_ok (tell := fk_w0) fk_w0_ok (by kernel_rfl)
def fk_e0_90 : List (List AVal × AVal) := [([.agg [qu 17179869184, qu 0, qu 0, qu 0, qu 0, qu 0, qu 0, qu 0], .agg [qu 0, qu 0, qu 0, qu 0, qu 0, qu 0, qu 0, qu 0]], .agg [qu 17179869184, qu 0, qu 0, qu 0, qu 0, qu 0, qu 0, qu 0])]
theorem fk_e0_90_k : okL Tryz.prog 90 fk_e0_90 := chkF_ok (tell := fk_w0) fk_w0_ok (by kernel_rfl)
def fk_e0_92 : List (List AVal × AVal) := [([.agg [qu 4294967296, qu 0, qu 0, qu 0, qu 0, qu 0, qu 0, qu 0]], .agg [qu 18446744069414584320, qu 18446744073709551615, qu 18446744073709551615, qu 18446744073709551615, qu 18446744073709551615, qu 18446744073709551615, qu 18446744073709551615, qu 18446744073709551615])]
theorem fk_e0_92_k : okL Tryz.prog 92 fk_e0_92 := chkF_ok (tell := fk_w0) fk_w0_ok (by kernel_rfl)
def fk_e0_95 : List (List AVal × AVal) := [([.agg [qu 4294967296, qu 0, qu 0, qu 0, qu 0, qu 0, qu 0, qu 0]], .agg [qu 18446744069414584320, qu 18446744073709551615, qu 18446744073709551615, qu 18446744073709551615, qu 18446744073709551615, qu 18446744073709551615, qu 18446744073709551615, qu 18446744073709551615])]
theorem fk_e0_95_k : okL Tryz.prog 95 fk_e0_95 := chkF_ok (tell := fk_w0) fk_w0_ok (by kernel_rfl)
def fk_e0_113 : List (List AVal × AVal) := [([.agg [qi 4294967296, qi 0, qi 0, qi 0]], .agg [qu 4294967296, qu 0, qu 0, qu 0, qu 0, qu 0, qu 0, qu 0, qu 0, qu 0, qu 0, qu 0, qu 0, qu 0, qu 0, qu 0, qu 0, qu 0, qu 0, qu 0, qu 0, qu 0, qu 0, qu 0, qu 0, qu 0, qu 0, qu 0, qu 0, qu 0, qu 0, qu 0])]
theorem fk_e0_113_k : okL Tryz.prog 113 fk_e0_113 := chkF_ok (tell := fk_w0) fk_w0_ok (by kernel_rfl)
def fk_e0_152 : List (List AVal × AVal) := [([.agg [qu 0, qu 0, qu 0, qu 0, qu 0, qu 0, qu 0, qu 0], .agg [qu 0, qu 1, qu 0, qu 0, qu 0, qu 0, qu 0, qu 0]], .agg [qu 0, qu 1, qu 0, qu 0, qu 0, qu 0, qu 0, qu 0]),
 ([.agg [qu 0, qu 1, qu 0, qu 0, qu 0, qu 0, qu 0, qu 0], .agg [qu 0, qu 0, qu 0, qu 0, qu 0, qu 0, qu 0, qu 0]], .agg [qu 0, qu 1, qu 0, qu 0, qu 0, qu 0, qu 0, qu 0]),
 ([.agg [qu 0, qu 0, qu 0, qu 0, qu 0, qu 0, qu 0, qu 0], .agg [qu 0, qu 0, qu 0, qu 0, qu 0, qu 0, qu 0, qu 0]], .agg [qu 0, qu 0, qu 0, qu 0, qu 0, qu 0, qu 0, qu 0])]
theorem fk_e0_152_k : okL Tryz.prog 152 fk_e0_152 := chkF_ok (tell := fk_w0) fk_w0_ok (by kernel_rfl)
def fk_e0_162 : List (List AVal × AVal) := [([.agg [qi (-131072), qi 0, qi 0]], .agg [qu 18446744073709420544, qu 18446744073709551615, qu 18446744073709551615, qu 18446744073709551615, qu 18446744073709551615, qu 18446744073709551615, qu 18446744073709551615, qu 18446744073709551615, qu 0, qu 0, qu 0, qu 0, qu 0, qu 0, qu 0, qu 0, qu 0, qu 0, qu 0, qu 0, qu 0, qu 0, qu 0, qu 0]),
 ([.agg [qi 131072, qi 0, qi 0]], .agg [qu 131072, qu 0, qu 0, qu 0, qu 0, qu 0, qu 0, qu 0, qu 0, qu 0, qu 0, qu 0, qu 0, qu 0, qu 0, qu 0, qu 0, qu 0, qu 0, qu 0, qu 0, qu 0, qu 0, qu 0]),
 ([.agg [qi 0, qi (-131072), qi 0]], .agg [qu 0, qu 0, qu 0, qu 0, qu 0, qu 0, qu 0, qu 0, qu 18446744073709420544, qu 18446744073709551615, qu 18446744073709551615, qu 18446744073709551615, qu 18446744073709551615, qu 18446744073709551615, qu 18446744073709551615, qu 18446744073709551615, qu 0, qu 0, qu 0, qu 0, qu 0, qu 0, qu 0, qu 0]),
 ([.agg [qi (-262144), qi (-131072), qi 0]], .agg [qu 18446744073709289472, qu 18446744073709551615, qu 18446744073709551615, qu 18446744073709551615, qu 18446744073709551615, qu 18446744073709551615, qu 18446744073709551615, qu 18446744073709551615, qu 18446744073709420544, qu 18446744073709551615, qu 18446744073709551615, qu 18446744073709551615, qu 18446744073709551615, qu 18446744073709551615, qu 18446744073709551615, qu 18446744073709551615, qu 0, qu 0, qu 0, qu 0, qu 0, qu 0, qu 0, qu 0]),
 ([.agg [qi 262144, qi (-131072), qi 0]], .agg [qu 262144, qu 0, qu 0, qu 0, qu 0, qu 0, qu 0, qu 0, qu 18446744073709420544, qu 18446744073709551615, qu 18446744073709551615, qu 18446744073709551615, qu 18446744073709551615, qu 18446744073709551615, qu 18446744073709551615, qu 18446744073709551615, qu 0, qu 0, qu 0, qu 0, qu 0, qu 0, qu 0, qu 0])]
theorem fk_e0_162_k : okL Tryz.prog 162 fk_e0_162 := chkF_ok (tell := fk_w0) fk_w0_ok (by kernel_rfl)
def fk_e0_173 : List (List AVal × AVal) := [([qi 1], qi 1),
 ([qi 2], qi 3)]
theorem fk_e0_173_k : okL Tryz.prog 173 fk_e0_173 := chkF_ok (tell := fk_w0) fk_w0_ok (by kernel_rfl)
def fk_e0_190 : List (List AVal × AVal) := [([qu 1], qi 1),
 ([qu 2], qi 2),
 ([qu 0], qi 0)]
theorem fk_e0_190_k : okL Tryz.prog 190 fk_e0_190 := chkF_ok (tell := fk_w0) fk_w0_ok (by kernel_rfl)
def fk_e0_197a : List (List AVal × AVal) := [([.agg [qu 1, qu 0, qu 0, qu 0, qu 0, qu 0, qu 0, qu 0], .agg [qu 18446744073709420544, qu 18446744073709551615, qu 18446744073709551615, qu 18446744073709551615, qu 18446744073709551615, qu 18446744073709551615, qu 18446744073709551615, qu 18446744073709551615]], .agg [qu 18446744073709420544, qu 18446744073709551615, qu 18446744073709551615, qu 18446744073709551615, qu 18446744073709551615, qu 18446744073709551615, qu 18446744073709551615, qu 18446744073709551615]),
 ([.agg [qu 1, qu 0, qu 0, qu 0, qu 0, qu 0, qu 0, qu 0], .agg [qu 0, qu 0, qu 0, qu 0, qu 0, qu 0, qu 0, qu 0]], .agg [qu 0, qu 0, qu 0, qu 0, qu 0, qu 0, qu 0, qu 0]),
 ([.agg [qu 17179869184, qu 0, qu 0, qu 0, qu 0, qu 0, qu 0, qu 0], .agg [qu 1, qu 0, qu 0, qu 0, qu 0, qu 0, qu 0, qu 0]], .agg [qu 17179869184, qu 0, qu 0, qu 0, qu 0, qu 0, qu 0, qu 0]),
 ([.agg [qu 18446744073709420544, qu 18446744073709551615, qu 18446744073709551615, qu 18446744073709551615, qu 18446744073709551615, qu 18446744073709551615, qu 18446744073709551615, qu 18446744073709551615], .agg [qu 18446744073709420544, qu 18446744073709551615, qu 18446744073709551615, qu 18446744073709551615, qu 18446744073709551615, qu 18446744073709551615, qu 18446744073709551615, qu 18446744073709551615]], .agg [qu 17179869184, qu 0, qu 0, qu 0, qu 0, qu 0, qu 0, qu 0]),
 ([.agg [qu 0, qu 0, qu 0, qu 0, qu 0, qu 0, qu 0, qu 0], .agg [qu 0, qu 0, qu 0, qu 0, qu 0, qu 0, qu 0, qu 0]], .agg [qu 0, qu 0, qu 0, qu 0, qu 0, qu 0, qu 0, qu 0]),
 ([.agg [qu 1, qu 0, qu 0, qu 0, qu 0, qu 0, qu 0, qu 0], .agg [qu 131072, qu 0, qu 0, qu 0, qu 0, qu 0, qu 0, qu 0]], .agg [qu 131072, qu 0, qu 0, qu 0, qu 0, qu 0, qu 0, qu 0])]
theorem fk_e0_197a_k : okL Tryz.prog 197 fk_e0_197a := chkF_ok (tell := fk_w0) fk_w0_ok (by kernel_rfl)
def fk_e0_197b : List (List AVal × AVal) := [([.agg [qu 131072, qu 0, qu 0, qu 0, qu 0, qu 0, qu 0, qu 0], .agg [qu 131072, qu 0, qu 0, qu 0, qu 0, qu 0, qu 0, qu 0]], .agg [qu 17179869184, qu 0, qu 0, qu 0, qu 0, qu 0, qu 0, qu 0]),
 ([.agg [qu 1, qu 0, qu 0, qu 0, qu 0, qu 0, qu 0, qu 0], .agg [qu 262144, qu 0, qu 0, qu 0, qu 0, qu 0, qu 0, qu 0]], .agg [qu 262144, qu 0, qu 0, qu 0, qu 0, qu 0, qu 0, qu 0]),
 ([.agg [qu 85899345920, qu 0, qu 0, qu 0, qu 0, qu 0, qu 0, qu 0], .agg [qu 1, qu 0, qu 0, qu 0, qu 0, qu 0, qu 0, qu 0]], .agg [qu 85899345920, qu 0, qu 0, qu 0, qu 0, qu 0, qu 0, qu 0]),
 ([.agg [qu 262144, qu 0, qu 0, qu 0, qu 0, qu 0, qu 0, qu 0], .agg [qu 262144, qu 0, qu 0, qu 0, qu 0, qu 0, qu 0, qu 0]], .agg [qu 68719476736, qu 0, qu 0, qu 0, qu 0, qu 0, qu 0, qu 0])]
theorem fk_e0_197b_k : okL Tryz.prog 197 fk_e0_197b := chkF_ok (tell := fk_w0) fk_w0_ok (by kernel_rfl)
def fk_e0_205a : List (List AVal × AVal) := [([.agg [qu 0, qu 0, qu 0, qu 0, qu 0, qu 0, qu 0, qu 0], .agg [qu 18446744073709420544, qu 18446744073709551615, qu 18446744073709551615, qu 18446744073709551615, qu 18446744073709551615, qu 18446744073709551615, qu 18446744073709551615, qu 18446744073709551615]], .agg [qu 18446744073709420544, qu 18446744073709551615, qu 18446744073709551615, qu 18446744073709551615, qu 18446744073709551615, qu 18446744073709551615, qu 18446744073709551615, qu 18446744073709551615]),
 ([.agg [qu 0, qu 0, qu 0, qu 0, qu 0, qu 0, qu 0, qu 0], .agg [qu 0, qu 0, qu 0, qu 0, qu 0, qu 0, qu 0, qu 0]], .agg [qu 0, qu 0, qu 0, qu 0, qu 0, qu 0, qu 0, qu 0]),
 ([.agg [qu 17179869184, qu 0, qu 0, qu 0, qu 0, qu 0, qu 0, qu 0], .agg [qu 0, qu 0, qu 0, qu 0, qu 0, qu 0, qu 0, qu 0]], .agg [qu 17179869184, qu 0, qu 0, qu 0, qu 0, qu 0, qu 0, qu 0]),
 ([.agg [qu 0, qu 0, qu 0, qu 0, qu 0, qu 0, qu 0, qu 0], .agg [qu 131072, qu 0, qu 0, qu 0, qu 0, qu 0, qu 0, qu 0]], .agg [qu 131072, qu 0, qu 0, qu 0, qu 0, qu 0, qu 0, qu 0]),
 ([.agg [qu 0, qu 0, qu 0, qu 0, qu 0, qu 0, qu 0, qu 0], .agg [qu 17179869184, qu 0, qu 0, qu 0, qu 0, qu 0, qu 0, qu 0]], .agg [qu 17179869184, qu 0, qu 0, qu 0, qu 0, qu 0, qu 0, qu 0]),
 ([.agg [qu 0, qu 0, qu 0, qu 0, qu 0, qu 0, qu 0, qu 0], .agg [qu 262144, qu 0, qu 0, qu 0, qu 0, qu 0, qu 0, qu 0]], .agg [qu 262144, qu 0, qu 0, qu 0, qu 0, qu 0, qu 0, qu 0])]
theorem fk_e0_205a_k : okL Tryz.prog 205 fk_e0_205a := chkF_ok (tell := fk_w0) fk_w0_ok (by kernel_rfl)
def fk_e0_205b : List (List AVal × AVal) := [([.agg [qu 68719476736, qu 0, qu 0, qu 0, qu 0, qu 0, qu 0, qu 0], .agg [qu 17179869184, qu 0, qu 0, qu 0, qu 0, qu 0, qu 0, qu 0]], .agg [qu 85899345920, qu 0, qu 0, qu 0, qu 0, qu 0, qu 0, qu 0]),
 ([.agg [qu 85899345920, qu 0, qu 0, qu 0, qu 0, qu 0, qu 0, qu 0], .agg [qu 0, qu 0, qu 0, qu 0, qu 0, qu 0, qu 0, qu 0]], .agg [qu 85899345920, qu 0, qu 0, qu 0, qu 0, qu 0, qu 0, qu 0])]
theorem fk_e0_205b_k : okL Tryz.prog 205 fk_e0_205b := chkF_ok (tell := fk_w0) fk_w0_ok (by kernel_rfl)
def fk_e0_230 : List (List AVal × AVal) := [([qu 1], qi 1),
 ([qu 3], qi 2),
 ([qu 2], qi 1)]
theorem fk_e0_230_k : okL Tryz.prog 230 fk_e0_230 := chkF_ok (tell := fk_w0) fk_w0_ok (by kernel_rfl)
def fk_e0_239 : List (List AVal × AVal) := [([qi 1], .bool false)]
theorem fk_e0_239_k : okL Tryz.prog 239 fk_e0_239 := chkF_ok (tell := fk_w0) fk_w0_ok (by kernel_rfl)
def fk_f0_19 : List MF := [⟨[.agg [qu 0, qu 0, qu 0, qu 0, qu 0, qu 0, qu 0, qu 0, qu 18446744073709420544, qu 18446744073709551615, qu 18446744073709551615, qu 18446744073709551615, qu 18446744073709551615, qu 18446744073709551615, qu 18446744073709551615, qu 18446744073709551615, qu 0, qu 0, qu 0, qu 0, qu 0, qu 0, qu 0, qu 0, qu 1, qu 0, qu 0, qu 0, qu 0, qu 0, qu 0, qu 0, .vec 0], qi 8589934592], ⟨1, [(0, .vec [qi 0] 1 1 false)]⟩, (.bool true, ⟨1, [(0, .vec [qi 0] 1 1 false)]⟩)⟩,
 ⟨[.agg [qu 0, qu 0, qu 0, qu 0, qu 0, qu 0, qu 0, qu 0, qu 18446744073709420544, qu 18446744073709551615, qu 18446744073709551615, qu 18446744073709551615, qu 18446744073709551615, qu 18446744073709551615, qu 18446744073709551615, qu 18446744073709551615, qu 0, qu 0, qu 0, qu 0, qu 0, qu 0, qu 0, qu 0, qu 1, qu 0, qu 0, qu 0, qu 0, qu 0, qu 0, qu 0, .vec 0], qi 8589934592], ⟨1, [(0, .vec [qi 1] 1 1 false)]⟩, (.bool true, ⟨1, [(0, .vec [qi 1] 1 1 false)]⟩)⟩]
theorem fk_f0_19_k : okM Tryz.prog 19 fk_f0_19 := chkM_ok (tell := fk_w0) fk_w0_ok (by kernel_rfl)
def fk_f0_28 : List MF := [⟨[qi 1, qi 0, qi 4294967296], ⟨0, []⟩, (.agg [qi 1, qi 1, qi 4294967296, qi 0, qi 0, qi 0, .nils, qi 0, qi 0, qi 0, qi 4294967296, qi 0, qi 0, qi 0, qi 0, qi 0, qi 0, qi 0, qi 0, qi 0, qi 0, qi 0], ⟨0, []⟩)⟩,
 ⟨[qi 2, qi 17179869184, qi 4294967296], ⟨0, []⟩, (.agg [qi 2, qi 1, qi 4294967296, qi 0, qi 0, qi 0, .nils, qi 17179869184, qi 0, qi 0, qi 4294967296, qi 0, qi 0, qi 0, qi 0, qi 0, qi 0, qi 0, qi 0, qi 0, qi 0, qi 0], ⟨0, []⟩)⟩,
 ⟨[qi 1, qi 8589934592, qi 4294967296], ⟨0, []⟩, (.agg [qi 1, qi 1, qi 4294967296, qi 0, qi 0, qi 0, .nils, qi 8589934592, qi 0, qi 0, qi 4294967296, qi 0, qi 0, qi 0, qi 0, qi 0, qi 0, qi 0, qi 0, qi 0, qi 0, qi 0], ⟨0, []⟩)⟩]
theorem fk_f0_28_k : okM Tryz.prog 28 fk_f0_28 := chkM_ok (tell := fk_w0) fk_w0_ok (by kernel_rfl)
def fk_f0_71 : List MF := [⟨[], ⟨0, []⟩, (.agg [.nilf, .nilf, .func 115 [] [.ptr 0 0], .func 116 [] [], .func 117 [] [], .func 118 [] [], .func 119 [] [], .func 120 [] [], .func 121 [] [], .func 122 [] []], ⟨1, [(0, .cells [.func 114 [] []] true none)]⟩)⟩]
theorem fk_f0_71_k : okM Tryz.prog 71 fk_f0_71 := chkM_ok (tell := fk_w0) fk_w0_ok (by kernel_rfl)
def fk_f0_78 : List MF := [⟨[.vec 0], ⟨1, [(0, .vec [qu 0, qu 0, qu 0, qu 0, qu 0, qu 0, qu 0, qu 0, qu 0, qu 0, qu 0, qu 0, qu 0, qu 0, qu 0, qu 0, qu 0, qu 0, qu 0, qu 0, qu 0, qu 0, qu 0, qu 0, qu 0, qu 0, qu 0, qu 0, qu 0, qu 0, qu 0, qu 0] 4 8 false)]⟩, (.agg [qu 0, qu 0, qu 0, qu 0, qu 0, qu 0, qu 0, qu 0], ⟨1, [(0, .vec [qu 0, qu 0, qu 0, qu 0, qu 0, qu 0, qu 0, qu 0, qu 0, qu 0, qu 0, qu 0, qu 0, qu 0, qu 0, qu 0, qu 0, qu 0, qu 0, qu 0, qu 0, qu 0, qu 0, qu 0, qu 0, qu 0, qu 0, qu 0, qu 0, qu 0, qu 0, qu 0] 4 8 false)]⟩)⟩,
 ⟨[.vec 0], ⟨1, [(0, .vec [qu 0, qu 4, qu 0, qu 0, qu 0, qu 0, qu 0, qu 0, qu 0, qu 0, qu 0, qu 0, qu 0, qu 0, qu 0, qu 0, qu 0, qu 0, qu 0, qu 0, qu 0, qu 0, qu 0, qu 0, qu 0, qu 0, qu 0, qu 0, qu 0, qu 0, qu 0, qu 0] 4 8 false)]⟩, (.agg [qu 0, qu 4, qu 0, qu 0, qu 0, qu 0, qu 0, qu 0], ⟨1, [(0, .vec [qu 0, qu 4, qu 0, qu 0, qu 0, qu 0, qu 0, qu 0, qu 0, qu 0, qu 0, qu 0, qu 0, qu 0, qu 0, qu 0, qu 0, qu 0, qu 0, qu 0, qu 0, qu 0, qu 0, qu 0, qu 0, qu 0, qu 0, qu 0, qu 0, qu 0, qu 0, qu 0] 4 8 false)]⟩)⟩,
 ⟨[.vec 0], ⟨1, [(0, .vec [qu 0, qu 2, qu 0, qu 0, qu 0, qu 0, qu 0, qu 0, qu 0, qu 0, qu 0, qu 0, qu 0, qu 0, qu 0, qu 0, qu 0, qu 0, qu 0, qu 0, qu 0, qu 0, qu 0, qu 0, qu 0, qu 0, qu 0, qu 0, qu 0, qu 0, qu 0, qu 0] 4 8 false)]⟩, (.agg [qu 0, qu 2, qu 0, qu 0, qu 0, qu 0, qu 0, qu 0], ⟨1, [(0, .vec [qu 0, qu 2, qu 0, qu 0, qu 0, qu 0, qu 0, qu 0, qu 0, qu 0, qu 0, qu 0, qu 0, qu 0, qu 0, qu 0, qu 0, qu 0, qu 0, qu 0, qu 0, qu 0, qu 0, qu 0, qu 0, qu 0, qu 0, qu 0, qu 0, qu 0, qu 0, qu 0] 4 8 false)]⟩)⟩]
theorem fk_f0_78_k : okM Tryz.prog 78 fk_f0_78 := chkM_ok (tell := fk_w0) fk_w0_ok (by kernel_rfl)
def fk_f0_105 : List MF := [⟨[qi 8192], ⟨0, []⟩, (.tup [.ptr 0 0, qi 0], ⟨2, [(0, .cells [.bool true, qi 8192, .nils, .nils, qi (-1), .map 1] true none), (1, .map [] 0)]⟩)⟩]
theorem fk_f0_105_k : okM Tryz.prog 105 fk_f0_105 := chkM_ok (tell := fk_w0) fk_w0_ok (by kernel_rfl)
def fk_f0_114 : List MF := [⟨[.agg [qi 1, qi 4294967296, qi 0, qi 0, qi 0, .nils]], ⟨0, []⟩, (.bool true, ⟨0, []⟩)⟩]
theorem fk_f0_114_k : okM Tryz.prog 114 fk_f0_114 := chkM_ok (tell := fk_w0) fk_w0_ok (by kernel_rfl)
def fk_f0_116 : List MF := [⟨[.agg [qi 1, qi 4294967296, qi 0, qi 0, qi 0, .nils]], ⟨0, []⟩, (.slice 0 0 1 true 1, ⟨1, [(0, .cells [qi 0, qi 0, qi 0] true (some 3))]⟩)⟩]
theorem fk_f0_116_k : okM Tryz.prog 116 fk_f0_116 := chkM_ok (tell := fk_w0) fk_w0_ok (by kernel_rfl)
def fk_f0_123 : List MF := [⟨[.nils], ⟨0, []⟩, (.nils, ⟨0, []⟩)⟩]
theorem fk_f0_123_k : okM Tryz.prog 123 fk_f0_123 := chkM_ok (tell := fk_w0) fk_w0_ok (by kernel_rfl)
def fk_f0_144 : List MF := [⟨[qi 1], ⟨0, []⟩, (.func 176 [] [.ptr 0 0], ⟨1, [(0, .cells [qi 1] true none)]⟩)⟩,
 ⟨[qi 2], ⟨0, []⟩, (.func 176 [] [.ptr 0 0], ⟨1, [(0, .cells [qi 2] true none)]⟩)⟩]
theorem fk_f0_144_k : okM Tryz.prog 144 fk_f0_144 := chkM_ok (tell := fk_w0) fk_w0_ok (by kernel_rfl)
def fk_f0_155 : List MF := [⟨[.ptr 0 0, .agg [qi (-131072), qi 0, qi 0]], ⟨1, [(0, .cells [.nils] false none)]⟩, (.bool true, ⟨1, [(0, .cells [.nils] false none)]⟩)⟩,
 ⟨[.ptr 0 0, .agg [qi 131072, qi 0, qi 0]], ⟨1, [(0, .cells [.nils] false none)]⟩, (.bool true, ⟨1, [(0, .cells [.nils] false none)]⟩)⟩,
 ⟨[.ptr 0 0, .agg [qi 0, qi (-131072), qi 0]], ⟨1, [(0, .cells [.nils] false none)]⟩, (.bool true, ⟨1, [(0, .cells [.nils] false none)]⟩)⟩,
 ⟨[.ptr 1 0, .agg [qi (-262144), qi (-131072), qi 0]], ⟨2, [(0, .vec [qi 0, qi (-131072), qi 0] 1 3 false), (1, .cells [.vec 0] false none)]⟩, (.bool true, ⟨2, [(0, .vec [qi 0, qi (-131072), qi 0] 1 3 false), (1, .cells [.vec 0] false none)]⟩)⟩,
 ⟨[.ptr 0 0, .agg [qi 262144, qi (-131072), qi 0]], ⟨1, [(0, .cells [.nils] false none)]⟩, (.bool true, ⟨1, [(0, .cells [.nils] false none)]⟩)⟩,
 ⟨[.ptr 1 0, .agg [qi 0, qi (-131072), qi 0]], ⟨2, [(0, .vec [qi 262144, qi (-131072), qi 0] 1 3 false), (1, .cells [.vec 0] false none)]⟩, (.bool true, ⟨2, [(0, .vec [qi 262144, qi (-131072), qi 0] 1 3 false), (1, .cells [.vec 0] false none)]⟩)⟩]
theorem fk_f0_155_k : okM Tryz.prog 155 fk_f0_155 := chkM_ok (tell := fk_w0) fk_w0_ok (by kernel_rfl)
def fk_f0_156 : List MF := [⟨[.nils], ⟨0, []⟩, (.bool true, ⟨0, []⟩)⟩]
theorem fk_f0_156_k : okM Tryz.prog 156 fk_f0_156 := chkM_ok (tell := fk_w0) fk_w0_ok (by kernel_rfl)
def fk_f0_175 : List MF := [⟨[.vec 0], ⟨1, [(0, .vec [qi 0] 1 1 false)]⟩, (.vec 1, ⟨2, [(0, .vec [qi 0] 1 1 false), (1, .vec [qi 0] 1 1 true)]⟩)⟩]
theorem fk_f0_175_k : okM Tryz.prog 175 fk_f0_175 := chkM_ok (tell := fk_w0) fk_w0_ok (by kernel_rfl)
def fk_f0_178 : List MF := [⟨[.vec 0], ⟨1, [(0, .vec [qi (-131072), qi 0, qi 0] 1 3 false)]⟩, (.tup [.vec 1, .agg [qu 1, qu 0, qu 0, qu 0, qu 0, qu 0, qu 0, qu 0]], ⟨2, [(0, .vec [qi (-131072), qi 0, qi 0] 1 3 false), (1, .vec [qu 1, qu 0, qu 0, qu 0, qu 0, qu 0, qu 0, qu 0] 1 8 true)]⟩)⟩,
 ⟨[.vec 0], ⟨1, [(0, .vec [qi 131072, qi 0, qi 0] 1 3 false)]⟩, (.tup [.vec 1, .agg [qu 1, qu 0, qu 0, qu 0, qu 0, qu 0, qu 0, qu 0]], ⟨2, [(0, .vec [qi 131072, qi 0, qi 0] 1 3 false), (1, .vec [qu 1, qu 0, qu 0, qu 0, qu 0, qu 0, qu 0, qu 0] 1 8 true)]⟩)⟩,
 ⟨[.vec 0], ⟨1, [(0, .vec [qi 0, qi (-131072), qi 0] 1 3 false)]⟩, (.tup [.vec 1, .agg [qu 1, qu 0, qu 0, qu 0, qu 0, qu 0, qu 0, qu 0]], ⟨2, [(0, .vec [qi 0, qi (-131072), qi 0] 1 3 false), (1, .vec [qu 1, qu 0, qu 0, qu 0, qu 0, qu 0, qu 0, qu 0] 1 8 true)]⟩)⟩,
 ⟨[.vec 0], ⟨1, [(0, .vec [qi 262144, qi (-131072), qi 0] 1 3 false)]⟩, (.tup [.vec 1, .agg [qu 1, qu 0, qu 0, qu 0, qu 0, qu 0, qu 0, qu 0]], ⟨2, [(0, .vec [qi 262144, qi (-131072), qi 0] 1 3 false), (1, .vec [qu 1, qu 0, qu 0, qu 0, qu 0, qu 0, qu 0, qu 0] 1 8 true)]⟩)⟩]
theorem fk_f0_178_k : okM Tryz.prog 178 fk_f0_178 := chkM_ok (tell := fk_w0) fk_w0_ok (by kernel_rfl)
def fk_f0_207 : List MF := [⟨[.agg [qi 1, qi 1, qi 4294967296, qi 0, qi 0, qi 0, .nils, qi 0, qi 0, qi 0, qi 4294967296, qi 0, qi 0, qi 0, qi 0, qi 0, qi 0, qi 0, qi 0, qi 0, qi 0, qi 0]], ⟨0, []⟩, (.bool true, ⟨0, []⟩)⟩,
 ⟨[.agg [qi 2, qi 1, qi 4294967296, qi 0, qi 0, qi 0, .nils, qi 17179869184, qi 0, qi 0, qi 4294967296, qi 0, qi 0, qi 0, qi 0, qi 0, qi 0, qi 0, qi 0, qi 0, qi 0, qi 0]], ⟨0, []⟩, (.bool true, ⟨0, []⟩)⟩]
theorem fk_f0_207_k : okM Tryz.prog 207 fk_f0_207 := chkM_ok (tell := fk_w0) fk_w0_ok (by kernel_rfl)
def fk_lt1 : FTab := fun f => cond (Nat.beq f 12) fk_e0_12 (cond (Nat.beq f 16) fk_e0_16 (cond (Nat.beq f 36) (fk_e0_36a ++ (fk_e0_36b ++ (fk_e0_36c ++ (fk_e0_36d ++ (fk_e0_36e ++ (fk_e0_36f)))))) (cond (Nat.beq f 43) fk_e0_43 (cond (Nat.beq f 45) fk_e0_45 (cond (Nat.beq f 53) fk_e0_53 (cond (Nat.beq f 54) fk_e0_54 (cond (Nat.beq f 55) fk_e0_55 (cond (Nat.beq f 65) fk_e0_65 (cond (Nat.beq f 72) fk_e0_72 (cond (Nat.beq f 76) fk_e0_76 (cond (Nat.beq f 79) fk_e0_79 (cond (Nat.beq f 80) fk_e0_80 (cond (Nat.beq f 90) fk_e0_90 (cond (Nat.beq f 92) fk_e0_92 (cond (Nat.beq f 95) fk_e0_95 (cond (Nat.beq f 113) fk_e0_113 (cond (Nat.beq f 152) fk_e0_152 (cond (Nat.beq f 162) fk_e0_162 (cond (Nat.beq f 173) fk_e0_173 (cond (Nat.beq f 190) fk_e0_190 (cond (Nat.beq f 197) (fk_e0_197a ++ (fk_e0_197b)) (cond (Nat.beq f 205) (fk_e0_205a ++ (fk_e0_205b)) (cond (Nat.beq f 230) fk_e0_230 (cond (Nat.beq f 239) fk_e0_239 ([])))))))))))))))))))))))))
theorem fk_lt1_ok : FTabOk Tryz.prog fk_lt1 := (ftab_node (l := fk_e0_12) fk_e0_12_k (ftab_node (l := fk_e0_16) fk_e0_16_k (ftab_node (l := fk_e0_36a ++ (fk_e0_36b ++ (fk_e0_36c ++ (fk_e0_36d ++ (fk_e0_36e ++ (fk_e0_36f)))))) (okL_app fk_e0_36a_k (okL_app fk_e0_36b_k (okL_app fk_e0_36c_k (okL_app fk_e0_36d_k (okL_app fk_e0_36e_k fk_e0_36f_k))))) (ftab_node (l := fk_e0_43) fk_e0_43_k (ftab_node (l := fk_e0_45) fk_e0_45_k (ftab_node (l := fk_e0_53) fk_e0_53_k (ftab_node (l := fk_e0_54) fk_e0_54_k (ftab_node (l := fk_e0_55) fk_e0_55_k (ftab_node (l := fk_e0_65) fk_e0_65_k (ftab_node (l := fk_e0_72) fk_e0_72_k (ftab_node (l := fk_e0_76) fk_e0_76_k (ftab_node (l := fk_e0_79) fk_e0_79_k (ftab_node (l := fk_e0_80) fk_e0_80_k (ftab_node (l := fk_e0_90) fk_e0_90_k (ftab_node (l := fk_e0_92) fk_e0_92_k (ftab_node (l := fk_e0_95) fk_e0_95_k (ftab_node (l := fk_e0_113) fk_e0_113_k (ftab_node (l := fk_e0_152) fk_e0_152_k (ftab_node (l := fk_e0_162) fk_e0_162_k (ftab_node (l := fk_e0_173) fk_e0_173_k (ftab_node (l := fk_e0_190) fk_e0_190_k (ftab_node (l := fk_e0_197a ++ (fk_e0_197b)) (okL_app fk_e0_197a_k fk_e0_197b_k) (ftab_node (l := fk_e0_205a ++ (fk_e0_205b)) (okL_app fk_e0_205a_k fk_e0_205b_k) (ftab_node (l := fk_e0_230) fk_e0_230_k (ftab_node (l := fk_e0_239) fk_e0_239_k ftab_leaf)))))))))))))))))))))))))
def fk_t1 : FTab := fun f => fk_lt1 f ++ fk_t0 f
theorem fk_t1_ok : FTabOk Tryz.prog fk_t1 := ftab_or fk_lt1_ok fk_t0_ok
def fk_lm1 : MTab := fun f => cond (Nat.beq f 19) fk_f0_19 (cond (Nat.beq f 28) fk_f0_28 (cond (Nat.beq f 71) fk_f0_71 (cond (Nat.beq f 78) fk_f0_78 (cond (Nat.beq f 105) fk_f0_105 (cond (Nat.beq f 114) fk_f0_114 (cond (Nat.beq f 116) fk_f0_116 (cond (Nat.beq f 123) fk_f0_123 (cond (Nat.beq f 144) fk_f0_144 (cond (Nat.beq f 155) fk_f0_155 (cond (Nat.beq f 156) fk_f0_156 (cond (Nat.beq f 175) fk_f0_175 (cond (Nat.beq f 178) fk_f0_178 (cond (Nat.beq f 207) fk_f0_207 ([]))))))))))))))
theorem fk_lm1_ok : MTabOk Tryz.prog fk_lm1 := (mtab_node (l := fk_f0_19) fk_f0_19_k (mtab_node (l := fk_f0_28) fk_f0_28_k (mtab_node (l := fk_f0_71) fk_f0_71_k (mtab_node (l := fk_f0_78) fk_f0_78_k (mtab_node (l := fk_f0_105) fk_f0_105_k (mtab_node (l := fk_f0_114) fk_f0_114_k (mtab_node (l := fk_f0_116) fk_f0_116_k (mtab_node (l := fk_f0_123) fk_f0_123_k (mtab_node (l := fk_f0_144) fk_f0_144_k (mtab_node (l := fk_f0_155) fk_f0_155_k (mtab_node (l := fk_f0_156) fk_f0_156_k (mtab_node (l := fk_f0_175) fk_f0_175_k (mtab_node (l := fk_f0_178) fk_f0_178_k (mtab_node (l := fk_f0_207) fk_f0_207_k mtab_leaf))))))))))))))
def fk_m1 : MTab := fun f => fk_lm1 f ++ fk_m0 f
theorem fk_m1_ok : MTabOk Tryz.prog fk_m1 := mtab_or fk_lm1_ok fk_m0_ok
noncomputable abbrev fk_c1 : CH := fk_ch fk_t1 fk_m1
theorem fk_c1_ok : CHOk Tryz.prog fk_c1 := fk_ch_ok fk_t1_ok fk_m1_ok
noncomputable abbrev fk_w1 : Teller := tellRD Tryz.prog tyTab 400 fk_ds fk_c1
theorem fk_w1_ok : TellOk Tryz.prog fk_w1 := tellRD_ok tab_ok mixed noNum fk_c1_ok
end Go.Ev
