/- What calls answer that hang on their arguments alone. No statement is proved here. Printed by facts.py. -/
import Derived.Test.YtegmknimddohoaaGreatFkT1
namespace Go.Ev
open Go.Proofs
set_option linter.unusedVariables false
set_option linter.unusedSimpArgs false
set_option maxRecDepth 100000
def fk_k73 : List AVal × AVal := ([.agg [.int .u64 4294967296, .int .u64 0, .int .u64 0, .int .u64 0, .int .u64 0, .int .u64 0, .int .u64 0, .int .u64 0, .int .u64 0, .int .u64 0, .int .u64 0, .int .u64 0, .int .u64 0, .int .u64 0, .int .u64 0, .int .u64 0, .int .u64 0, .int .u64 0, .int .u64 0, .int .u64 0, .int .u64 0, .int .u64 0, .int .u64 0, .int .u64 0, .int .u64 0, .int .u64 0, .int .u64 0, .int .u64 0, .int .u64 0, .int .u64 0, .int .u64 0, .int .u64 0]], .agg [.int .u64 0, .int .u64 1, .int .u64 0, .int .u64 0, .int .u64 0, .int .u64 0, .int .u64 0, .int .u64 0])
theorem fk_73 : pureN Tryz.prog tyTab 400 (fk_ch fk_t1 fk_m1) 129 fk_k73.1 = some fk_k73.2 := by kernel_rfl
def fk_k74 : List AVal × AVal := ([.int .i64 0], .int .i64 0)
theorem fk_74 : pureN Tryz.prog tyTab 400 (fk_ch fk_t1 fk_m1) 158 fk_k74.1 = some fk_k74.2 := by kernel_rfl
def fk_k75 : List AVal × AVal := ([.agg [.int .u64 4294967296, .int .u64 0, .int .u64 0, .int .u64 0, .int .u64 0, .int .u64 0, .int .u64 0, .int .u64 0], .int .i64 32], .int .i64 4294967296)
theorem fk_75 : pureN Tryz.prog tyTab 400 (fk_ch fk_t1 fk_m1) 92 fk_k75.1 = some fk_k75.2 := by kernel_rfl
def fk_k76 : List AVal × AVal := ([.agg [.int .u64 0, .int .u64 0, .int .u64 0, .int .u64 0, .int .u64 0, .int .u64 0, .int .u64 0, .int .u64 0], .int .i64 32], .int .i64 0)
theorem fk_76 : pureN Tryz.prog tyTab 400 (fk_ch fk_t1 fk_m1) 92 fk_k76.1 = some fk_k76.2 := by kernel_rfl
def fk_k77 : List AVal × AVal := ([.agg [.int .u64 0, .int .u64 0, .int .u64 0, .int .u64 0, .int .u64 0, .int .u64 0, .int .u64 0, .int .u64 0], .int .i64 64], .int .i64 0)
theorem fk_77 : pureN Tryz.prog tyTab 400 (fk_ch fk_t1 fk_m1) 92 fk_k77.1 = some fk_k77.2 := by kernel_rfl
def fk_k78 : List AVal × AVal := ([.agg [.int .i64 0, .int .i64 0, .int .i64 0]], .tup [.agg [.int .i64 0, .int .i64 0, .int .i64 0], .int .i64 0])
theorem fk_78 : pureN Tryz.prog tyTab 400 (fk_ch fk_t1 fk_m1) 65 fk_k78.1 = some fk_k78.2 := by kernel_rfl
def fk_k79 : List AVal × AVal := ([.agg [.int .i64 0, .int .i64 0, .int .i64 0], .agg [.int .i64 0, .int .i64 0, .int .i64 0]], .agg [.int .i64 0, .int .i64 0, .int .i64 0])
theorem fk_79 : pureN Tryz.prog tyTab 400 (fk_ch fk_t1 fk_m1) 57 fk_k79.1 = some fk_k79.2 := by kernel_rfl
def fk_k80 : List AVal × AVal := ([.agg [.int .i64 0, .int .i64 0, .int .i64 0], .agg [.int .i64 0, .int .i64 0, .int .i64 0]], .agg [.int .i64 0, .int .i64 0, .int .i64 0])
theorem fk_80 : pureN Tryz.prog tyTab 400 (fk_ch fk_t1 fk_m1) 56 fk_k80.1 = some fk_k80.2 := by kernel_rfl
def fk_k81 : List AVal × AVal := ([.agg [.int .i64 (-66560), .int .i64 (-66560), .int .i64 (-66560)], .agg [.int .i64 66560, .int .i64 66560, .int .i64 66560]], .agg [.int .i64 (-66560), .int .i64 (-66560), .int .i64 (-66560)])
theorem fk_81 : pureN Tryz.prog tyTab 400 (fk_ch fk_t1 fk_m1) 57 fk_k81.1 = some fk_k81.2 := by kernel_rfl
def fk_k82 : List AVal × AVal := ([.agg [.int .u64 0, .int .u64 2, .int .u64 0, .int .u64 0, .int .u64 0, .int .u64 0, .int .u64 0, .int .u64 0], .int .i64 64], .int .i64 8589934592)
theorem fk_82 : pureN Tryz.prog tyTab 400 (fk_ch fk_t1 fk_m1) 92 fk_k82.1 = some fk_k82.2 := by kernel_rfl
def fk_k83 : List AVal × AVal := ([.agg [.int .i64 8589934592, .int .i64 0, .int .i64 0]], .tup [.agg [.int .i64 131072, .int .i64 0, .int .i64 0], .int .i64 0])
theorem fk_83 : pureN Tryz.prog tyTab 400 (fk_ch fk_t1 fk_m1) 65 fk_k83.1 = some fk_k83.2 := by kernel_rfl
def fk_k84 : List AVal × AVal := ([.agg [.int .i64 131072, .int .i64 0, .int .i64 0], .agg [.int .i64 131072, .int .i64 0, .int .i64 0]], .agg [.int .i64 131072, .int .i64 0, .int .i64 0])
theorem fk_84 : pureN Tryz.prog tyTab 400 (fk_ch fk_t1 fk_m1) 57 fk_k84.1 = some fk_k84.2 := by kernel_rfl
def fk_k85 : List AVal × AVal := ([.agg [.int .i64 131072, .int .i64 0, .int .i64 0], .agg [.int .i64 131072, .int .i64 0, .int .i64 0]], .agg [.int .i64 131072, .int .i64 0, .int .i64 0])
theorem fk_85 : pureN Tryz.prog tyTab 400 (fk_ch fk_t1 fk_m1) 56 fk_k85.1 = some fk_k85.2 := by kernel_rfl
def fk_k86 : List AVal × AVal := ([.agg [.int .i64 64512, .int .i64 (-66560), .int .i64 (-66560)], .agg [.int .i64 197632, .int .i64 66560, .int .i64 66560]], .agg [.int .i64 64512, .int .i64 (-66560), .int .i64 (-66560)])
theorem fk_86 : pureN Tryz.prog tyTab 400 (fk_ch fk_t1 fk_m1) 57 fk_k86.1 = some fk_k86.2 := by kernel_rfl
def fk_k87 : List AVal × AVal := ([.agg [.int .i64 (-74752), .int .i64 (-74752), .int .i64 (-74752)], .agg [.int .i64 74752, .int .i64 74752, .int .i64 74752]], .agg [.int .i64 (-74752), .int .i64 (-74752), .int .i64 (-74752)])
theorem fk_87 : pureN Tryz.prog tyTab 400 (fk_ch fk_t1 fk_m1) 57 fk_k87.1 = some fk_k87.2 := by kernel_rfl
def fk_k88 : List AVal × AVal := ([.agg [.int .i64 56320, .int .i64 (-74752), .int .i64 (-74752)], .agg [.int .i64 205824, .int .i64 74752, .int .i64 74752]], .agg [.int .i64 56320, .int .i64 (-74752), .int .i64 (-74752)])
theorem fk_88 : pureN Tryz.prog tyTab 400 (fk_ch fk_t1 fk_m1) 57 fk_k88.1 = some fk_k88.2 := by kernel_rfl
def fk_k89 : List AVal × AVal := ([.agg [.int .i64 (-74752), .int .i64 (-74752), .int .i64 (-74752)], .agg [.int .i64 56320, .int .i64 (-74752), .int .i64 (-74752)]], .agg [.int .i64 (-74752), .int .i64 (-74752), .int .i64 (-74752)])
theorem fk_89 : pureN Tryz.prog tyTab 400 (fk_ch fk_t1 fk_m1) 57 fk_k89.1 = some fk_k89.2 := by kernel_rfl
def fk_k90 : List AVal × AVal := ([.agg [.int .i64 74752, .int .i64 74752, .int .i64 74752], .agg [.int .i64 205824, .int .i64 74752, .int .i64 74752]], .agg [.int .i64 205824, .int .i64 74752, .int .i64 74752])
theorem fk_90 : pureN Tryz.prog tyTab 400 (fk_ch fk_t1 fk_m1) 56 fk_k90.1 = some fk_k90.2 := by kernel_rfl
def fk_k91 : List AVal × AVal := ([.agg [.int .i64 (-74752), .int .i64 (-74752), .int .i64 (-74752)], .agg [.int .i64 205824, .int .i64 74752, .int .i64 74752]], .agg [.int .i64 (-74752), .int .i64 (-74752), .int .i64 (-74752)])
theorem fk_91 : pureN Tryz.prog tyTab 400 (fk_ch fk_t1 fk_m1) 57 fk_k91.1 = some fk_k91.2 := by kernel_rfl
def fk_k92 : List AVal × AVal := ([.agg [.int .i64 (-74752), .int .i64 (-74752), .int .i64 (-74752)], .agg [.int .i64 (-66560), .int .i64 (-66560), .int .i64 (-66560)]], .agg [.int .i64 (-66560), .int .i64 (-66560), .int .i64 (-66560)])
theorem fk_92 : pureN Tryz.prog tyTab 400 (fk_ch fk_t1 fk_m1) 56 fk_k92.1 = some fk_k92.2 := by kernel_rfl
def fk_k93 : List AVal × AVal := ([.agg [.int .i64 205824, .int .i64 74752, .int .i64 74752], .agg [.int .i64 66560, .int .i64 66560, .int .i64 66560]], .agg [.int .i64 66560, .int .i64 66560, .int .i64 66560])
theorem fk_93 : pureN Tryz.prog tyTab 400 (fk_ch fk_t1 fk_m1) 57 fk_k93.1 = some fk_k93.2 := by kernel_rfl
def fk_k94 : List AVal × AVal := ([.agg [.int .i64 56320, .int .i64 (-74752), .int .i64 (-74752)], .agg [.int .i64 (-66560), .int .i64 (-66560), .int .i64 (-66560)]], .agg [.int .i64 56320, .int .i64 (-66560), .int .i64 (-66560)])
theorem fk_94 : pureN Tryz.prog tyTab 400 (fk_ch fk_t1 fk_m1) 56 fk_k94.1 = some fk_k94.2 := by kernel_rfl
def fk_k95 : List AVal × AVal := ([.agg [.int .i64 56320, .int .i64 (-66560), .int .i64 (-66560)], .agg [.int .i64 66560, .int .i64 66560, .int .i64 66560]], .agg [.int .i64 56320, .int .i64 (-66560), .int .i64 (-66560)])
theorem fk_95 : pureN Tryz.prog tyTab 400 (fk_ch fk_t1 fk_m1) 57 fk_k95.1 = some fk_k95.2 := by kernel_rfl
def fk_k96 : List AVal × AVal := ([.agg [.int .i64 64512, .int .i64 (-66560), .int .i64 (-66560)], .agg [.int .i64 (-66560), .int .i64 (-66560), .int .i64 (-66560)]], .agg [.int .i64 64512, .int .i64 (-66560), .int .i64 (-66560)])
theorem fk_96 : pureN Tryz.prog tyTab 400 (fk_ch fk_t1 fk_m1) 56 fk_k96.1 = some fk_k96.2 := by kernel_rfl
def fk_k97 : List AVal × AVal := ([.agg [.int .i64 197632, .int .i64 66560, .int .i64 66560], .agg [.int .i64 66560, .int .i64 66560, .int .i64 66560]], .agg [.int .i64 66560, .int .i64 66560, .int .i64 66560])
theorem fk_97 : pureN Tryz.prog tyTab 400 (fk_ch fk_t1 fk_m1) 57 fk_k97.1 = some fk_k97.2 := by kernel_rfl
def fk_k98 : List AVal × AVal := ([.agg [.int .i64 64512, .int .i64 (-66560), .int .i64 (-66560)], .agg [.int .i64 66560, .int .i64 66560, .int .i64 66560]], .agg [.int .i64 64512, .int .i64 (-66560), .int .i64 (-66560)])
theorem fk_98 : pureN Tryz.prog tyTab 400 (fk_ch fk_t1 fk_m1) 57 fk_k98.1 = some fk_k98.2 := by kernel_rfl
def fk_k99 : List AVal × AVal := ([.agg [.int .i64 74752, .int .i64 74752, .int .i64 74752], .agg [.int .i64 66560, .int .i64 66560, .int .i64 66560]], .agg [.int .i64 66560, .int .i64 66560, .int .i64 66560])
theorem fk_99 : pureN Tryz.prog tyTab 400 (fk_ch fk_t1 fk_m1) 57 fk_k99.1 = some fk_k99.2 := by kernel_rfl
def fk_k100 : List AVal × AVal := ([.agg [.int .i64 (-66560), .int .i64 (-66560), .int .i64 (-66560)], .agg [.int .i64 (-66560), .int .i64 (-66560), .int .i64 (-66560)]], .agg [.int .i64 (-66560), .int .i64 (-66560), .int .i64 (-66560)])
theorem fk_100 : pureN Tryz.prog tyTab 400 (fk_ch fk_t1 fk_m1) 56 fk_k100.1 = some fk_k100.2 := by kernel_rfl
def fk_k101 : List AVal × AVal := ([.agg [.int .i64 66560, .int .i64 66560, .int .i64 66560], .agg [.int .i64 66560, .int .i64 66560, .int .i64 66560]], .agg [.int .i64 66560, .int .i64 66560, .int .i64 66560])
theorem fk_101 : pureN Tryz.prog tyTab 400 (fk_ch fk_t1 fk_m1) 57 fk_k101.1 = some fk_k101.2 := by kernel_rfl
def fk_k102 : List AVal × AVal := ([.int .u64 2], .int .i64 2)
theorem fk_102 : pureN Tryz.prog tyTab 400 (fk_ch fk_t1 fk_m1) 76 fk_k102.1 = some fk_k102.2 := by kernel_rfl
def fk_k103 : List AVal × AVal := ([.int .i64 1, .int .i64 2], .bool true)
theorem fk_103 : pureN Tryz.prog tyTab 400 (fk_ch fk_t1 fk_m1) 104 fk_k103.1 = some fk_k103.2 := by kernel_rfl
def fk_k104 : List AVal × AVal := ([.agg [.int .i64 (-74752), .int .i64 (-74752), .int .i64 (-74752)], .agg [.int .i64 64512, .int .i64 (-66560), .int .i64 (-66560)]], .agg [.int .i64 64512, .int .i64 (-66560), .int .i64 (-66560)])
theorem fk_104 : pureN Tryz.prog tyTab 400 (fk_ch fk_t1 fk_m1) 56 fk_k104.1 = some fk_k104.2 := by kernel_rfl
def fk_k105 : List AVal × AVal := ([.agg [.int .i64 205824, .int .i64 74752, .int .i64 74752], .agg [.int .i64 197632, .int .i64 66560, .int .i64 66560]], .agg [.int .i64 197632, .int .i64 66560, .int .i64 66560])
theorem fk_105 : pureN Tryz.prog tyTab 400 (fk_ch fk_t1 fk_m1) 57 fk_k105.1 = some fk_k105.2 := by kernel_rfl
def fk_k106 : List AVal × AVal := ([.agg [.int .i64 56320, .int .i64 (-74752), .int .i64 (-74752)], .agg [.int .i64 64512, .int .i64 (-66560), .int .i64 (-66560)]], .agg [.int .i64 64512, .int .i64 (-66560), .int .i64 (-66560)])
theorem fk_106 : pureN Tryz.prog tyTab 400 (fk_ch fk_t1 fk_m1) 56 fk_k106.1 = some fk_k106.2 := by kernel_rfl
def fk_k107 : List AVal × AVal := ([.agg [.int .i64 64512, .int .i64 (-66560), .int .i64 (-66560)], .agg [.int .i64 64512, .int .i64 (-66560), .int .i64 (-66560)]], .agg [.int .i64 64512, .int .i64 (-66560), .int .i64 (-66560)])
theorem fk_107 : pureN Tryz.prog tyTab 400 (fk_ch fk_t1 fk_m1) 56 fk_k107.1 = some fk_k107.2 := by kernel_rfl
def fk_k108 : List AVal × AVal := ([.agg [.int .i64 197632, .int .i64 66560, .int .i64 66560], .agg [.int .i64 197632, .int .i64 66560, .int .i64 66560]], .agg [.int .i64 197632, .int .i64 66560, .int .i64 66560])
theorem fk_108 : pureN Tryz.prog tyTab 400 (fk_ch fk_t1 fk_m1) 57 fk_k108.1 = some fk_k108.2 := by kernel_rfl
def fk_k109 : List AVal × AVal := ([.agg [.int .i64 74752, .int .i64 74752, .int .i64 74752], .agg [.int .i64 197632, .int .i64 66560, .int .i64 66560]], .agg [.int .i64 74752, .int .i64 66560, .int .i64 66560])
theorem fk_109 : pureN Tryz.prog tyTab 400 (fk_ch fk_t1 fk_m1) 57 fk_k109.1 = some fk_k109.2 := by kernel_rfl
def fk_k110 : List AVal × AVal := ([.agg [.int .i64 64512, .int .i64 (-66560), .int .i64 (-66560)], .agg [.int .i64 74752, .int .i64 66560, .int .i64 66560]], .agg [.int .i64 64512, .int .i64 (-66560), .int .i64 (-66560)])
theorem fk_110 : pureN Tryz.prog tyTab 400 (fk_ch fk_t1 fk_m1) 57 fk_k110.1 = some fk_k110.2 := by kernel_rfl
def fk_k111 : List AVal × AVal := ([.agg [.int .i64 (-66560), .int .i64 (-66560), .int .i64 (-66560)], .agg [.int .i64 64512, .int .i64 (-66560), .int .i64 (-66560)]], .agg [.int .i64 64512, .int .i64 (-66560), .int .i64 (-66560)])
theorem fk_111 : pureN Tryz.prog tyTab 400 (fk_ch fk_t1 fk_m1) 56 fk_k111.1 = some fk_k111.2 := by kernel_rfl
def fk_k112 : List AVal × AVal := ([.agg [.int .i64 66560, .int .i64 66560, .int .i64 66560], .agg [.int .i64 197632, .int .i64 66560, .int .i64 66560]], .agg [.int .i64 66560, .int .i64 66560, .int .i64 66560])
theorem fk_112 : pureN Tryz.prog tyTab 400 (fk_ch fk_t1 fk_m1) 57 fk_k112.1 = some fk_k112.2 := by kernel_rfl
def fk_k113 : List AVal × AVal := ([.int .u64 1], .int .i64 1)
theorem fk_113 : pureN Tryz.prog tyTab 400 (fk_ch fk_t1 fk_m1) 76 fk_k113.1 = some fk_k113.2 := by kernel_rfl
def fk_e1_56 : List (List AVal × AVal) := [fk_k80, fk_k85, fk_k90, fk_k92, fk_k94, fk_k96, fk_k100, fk_k104, fk_k106, fk_k107, fk_k111]
def fk_e1_57 : List (List AVal × AVal) := [fk_k79, fk_k81, fk_k84, fk_k86, fk_k87, fk_k88, fk_k89, fk_k91, fk_k93, fk_k95, fk_k97, fk_k98, fk_k99, fk_k101, fk_k105, fk_k108, fk_k109, fk_k110, fk_k112]
def fk_e1_65 : List (List AVal × AVal) := [fk_k78, fk_k83]
def fk_e1_76 : List (List AVal × AVal) := [fk_k102, fk_k113]
def fk_e1_92 : List (List AVal × AVal) := [fk_k75, fk_k76, fk_k77, fk_k82]
def fk_e1_104 : List (List AVal × AVal) := [fk_k103]
def fk_e1_129 : List (List AVal × AVal) := [fk_k73]
def fk_e1_158 : List (List AVal × AVal) := [fk_k74]
def fk_lt1 : FTab := fun f => cond (Nat.beq f 56) fk_e1_56 (cond (Nat.beq f 57) fk_e1_57 (cond (Nat.beq f 65) fk_e1_65 (cond (Nat.beq f 76) fk_e1_76 (cond (Nat.beq f 92) fk_e1_92 (cond (Nat.beq f 104) fk_e1_104 (cond (Nat.beq f 129) fk_e1_129 (cond (Nat.beq f 158) fk_e1_158 ([]))))))))
theorem fk_lt1_ok : FTabOk Tryz.prog fk_lt1 := (ftab_node (l := fk_e1_56) ⟨pureN_sem tab_ok mixed noNum (fk_ch_ok fk_t1_ok fk_m1_ok) fk_80, pureN_sem tab_ok mixed noNum (fk_ch_ok fk_t1_ok fk_m1_ok) fk_85, pureN_sem tab_ok mixed noNum (fk_ch_ok fk_t1_ok fk_m1_ok) fk_90, pureN_sem tab_ok mixed noNum (fk_ch_ok fk_t1_ok fk_m1_ok) fk_92, pureN_sem tab_ok mixed noNum (fk_ch_ok fk_t1_ok fk_m1_ok) fk_94, pureN_sem tab_ok mixed noNum (fk_ch_ok fk_t1_ok fk_m1_ok) fk_96, pureN_sem tab_ok mixed noNum (fk_ch_ok fk_t1_ok fk_m1_ok) fk_100, pureN_sem tab_ok mixed noNum (fk_ch_ok fk_t1_ok fk_m1_ok) fk_104, pureN_sem tab_ok mixed noNum (fk_ch_ok fk_t1_ok fk_m1_ok) fk_106, pureN_sem tab_ok mixed noNum (fk_ch_ok fk_t1_ok fk_m1_ok) fk_107, pureN_sem tab_ok mixed noNum (fk_ch_ok fk_t1_ok fk_m1_ok) fk_111, trivial⟩ (ftab_node (l := fk_e1_57) ⟨pureN_sem tab_ok mixed noNum (fk_ch_ok fk_t1_ok fk_m1_ok) fk_79, pureN_sem tab_ok mixed noNum (fk_ch_ok fk_t1_ok fk_m1_ok) fk_81, pureN_sem tab_ok mixed noNum (fk_ch_ok fk_t1_ok fk_m1_ok) fk_84, pureN_sem tab_ok mixed noNum (fk_ch_ok fk_t1_ok fk_m1_ok) fk_86, pureN_sem tab_ok mixed noNum (fk_ch_ok fk_t1_ok fk_m1_ok) fk_87, pureN_sem tab_ok mixed noNum (fk_ch_ok fk_t1_ok fk_m1_ok) fk_88, pureN_sem tab_ok mixed noNum (fk_ch_ok fk_t1_ok fk_m1_ok) fk_89, pureN_sem tab_ok mixed noNum (fk_ch_ok fk_t1_ok fk_m1_ok) fk_91, pureN_sem tab_ok mixed noNum (fk_ch_ok fk_t1_ok fk_m1_ok) fk_93, pureN_sem tab_ok mixed noNum (fk_ch_ok fk_t1_ok fk_m1_ok) fk_95, pureN_sem tab_ok mixed noNum (fk_ch_ok fk_t1_ok fk_m1_ok) fk_97, pureN_sem tab_ok mixed noNum (fk_ch_ok fk_t1_ok fk_m1_ok) fk_98, pureN_sem tab_ok mixed noNum (fk_ch_ok fk_t1_ok fk_m1_ok) fk_99, pureN_sem tab_ok mixed noNum (fk_ch_ok fk_t1_ok fk_m1_ok) fk_101, pureN_sem tab_ok mixed noNum (fk_ch_ok fk_t1_ok fk_m1_ok) fk_105, pureN_sem tab_ok mixed noNum (fk_ch_ok fk_t1_ok fk_m1_ok) fk_108, pureN_sem tab_ok mixed noNum (fk_ch_ok fk_t1_ok fk_m1_ok) fk_109, pureN_sem tab_ok mixed noNum (fk_ch_ok fk_t1_ok fk_m1_ok) fk_110, pureN_sem tab_ok mixed noNum (fk_ch_ok fk_t1_ok fk_m1_ok) fk_112, trivial⟩ (ftab_node (l := fk_e1_65) ⟨pureN_sem tab_ok mixed noNum (fk_ch_ok fk_t1_ok fk_m1_ok) fk_78, pureN_sem tab_ok mixed noNum (fk_ch_ok fk_t1_ok fk_m1_ok) fk_83, trivial⟩ (ftab_node (l := fk_e1_76) ⟨pureN_sem tab_ok mixed noNum (fk_ch_ok fk_t1_ok fk_m1_ok) fk_102, pureN_sem tab_ok mixed noNum (fk_ch_ok fk_t1_ok fk_m1_ok) fk_113, trivial⟩ (ftab_node (l := fk_e1_92) ⟨pureN_sem tab_ok mixed noNum (fk_ch_ok fk_t1_ok fk_m1_ok) fk_75, pureN_sem tab_ok mixed noNum (fk_ch_ok fk_t1_ok fk_m1_ok) fk_76, pureN_sem tab_ok mixed noNum (fk_ch_ok fk_t1_ok fk_m1_ok) fk_77, pureN_sem tab_ok mixed noNum (fk_ch_ok fk_t1_ok fk_m1_ok) fk_82, trivial⟩ (ftab_node (l := fk_e1_104) ⟨pureN_sem tab_ok mixed noNum (fk_ch_ok fk_t1_ok fk_m1_ok) fk_103, trivial⟩ (ftab_node (l := fk_e1_129) ⟨pureN_sem tab_ok mixed noNum (fk_ch_ok fk_t1_ok fk_m1_ok) fk_73, trivial⟩ (ftab_node (l := fk_e1_158) ⟨pureN_sem tab_ok mixed noNum (fk_ch_ok fk_t1_ok fk_m1_ok) fk_74, trivial⟩ ftab_leaf))))))))
def fk_t2 : FTab := fun f => fk_lt1 f ++ fk_t1 f
theorem fk_t2_ok : FTabOk Tryz.prog fk_t2 := ftab_or fk_lt1_ok fk_t1_ok
def fk_m2 : MTab := fk_m1
theorem fk_m2_ok : MTabOk Tryz.prog fk_m2 := fk_m1_ok
end Go.Ev
