/- What calls answer that hang on their arguments alone. No statement is proved here. Printed by facts.py. -/
import Derived.Test.YtegmknimddohoaaGreatFkBase
namespace Go.Ev
open Go.Proofs
set_option linter.unusedVariables false
set_option linter.unusedSimpArgs false
set_option maxRecDepth 100000
def fk_k0 : List AVal × AVal := ([.agg [.int .i64 4294967296, .int .i64 0, .int .i64 0, .int .i64 0]], .agg [.int .u64 4294967296, .int .u64 0, .int .u64 0, .int .u64 0, .int .u64 0, .int .u64 0, .int .u64 0, .int .u64 0, .int .u64 0, .int .u64 0, .int .u64 0, .int .u64 0, .int .u64 0, .int .u64 0, .int .u64 0, .int .u64 0, .int .u64 0, .int .u64 0, .int .u64 0, .int .u64 0, .int .u64 0, .int .u64 0, .int .u64 0, .int .u64 0, .int .u64 0, .int .u64 0, .int .u64 0, .int .u64 0, .int .u64 0, .int .u64 0, .int .u64 0, .int .u64 0])
theorem fk_0 : pureN Tryz.prog tyTab 400 (fk_ch fk_t0 fk_m0) 128 fk_k0.1 = some fk_k0.2 := by kernel_rfl
def fk_k1 : List AVal × AVal := ([.agg [.int .u64 4294967296, .int .u64 0, .int .u64 0, .int .u64 0, .int .u64 0, .int .u64 0, .int .u64 0, .int .u64 0], .agg [.int .u64 4294967296, .int .u64 0, .int .u64 0, .int .u64 0, .int .u64 0, .int .u64 0, .int .u64 0, .int .u64 0]], .agg [.int .u64 0, .int .u64 1, .int .u64 0, .int .u64 0, .int .u64 0, .int .u64 0, .int .u64 0, .int .u64 0])
theorem fk_1 : pureN Tryz.prog tyTab 400 (fk_ch fk_t0 fk_m0) 161 fk_k1.1 = some fk_k1.2 := by kernel_rfl
def fk_k2 : List AVal × AVal := ([.agg [.int .u64 0, .int .u64 0, .int .u64 0, .int .u64 0, .int .u64 0, .int .u64 0, .int .u64 0, .int .u64 0], .agg [.int .u64 0, .int .u64 1, .int .u64 0, .int .u64 0, .int .u64 0, .int .u64 0, .int .u64 0, .int .u64 0]], .agg [.int .u64 0, .int .u64 1, .int .u64 0, .int .u64 0, .int .u64 0, .int .u64 0, .int .u64 0, .int .u64 0])
theorem fk_2 : pureN Tryz.prog tyTab 400 (fk_ch fk_t0 fk_m0) 160 fk_k2.1 = some fk_k2.2 := by kernel_rfl
def fk_k3 : List AVal × AVal := ([.agg [.int .u64 0, .int .u64 0, .int .u64 0, .int .u64 0, .int .u64 0, .int .u64 0, .int .u64 0, .int .u64 0], .agg [.int .u64 0, .int .u64 0, .int .u64 0, .int .u64 0, .int .u64 0, .int .u64 0, .int .u64 0, .int .u64 0]], .agg [.int .u64 0, .int .u64 0, .int .u64 0, .int .u64 0, .int .u64 0, .int .u64 0, .int .u64 0, .int .u64 0])
theorem fk_3 : pureN Tryz.prog tyTab 400 (fk_ch fk_t0 fk_m0) 161 fk_k3.1 = some fk_k3.2 := by kernel_rfl
def fk_k4 : List AVal × AVal := ([.agg [.int .u64 0, .int .u64 1, .int .u64 0, .int .u64 0, .int .u64 0, .int .u64 0, .int .u64 0, .int .u64 0], .agg [.int .u64 0, .int .u64 0, .int .u64 0, .int .u64 0, .int .u64 0, .int .u64 0, .int .u64 0, .int .u64 0]], .agg [.int .u64 0, .int .u64 1, .int .u64 0, .int .u64 0, .int .u64 0, .int .u64 0, .int .u64 0, .int .u64 0])
theorem fk_4 : pureN Tryz.prog tyTab 400 (fk_ch fk_t0 fk_m0) 160 fk_k4.1 = some fk_k4.2 := by kernel_rfl
def fk_k5 : List AVal × AVal := ([.agg [.int .i64 0, .int .i64 0, .int .i64 0]], .bool true)
theorem fk_5 : pureN Tryz.prog tyTab 400 (fk_ch fk_t0 fk_m0) 125 fk_k5.1 = some fk_k5.2 := by kernel_rfl
def fk_k6 : List AVal × AVal := ([.int .i64 0, .int .i64 (-1099511627776), .int .i64 1099511627776], .int .i64 0)
theorem fk_6 : pureN Tryz.prog tyTab 400 (fk_ch fk_t0 fk_m0) 159 fk_k6.1 = some fk_k6.2 := by kernel_rfl
def fk_k7 : List AVal × AVal := ([.agg [.int .u64 1, .int .u64 0, .int .u64 0, .int .u64 0, .int .u64 0, .int .u64 0, .int .u64 0, .int .u64 0], .agg [.int .u64 0, .int .u64 1, .int .u64 0, .int .u64 0, .int .u64 0, .int .u64 0, .int .u64 0, .int .u64 0]], .agg [.int .u64 0, .int .u64 1, .int .u64 0, .int .u64 0, .int .u64 0, .int .u64 0, .int .u64 0, .int .u64 0])
theorem fk_7 : pureN Tryz.prog tyTab 400 (fk_ch fk_t0 fk_m0) 161 fk_k7.1 = some fk_k7.2 := by kernel_rfl
def fk_k8 : List AVal × AVal := ([.agg [.int .u64 1, .int .u64 0, .int .u64 0, .int .u64 0, .int .u64 0, .int .u64 0, .int .u64 0, .int .u64 0], .agg [.int .u64 0, .int .u64 0, .int .u64 0, .int .u64 0, .int .u64 0, .int .u64 0, .int .u64 0, .int .u64 0]], .agg [.int .u64 0, .int .u64 0, .int .u64 0, .int .u64 0, .int .u64 0, .int .u64 0, .int .u64 0, .int .u64 0])
theorem fk_8 : pureN Tryz.prog tyTab 400 (fk_ch fk_t0 fk_m0) 161 fk_k8.1 = some fk_k8.2 := by kernel_rfl
def fk_k9 : List AVal × AVal := ([.agg [.int .u64 18446744073709551615, .int .u64 18446744073709551615, .int .u64 18446744073709551615, .int .u64 18446744073709551615, .int .u64 18446744073709551615, .int .u64 18446744073709551615, .int .u64 18446744073709551615, .int .u64 18446744073709551615], .agg [.int .u64 0, .int .u64 0, .int .u64 0, .int .u64 0, .int .u64 0, .int .u64 0, .int .u64 0, .int .u64 0]], .agg [.int .u64 0, .int .u64 0, .int .u64 0, .int .u64 0, .int .u64 0, .int .u64 0, .int .u64 0, .int .u64 0])
theorem fk_9 : pureN Tryz.prog tyTab 400 (fk_ch fk_t0 fk_m0) 161 fk_k9.1 = some fk_k9.2 := by kernel_rfl
def fk_k10 : List AVal × AVal := ([.agg [.int .u64 4294967296, .int .u64 0, .int .u64 0, .int .u64 0, .int .u64 0, .int .u64 0, .int .u64 0, .int .u64 0]], .int .i64 4294967296)
theorem fk_10 : pureN Tryz.prog tyTab 400 (fk_ch fk_t0 fk_m0) 143 fk_k10.1 = some fk_k10.2 := by kernel_rfl
def fk_k11 : List AVal × AVal := ([.agg [.int .u64 2, .int .u64 0, .int .u64 0, .int .u64 0, .int .u64 0, .int .u64 0, .int .u64 0, .int .u64 0], .agg [.int .u64 0, .int .u64 0, .int .u64 0, .int .u64 0, .int .u64 0, .int .u64 0, .int .u64 0, .int .u64 0]], .agg [.int .u64 0, .int .u64 0, .int .u64 0, .int .u64 0, .int .u64 0, .int .u64 0, .int .u64 0, .int .u64 0])
theorem fk_11 : pureN Tryz.prog tyTab 400 (fk_ch fk_t0 fk_m0) 161 fk_k11.1 = some fk_k11.2 := by kernel_rfl
def fk_k12 : List AVal × AVal := ([.agg [.int .u64 0, .int .u64 0, .int .u64 0, .int .u64 0, .int .u64 0, .int .u64 0, .int .u64 0, .int .u64 0], .agg [.int .u64 0, .int .u64 0, .int .u64 0, .int .u64 0, .int .u64 0, .int .u64 0, .int .u64 0, .int .u64 0]], .agg [.int .u64 0, .int .u64 0, .int .u64 0, .int .u64 0, .int .u64 0, .int .u64 0, .int .u64 0, .int .u64 0])
theorem fk_12 : pureN Tryz.prog tyTab 400 (fk_ch fk_t0 fk_m0) 160 fk_k12.1 = some fk_k12.2 := by kernel_rfl
def fk_k13 : List AVal × AVal := ([.agg [.int .u64 4294967296, .int .u64 0, .int .u64 0, .int .u64 0, .int .u64 0, .int .u64 0, .int .u64 0, .int .u64 0], .agg [.int .u64 0, .int .u64 0, .int .u64 0, .int .u64 0, .int .u64 0, .int .u64 0, .int .u64 0, .int .u64 0]], .agg [.int .u64 0, .int .u64 0, .int .u64 0, .int .u64 0, .int .u64 0, .int .u64 0, .int .u64 0, .int .u64 0])
theorem fk_13 : pureN Tryz.prog tyTab 400 (fk_ch fk_t0 fk_m0) 161 fk_k13.1 = some fk_k13.2 := by kernel_rfl
def fk_k14 : List AVal × AVal := ([.agg [.int .u64 18446744073709551614, .int .u64 18446744073709551615, .int .u64 18446744073709551615, .int .u64 18446744073709551615, .int .u64 18446744073709551615, .int .u64 18446744073709551615, .int .u64 18446744073709551615, .int .u64 18446744073709551615], .agg [.int .u64 0, .int .u64 0, .int .u64 0, .int .u64 0, .int .u64 0, .int .u64 0, .int .u64 0, .int .u64 0]], .agg [.int .u64 0, .int .u64 0, .int .u64 0, .int .u64 0, .int .u64 0, .int .u64 0, .int .u64 0, .int .u64 0])
theorem fk_14 : pureN Tryz.prog tyTab 400 (fk_ch fk_t0 fk_m0) 161 fk_k14.1 = some fk_k14.2 := by kernel_rfl
def fk_k15 : List AVal × AVal := ([.agg [.int .u64 0, .int .u64 0, .int .u64 0, .int .u64 0, .int .u64 0, .int .u64 0, .int .u64 0, .int .u64 0]], .int .i64 0)
theorem fk_15 : pureN Tryz.prog tyTab 400 (fk_ch fk_t0 fk_m0) 143 fk_k15.1 = some fk_k15.2 := by kernel_rfl
def fk_k16 : List AVal × AVal := ([.int .i64 0], .agg [.int .u64 0, .int .u64 0, .int .u64 0, .int .u64 0, .int .u64 0, .int .u64 0, .int .u64 0, .int .u64 0])
theorem fk_16 : pureN Tryz.prog tyTab 400 (fk_ch fk_t0 fk_m0) 91 fk_k16.1 = some fk_k16.2 := by kernel_rfl
def fk_k17 : List AVal × AVal := ([.int .i64 4294967296], .agg [.int .u64 4294967296, .int .u64 0, .int .u64 0, .int .u64 0, .int .u64 0, .int .u64 0, .int .u64 0, .int .u64 0])
theorem fk_17 : pureN Tryz.prog tyTab 400 (fk_ch fk_t0 fk_m0) 91 fk_k17.1 = some fk_k17.2 := by kernel_rfl
def fk_k18 : List AVal × AVal := ([.agg [.int .u64 4294967296, .int .u64 0, .int .u64 0, .int .u64 0, .int .u64 0, .int .u64 0, .int .u64 0, .int .u64 0], .agg [.int .u64 0, .int .u64 0, .int .u64 0, .int .u64 0, .int .u64 0, .int .u64 0, .int .u64 0, .int .u64 0]], .agg [.int .u64 0, .int .u64 0, .int .u64 0, .int .u64 0, .int .u64 0, .int .u64 0, .int .u64 0, .int .u64 0])
theorem fk_18 : pureN Tryz.prog tyTab 400 (fk_ch fk_t0 fk_m0) 94 fk_k18.1 = some fk_k18.2 := by kernel_rfl
def fk_k19 : List AVal × AVal := ([.agg [.int .u64 0, .int .u64 0, .int .u64 0, .int .u64 0, .int .u64 0, .int .u64 0, .int .u64 0, .int .u64 0], .agg [.int .u64 0, .int .u64 0, .int .u64 0, .int .u64 0, .int .u64 0, .int .u64 0, .int .u64 0, .int .u64 0]], .agg [.int .u64 0, .int .u64 0, .int .u64 0, .int .u64 0, .int .u64 0, .int .u64 0, .int .u64 0, .int .u64 0])
theorem fk_19 : pureN Tryz.prog tyTab 400 (fk_ch fk_t0 fk_m0) 94 fk_k19.1 = some fk_k19.2 := by kernel_rfl
def fk_k20 : List AVal × AVal := ([.int .i64 0], .int .i64 0)
theorem fk_20 : pureN Tryz.prog tyTab 400 (fk_ch fk_t0 fk_m0) 95 fk_k20.1 = some fk_k20.2 := by kernel_rfl
def fk_k21 : List AVal × AVal := ([.agg [.int .i64 0, .int .i64 0, .int .i64 0]], .int .i64 0)
theorem fk_21 : pureN Tryz.prog tyTab 400 (fk_ch fk_t0 fk_m0) 34 fk_k21.1 = some fk_k21.2 := by kernel_rfl
def fk_k22 : List AVal × AVal := ([.int .i64 0, .int .i64 0], .int .i64 0)
theorem fk_22 : pureN Tryz.prog tyTab 400 (fk_ch fk_t0 fk_m0) 79 fk_k22.1 = some fk_k22.2 := by kernel_rfl
def fk_k23 : List AVal × AVal := ([.int .i64 0, .int .i64 0], .int .i64 0)
theorem fk_23 : pureN Tryz.prog tyTab 400 (fk_ch fk_t0 fk_m0) 78 fk_k23.1 = some fk_k23.2 := by kernel_rfl
def fk_k24 : List AVal × AVal := ([.agg [.int .i64 (-66560), .int .i64 (-66560), .int .i64 (-66560)]], .int .i64 0)
theorem fk_24 : pureN Tryz.prog tyTab 400 (fk_ch fk_t0 fk_m0) 34 fk_k24.1 = some fk_k24.2 := by kernel_rfl
def fk_k25 : List AVal × AVal := ([.agg [.int .i64 66560, .int .i64 66560, .int .i64 66560]], .int .i64 0)
theorem fk_25 : pureN Tryz.prog tyTab 400 (fk_ch fk_t0 fk_m0) 34 fk_k25.1 = some fk_k25.2 := by kernel_rfl
def fk_k26 : List AVal × AVal := ([.int .i64 (-66560), .int .i64 66560], .int .i64 (-66560))
theorem fk_26 : pureN Tryz.prog tyTab 400 (fk_ch fk_t0 fk_m0) 79 fk_k26.1 = some fk_k26.2 := by kernel_rfl
def fk_k27 : MF := ⟨[.ptr 1 0, .int .i64 0], ⟨8, [(3, .map [(.int .i64 1, .int .i64 0, 0)] 1), (0, .cells [.ptr 1 0, .map 2] true none), (1, .cells [.bool true, .int .i64 8192, .vec 7, .nils, .int .i64 (-1), .map 3] true none), (2, .map [] 0), (3, .map [] 0), (4, .cells [.int .i64 1, .int .i64 1, .int .i64 4294967296, .int .i64 0, .int .i64 0, .int .i64 0, .nils, .int .i64 0, .int .i64 0, .int .i64 0, .int .i64 4294967296, .int .i64 0, .int .i64 0, .int .i64 0, .int .i64 4294967296, .int .i64 0, .int .i64 0, .int .i64 0, .int .i64 0, .int .i64 0, .int .i64 0, .int .i64 0] true none), (5, .cells [.int .i64 (-66560), .int .i64 (-66560), .int .i64 (-66560), .int .i64 66560, .int .i64 66560, .int .i64 66560] true none), (6, .cells [.int .i64 (-66560), .int .i64 (-66560), .int .i64 (-66560), .int .i64 66560, .int .i64 66560, .int .i64 66560] true none), (7, .vec [.int .i64 (-74752), .int .i64 (-74752), .int .i64 (-74752), .int .i64 74752, .int .i64 74752, .int .i64 74752, .int .i64 (-66560), .int .i64 (-66560), .int .i64 (-66560), .int .i64 66560, .int .i64 66560, .int .i64 66560, .int .i64 1, .int .i64 (-1), .int .i64 (-1), .int .i64 (-1), .int .i64 0] 1 17 true)]⟩, (.tup [], ⟨8, [(0, .cells [.ptr 1 0, .map 2] true none), (1, .cells [.bool true, .int .i64 8192, .vec 7, .nils, .int .i64 0, .map 3] true none), (2, .map [] 0), (3, .map [(.int .i64 1, .int .i64 0, 0)] 1), (4, .cells [.int .i64 1, .int .i64 1, .int .i64 4294967296, .int .i64 0, .int .i64 0, .int .i64 0, .nils, .int .i64 0, .int .i64 0, .int .i64 0, .int .i64 4294967296, .int .i64 0, .int .i64 0, .int .i64 0, .int .i64 4294967296, .int .i64 0, .int .i64 0, .int .i64 0, .int .i64 0, .int .i64 0, .int .i64 0, .int .i64 0] true none), (5, .cells [.int .i64 (-66560), .int .i64 (-66560), .int .i64 (-66560), .int .i64 66560, .int .i64 66560, .int .i64 66560] true none), (6, .cells [.int .i64 (-66560), .int .i64 (-66560), .int .i64 (-66560), .int .i64 66560, .int .i64 66560, .int .i64 66560] true none), (7, .vec [.int .i64 (-74752), .int .i64 (-74752), .int .i64 (-74752), .int .i64 74752, .int .i64 74752, .int .i64 74752, .int .i64 (-66560), .int .i64 (-66560), .int .i64 (-66560), .int .i64 66560, .int .i64 66560, .int .i64 66560, .int .i64 1, .int .i64 (-1), .int .i64 (-1), .int .i64 (-1), .int .i64 0] 1 17 true)]⟩)⟩
theorem fk_27 : tellN Tryz.prog tyTab 400 (fk_ch fk_t0 fk_m0) 42 fk_k27.args fk_k27.mem = some fk_k27.told := by kernel_rfl
def fk_k28 : List AVal × AVal := ([.int .i64 8589934592], .agg [.int .u64 8589934592, .int .u64 0, .int .u64 0, .int .u64 0, .int .u64 0, .int .u64 0, .int .u64 0, .int .u64 0])
theorem fk_28 : pureN Tryz.prog tyTab 400 (fk_ch fk_t0 fk_m0) 91 fk_k28.1 = some fk_k28.2 := by kernel_rfl
def fk_k29 : List AVal × AVal := ([.agg [.int .u64 8589934592, .int .u64 0, .int .u64 0, .int .u64 0, .int .u64 0, .int .u64 0, .int .u64 0, .int .u64 0]], .int .i64 8589934592)
theorem fk_29 : pureN Tryz.prog tyTab 400 (fk_ch fk_t0 fk_m0) 143 fk_k29.1 = some fk_k29.2 := by kernel_rfl
def fk_k30 : List AVal × AVal := ([.int .i64 8589934592], .int .i64 131072)
theorem fk_30 : pureN Tryz.prog tyTab 400 (fk_ch fk_t0 fk_m0) 95 fk_k30.1 = some fk_k30.2 := by kernel_rfl
def fk_k31 : List AVal × AVal := ([.agg [.int .i64 131072, .int .i64 0, .int .i64 0]], .int .i64 0)
theorem fk_31 : pureN Tryz.prog tyTab 400 (fk_ch fk_t0 fk_m0) 34 fk_k31.1 = some fk_k31.2 := by kernel_rfl
def fk_k32 : List AVal × AVal := ([.int .i64 131072, .int .i64 131072], .int .i64 131072)
theorem fk_32 : pureN Tryz.prog tyTab 400 (fk_ch fk_t0 fk_m0) 79 fk_k32.1 = some fk_k32.2 := by kernel_rfl
def fk_k33 : List AVal × AVal := ([.int .i64 131072, .int .i64 131072], .int .i64 131072)
theorem fk_33 : pureN Tryz.prog tyTab 400 (fk_ch fk_t0 fk_m0) 78 fk_k33.1 = some fk_k33.2 := by kernel_rfl
def fk_k34 : List AVal × AVal := ([.agg [.int .i64 64512, .int .i64 (-66560), .int .i64 (-66560)]], .int .i64 0)
theorem fk_34 : pureN Tryz.prog tyTab 400 (fk_ch fk_t0 fk_m0) 34 fk_k34.1 = some fk_k34.2 := by kernel_rfl
def fk_k35 : List AVal × AVal := ([.agg [.int .i64 197632, .int .i64 66560, .int .i64 66560]], .int .i64 0)
theorem fk_35 : pureN Tryz.prog tyTab 400 (fk_ch fk_t0 fk_m0) 34 fk_k35.1 = some fk_k35.2 := by kernel_rfl
def fk_k36 : List AVal × AVal := ([.int .i64 64512, .int .i64 197632], .int .i64 64512)
theorem fk_36 : pureN Tryz.prog tyTab 400 (fk_ch fk_t0 fk_m0) 79 fk_k36.1 = some fk_k36.2 := by kernel_rfl
def fk_k37 : List AVal × AVal := ([.agg [.int .i64 (-74752), .int .i64 (-74752), .int .i64 (-74752)]], .int .i64 0)
theorem fk_37 : pureN Tryz.prog tyTab 400 (fk_ch fk_t0 fk_m0) 34 fk_k37.1 = some fk_k37.2 := by kernel_rfl
def fk_k38 : List AVal × AVal := ([.agg [.int .i64 74752, .int .i64 74752, .int .i64 74752]], .int .i64 0)
theorem fk_38 : pureN Tryz.prog tyTab 400 (fk_ch fk_t0 fk_m0) 34 fk_k38.1 = some fk_k38.2 := by kernel_rfl
def fk_k39 : List AVal × AVal := ([.int .i64 (-74752), .int .i64 74752], .int .i64 (-74752))
theorem fk_39 : pureN Tryz.prog tyTab 400 (fk_ch fk_t0 fk_m0) 79 fk_k39.1 = some fk_k39.2 := by kernel_rfl
def fk_k40 : List AVal × AVal := ([.agg [.int .i64 56320, .int .i64 (-74752), .int .i64 (-74752)]], .int .i64 0)
theorem fk_40 : pureN Tryz.prog tyTab 400 (fk_ch fk_t0 fk_m0) 34 fk_k40.1 = some fk_k40.2 := by kernel_rfl
def fk_k41 : List AVal × AVal := ([.agg [.int .i64 205824, .int .i64 74752, .int .i64 74752]], .int .i64 0)
theorem fk_41 : pureN Tryz.prog tyTab 400 (fk_ch fk_t0 fk_m0) 34 fk_k41.1 = some fk_k41.2 := by kernel_rfl
def fk_k42 : List AVal × AVal := ([.int .i64 56320, .int .i64 205824], .int .i64 56320)
theorem fk_42 : pureN Tryz.prog tyTab 400 (fk_ch fk_t0 fk_m0) 79 fk_k42.1 = some fk_k42.2 := by kernel_rfl
def fk_k43 : List AVal × AVal := ([.int .i64 (-74752), .int .i64 56320], .int .i64 (-74752))
theorem fk_43 : pureN Tryz.prog tyTab 400 (fk_ch fk_t0 fk_m0) 79 fk_k43.1 = some fk_k43.2 := by kernel_rfl
def fk_k44 : List AVal × AVal := ([.int .i64 (-74752), .int .i64 (-74752)], .int .i64 (-74752))
theorem fk_44 : pureN Tryz.prog tyTab 400 (fk_ch fk_t0 fk_m0) 79 fk_k44.1 = some fk_k44.2 := by kernel_rfl
def fk_k45 : List AVal × AVal := ([.int .i64 74752, .int .i64 205824], .int .i64 205824)
theorem fk_45 : pureN Tryz.prog tyTab 400 (fk_ch fk_t0 fk_m0) 78 fk_k45.1 = some fk_k45.2 := by kernel_rfl
def fk_k46 : List AVal × AVal := ([.int .i64 74752, .int .i64 74752], .int .i64 74752)
theorem fk_46 : pureN Tryz.prog tyTab 400 (fk_ch fk_t0 fk_m0) 78 fk_k46.1 = some fk_k46.2 := by kernel_rfl
def fk_k47 : List AVal × AVal := ([.int .i64 (-74752), .int .i64 205824], .int .i64 (-74752))
theorem fk_47 : pureN Tryz.prog tyTab 400 (fk_ch fk_t0 fk_m0) 79 fk_k47.1 = some fk_k47.2 := by kernel_rfl
def fk_k48 : List AVal × AVal := ([.int .i64 (-74752), .int .i64 (-66560)], .int .i64 (-66560))
theorem fk_48 : pureN Tryz.prog tyTab 400 (fk_ch fk_t0 fk_m0) 78 fk_k48.1 = some fk_k48.2 := by kernel_rfl
def fk_k49 : List AVal × AVal := ([.int .i64 205824, .int .i64 66560], .int .i64 66560)
theorem fk_49 : pureN Tryz.prog tyTab 400 (fk_ch fk_t0 fk_m0) 79 fk_k49.1 = some fk_k49.2 := by kernel_rfl
def fk_k50 : List AVal × AVal := ([.int .i64 74752, .int .i64 66560], .int .i64 66560)
theorem fk_50 : pureN Tryz.prog tyTab 400 (fk_ch fk_t0 fk_m0) 79 fk_k50.1 = some fk_k50.2 := by kernel_rfl
def fk_k51 : List AVal × AVal := ([.int .i64 56320, .int .i64 (-66560)], .int .i64 56320)
theorem fk_51 : pureN Tryz.prog tyTab 400 (fk_ch fk_t0 fk_m0) 78 fk_k51.1 = some fk_k51.2 := by kernel_rfl
def fk_k52 : List AVal × AVal := ([.agg [.int .i64 56320, .int .i64 (-66560), .int .i64 (-66560)]], .int .i64 0)
theorem fk_52 : pureN Tryz.prog tyTab 400 (fk_ch fk_t0 fk_m0) 34 fk_k52.1 = some fk_k52.2 := by kernel_rfl
def fk_k53 : List AVal × AVal := ([.int .i64 56320, .int .i64 66560], .int .i64 56320)
theorem fk_53 : pureN Tryz.prog tyTab 400 (fk_ch fk_t0 fk_m0) 79 fk_k53.1 = some fk_k53.2 := by kernel_rfl
def fk_k54 : List AVal × AVal := ([.int .i64 64512, .int .i64 (-66560)], .int .i64 64512)
theorem fk_54 : pureN Tryz.prog tyTab 400 (fk_ch fk_t0 fk_m0) 78 fk_k54.1 = some fk_k54.2 := by kernel_rfl
def fk_k55 : List AVal × AVal := ([.int .i64 (-66560), .int .i64 (-66560)], .int .i64 (-66560))
theorem fk_55 : pureN Tryz.prog tyTab 400 (fk_ch fk_t0 fk_m0) 78 fk_k55.1 = some fk_k55.2 := by kernel_rfl
def fk_k56 : List AVal × AVal := ([.int .i64 197632, .int .i64 66560], .int .i64 66560)
theorem fk_56 : pureN Tryz.prog tyTab 400 (fk_ch fk_t0 fk_m0) 79 fk_k56.1 = some fk_k56.2 := by kernel_rfl
def fk_k57 : List AVal × AVal := ([.int .i64 66560, .int .i64 66560], .int .i64 66560)
theorem fk_57 : pureN Tryz.prog tyTab 400 (fk_ch fk_t0 fk_m0) 79 fk_k57.1 = some fk_k57.2 := by kernel_rfl
def fk_k58 : List AVal × AVal := ([.int .i64 64512, .int .i64 66560], .int .i64 64512)
theorem fk_58 : pureN Tryz.prog tyTab 400 (fk_ch fk_t0 fk_m0) 79 fk_k58.1 = some fk_k58.2 := by kernel_rfl
def fk_k59 : List AVal × AVal := ([.int .u64 2], .int .i64 2)
theorem fk_59 : pureN Tryz.prog tyTab 400 (fk_ch fk_t0 fk_m0) 108 fk_k59.1 = some fk_k59.2 := by kernel_rfl
def fk_k60 : List AVal × AVal := ([.int .i64 1], .bool false)
theorem fk_60 : pureN Tryz.prog tyTab 400 (fk_ch fk_t0 fk_m0) 152 fk_k60.1 = some fk_k60.2 := by kernel_rfl
def fk_k61 : List AVal × AVal := ([.int .i64 (-74752), .int .i64 64512], .int .i64 64512)
theorem fk_61 : pureN Tryz.prog tyTab 400 (fk_ch fk_t0 fk_m0) 78 fk_k61.1 = some fk_k61.2 := by kernel_rfl
def fk_k62 : List AVal × AVal := ([.int .i64 205824, .int .i64 197632], .int .i64 197632)
theorem fk_62 : pureN Tryz.prog tyTab 400 (fk_ch fk_t0 fk_m0) 79 fk_k62.1 = some fk_k62.2 := by kernel_rfl
def fk_k63 : List AVal × AVal := ([.int .i64 56320, .int .i64 64512], .int .i64 64512)
theorem fk_63 : pureN Tryz.prog tyTab 400 (fk_ch fk_t0 fk_m0) 78 fk_k63.1 = some fk_k63.2 := by kernel_rfl
def fk_k64 : List AVal × AVal := ([.int .i64 64512, .int .i64 64512], .int .i64 64512)
theorem fk_64 : pureN Tryz.prog tyTab 400 (fk_ch fk_t0 fk_m0) 78 fk_k64.1 = some fk_k64.2 := by kernel_rfl
def fk_k65 : List AVal × AVal := ([.int .i64 197632, .int .i64 197632], .int .i64 197632)
theorem fk_65 : pureN Tryz.prog tyTab 400 (fk_ch fk_t0 fk_m0) 79 fk_k65.1 = some fk_k65.2 := by kernel_rfl
def fk_k66 : List AVal × AVal := ([.int .i64 74752, .int .i64 197632], .int .i64 74752)
theorem fk_66 : pureN Tryz.prog tyTab 400 (fk_ch fk_t0 fk_m0) 79 fk_k66.1 = some fk_k66.2 := by kernel_rfl
def fk_k67 : List AVal × AVal := ([.agg [.int .i64 74752, .int .i64 66560, .int .i64 66560]], .int .i64 0)
theorem fk_67 : pureN Tryz.prog tyTab 400 (fk_ch fk_t0 fk_m0) 34 fk_k67.1 = some fk_k67.2 := by kernel_rfl
def fk_k68 : List AVal × AVal := ([.int .i64 64512, .int .i64 74752], .int .i64 64512)
theorem fk_68 : pureN Tryz.prog tyTab 400 (fk_ch fk_t0 fk_m0) 79 fk_k68.1 = some fk_k68.2 := by kernel_rfl
def fk_k69 : List AVal × AVal := ([.int .i64 (-66560), .int .i64 64512], .int .i64 64512)
theorem fk_69 : pureN Tryz.prog tyTab 400 (fk_ch fk_t0 fk_m0) 78 fk_k69.1 = some fk_k69.2 := by kernel_rfl
def fk_k70 : List AVal × AVal := ([.int .i64 66560, .int .i64 197632], .int .i64 66560)
theorem fk_70 : pureN Tryz.prog tyTab 400 (fk_ch fk_t0 fk_m0) 79 fk_k70.1 = some fk_k70.2 := by kernel_rfl
def fk_k71 : List AVal × AVal := ([.int .u64 1], .int .i64 1)
theorem fk_71 : pureN Tryz.prog tyTab 400 (fk_ch fk_t0 fk_m0) 108 fk_k71.1 = some fk_k71.2 := by kernel_rfl
def fk_k72 : MF := ⟨[.vec 7, .func 26 [] [.ptr 6 0]], ⟨8, [(0, .cells [.ptr 1 0, .map 2] true none), (1, .cells [.bool true, .int .i64 8192, .vec 5, .nils, .int .i64 2, .map 3] true none), (2, .map [(.int .i64 1, .agg [.int .i64 1, .int .i64 1, .int .i64 4294967296, .int .i64 0, .int .i64 0, .int .i64 0, .nils, .int .i64 0, .int .i64 0, .int .i64 0, .int .i64 4294967296, .int .i64 0, .int .i64 0, .int .i64 0, .int .i64 4294967296, .int .i64 0, .int .i64 0, .int .i64 0, .int .i64 0, .int .i64 0, .int .i64 0, .int .i64 0], 0), (.int .i64 2, .agg [.int .i64 2, .int .i64 1, .int .i64 4294967296, .int .i64 0, .int .i64 0, .int .i64 0, .nils, .int .i64 8589934592, .int .i64 0, .int .i64 0, .int .i64 4294967296, .int .i64 0, .int .i64 0, .int .i64 0, .int .i64 0, .int .i64 0, .int .i64 0, .int .i64 0, .int .i64 0, .int .i64 0, .int .i64 0, .int .i64 0], 1)] 2), (3, .map [(.int .i64 1, .int .i64 0, 0), (.int .i64 2, .int .i64 1, 1)] 2), (4, .dead), (5, .vec [.int .i64 (-74752), .int .i64 (-74752), .int .i64 (-74752), .int .i64 74752, .int .i64 74752, .int .i64 74752, .int .i64 (-66560), .int .i64 (-66560), .int .i64 (-66560), .int .i64 66560, .int .i64 66560, .int .i64 66560, .int .i64 1, .int .i64 2, .int .i64 (-1), .int .i64 (-1), .int .i64 0, .int .i64 56320, .int .i64 (-74752), .int .i64 (-74752), .int .i64 205824, .int .i64 74752, .int .i64 74752, .int .i64 64512, .int .i64 (-66560), .int .i64 (-66560), .int .i64 197632, .int .i64 66560, .int .i64 66560, .int .i64 2, .int .i64 2, .int .i64 (-1), .int .i64 (-1), .int .i64 0, .int .i64 (-74752), .int .i64 (-74752), .int .i64 (-74752), .int .i64 205824, .int .i64 74752, .int .i64 74752, .int .i64 0, .int .i64 0, .int .i64 0, .int .i64 0, .int .i64 0, .int .i64 0, .int .i64 0, .int .i64 (-1), .int .i64 0, .int .i64 1, .int .i64 1] 3 17 true), (6, .cells [.ptr 0 0] true none), (7, .vec [.int .i64 1, .int .i64 2] 1 2 true)]⟩, (.vec 7, ⟨8, [(0, .cells [.ptr 1 0, .map 2] true none), (1, .cells [.bool true, .int .i64 8192, .vec 5, .nils, .int .i64 2, .map 3] true none), (2, .map [(.int .i64 1, .agg [.int .i64 1, .int .i64 1, .int .i64 4294967296, .int .i64 0, .int .i64 0, .int .i64 0, .nils, .int .i64 0, .int .i64 0, .int .i64 0, .int .i64 4294967296, .int .i64 0, .int .i64 0, .int .i64 0, .int .i64 4294967296, .int .i64 0, .int .i64 0, .int .i64 0, .int .i64 0, .int .i64 0, .int .i64 0, .int .i64 0], 0), (.int .i64 2, .agg [.int .i64 2, .int .i64 1, .int .i64 4294967296, .int .i64 0, .int .i64 0, .int .i64 0, .nils, .int .i64 8589934592, .int .i64 0, .int .i64 0, .int .i64 4294967296, .int .i64 0, .int .i64 0, .int .i64 0, .int .i64 0, .int .i64 0, .int .i64 0, .int .i64 0, .int .i64 0, .int .i64 0, .int .i64 0, .int .i64 0], 1)] 2), (3, .map [(.int .i64 1, .int .i64 0, 0), (.int .i64 2, .int .i64 1, 1)] 2), (4, .dead), (5, .vec [.int .i64 (-74752), .int .i64 (-74752), .int .i64 (-74752), .int .i64 74752, .int .i64 74752, .int .i64 74752, .int .i64 (-66560), .int .i64 (-66560), .int .i64 (-66560), .int .i64 66560, .int .i64 66560, .int .i64 66560, .int .i64 1, .int .i64 2, .int .i64 (-1), .int .i64 (-1), .int .i64 0, .int .i64 56320, .int .i64 (-74752), .int .i64 (-74752), .int .i64 205824, .int .i64 74752, .int .i64 74752, .int .i64 64512, .int .i64 (-66560), .int .i64 (-66560), .int .i64 197632, .int .i64 66560, .int .i64 66560, .int .i64 2, .int .i64 2, .int .i64 (-1), .int .i64 (-1), .int .i64 0, .int .i64 (-74752), .int .i64 (-74752), .int .i64 (-74752), .int .i64 205824, .int .i64 74752, .int .i64 74752, .int .i64 0, .int .i64 0, .int .i64 0, .int .i64 0, .int .i64 0, .int .i64 0, .int .i64 0, .int .i64 (-1), .int .i64 0, .int .i64 1, .int .i64 1] 3 17 true), (6, .cells [.ptr 0 0] true none), (7, .vec [.int .i64 1, .int .i64 2] 1 2 true)]⟩)⟩
theorem fk_72 : tellN Tryz.prog tyTab 400 (fk_ch fk_t0 fk_m0) 24 fk_k72.args fk_k72.mem = some fk_k72.told := by kernel_rfl
def fk_e0_34 : List (List AVal × AVal) := [fk_k21, fk_k24, fk_k25, fk_k31, fk_k34, fk_k35, fk_k37, fk_k38, fk_k40, fk_k41, fk_k52, fk_k67]
def fk_e0_78 : List (List AVal × AVal) := [fk_k23, fk_k33, fk_k45, fk_k46, fk_k48, fk_k51, fk_k54, fk_k55, fk_k61, fk_k63, fk_k64, fk_k69]
def fk_e0_79 : List (List AVal × AVal) := [fk_k22, fk_k26, fk_k32, fk_k36, fk_k39, fk_k42, fk_k43, fk_k44, fk_k47, fk_k49, fk_k50, fk_k53, fk_k56, fk_k57, fk_k58, fk_k62, fk_k65, fk_k66, fk_k68, fk_k70]
def fk_e0_91 : List (List AVal × AVal) := [fk_k16, fk_k17, fk_k28]
def fk_e0_94 : List (List AVal × AVal) := [fk_k18, fk_k19]
def fk_e0_95 : List (List AVal × AVal) := [fk_k20, fk_k30]
def fk_e0_108 : List (List AVal × AVal) := [fk_k59, fk_k71]
def fk_e0_125 : List (List AVal × AVal) := [fk_k5]
def fk_e0_128 : List (List AVal × AVal) := [fk_k0]
def fk_e0_143 : List (List AVal × AVal) := [fk_k10, fk_k15, fk_k29]
def fk_e0_152 : List (List AVal × AVal) := [fk_k60]
def fk_e0_159 : List (List AVal × AVal) := [fk_k6]
def fk_e0_160 : List (List AVal × AVal) := [fk_k2, fk_k4, fk_k12]
def fk_e0_161 : List (List AVal × AVal) := [fk_k1, fk_k3, fk_k7, fk_k8, fk_k9, fk_k11, fk_k13, fk_k14]
def fk_lt0 : FTab := fun f => cond (Nat.beq f 34) fk_e0_34 (cond (Nat.beq f 78) fk_e0_78 (cond (Nat.beq f 79) fk_e0_79 (cond (Nat.beq f 91) fk_e0_91 (cond (Nat.beq f 94) fk_e0_94 (cond (Nat.beq f 95) fk_e0_95 (cond (Nat.beq f 108) fk_e0_108 (cond (Nat.beq f 125) fk_e0_125 (cond (Nat.beq f 128) fk_e0_128 (cond (Nat.beq f 143) fk_e0_143 (cond (Nat.beq f 152) fk_e0_152 (cond (Nat.beq f 159) fk_e0_159 (cond (Nat.beq f 160) fk_e0_160 (cond (Nat.beq f 161) fk_e0_161 ([]))))))))))))))
theorem fk_lt0_ok : FTabOk Tryz.prog fk_lt0 := (ftab_node (l := fk_e0_34) ⟨pureN_sem tab_ok mixed noNum (fk_ch_ok fk_t0_ok fk_m0_ok) fk_21, pureN_sem tab_ok mixed noNum (fk_ch_ok fk_t0_ok fk_m0_ok) fk_24, pureN_sem tab_ok mixed noNum (fk_ch_ok fk_t0_ok fk_m0_ok) fk_25, pureN_sem tab_ok mixed noNum (fk_ch_ok fk_t0_ok fk_m0_ok) fk_31, pureN_sem tab_ok mixed noNum (fk_ch_ok fk_t0_ok fk_m0_ok) fk_34, pureN_sem tab_ok mixed noNum (fk_ch_ok fk_t0_ok fk_m0_ok) fk_35, pureN_sem tab_ok mixed noNum (fk_ch_ok fk_t0_ok fk_m0_ok) fk_37, pureN_sem tab_ok mixed noNum (fk_ch_ok fk_t0_ok fk_m0_ok) fk_38, pureN_sem tab_ok mixed noNum (fk_ch_ok fk_t0_ok fk_m0_ok) fk_40, pureN_sem tab_ok mixed noNum (fk_ch_ok fk_t0_ok fk_m0_ok) fk_41, pureN_sem tab_ok mixed noNum (fk_ch_ok fk_t0_ok fk_m0_ok) fk_52, pureN_sem tab_ok mixed noNum (fk_ch_ok fk_t0_ok fk_m0_ok) fk_67, trivial⟩ (ftab_node (l := fk_e0_78) ⟨pureN_sem tab_ok mixed noNum (fk_ch_ok fk_t0_ok fk_m0_ok) fk_23, pureN_sem tab_ok mixed noNum (fk_ch_ok fk_t0_ok fk_m0_ok) fk_33, pureN_sem tab_ok mixed noNum (fk_ch_ok fk_t0_ok fk_m0_ok) fk_45, pureN_sem tab_ok mixed noNum (fk_ch_ok fk_t0_ok fk_m0_ok) fk_46, pureN_sem tab_ok mixed noNum (fk_ch_ok fk_t0_ok fk_m0_ok) fk_48, pureN_sem tab_ok mixed noNum (fk_ch_ok fk_t0_ok fk_m0_ok) fk_51, pureN_sem tab_ok mixed noNum (fk_ch_ok fk_t0_ok fk_m0_ok) fk_54, pureN_sem tab_ok mixed noNum (fk_ch_ok fk_t0_ok fk_m0_ok) fk_55, pureN_sem tab_ok mixed noNum (fk_ch_ok fk_t0_ok fk_m0_ok) fk_61, pureN_sem tab_ok mixed noNum (fk_ch_ok fk_t0_ok fk_m0_ok) fk_63, pureN_sem tab_ok mixed noNum (fk_ch_ok fk_t0_ok fk_m0_ok) fk_64, pureN_sem tab_ok mixed noNum (fk_ch_ok fk_t0_ok fk_m0_ok) fk_69, trivial⟩ (ftab_node (l := fk_e0_79) ⟨pureN_sem tab_ok mixed noNum (fk_ch_ok fk_t0_ok fk_m0_ok) fk_22, pureN_sem tab_ok mixed noNum (fk_ch_ok fk_t0_ok fk_m0_ok) fk_26, pureN_sem tab_ok mixed noNum (fk_ch_ok fk_t0_ok fk_m0_ok) fk_32, pureN_sem tab_ok mixed noNum (fk_ch_ok fk_t0_ok fk_m0_ok) fk_36, pureN_sem tab_ok mixed noNum (fk_ch_ok fk_t0_ok fk_m0_ok) fk_39, pureN_sem tab_ok mixed noNum (fk_ch_ok fk_t0_ok fk_m0_ok) fk_42, pureN_sem tab_ok mixed noNum (fk_ch_ok fk_t0_ok fk_m0_ok) fk_43, pureN_sem tab_ok mixed noNum (fk_ch_ok fk_t0_ok fk_m0_ok) fk_44, pureN_sem tab_ok mixed noNum (fk_ch_ok fk_t0_ok fk_m0_ok) fk_47, pureN_sem tab_ok mixed noNum (fk_ch_ok fk_t0_ok fk_m0_ok) fk_49, pureN_sem tab_ok mixed noNum (fk_ch_ok fk_t0_ok fk_m0_ok) fk_50, pureN_sem tab_ok mixed noNum (fk_ch_ok fk_t0_ok fk_m0_ok) fk_53, pureN_sem tab_ok mixed noNum (fk_ch_ok fk_t0_ok fk_m0_ok) fk_56, pureN_sem tab_ok mixed noNum (fk_ch_ok fk_t0_ok fk_m0_ok) fk_57, pureN_sem tab_ok mixed noNum (fk_ch_ok fk_t0_ok fk_m0_ok) fk_58, pureN_sem tab_ok mixed noNum (fk_ch_ok fk_t0_ok fk_m0_ok) fk_62, pureN_sem tab_ok mixed noNum (fk_ch_ok fk_t0_ok fk_m0_ok) fk_65, pureN_sem tab_ok mixed noNum (fk_ch_ok fk_t0_ok fk_m0_ok) fk_66, pureN_sem tab_ok mixed noNum (fk_ch_ok fk_t0_ok fk_m0_ok) fk_68, pureN_sem tab_ok mixed noNum (fk_ch_ok fk_t0_ok fk_m0_ok) fk_70, trivial⟩ (ftab_node (l := fk_e0_91) ⟨pureN_sem tab_ok mixed noNum (fk_ch_ok fk_t0_ok fk_m0_ok) fk_16, pureN_sem tab_ok mixed noNum (fk_ch_ok fk_t0_ok fk_m0_ok) fk_17, pureN_sem tab_ok mixed noNum (fk_ch_ok fk_t0_ok fk_m0_ok) fk_28, trivial⟩ (ftab_node (l := fk_e0_94) ⟨pureN_sem tab_ok mixed noNum (fk_ch_ok fk_t0_ok fk_m0_ok) fk_18, pureN_sem tab_ok mixed noNum (fk_ch_ok fk_t0_ok fk_m0_ok) fk_19, trivial⟩ (ftab_node (l := fk_e0_95) ⟨pureN_sem tab_ok mixed noNum (fk_ch_ok fk_t0_ok fk_m0_ok) fk_20, pureN_sem tab_ok mixed noNum (fk_ch_ok fk_t0_ok fk_m0_ok) fk_30, trivial⟩ (ftab_node (l := fk_e0_108) ⟨pureN_sem tab_ok mixed noNum (fk_ch_ok fk_t0_ok fk_m0_ok) fk_59, pureN_sem tab_ok mixed noNum (fk_ch_ok fk_t0_ok fk_m0_ok) fk_71, trivial⟩ (ftab_node (l := fk_e0_125) ⟨pureN_sem tab_ok mixed noNum (fk_ch_ok fk_t0_ok fk_m0_ok) fk_5, trivial⟩ (ftab_node (l := fk_e0_128) ⟨pureN_sem tab_ok mixed noNum (fk_ch_ok fk_t0_ok fk_m0_ok) fk_0, trivial⟩ (ftab_node (l := fk_e0_143) ⟨pureN_sem tab_ok mixed noNum (fk_ch_ok fk_t0_ok fk_m0_ok) fk_10, pureN_sem tab_ok mixed noNum (fk_ch_ok fk_t0_ok fk_m0_ok) fk_15, pureN_sem tab_ok mixed noNum (fk_ch_ok fk_t0_ok fk_m0_ok) fk_29, trivial⟩ (ftab_node (l := fk_e0_152) ⟨pureN_sem tab_ok mixed noNum (fk_ch_ok fk_t0_ok fk_m0_ok) fk_60, trivial⟩ (ftab_node (l := fk_e0_159) ⟨pureN_sem tab_ok mixed noNum (fk_ch_ok fk_t0_ok fk_m0_ok) fk_6, trivial⟩ (ftab_node (l := fk_e0_160) ⟨pureN_sem tab_ok mixed noNum (fk_ch_ok fk_t0_ok fk_m0_ok) fk_2, pureN_sem tab_ok mixed noNum (fk_ch_ok fk_t0_ok fk_m0_ok) fk_4, pureN_sem tab_ok mixed noNum (fk_ch_ok fk_t0_ok fk_m0_ok) fk_12, trivial⟩ (ftab_node (l := fk_e0_161) ⟨pureN_sem tab_ok mixed noNum (fk_ch_ok fk_t0_ok fk_m0_ok) fk_1, pureN_sem tab_ok mixed noNum (fk_ch_ok fk_t0_ok fk_m0_ok) fk_3, pureN_sem tab_ok mixed noNum (fk_ch_ok fk_t0_ok fk_m0_ok) fk_7, pureN_sem tab_ok mixed noNum (fk_ch_ok fk_t0_ok fk_m0_ok) fk_8, pureN_sem tab_ok mixed noNum (fk_ch_ok fk_t0_ok fk_m0_ok) fk_9, pureN_sem tab_ok mixed noNum (fk_ch_ok fk_t0_ok fk_m0_ok) fk_11, pureN_sem tab_ok mixed noNum (fk_ch_ok fk_t0_ok fk_m0_ok) fk_13, pureN_sem tab_ok mixed noNum (fk_ch_ok fk_t0_ok fk_m0_ok) fk_14, trivial⟩ ftab_leaf))))))))))))))
def fk_t1 : FTab := fun f => fk_lt0 f ++ fk_t0 f
theorem fk_t1_ok : FTabOk Tryz.prog fk_t1 := ftab_or fk_lt0_ok fk_t0_ok
def fk_f0_24 : List MF := [fk_k72]
def fk_f0_42 : List MF := [fk_k27]
def fk_lm0 : MTab := fun f => cond (Nat.beq f 24) fk_f0_24 (cond (Nat.beq f 42) fk_f0_42 ([]))
theorem fk_lm0_ok : MTabOk Tryz.prog fk_lm0 := (mtab_node (l := fk_f0_24) ⟨tellN_sem tab_ok mixed noNum (fk_ch_ok fk_t0_ok fk_m0_ok) fk_72, trivial⟩ (mtab_node (l := fk_f0_42) ⟨tellN_sem tab_ok mixed noNum (fk_ch_ok fk_t0_ok fk_m0_ok) fk_27, trivial⟩ mtab_leaf))
def fk_m1 : MTab := fun f => fk_lm0 f ++ fk_m0 f
theorem fk_m1_ok : MTabOk Tryz.prog fk_m1 := mtab_or fk_lm0_ok fk_m0_ok
end Go.Ev
