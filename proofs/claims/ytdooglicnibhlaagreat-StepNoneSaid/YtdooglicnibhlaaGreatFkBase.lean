import Derived.Test.YtdooglicnibhlaaGreatEvLd
import Derived.Test.YtdooglicnibhlaaGreatEvU
import Derived.Test.YtdooglicnibhlaaGreatEvT
import Derived.Test.YtdooglicnibhlaaGreatWdH
import Derived.Test.YtdooglicnibhlaaGreatWdS
namespace Go.Ev
open Go.Proofs
set_option linter.unusedVariables false
set_option maxRecDepth 100000
def qs : List Int → List AVal → List AVal
  | [], r => r
  | x :: l, r => .int .i64 x :: qs l r
def qz : List Int → List AVal
  | [] => []
  | x :: l => .int .i64 x :: qz l
def jA : Int := 262144
def jB : Int := 4294967296
def jC : Int := 65536
def jD : Int := 196608
def jE : Int := 17179869184
def jF : Int := 10737418240
def jG : Int := 6442450945
def jH : Int := 18446744073709551616
def jI : Int := 8589934592
def jJ : Int := 524288
def jK : Int := 131072
def jL : Int := 263168
def jM : Int := 66560
def jN : Int := 271360
def jO : Int := 132096
def jP : Int := 73786976294838206464
def jQ : Int := 1073741824
def jR : Int := 46116860184273879040
def jS : Int := 140288
def jT : Int := 274877906944
def jU : Int := 1024
def jV : Int := 74752
def jW : Int := 36893488147419103232
def jX : Int := 4194304
def jY : Int := 118842243789843250464025477120
def jZ : Int := 4362076160
def ja : Int := 549755813888
def jb : Int := 2863311530
def jc : Int := 268435456
def jd : Int := 158456325028528675187087900672
def je : Int := 141733920768
def jf : Int := 300647710720
def jg : Int := 12884901888
def jh : Int := 68719476736
def ji : Int := 176093659136
def jj : Int := 42949672960
def jk : Int := 9216
def jl : Int := 566935683072
def jm : Int := 266287972352
def jn : Int := 1099511627776
def jo : Int := 25769803776
def c8 (z : Int) (r : List AVal) : List AVal := .int .u64 (limb z 0) :: .int .u64 (limb z 1) :: .int .u64 (limb z 2) :: .int .u64 (limb z 3) :: .int .u64 (limb z 4) :: .int .u64 (limb z 5) :: .int .u64 (limb z 6) :: .int .u64 (limb z 7) :: r
noncomputable def fk_base : CH := (CH.add 105 hcCmp (CH.add 113 hcOf (CH.add 120 hcDiv (CH.add 122 hcSqrt (CH.add 179 hcSign (CH.add 182 hcShl (CH.add 183 hcMul (CH.add 190 hcAdd (CH.add 205 hcShr (CH.add 206 hcBits (CH.add 250 hcSub (CH.add 277 hcNeg (CH.add 290 hcInt CH.none)))))))))))))
theorem fk_base_ok : CHOk Tryz.prog fk_base := (CH.add_ok hcCmp_ok (CH.add_ok hcOf_ok (CH.add_ok hcDiv_ok (CH.add_ok hcSqrt_ok (CH.add_ok hcSign_ok (CH.add_ok hcShl_ok (CH.add_ok hcMul_ok (CH.add_ok hcAdd_ok (CH.add_ok hcShr_ok (CH.add_ok hcBits_ok (CH.add_ok hcSub_ok (CH.add_ok hcNeg_ok (CH.add_ok hcInt_ok CH.none_ok)))))))))))))
def fk_pu : FuncId → Bool := fun g => ([27,48,49,50,51,52,65,66,67,68,69,70,71,74,76,85,86,87,88,89,91,101,103,108,111,112,115,116,117,118,121,123,124,126,133,135,139,146,147,149,150,151,152,153,154,155,157,158,159,160,161,163,168,170,176,180,181,186,187,188,189,191,192,193,194,195,196,197,198,199,201,203,204,207,209,210,211,212,213,214,215,216,217,221,222,223,225,226,227,233,234,238,239,240,241,244,245,247,248,249,251,259,262,263,266,270,272,273,279,282,283,284,285,288,291,292,293,294,295,297,298,299,300,301,304,305,306,307,308,311,312,314,315,316,317,318,321,324,328,352,356,357,364,366,373,374,375,379,382,383,384,385,388,389,395,398,399,402,404,405,416,420,424,426] : List Nat).any (Nat.beq g)
def fk_lt : FuncId → Bool := fun g => ([26,29,36,37,39,43,44,45,46,47,53,54,57,60,62,63,64,73,77,78,80,83,84,90,92,93,95,96,97,98,99,100,102,104,106,107,109,110,119,125,127,128,129,134,136,141,142,143,144,145,148,156,162,165,166,171,172,173,174,175,177,178,185,200,202,208,219,224,228,229,230,231,232,237,254,255,256,257,258,260,261,265,267,268,269,271,274,275,276,278,281,286,287,289,296,302,320,322,323,325,326,327,329,330,331,332,333,334,335,336,337,338,339,340,341,342,343,344,345,346,347,348,349,350,351,353,354,355,358,359,360,361,362,363,365,367,368,369,370,371,372,376,377,378,380,381,391,392,393,394,396,397,401,403,406,407,408,409,410,411,412,413,414,415,417,418,419,421,422,423,425,427] : List Nat).any (Nat.beq g)
def fk_nd : FuncId → Bool := fun g => ([4,5,6,13,14,15,16,17,18,19,20,21,24,26,28,29,36,37,38,39,40,41,42,43,44,45,46,47,53,54,55,56,57,58,60,61,62,63,64,72,73,77,78,79,80,81,82,83,84,90,92,93,94,95,96,97,98,99,100,102,104,106,107,109,110,114,119,125,127,128,129,130,131,132,134,136,137,138,140,141,142,143,144,145,148,156,162,165,166,167,169,171,172,173,174,175,177,178,184,185,200,202,208,218,219,220,224,228,229,230,231,232,235,236,237,242,243,246,253,254,255,256,257,258,260,261,264,265,267,268,269,271,274,275,276,278,281,286,287,289,296,302,303,309,310,313,319,320,322,323,325,326,327,329,330,331,332,333,334,335,336,337,338,339,340,341,342,343,344,345,346,347,348,349,350,351,353,354,355,358,359,360,361,362,363,365,367,368,369,370,371,372,376,377,378,380,381,386,387,390,391,392,393,394,396,397,400,401,403,406,407,408,409,410,411,412,413,414,415,417,418,419,421,422,423,425,427] : List Nat).any (Nat.beq g)
def fk_xs : FuncId → Bool := fun g => ([29,39,46,47,53,54,60,77,80,82,96,100,102,104,109,110,119,125,142,148,156,171,175,184,200,202,208,219,228,229,230,231,232,242,243,246,265,268,269,271,278,287,296,303,310,313,337,338,339,340,341,342,343,344,345,346,350,355,358,359,365,367,369,376,380,386,390,392,393,394,396,400,401,403,406,425] : List Nat).any (Nat.beq g)
def fk_ds : FuncId → Bool := fun g => ([275] : List Nat).any (Nat.beq g)
def fk_rs : FuncId → Bool := fun g => ([46,54,136] : List Nat).any (Nat.beq g)
def fk_il : FuncId → Bool := fun g => ([78,166] : List Nat).any (Nat.beq g)
def fk_L : Lists := ⟨fk_pu, fk_lt, fk_nd, fk_xs, fk_ds, fk_rs, fk_il⟩
noncomputable def fk_ch (t : FTab) (m : MTab) : CH := layerL Tryz.prog tyTab fk_base fk_L t m 400 30
theorem fk_ch_ok {t : FTab} {m : MTab} (h : FTabOk Tryz.prog t) (k : MTabOk Tryz.prog m) : CHOk Tryz.prog (fk_ch t m) := layerL_ok tab_ok mixed noNum fk_base_ok h k 30
def fk_t0 : FTab := fun _ => []
theorem fk_t0_ok : FTabOk Tryz.prog fk_t0 := ftab_leaf
def fk_m0 : MTab := fun _ => []
theorem fk_m0_ok : MTabOk Tryz.prog fk_m0 := mtab_leaf
noncomputable abbrev fk_c0 : CH := fk_ch fk_t0 fk_m0
theorem fk_c0_ok : CHOk Tryz.prog fk_c0 := fk_ch_ok fk_t0_ok fk_m0_ok
noncomputable abbrev fk_w0 : Teller := tellRD Tryz.prog tyTab 400 fk_ds fk_il fk_c0
theorem fk_w0_ok : TellOk Tryz.prog fk_w0 := tellRD_ok tab_ok mixed noNum fk_c0_ok
theorem fk_u0 {g l} (h : chkF (pureT fk_w0) g l = true) : okL Tryz.prog g l := chkF_ok (tell := fk_w0) fk_w0_ok h
theorem fk_v0 {g l} (h : chkM fk_w0 g l = true) : okM Tryz.prog g l := chkM_ok (tell := fk_w0) fk_w0_ok h
end Go.Ev

