/- What calls answer that hang on their arguments alone. No statement is proved here. Printed by facts.py. -/
import Derived.Test.YtegmknimddohoaaGreatEvFc
import Derived.Test.YtegmknimddohoaaGreatEvU
import Derived.Test.YtegmknimddohoaaGreatEvT
import Derived.Test.YtegmknimddohoaaGreatWideA
import Derived.Test.YtegmknimddohoaaGreatWideB
import Derived.Test.YtegmknimddohoaaGreatWideC
namespace Go.Ev
open Go.Proofs
set_option linter.unusedVariables false
set_option linter.unusedSimpArgs false
set_option maxRecDepth 100000
noncomputable def fk_base : CH := (CH.add 80 h_wide_Mul (CH.add 81 h_wide_Of (CH.add 82 h_wide_Cmp (CH.add 90 h_wide_Shl (CH.add 132 h_wide_Div (CH.add 142 h_wide_Shr (CH.add 144 h_wide_Bits (CH.add 145 h_wide_Sign (CH.add 146 h_wide_Add (CH.add 168 h_wide_Int (CH.add 185 h_wide_Sub CH.none)))))))))))
theorem fk_base_ok : CHOk Tryz.prog fk_base := (CH.add_ok h_wide_Mul_ok (CH.add_ok h_wide_Of_ok (CH.add_ok h_wide_Cmp_ok (CH.add_ok h_wide_Shl_ok (CH.add_ok h_wide_Div_ok (CH.add_ok h_wide_Shr_ok (CH.add_ok h_wide_Bits_ok (CH.add_ok h_wide_Sign_ok (CH.add_ok h_wide_Add_ok (CH.add_ok h_wide_Int_ok (CH.add_ok h_wide_Sub_ok CH.none_ok)))))))))))
def fk_pu : FuncId → Bool := fun g => ([33, 34, 41, 49, 54, 56, 57, 65, 70, 71, 76, 78, 79, 83, 86, 87, 91, 92, 94, 95, 104, 107, 108, 118, 119, 121, 122, 123, 124, 125, 127, 128, 129, 143, 148, 152, 156, 158, 159, 160, 161, 163, 164, 165, 166, 169, 174, 175, 177, 178, 179, 181, 182, 183, 184] : List Nat).any (Nat.beq g)
def fk_nd : FuncId → Bool := fun g => ([7, 11, 12, 14, 15, 16, 18, 19, 24, 25, 26, 27, 28, 29, 30, 31, 32, 37, 38, 39, 40, 42, 46, 48, 50, 51, 52, 53, 55, 60, 61, 62, 63, 64, 66, 67, 68, 69, 72, 73, 75, 77, 84, 85, 88, 89, 93, 96, 97, 98, 99, 100, 101, 102, 103, 105, 106, 109, 110, 111, 112, 113, 114, 115, 116, 117, 126, 130, 131, 133, 134, 135, 136, 137, 138, 139, 140, 141, 147, 149, 150, 151, 153, 154, 155, 157, 162, 167, 170, 171, 172, 173, 176, 180, 186, 187] : List Nat).any (Nat.beq g)
def fk_xs : FuncId → Bool := fun g => ([15, 26, 32, 55, 64, 66, 67, 68, 69, 88, 89, 93, 117, 130, 133, 134, 135, 136, 137, 138, 139, 140, 141, 162, 167, 172, 180, 186, 187] : List Nat).any (Nat.beq g)
noncomputable def fk_ch (t : FTab) (m : MTab) : CH := layer Tryz.prog tyTab fk_base fk_pu fk_nd fk_xs t m 400 20
theorem fk_ch_ok {t : FTab} {m : MTab} (h : FTabOk Tryz.prog t) (k : MTabOk Tryz.prog m) : CHOk Tryz.prog (fk_ch t m) := layer_ok tab_ok mixed noNum fk_base_ok h k 20
def fk_t0 : FTab := fun _ => []
theorem fk_t0_ok : FTabOk Tryz.prog fk_t0 := ftab_leaf
def fk_m0 : MTab := fun _ => []
theorem fk_m0_ok : MTabOk Tryz.prog fk_m0 := mtab_leaf
end Go.Ev
