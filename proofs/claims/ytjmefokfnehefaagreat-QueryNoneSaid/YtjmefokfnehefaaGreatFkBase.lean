/- What calls answer. No statement is proved here. Printed by facts2.py. -/
import Derived.Test.YtjmefokfnehefaaGreatEvLd
import Derived.Test.YtjmefokfnehefaaGreatEvU
import Derived.Test.YtjmefokfnehefaaGreatEvT
import Derived.Test.YtjmefokfnehefaaGreatWideA
import Derived.Test.YtjmefokfnehefaaGreatWideB
import Derived.Test.YtjmefokfnehefaaGreatWideC
namespace Go.Ev
open Go.Proofs
set_option linter.unusedVariables false
set_option maxRecDepth 100000
noncomputable def fk_base : CH := (CH.add 24 h_wide_Mul (CH.add 25 h_wide_Of (CH.add 26 h_wide_Add (CH.add 51 h_wide_Shl (CH.add 52 h_wide_Cmp (CH.add 88 h_wide_Div (CH.add 89 h_wide_Sign (CH.add 99 h_wide_Shr (CH.add 101 h_wide_Int (CH.add 127 h_wide_Bits (CH.add 132 h_wide_Neg (CH.add 160 h_wide_Sub CH.none))))))))))))
theorem fk_base_ok : CHOk Tryz.prog fk_base := (CH.add_ok h_wide_Mul_ok (CH.add_ok h_wide_Of_ok (CH.add_ok h_wide_Add_ok (CH.add_ok h_wide_Shl_ok (CH.add_ok h_wide_Cmp_ok (CH.add_ok h_wide_Div_ok (CH.add_ok h_wide_Sign_ok (CH.add_ok h_wide_Shr_ok (CH.add_ok h_wide_Int_ok (CH.add_ok h_wide_Bits_ok (CH.add_ok h_wide_Neg_ok (CH.add_ok h_wide_Sub_ok CH.none_ok))))))))))))
def fk_pu : FuncId → Bool := fun g => ([12,16,20,30,35,36,37,38,39,42,43,44,45,46,48,53,54,55,61,62,64,65,66,70,72,74,76,77,79,80,82,83,90,91,92,95,100,103,111,112,113,128,130,131,133,134,135,136,137,140,152,153,154,157,158,159,161,162,163,164,169,170,172,173,182,183,187,188,189,190,192,196,197,198,199,200,202,204,205,208,217,220,226,229,230,233,235,239,240,242,243,254,255,257,261,265,267] : List Nat).any (Nat.beq g)
def fk_lt : FuncId → Bool := fun g => ([9,10,11,14,15,17,18,19,28,31,32,33,34,47,49,50,59,60,67,71,73,75,78,81,84,85,86,94,96,97,98,102,104,105,106,110,114,115,116,117,118,119,120,121,122,123,124,126,129,138,139,141,142,143,144,145,146,147,148,155,156,165,166,167,168,171,174,175,176,177,178,179,180,181,191,193,194,195,201,207,210,212,213,214,215,216,218,219,221,222,223,224,225,227,228,231,232,234,236,237,238,241,244,245,246,247,248,249,250,251,252,253,256,258,259,260,262,263,264,266,268] : List Nat).any (Nat.beq g)
def fk_nd : FuncId → Bool := fun g => ([4,5,6,8,9,10,11,13,14,15,17,18,19,21,22,23,27,28,29,31,32,33,34,40,41,47,49,50,56,57,58,59,60,67,68,69,71,73,75,78,81,84,85,86,87,93,94,96,97,98,102,104,105,106,107,108,109,110,114,115,116,117,118,119,120,121,122,123,124,125,126,129,138,139,141,142,143,144,145,146,147,148,149,150,151,155,156,165,166,167,168,171,174,175,176,177,178,179,180,181,184,185,186,191,193,194,195,201,203,206,207,209,210,211,212,213,214,215,216,218,219,221,222,223,224,225,227,228,231,232,234,236,237,238,241,244,245,246,247,248,249,250,251,252,253,256,258,259,260,262,263,264,266,268] : List Nat).any (Nat.beq g)
def fk_xs : FuncId → Bool := fun g => ([11,14,17,19,22,34,41,57,59,60,69,71,75,78,81,84,85,86,93,110,114,115,116,117,118,119,120,121,122,125,129,139,142,146,147,155,165,168,171,174,176,181,191,193,201,206,221,223,224,225,227,231,232,241,244,266] : List Nat).any (Nat.beq g)
def fk_ds : FuncId → Bool := fun g => ([97] : List Nat).any (Nat.beq g)
def fk_rs : FuncId → Bool := fun g => ([11] : List Nat).any (Nat.beq g)
def fk_L : Lists := ⟨fk_pu, fk_lt, fk_nd, fk_xs, fk_ds, fk_rs⟩
noncomputable def fk_ch (t : FTab) (m : MTab) : CH := layerL Tryz.prog tyTab fk_base fk_L t m 400 20
theorem fk_ch_ok {t : FTab} {m : MTab} (h : FTabOk Tryz.prog t) (k : MTabOk Tryz.prog m) : CHOk Tryz.prog (fk_ch t m) := layerL_ok tab_ok mixed noNum fk_base_ok h k 20
def fk_t0 : FTab := fun _ => []
theorem fk_t0_ok : FTabOk Tryz.prog fk_t0 := ftab_leaf
def fk_m0 : MTab := fun _ => []
theorem fk_m0_ok : MTabOk Tryz.prog fk_m0 := mtab_leaf
noncomputable abbrev fk_c0 : CH := fk_ch fk_t0 fk_m0
theorem fk_c0_ok : CHOk Tryz.prog fk_c0 := fk_ch_ok fk_t0_ok fk_m0_ok
noncomputable abbrev fk_w0 : Teller := tellRD Tryz.prog tyTab 400 fk_ds fk_c0
theorem fk_w0_ok : TellOk Tryz.prog fk_w0 := tellRD_ok tab_ok mixed noNum fk_c0_ok
end Go.Ev
