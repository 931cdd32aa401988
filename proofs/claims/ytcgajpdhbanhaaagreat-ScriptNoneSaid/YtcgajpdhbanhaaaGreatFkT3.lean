import Derived.Test.YtcgajpdhbanhaaaGreatFkT2
namespace Go.Ev
open Go.Proofs
set_option linter.unusedVariables false
set_option maxRecDepth 100000
def f9_19 : List MF := [⟨[.ptr 0 0,.agg (qs [1,1,1,jA,0,0,0] (.nils :: (qs [0,0,0,jA,0,0,0,jA,0,0,0,0,0,0,0,0,0,0,0,0,0,0,0,0,0,0,0] (.nils :: (qs [0,0,0,0,0,0,0,0,0,0,0,0,0,0] [st0])))))], ⟨9,[(8,B5),(8,B6),(7,B3),(6,B4),(0,.cells [.ptr 1 0] true none),(1,B7),(2,B8),(3,B9),(4,.map [] 0),(5,.map [] 0)]⟩, (.agg (qi 0 :: (.nils :: (qs [0,0,0,0,0,0] (.nils :: (qs [0,0,0,0,0,0,0,0,0,0,0,0,0,0,0] [.nils,.nils,.nils,.nils,st0]))))), ⟨10,[(0,.cells [.ptr 1 0] true none),(1,B7),(2,B8),(3,.cells [.bool true,qi jE,.vec 9,.nils,qi 0,.map 5] true none),(4,B10),(5,.map [(qi 1,qi 0,0)] 1),(6,B4),(7,B3),(8,B5),(9,B11)]⟩)⟩]
theorem f9_19_k : okM Tryz.prog 19 f9_19 := fk_v9 (by kernel_rfl)
def f9_34 : List MF := [⟨[.agg (qs [0,0,0,jD,1] [.vec 13,.nils,.nils])], ⟨14,[(0,.cells [.ptr 1 0] true none),(1,B7),(2,B8),(3,B12),(4,B10),(5,.map [(qi 1,qi 0,0)] 1),(6,B11),(7,B3),(8,B13),(9,B3),(10,B5),(11,B13),(12,B3),(13,B14)]⟩, (.tup [st1,qi 0], ⟨14,[(0,.cells [.ptr 1 0] true none),(1,B7),(2,B8),(3,B12),(4,B10),(5,.map [(qi 1,qi 0,0)] 1),(6,B11),(7,B3),(8,B13),(9,B3),(10,B5),(11,B13),(12,B3),(13,B14)]⟩)⟩]
theorem f9_34_k : okM Tryz.prog 34 f9_34 := fk_v9 (by kernel_rfl)
def f9_81 : List MF := [⟨[st1], ⟨16,[(15,B3),(14,B88),(13,B5),(13,B6),(12,B3),(11,B88),(10,B3),(10,B3),(0,.cells [.ptr 1 0] true none),(1,B7),(2,B8),(3,B85),(4,.map [] 1),(5,.map [] 1),(6,B11),(7,B3),(8,B84),(9,.vec [qi 0] 1 1 true)]⟩, (.tup [.agg (qs [0,0,0,jD,1] [.vec 16,.nils,.nils]),qi 0], ⟨17,[(0,.cells [.ptr 1 0] true none),(1,B7),(2,B8),(3,B85),(4,.map [] 1),(5,.map [] 1),(6,B11),(7,B3),(8,B84),(9,.vec [qi 0] 1 1 true),(10,B3),(11,B88),(12,B3),(13,B5),(14,B88),(15,B3),(16,B14)]⟩)⟩]
theorem f9_81_k : okM Tryz.prog 81 f9_81 := fk_v9 (by kernel_rfl)
def fk_t10 : FTab := fk_t9
theorem fk_t10_ok : FTabOk Tryz.prog fk_t10 := fk_t9_ok
def fk_lm10 : MTab := fun f => cond (Nat.beq f 19) f9_19 (cond (Nat.beq f 34) f9_34 (cond (Nat.beq f 81) f9_81 ([])))
theorem fk_lm10_ok : MTabOk Tryz.prog fk_lm10 := (mtab_node f9_19_k (mtab_node f9_34_k (mtab_node f9_81_k mtab_leaf)))
def fk_m10 : MTab := fun f => fk_lm10 f ++ fk_m9 f
theorem fk_m10_ok : MTabOk Tryz.prog fk_m10 := mtab_or fk_lm10_ok fk_m9_ok
noncomputable abbrev fk_c10 : CH := fk_ch fk_t10 fk_m10
theorem fk_c10_ok : CHOk Tryz.prog fk_c10 := fk_ch_ok fk_t10_ok fk_m10_ok
noncomputable abbrev fk_w10 : Teller := tellRD Tryz.prog tyTab 400 fk_ds fk_il fk_c10
theorem fk_w10_ok : TellOk Tryz.prog fk_w10 := tellRD_ok tab_ok mixed noNum fk_c10_ok
theorem fk_v10 {g l} (h : chkM fk_w10 g l = true) : okM Tryz.prog g l := chkM_ok (tell := fk_w10) fk_w10_ok h
def f10_5 : List MF := [⟨[.ptr 0 0,.agg (qs [1,1,1,jA,0,0,0] (.nils :: (qs [0,0,0,jA,0,0,0,jA,0,0,0,0,0,0,0,0,0,0,0,0,0,0,0,0,0,0,0] (.nils :: (qs [0,0,0,0,0,0,0,0,0,0,0,0,0,0] [st0])))))], ⟨6,[(0,.cells [.ptr 1 0] true none),(1,B7),(2,B8),(3,B9),(4,.map [] 0),(5,.map [] 0)]⟩, (.agg (qi 0 :: (.nils :: (qs [0,0,0,0,0,0] (.nils :: (qs [0,0,0,0,0,0,0,0,0,0,0,0,0,0,0] [.nils,.nils,.nils,.nils,st0]))))), ⟨7,[(0,.cells [.ptr 1 0] true none),(1,B7),(2,B8),(3,B12),(4,B10),(5,.map [(qi 1,qi 0,0)] 1),(6,B11)]⟩)⟩]
theorem f10_5_k : okM Tryz.prog 5 f10_5 := fk_v10 (by kernel_rfl)
def f10_33 : List MF := [⟨[.ptr 0 0,.agg (qs [8,0,0,0,0,0,0] (.nils :: (qs [0,0,0,0,0,0,0,0,0,0,0,0,0,0,0,0,0,0,0,0,0,0,0,0,0,0,0] (.nils :: (qs [0,0,0,0,0,0,0,0,0,0,0,0,0,0] [st0])))))], ⟨11,[(10,B5),(10,B6),(9,B3),(8,B13),(7,B3),(7,B3),(0,.cells [.ptr 1 0] true none),(1,B7),(2,B8),(3,B12),(4,B10),(5,.map [(qi 1,qi 0,0)] 1),(6,B11)]⟩, (.agg (qi 0 :: (.nils :: (qs [0,0,0,0,0,0] (.nils :: (qs [0,0,0,0,0,0,0,0,0,0,0,0,0,0,0] [.nils,.nils,.nils,.nils,st1]))))), ⟨11,[(0,.cells [.ptr 1 0] true none),(1,B7),(2,B8),(3,B12),(4,B10),(5,.map [(qi 1,qi 0,0)] 1),(6,B11),(7,B3),(8,B13),(9,B3),(10,B5)]⟩)⟩]
theorem f10_33_k : okM Tryz.prog 33 f10_33 := fk_v10 (by kernel_rfl)
def f10_36 : List MF := [⟨[.ptr 0 0,.agg (qs [9,0,0,0,0,0,0] (.nils :: (qs [0,0,0,0,0,0,0,0,0,0,0,0,0,0,0,0,0,0,0,0,0,0,0,0,0,0,0] (.nils :: (qs [0,0,0,0,0,0,0,0,0,0,0,0,0,0] [st1])))))], ⟨14,[(13,B5),(13,B6),(12,B3),(11,B88),(10,B3),(10,B3),(0,.cells [.ptr 1 0] true none),(1,B7),(2,B8),(3,B85),(4,.map [] 1),(5,.map [] 1),(6,B11),(7,B3),(8,B84),(9,.vec [qi 0] 1 1 true)]⟩, (.agg (qi 0 :: (.nils :: (qs [0,0,0,0,0,0] (.nils :: (qs [0,0,0,0,0,0,0,0,0,0,0,0,0,0,0] [.nils,.nils,.nils,.nils,st0]))))), ⟨20,[(0,.cells [.ptr 14 0] true none),(1,B7),(2,B8),(3,B85),(4,.map [] 1),(5,.map [] 1),(6,B11),(7,B3),(8,B84),(9,.vec [qi 0] 1 1 true),(10,B3),(11,B88),(12,B3),(13,B5),(14,.cells (.ptr 15 0 :: (qs [0,0,0,jD,1] [.nils,.nils])) true none),(15,.cells [.ptr 16 0,.map 17] true none),(16,.cells [.bool true,qi jE,.vec 18,.nils,qi 0,.map 19] true none),(17,B10),(18,B11),(19,.map [(qi 1,qi 0,0)] 1)]⟩)⟩]
theorem f10_36_k : okM Tryz.prog 36 f10_36 := fk_v10 (by kernel_rfl)
def fk_t11 : FTab := fk_t10
theorem fk_t11_ok : FTabOk Tryz.prog fk_t11 := fk_t10_ok
def fk_lm11 : MTab := fun f => cond (Nat.beq f 5) f10_5 (cond (Nat.beq f 33) f10_33 (cond (Nat.beq f 36) f10_36 ([])))
theorem fk_lm11_ok : MTabOk Tryz.prog fk_lm11 := (mtab_node f10_5_k (mtab_node f10_33_k (mtab_node f10_36_k mtab_leaf)))
def fk_m11 : MTab := fun f => fk_lm11 f ++ fk_m10 f
theorem fk_m11_ok : MTabOk Tryz.prog fk_m11 := mtab_or fk_lm11_ok fk_m10_ok
noncomputable abbrev fk_c11 : CH := fk_ch fk_t11 fk_m11
theorem fk_c11_ok : CHOk Tryz.prog fk_c11 := fk_ch_ok fk_t11_ok fk_m11_ok
noncomputable abbrev fk_w11 : Teller := tellRD Tryz.prog tyTab 400 fk_ds fk_il fk_c11
theorem fk_w11_ok : TellOk Tryz.prog fk_w11 := tellRD_ok tab_ok mixed noNum fk_c11_ok
theorem fk_v11 {g l} (h : chkM fk_w11 g l = true) : okM Tryz.prog g l := chkM_ok (tell := fk_w11) fk_w11_ok h
def f11_5 : List MF := [⟨[.ptr 0 0,.agg (qs [8,0,0,0,0,0,0] (.nils :: (qs [0,0,0,0,0,0,0,0,0,0,0,0,0,0,0,0,0,0,0,0,0,0,0,0,0,0,0] (.nils :: (qs [0,0,0,0,0,0,0,0,0,0,0,0,0,0] [st0])))))], ⟨8,[(7,B3),(7,B3),(0,.cells [.ptr 1 0] true none),(1,B7),(2,B8),(3,B12),(4,B10),(5,.map [(qi 1,qi 0,0)] 1),(6,B11)]⟩, (.agg (qi 0 :: (.nils :: (qs [0,0,0,0,0,0] (.nils :: (qs [0,0,0,0,0,0,0,0,0,0,0,0,0,0,0] [.nils,.nils,.nils,.nils,st1]))))), ⟨8,[(0,.cells [.ptr 1 0] true none),(1,B7),(2,B8),(3,B12),(4,B10),(5,.map [(qi 1,qi 0,0)] 1),(6,B11),(7,B3)]⟩)⟩,
 ⟨[.ptr 0 0,.agg (qs [9,0,0,0,0,0,0] (.nils :: (qs [0,0,0,0,0,0,0,0,0,0,0,0,0,0,0,0,0,0,0,0,0,0,0,0,0,0,0] (.nils :: (qs [0,0,0,0,0,0,0,0,0,0,0,0,0,0] [st1])))))], ⟨11,[(10,B3),(10,B3),(0,.cells [.ptr 1 0] true none),(1,B7),(2,B8),(3,B85),(4,.map [] 1),(5,.map [] 1),(6,B11),(7,B3),(8,B84),(9,.vec [qi 0] 1 1 true)]⟩, (.agg (qi 0 :: (.nils :: (qs [0,0,0,0,0,0] (.nils :: (qs [0,0,0,0,0,0,0,0,0,0,0,0,0,0,0] [.nils,.nils,.nils,.nils,st0]))))), ⟨17,[(0,.cells [.ptr 11 0] true none),(1,B7),(2,B8),(3,B85),(4,.map [] 1),(5,.map [] 1),(6,B11),(7,B3),(8,B84),(9,.vec [qi 0] 1 1 true),(10,B3),(11,B118),(12,B119),(13,B120),(14,B10),(15,B11),(16,.map [(qi 1,qi 0,0)] 1)]⟩)⟩]
theorem f11_5_k : okM Tryz.prog 5 f11_5 := fk_v11 (by kernel_rfl)
def fk_t12 : FTab := fk_t11
theorem fk_t12_ok : FTabOk Tryz.prog fk_t12 := fk_t11_ok
def fk_lm12 : MTab := fun f => cond (Nat.beq f 5) f11_5 ([])
theorem fk_lm12_ok : MTabOk Tryz.prog fk_lm12 := (mtab_node f11_5_k mtab_leaf)
def fk_m12 : MTab := fun f => fk_lm12 f ++ fk_m11 f
theorem fk_m12_ok : MTabOk Tryz.prog fk_m12 := mtab_or fk_lm12_ok fk_m11_ok
noncomputable abbrev fk_c12 : CH := fk_ch fk_t12 fk_m12
theorem fk_c12_ok : CHOk Tryz.prog fk_c12 := fk_ch_ok fk_t12_ok fk_m12_ok
noncomputable abbrev fk_w12 : Teller := tellRD Tryz.prog tyTab 400 fk_ds fk_il fk_c12
theorem fk_w12_ok : TellOk Tryz.prog fk_w12 := tellRD_ok tab_ok mixed noNum fk_c12_ok
theorem fk_u12 {g l} (h : chkF (pureT fk_w12) g l = true) : okL Tryz.prog g l := chkF_ok (tell := fk_w12) fk_w12_ok h
end Go.Ev

