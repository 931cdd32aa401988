import Derived.Test.YtbmjabafceihgaaGreatProg
import Derived.KernelRfl
import Derived.Test.YtbmjabafceihgaaGreatKaf
set_option linter.unusedVariables false
set_option linter.unusedSimpArgs false
set_option maxRecDepth 100000
noncomputable section
namespace Go.Ev
open Go.Proofs
def ty1 : TyI := ⟨1, 8, [.dj], false, none, .func⟩
def ty2 : TyI := ⟨1, 8, [.int .i64 0], false, none, .int .i64⟩
def ty3 : TyI := ⟨1, 8, [.int .i64 0], false, none, .int .i64⟩
def ty4 : TyI := ⟨1, 1, [.bool false], false, none, .bool⟩
def ty5 : TyI := ⟨1, 1, [.int .u8 0], false, none, .int .u8⟩
def ty9 : TyI := ⟨1, 16, [.str ⟨#[]⟩], false, none, .str⟩
def TM : TyI := ⟨1, 16, [.dQ], false, none, .iface⟩
def TN : TyI := ⟨1, 24, [.aO], false, none, .slice 44⟩
def TO : TyI := ⟨1, 8, [.int .i64 0], false, none, .int .i64⟩
def TP : TyI := ⟨1, 8, [.int .u64 0], false, none, .int .u64⟩
def TQ : TyI := ⟨8, 64, [.int .u64 0, .int .u64 0, .int .u64 0, .int .u64 0, .int .u64 0, .int .u64 0, .int .u64 0, .int .u64 0], true, some [.int .u64, .int .u64, .int .u64, .int .u64, .int .u64, .int .u64, .int .u64, .int .u64], .arr 8 28⟩
def TR : TyI := ⟨8, 64, [.int .u64 0, .int .u64 0, .int .u64 0, .int .u64 0, .int .u64 0, .int .u64 0, .int .u64 0, .int .u64 0], true, some [.int .u64, .int .u64, .int .u64, .int .u64, .int .u64, .int .u64, .int .u64, .int .u64], .struct [(0, 29)]⟩
def TS : TyI := ⟨24, 192, [.int .u64 0, .int .u64 0, .int .u64 0, .int .u64 0, .int .u64 0, .int .u64 0, .int .u64 0, .int .u64 0, .int .u64 0, .int .u64 0, .int .u64 0, .int .u64 0, .int .u64 0, .int .u64 0, .int .u64 0, .int .u64 0, .int .u64 0, .int .u64 0, .int .u64 0, .int .u64 0, .int .u64 0, .int .u64 0, .int .u64 0, .int .u64 0], true, some [.int .u64, .int .u64, .int .u64, .int .u64, .int .u64, .int .u64, .int .u64, .int .u64, .int .u64, .int .u64, .int .u64, .int .u64, .int .u64, .int .u64, .int .u64, .int .u64, .int .u64, .int .u64, .int .u64, .int .u64, .int .u64, .int .u64, .int .u64, .int .u64], .struct [(0, 31), (8, 31), (16, 31)]⟩
def TT : TyI := ⟨1, 24, [.aO], false, none, .slice 3⟩
def TU : TyI := ⟨33, 280, [.int .u64 0, .int .u64 0, .int .u64 0, .int .u64 0, .int .u64 0, .int .u64 0, .int .u64 0, .int .u64 0, .int .u64 0, .int .u64 0, .int .u64 0, .int .u64 0, .int .u64 0, .int .u64 0, .int .u64 0, .int .u64 0, .int .u64 0, .int .u64 0, .int .u64 0, .int .u64 0, .int .u64 0, .int .u64 0, .int .u64 0, .int .u64 0, .int .u64 0, .int .u64 0, .int .u64 0, .int .u64 0, .int .u64 0, .int .u64 0, .int .u64 0, .int .u64 0, .aO], true, none, .struct [(0, 33), (24, 31), (32, 34)]⟩
def TV : TyI := ⟨3, 24, [.int .i64 0, .int .i64 0, .int .i64 0], true, some [.int .i64, .int .i64, .int .i64], .struct [(0, 2), (1, 2), (2, 2)]⟩
def TW : TyI := ⟨1, 8, [.dj], false, none, .func⟩
def TX : TyI := ⟨3, 24, [.int .i64 0, .int .i64 0, .int .i64 0], true, some [.int .i64, .int .i64, .int .i64], .arr 3 24⟩
def TY : TyI := ⟨3, 24, [.int .i64 0, .int .i64 0, .int .i64 0], true, some [.int .i64, .int .i64, .int .i64], .arr 3 2⟩
def TZ : TyI := ⟨8, 64, [.int .u64 0, .int .u64 0, .int .u64 0, .int .u64 0, .int .u64 0, .int .u64 0, .int .u64 0, .int .u64 0], true, some [.int .u64, .int .u64, .int .u64, .int .u64, .int .u64, .int .u64, .int .u64, .int .u64], .arr 8 28⟩
def T0 : TyI := ⟨1, 8, [.int .u64 0], false, none, .int .u64⟩
def T1 : TyI := ⟨1, 8, [.dj], false, none, .func⟩
def T2 : TyI := ⟨1, 8, [.dj], false, none, .func⟩
def T3 : TyI := ⟨1, 8, [.dj], false, none, .func⟩
def T4 : TyI := ⟨0, 0, [], true, some [], .struct []⟩
def T5 : TyI := ⟨1, 24, [.aO], false, none, .slice 34⟩
def T6 : TyI := ⟨1, 24, [.aO], false, none, .slice 31⟩
def RW : TyI := ⟨1, 8, [.dj], false, none, .func⟩
def RX : TyI := ⟨1, 8, [.dj], false, none, .func⟩
def RY : TyI := ⟨1, 24, [.aO], true, none, .struct [(0, 22)]⟩
def RZ : TyI := ⟨1, 8, [.dj], false, none, .func⟩
def R0 : TyI := ⟨9, 72, [.int .i64 0, .int .i64 0, .int .i64 0, .int .i64 0, .int .i64 0, .int .i64 0, .int .i64 0, .int .i64 0, .int .i64 0], true, some [.int .i64, .int .i64, .int .i64, .int .i64, .int .i64, .int .i64, .int .i64, .int .i64, .int .i64], .arr 3 44⟩
def R3 : TyI := ⟨1, 8, [.dj], false, none, .func⟩
def R5 : TyI := ⟨24, 192, [.int .u64 0, .int .u64 0, .int .u64 0, .int .u64 0, .int .u64 0, .int .u64 0, .int .u64 0, .int .u64 0, .int .u64 0, .int .u64 0, .int .u64 0, .int .u64 0, .int .u64 0, .int .u64 0, .int .u64 0, .int .u64 0, .int .u64 0, .int .u64 0, .int .u64 0, .int .u64 0, .int .u64 0, .int .u64 0, .int .u64 0, .int .u64 0], true, some [.int .u64, .int .u64, .int .u64, .int .u64, .int .u64, .int .u64, .int .u64, .int .u64, .int .u64, .int .u64, .int .u64, .int .u64, .int .u64, .int .u64, .int .u64, .int .u64, .int .u64, .int .u64, .int .u64, .int .u64, .int .u64, .int .u64, .int .u64, .int .u64], .arr 3 31⟩
def R6 : TyI := ⟨1, 8, [.dj], false, none, .func⟩
def R7 : TyI := ⟨0, 0, [], true, some [], .struct []⟩
def R8 : TyI := ⟨1, 8, [.int .i64 0], false, none, .int .i64⟩
def Sa : TyI := ⟨1, 4, [.int .u32 0], false, none, .int .u32⟩
def Sb : TyI := ⟨1, 8, [.fh], false, none, .ptr 117⟩
def Sc : TyI := ⟨1, 8, [.dj], false, none, .func⟩
theorem be {P : Program} {k : Nat} {ty : TyI} (h : bI P k ty) {t : Nat} {i : TyI} (e : cond (Nat.beq t k) (some ty) none = some i) : bI P t i := by
 cases hb : Nat.beq t k with
 | false => rw [hb] at e; cases e
 | true => rw [hb] at e; cases e; rw [Nat.eq_of_beq_eq_true hb]; exact h
theorem bg {P : Program} {a b : Option TyI} {c : Bool} {t : Nat} {i : TyI} (h1 : a = some i → bI P t i) (h2 : b = some i → bI P t i) (e : cond c a b = some i) : bI P t i := by
 cases c with
 | true => exact h1 e
 | false => exact h2 e
def jM : ay := fun t => (cond (Nat.blt t 68) (cond (Nat.blt t 29) (cond (Nat.blt t 9) (cond (Nat.blt t 3) (cond (Nat.blt t 2) (cond (Nat.beq t 1) (some ty1) none) (cond (Nat.beq t 2) (some ty2) none)) (cond (Nat.blt t 4) (cond (Nat.beq t 3) (some ty3) none) (cond (Nat.blt t 5) (cond (Nat.beq t 4) (some ty4) none) (cond (Nat.beq t 5) (some ty5) none)))) (cond (Nat.blt t 22) (cond (Nat.blt t 20) (cond (Nat.beq t 9) (some ty9) none) (cond (Nat.beq t 20) (some TM) none)) (cond (Nat.blt t 24) (cond (Nat.beq t 22) (some TN) none) (cond (Nat.blt t 28) (cond (Nat.beq t 24) (some TO) none) (cond (Nat.beq t 28) (some TP) none))))) (cond (Nat.blt t 44) (cond (Nat.blt t 33) (cond (Nat.blt t 31) (cond (Nat.beq t 29) (some TQ) none) (cond (Nat.beq t 31) (some TR) none)) (cond (Nat.blt t 34) (cond (Nat.beq t 33) (some TS) none) (cond (Nat.blt t 36) (cond (Nat.beq t 34) (some TT) none) (cond (Nat.beq t 36) (some TU) none)))) (cond (Nat.blt t 58) (cond (Nat.blt t 48) (cond (Nat.beq t 44) (some TV) none) (cond (Nat.beq t 48) (some TW) none)) (cond (Nat.blt t 62) (cond (Nat.beq t 58) (some TX) none) (cond (Nat.blt t 67) (cond (Nat.beq t 62) (some TY) none) (cond (Nat.beq t 67) (some TZ) none)))))) (cond (Nat.blt t 118) (cond (Nat.blt t 97) (cond (Nat.blt t 76) (cond (Nat.blt t 75) (cond (Nat.beq t 68) (some T0) none) (cond (Nat.beq t 75) (some T1) none)) (cond (Nat.blt t 87) (cond (Nat.beq t 76) (some T2) none) (cond (Nat.blt t 90) (cond (Nat.beq t 87) (some T3) none) (cond (Nat.beq t 90) (some T4) none)))) (cond (Nat.blt t 107) (cond (Nat.blt t 99) (cond (Nat.beq t 97) (some T5) none) (cond (Nat.beq t 99) (some T6) none)) (cond (Nat.blt t 108) (cond (Nat.beq t 107) (some RW) none) (cond (Nat.blt t 117) (cond (Nat.beq t 108) (some RX) none) (cond (Nat.beq t 117) (some RY) none))))) (cond (Nat.blt t 133) (cond (Nat.blt t 122) (cond (Nat.blt t 120) (cond (Nat.beq t 118) (some RZ) none) (cond (Nat.beq t 120) (some R0) none)) (cond (Nat.blt t 124) (cond (Nat.beq t 122) (some R3) none) (cond (Nat.blt t 127) (cond (Nat.beq t 124) (some R5) none) (cond (Nat.beq t 127) (some R6) none)))) (cond (Nat.blt t 145) (cond (Nat.blt t 136) (cond (Nat.beq t 133) (some R7) none) (cond (Nat.beq t 136) (some R8) none)) (cond (Nat.blt t 147) (cond (Nat.beq t 145) (some Sa) none) (cond (Nat.blt t 150) (cond (Nat.beq t 147) (some Sb) none) (cond (Nat.beq t 150) (some Sc) none)))))))
theorem T7 : bI Tryz.prog 1 ty1 :=
 ⟨⟨Tryz.t1, by kernel_rfl, rfl, rfl, _, rfl, fun _ => rfl⟩, rfl, by decide, rfl, ⟨_, _, _, Tryz.underlying1⟩, rfl, nofun⟩
theorem T9 : bI Tryz.prog 2 ty2 :=
 ⟨⟨Tryz.t2, by kernel_rfl, rfl, rfl, _, rfl, fun _ => rfl⟩, rfl, by decide, rfl, Tryz.underlying2, rfl, nofun⟩
theorem Ua : bI Tryz.prog 3 ty3 :=
 ⟨⟨Tryz.t3, by kernel_rfl, rfl, rfl, _, rfl, fun _ => rfl⟩, rfl, by decide, rfl, Tryz.underlying3, rfl, nofun⟩
theorem Ub : bI Tryz.prog 4 ty4 :=
 ⟨⟨Tryz.t4, by kernel_rfl, rfl, rfl, _, rfl, fun _ => rfl⟩, rfl, by decide, rfl, Tryz.underlying4, rfl, nofun⟩
theorem Uc : bI Tryz.prog 5 ty5 :=
 ⟨⟨Tryz.t5, by kernel_rfl, rfl, rfl, _, rfl, fun _ => rfl⟩, rfl, by decide, rfl, Tryz.underlying5, rfl, nofun⟩
theorem Ud : bI Tryz.prog 9 ty9 :=
 ⟨⟨Tryz.t9, by kernel_rfl, rfl, rfl, _, rfl, fun _ => rfl⟩, rfl, by decide, rfl, Tryz.underlying9, rfl, nofun⟩
theorem SG : bI Tryz.prog 20 TM :=
 ⟨⟨Tryz.t20, by kernel_rfl, rfl, rfl, _, rfl, fun _ => rfl⟩, rfl, by decide, rfl, ⟨_, Tryz.underlying20⟩, rfl, nofun⟩
theorem SH : bI Tryz.prog 22 TN :=
 ⟨⟨Tryz.t22, by kernel_rfl, rfl, rfl, _, rfl, fun _ => rfl⟩, rfl, by decide, rfl, Tryz.underlying22, rfl, nofun⟩
theorem SI : bI Tryz.prog 24 TO :=
 ⟨⟨Tryz.t24, by kernel_rfl, rfl, rfl, _, rfl, fun _ => rfl⟩, rfl, by decide, rfl, Tryz.underlying24, rfl, nofun⟩
theorem SJ : bI Tryz.prog 28 TP :=
 ⟨⟨Tryz.t28, by kernel_rfl, rfl, rfl, _, rfl, fun _ => rfl⟩, rfl, by decide, rfl, Tryz.underlying28, rfl, nofun⟩
theorem SK : bI Tryz.prog 29 TQ :=
 ⟨⟨Tryz.t29, by kernel_rfl, rfl, rfl, _, rfl, fun _ => rfl⟩, rfl, by decide, rfl, Tryz.underlying29, rfl, fun ks h => gn (d := 12) (by decide) (by cases h; kernel_rfl) Tryz.eqGuardType29 (by rw [Tryz.underlying29])⟩
theorem SL : bI Tryz.prog 31 TR :=
 ⟨⟨Tryz.t31, by kernel_rfl, rfl, rfl, _, rfl, fun _ => rfl⟩, rfl, by decide, rfl, ⟨_, Tryz.underlying31, rfl⟩, rfl, fun ks h => gn (d := 12) (by decide) (by cases h; kernel_rfl) Tryz.eqGuardType31 (by rw [Tryz.underlying31])⟩
theorem SM : bI Tryz.prog 33 TS :=
 ⟨⟨Tryz.t33, by kernel_rfl, rfl, rfl, _, rfl, fun _ => rfl⟩, rfl, by decide, rfl, ⟨_, Tryz.underlying33, rfl⟩, rfl, fun ks h => gn (d := 12) (by decide) (by cases h; kernel_rfl) Tryz.eqGuardType33 (by rw [Tryz.underlying33])⟩
theorem SN : bI Tryz.prog 34 TT :=
 ⟨⟨Tryz.t34, by kernel_rfl, rfl, rfl, _, rfl, fun _ => rfl⟩, rfl, by decide, rfl, Tryz.underlying34, rfl, nofun⟩
theorem SO : bI Tryz.prog 36 TU :=
 ⟨⟨Tryz.t36, by kernel_rfl, rfl, rfl, _, rfl, fun _ => rfl⟩, rfl, by decide, rfl, ⟨_, Tryz.underlying36, rfl⟩, rfl, nofun⟩
theorem SP : bI Tryz.prog 44 TV :=
 ⟨⟨Tryz.t44, by kernel_rfl, rfl, rfl, _, rfl, fun _ => rfl⟩, rfl, by decide, rfl, ⟨_, Tryz.underlying44, rfl⟩, rfl, fun ks h => gn (d := 12) (by decide) (by cases h; kernel_rfl) Tryz.eqGuardType44 (by rw [Tryz.underlying44])⟩
theorem SQ : bI Tryz.prog 48 TW :=
 ⟨⟨Tryz.t48, by kernel_rfl, rfl, rfl, _, rfl, fun _ => rfl⟩, rfl, by decide, rfl, ⟨_, _, _, Tryz.underlying48⟩, rfl, nofun⟩
theorem SR : bI Tryz.prog 58 TX :=
 ⟨⟨Tryz.t58, by kernel_rfl, rfl, rfl, _, rfl, fun _ => rfl⟩, rfl, by decide, rfl, Tryz.underlying58, rfl, fun ks h => gn (d := 12) (by decide) (by cases h; kernel_rfl) Tryz.eqGuardType58 (by rw [Tryz.underlying58])⟩
theorem SS : bI Tryz.prog 62 TY :=
 ⟨⟨Tryz.t62, by kernel_rfl, rfl, rfl, _, rfl, fun _ => rfl⟩, rfl, by decide, rfl, Tryz.underlying62, rfl, fun ks h => gn (d := 12) (by decide) (by cases h; kernel_rfl) Tryz.eqGuardType62 (by rw [Tryz.underlying62])⟩
theorem ST : bI Tryz.prog 67 TZ :=
 ⟨⟨Tryz.t67, by kernel_rfl, rfl, rfl, _, rfl, fun _ => rfl⟩, rfl, by decide, rfl, Tryz.underlying67, rfl, fun ks h => gn (d := 12) (by decide) (by cases h; kernel_rfl) Tryz.eqGuardType67 (by rw [Tryz.underlying67])⟩
theorem SU : bI Tryz.prog 68 T0 :=
 ⟨⟨Tryz.t68, by kernel_rfl, rfl, rfl, _, rfl, fun _ => rfl⟩, rfl, by decide, rfl, Tryz.underlying68, rfl, nofun⟩
theorem SV : bI Tryz.prog 75 T1 :=
 ⟨⟨Tryz.t75, by kernel_rfl, rfl, rfl, _, rfl, fun _ => rfl⟩, rfl, by decide, rfl, ⟨_, _, _, Tryz.underlying75⟩, rfl, nofun⟩
theorem SW : bI Tryz.prog 76 T2 :=
 ⟨⟨Tryz.t76, by kernel_rfl, rfl, rfl, _, rfl, fun _ => rfl⟩, rfl, by decide, rfl, ⟨_, _, _, Tryz.underlying76⟩, rfl, nofun⟩
theorem SX : bI Tryz.prog 87 T3 :=
 ⟨⟨Tryz.t87, by kernel_rfl, rfl, rfl, _, rfl, fun _ => rfl⟩, rfl, by decide, rfl, ⟨_, _, _, Tryz.underlying87⟩, rfl, nofun⟩
theorem SY : bI Tryz.prog 90 T4 :=
 ⟨⟨Tryz.t90, by kernel_rfl, rfl, rfl, _, rfl, fun _ => rfl⟩, rfl, by decide, rfl, ⟨_, Tryz.underlying90, rfl⟩, rfl, fun ks h => gn (d := 12) (by decide) (by cases h; kernel_rfl) Tryz.eqGuardType90 (by rw [Tryz.underlying90])⟩
theorem SZ : bI Tryz.prog 97 T5 :=
 ⟨⟨Tryz.t97, by kernel_rfl, rfl, rfl, _, rfl, fun _ => rfl⟩, rfl, by decide, rfl, Tryz.underlying97, rfl, nofun⟩
theorem S0 : bI Tryz.prog 99 T6 :=
 ⟨⟨Tryz.t99, by kernel_rfl, rfl, rfl, _, rfl, fun _ => rfl⟩, rfl, by decide, rfl, Tryz.underlying99, rfl, nofun⟩
theorem QV : bI Tryz.prog 107 RW :=
 ⟨⟨Tryz.t107, by kernel_rfl, rfl, rfl, _, rfl, fun _ => rfl⟩, rfl, by decide, rfl, ⟨_, _, _, Tryz.underlying107⟩, rfl, nofun⟩
theorem QW : bI Tryz.prog 108 RX :=
 ⟨⟨Tryz.t108, by kernel_rfl, rfl, rfl, _, rfl, fun _ => rfl⟩, rfl, by decide, rfl, ⟨_, _, _, Tryz.underlying108⟩, rfl, nofun⟩
theorem QX : bI Tryz.prog 117 RY :=
 ⟨⟨Tryz.t117, by kernel_rfl, rfl, rfl, _, rfl, fun _ => rfl⟩, rfl, by decide, rfl, ⟨_, Tryz.underlying117, rfl⟩, rfl, nofun⟩
theorem QY : bI Tryz.prog 118 RZ :=
 ⟨⟨Tryz.t118, by kernel_rfl, rfl, rfl, _, rfl, fun _ => rfl⟩, rfl, by decide, rfl, ⟨_, _, _, Tryz.underlying118⟩, rfl, nofun⟩
theorem QZ : bI Tryz.prog 120 R0 :=
 ⟨⟨Tryz.t120, by kernel_rfl, rfl, rfl, _, rfl, fun _ => rfl⟩, rfl, by decide, rfl, Tryz.underlying120, rfl, fun ks h => gn (d := 12) (by decide) (by cases h; kernel_rfl) Tryz.eqGuardType120 (by rw [Tryz.underlying120])⟩
theorem Q0 : bI Tryz.prog 122 R3 :=
 ⟨⟨Tryz.t122, by kernel_rfl, rfl, rfl, _, rfl, fun _ => rfl⟩, rfl, by decide, rfl, ⟨_, _, _, Tryz.underlying122⟩, rfl, nofun⟩
theorem Q1 : bI Tryz.prog 124 R5 :=
 ⟨⟨Tryz.t124, by kernel_rfl, rfl, rfl, _, rfl, fun _ => rfl⟩, rfl, by decide, rfl, Tryz.underlying124, rfl, fun ks h => gn (d := 12) (by decide) (by cases h; kernel_rfl) Tryz.eqGuardType124 (by rw [Tryz.underlying124])⟩
theorem Q2 : bI Tryz.prog 127 R6 :=
 ⟨⟨Tryz.t127, by kernel_rfl, rfl, rfl, _, rfl, fun _ => rfl⟩, rfl, by decide, rfl, ⟨_, _, _, Tryz.underlying127⟩, rfl, nofun⟩
theorem Q3 : bI Tryz.prog 133 R7 :=
 ⟨⟨Tryz.t133, by kernel_rfl, rfl, rfl, _, rfl, fun _ => rfl⟩, rfl, by decide, rfl, ⟨_, Tryz.underlying133, rfl⟩, rfl, fun ks h => gn (d := 12) (by decide) (by cases h; kernel_rfl) Tryz.eqGuardType133 (by rw [Tryz.underlying133])⟩
theorem Q4 : bI Tryz.prog 136 R8 :=
 ⟨⟨Tryz.t136, by kernel_rfl, rfl, rfl, _, rfl, fun _ => rfl⟩, rfl, by decide, rfl, Tryz.underlying136, rfl, nofun⟩
theorem Q5 : bI Tryz.prog 145 Sa :=
 ⟨⟨Tryz.t145, by kernel_rfl, rfl, rfl, _, rfl, fun _ => rfl⟩, rfl, by decide, rfl, Tryz.underlying145, rfl, nofun⟩
theorem Q6 : bI Tryz.prog 147 Sb :=
 ⟨⟨Tryz.t147, by kernel_rfl, rfl, rfl, _, rfl, fun _ => rfl⟩, rfl, by decide, rfl, Tryz.underlying147, rfl, nofun⟩
theorem Q7 : bI Tryz.prog 150 Sc :=
 ⟨⟨Tryz.t150, by kernel_rfl, rfl, rfl, _, rfl, fun _ => rfl⟩, rfl, by decide, rfl, ⟨_, _, _, Tryz.underlying150⟩, rfl, nofun⟩
theorem aL : ba Tryz.prog jM := fun t i => (bg (bg (bg (bg (bg (be T7) (be T9)) (bg (be Ua) (bg (be Ub) (be Uc)))) (bg (bg (be Ud) (be SG)) (bg (be SH) (bg (be SI) (be SJ))))) (bg (bg (bg (be SK) (be SL)) (bg (be SM) (bg (be SN) (be SO)))) (bg (bg (be SP) (be SQ)) (bg (be SR) (bg (be SS) (be ST)))))) (bg (bg (bg (bg (be SU) (be SV)) (bg (be SW) (bg (be SX) (be SY)))) (bg (bg (be SZ) (be S0)) (bg (be QV) (bg (be QW) (be QX))))) (bg (bg (bg (be QY) (be QZ)) (bg (be Q0) (bg (be Q1) (be Q2)))) (bg (bg (be Q3) (be Q4)) (bg (be Q5) (bg (be Q6) (be Q7)))))))
theorem mixed : Tryz.prog.follows .mixedOrders = true := by kernel_rfl
theorem bE : pA Tryz.prog := by
 intro g fn h
 have e : Tryz.prog.funcs.all (fun fn => !(fn.name == "runtime.NumGoroutine")) = true := by kernel_rfl
 rw [Array.all_eq_true_iff_forall_mem] at e
 have := e fn (Array.mem_of_getElem? h)
 simpa using this
def wB (P : Program) (T : ay) (l : List FuncId) (f : Nat) (c : CH) : Nat → CH
 | 0 => c
 | n + 1 => CH.inl P T l f (wB P T l f c n) c
theorem jn {P : Program} {T : ay} {l : List FuncId} {f : Nat} {c : CH} (hT : ba P T) (hm : P.follows .mixedOrders = true) (hN : pA P) (hc : aE P c) : ∀ n, aE P (wB P T l f c n)
 | 0 => hc
 | n + 1 => CH.Ui hT hm hN (jn hT hm hN hc n) hc
def rl {A : Type} (a : A) : Nat → List A → List A
 | 0, l => l
 | n + 1, l => a :: rl a n l
abbrev v8 (a b c d e f g h : Int) (r : LA_) : LA_ := .int .u64 a :: .int .u64 b :: .int .u64 c :: .int .u64 d :: .int .u64 e :: .int .u64 f :: .int .u64 g :: .int .u64 h :: r
abbrev af (a b c d e f g h : Int) : LA_ := [.int .u64 a, .int .u64 b, .int .u64 c, .int .u64 d, .int .u64 e, .int .u64 f, .int .u64 g, .int .u64 h]
abbrev _root_.Prod.s4 {a0 a1 a2 a3 R : Type} (x : a0 × a1 × a2 × a3 × R) : R := x.2.2.2.2
abbrev _root_.Prod.s8 {a0 a1 a2 a3 a4 a5 a6 a7 R : Type} (x : a0 × a1 × a2 × a3 × a4 × a5 × a6 × a7 × R) : R := x.2.2.2.2.2.2.2.2
abbrev _root_.Prod.s16 {a0 a1 a2 a3 a4 a5 a6 a7 b0 b1 b2 b3 b4 b5 b6 b7 R : Type} (x : a0 × a1 × a2 × a3 × a4 × a5 × a6 × a7 × b0 × b1 × b2 × b3 × b4 × b5 × b6 × b7 × R) : R := x.2.2.2.2.2.2.2.2.2.2.2.2.2.2.2.2
abbrev gf {R : Type} (d : Nat → Int) (r : R) : Int × Int × Int × Int × Int × Int × Int × Int × Int × Int × Int × Int × Int × Int × Int × Int × Int × Int × Int × Int × Int × Int × Int × Int × Int × Int × Int × Int × Int × Int × Int × Int × R := (d 0, d 1, d 2, d 3, d 4, d 5, d 6, d 7, d 8, d 9, d 10, d 11, d 12, d 13, d 14, d 15, d 16, d 17, d 18, d 19, d 20, d 21, d 22, d 23, d 24, d 25, d 26, d 27, d 28, d 29, d 30, d 31, r)
abbrev aX (P : Program) (g : FuncId) (k : Nat) (args : LA_) (ls : List av) (d : FD) (x : d.X) : Prop := oQ P g ∧ dT P g args ⟨k, dk 0 ls⟩ (.ret (d.val x)) ⟨k + (d.aN x).length, dk k (d.aN x)⟩
theorem FD.semA (d : FD) {ch : CH} (hH : aE Tryz.prog ch) {g : FuncId} {fn : Func} (hf : Tryz.prog.funcs[g]? = some fn) {fuel : Nat} {cargs : LA_} {B0 : List (Nat × av)} {x : d.X} (hb : fn.body = some (bq fn)) (hl : bo (bq fn) = [])
  (hS : shP (d.k + d.B.length) [some d.M] (eC d.k d.B) = true)
  (hx : bh jM ch bu fuel (bq fn) (bD fn.ntmps cargs ⟨d.k, B0⟩) .nil (d.leaf jM fn.results.toList) = some x) :
  oQ Tryz.prog g ∧ dT Tryz.prog g cargs ⟨d.k, B0⟩ (.ret (d.val x)) ⟨d.k + (d.aN x).length, dk d.k (d.aN x)⟩ :=
 FD.sem aL hH mixed bE d hf hb (aJ (l := []) hl trivial) hS hx
end Go.Ev
namespace Go.Ev
open Go.Proofs
abbrev GX := Int × Int × Int × Int × Int × Int × Int × Int
def DR : CH := CH.none
theorem H5 : aE Tryz.prog DR := CH.aC
def ub (a0 : Int) : Option (GX) :=
 (some ((IntKind.wrap .u64 a0), (IntKind.wrap .u64 (aF .i64 a0 63)), (IntKind.wrap .u64 (aF .i64 a0 63)), (IntKind.wrap .u64 (aF .i64 a0 63)), (IntKind.wrap .u64 (aF .i64 a0 63)), (IntKind.wrap .u64 (aF .i64 a0 63)), (IntKind.wrap .u64 (aF .i64 a0 63)), (IntKind.wrap .u64 (aF .i64 a0 63))))
def tF : FD where
 X := GX
 k := 0
 pre := []
 F := fun s => []
 M := .agg (rl (.int .u64) 8 [])
 B := []
 toL := fun x => [.I x.1, .I x.2.1, .I x.2.2.1, .I x.2.2.2.1, .I x.s4.1, .I x.s4.2.1, .I x.s4.2.2.1, .I x.s4.2.2.2]
 ofL := fun ls => match ls with
  | [.I x0, .I x1, .I x2, .I x3, .I x4, .I x5, .I x6, .I x7] => some (x0, x1, x2, x3, x4, x5, x6, x7)
  | _ => none
 au := fun ls x h => by
  split at h
  ·cases h; rfl
  ·cases h
theorem KS (a0 : Int) (x : GX) (h : ub a0 = some x) : aX Tryz.prog 19 0 [.int .i64 a0] [] tF x :=
 FD.sem (ch := DR) (A := bu) (fn := Tryz.f19) (c := bq Tryz.f19) (fuel := 60) aL H5 mixed bE tF Tryz.func19 (by kernel_rfl) (aJ (l := [aK Tryz.f19 0]) (by kernel_rfl) ⟨(eH (by kernel_rfl)), trivial⟩)
  (by kernel_rfl) (Eq.trans (by kernel_rfl) h)
def DS : HK where
 call := fun args σ k => match args with
  | [.int .i64 a0] => Option.bind (ub a0) fun y => az σ 0 (tF.val y) (tF.aN y) k
  | _ => none
 nat := fun args σ k => by
  repeat' split
  all_goals simp only [aw, Option.bind_assoc, Option.bind_none, az, Option.bind_some]
 pure := true
 pok := fun _ args σ r σ' h => by
  split at h
  ·exact bm h (fun y => rfl) (fun y f => rfl)
  ·cases h
theorem Lt : aT Tryz.prog 19 DS := by
 intro args σ r σ' h
 simp only [DS] at h
 split at h
 ·rename_i a0
  obtain ⟨y, hy, h⟩ := bE_ h
  exact lifted (xs := []) (ls := []) (cargs := [.int .i64 a0]) (bt.of trivial) rfl (KS a0 y hy) rfl rfl rfl rfl h
 ·cases h
def rq : CH := CH.none
theorem t0 : aE Tryz.prog rq := CH.aC
def fK {R : Type} (cc : LA_ × Nat × LA_ × Nat) (v : Int) (kn : (Int) → Option R) (ke : ((Int) ⊕ (Unit)) → Option R) : Option R :=
 (cond (decide (v ≥ 0)) (ag (decide (0 ≤ v) && decide (v < ((8 : Nat) : Int))) (ag (an [.int .u64] cc.1 (0 + (Int.toNat v * 1))) (ag (decide (0 ≤ v) && decide (v < ((8 : Nat) : Int))) (ag (an [.int .u64] cc.2.2.1 (0 + (Int.toNat v * 1))) (cond ((ac cc.1 ((0 + (Int.toNat v * 1)) + 0)) != (ac cc.2.2.1 ((0 + (Int.toNat v * 1)) + 0))) (ag (decide (0 ≤ v) && decide (v < ((8 : Nat) : Int))) (ag (an [.int .u64] cc.1 (0 + (Int.toNat v * 1))) (ag (decide (0 ≤ v) && decide (v < ((8 : Nat) : Int))) (ag (an [.int .u64] cc.2.2.1 (0 + (Int.toNat v * 1))) (cond (decide ((ac cc.1 ((0 + (Int.toNat v * 1)) + 0)) < (ac cc.2.2.1 ((0 + (Int.toNat v * 1)) + 0)))) (ke (.inl (-1))) (ke (.inl 1))))))) (kn (IntKind.wrap .i64 (v - 1)))))))) (ke (.inr ())))
def pN (cc : LA_ × Nat × LA_ × Nat) (v : Int) : Option ((Int) ⊕ ((Int) ⊕ (Unit))) := fK cc v (fun v => some (Sum.inl v)) fun e => some (Sum.inr e)
def yE (cc : LA_ × Nat × LA_ × Nat) (v : Int) : Option ((Int) ⊕ (Unit)) := dA (pN cc) v
def DG (cc : LA_ × Nat × LA_ × Nat) (v : Int) : List ai := [.I v, .C cc.1, .N cc.2.1, .C cc.2.2.1, .N cc.2.2.2]
def t6 (ls : List ai) : Option ((LA_ × Nat × LA_ × Nat) × (Int)) := match ls with
 | [.I x0, .C x1, .N x2, .C x3, .N x4] => some ((x1, x2, x3, x4), x0)
 | _ => none
def t7 (e : (Int) ⊕ (Unit)) : am := ((Sum.elim (fun e => .ret) (fun e => .exit 0)) e)
def ua (cc : LA_ × Nat × LA_ × Nat) (e : (Int) ⊕ (Unit)) : List ai := ((Sum.elim (fun e => [.I e]) (fun e => [])) e)
def sL (cc : LA_ × Nat × LA_ × Nat) (e : (Int) ⊕ (Unit)) : List ai := ((Sum.elim (fun e => []) (fun e => [])) e)
def mX (o : am) (ls : List ai) : Option (((Int) ⊕ (Unit)) × List ai) := match o with
 | .ret => (match ls with
  | [.I x0] => some ((.inl x0), [])
  | _ => none)
 | .exit 0 => (match ls with
  | [] => some ((.inr ()), [])
  | _ => none)
 | _ => none
theorem Ao : ∀ o ls e cl cc, mX o ls = some (e, cl) → cl = sL cc e → ls = ua cc e ∧ t7 e = o ∧ o ≠ .normal ∧ ∀ v, o = .pan v → sc 0 v = true := by
 intro o ls e cl cc h hc
 unfold mX at h
 split at h
 ·split at h
  ·cases h
   exact ⟨rfl, rfl, by simp, by intro v hv; cases hv <;> rfl⟩
  ·cases h
 ·split at h
  ·cases h
   exact ⟨rfl, rfl, by simp, by intro v hv; cases hv <;> rfl⟩
  ·cases h
 ·cases h
def FG (o : am) : ExS := match o with
 | .ret => ⟨0, (none :: none :: none :: none :: some (.int .i64) :: (rl none 19 [])), [], fun s => [], [], []⟩
 | .exit 0 => ⟨0, (rl none 24 []), [], fun s => [], [], []⟩
 | _ => ⟨0, [], [], fun _ => [], [], []⟩
theorem DH {R : Type} (cc : LA_ × Nat × LA_ × Nat) (v : Int) (kn : (Int) → Option R) (ke : ((Int) ⊕ (Unit)) → Option R) : fK cc v kn ke = (fK cc v (fun v => some (Sum.inl v)) fun e => some (Sum.inr e)).bind (Sum.elim kn ke) := by
 simp only [fK, bF, ax, Option.bind_assoc, bY, bB, Option.bind_some, Option.bind_none, Sum.elim_inl, Sum.elim_inr]
def xh : LD where
 CC := LA_ × Nat × LA_ × Nat
 V := Int
 E := (Int) ⊕ (Unit)
 n := 0
 K := 2
 M := (none :: none :: some (.ptr 0 0) :: some (.ptr 1 0) :: none :: some (.int .i64) :: (rl none 18 []))
 B := [(0, .vec 8 true), (1, .vec 8 true)]
 D := []
 pre := []
 F := fun s => [nameAt s 2 [], nameAt s 3 []]
 toL := DG
 ofL := t6
 au := fun ls c v h => by
  unfold t6 at h
  split at h
  ·cases h; rfl
  ·cases h
 cj := fK
 nat := DH
 sh := FG
 out := t7
 toE := ua
 eV := sL
 ofE := mX
 cO := Ao
 post := fun cc e k => ((Sum.elim (fun e => k (.ret) (aV 0 (none :: none :: none :: none :: some (.int .i64 e) :: (rl none 19 [])) [] [])) (fun e => k (.exit 0) (aV 0 (rl none 24 []) [] []))) e)
 cd := fun cc e k => by rcases e with e | e <;> rfl
theorem DI : cG Tryz.prog 0 xh.la (aK Tryz.f65 0) :=
 LD.ok (ch := rq) (A := bu) aL t0 mixed (fuel := 60) ⟨by kernel_rfl, fun e => by (rcases e with e | e <;> kernel_rfl), fun cc v => by kernel_rfl, aJ (l := []) (by kernel_rfl) trivial⟩
def iC (a0 a1 a2 a3 a4 a5 a6 a7 a8 a9 a10 a11 a12 a13 a14 a15 : Int) : Option (Int) :=
 (Option.bind (yE ((af a0 a1 a2 a3 a4 a5 a6 a7), 1, (af a8 a9 a10 a11 a12 a13 a14 a15), 1) 7) (Sum.elim (fun e1 => (some e1)) (fun e1 => (some 0))))
def nN : FD where
 X := Int
 k := 0
 pre := []
 F := fun s => []
 M := .int .i64
 B := []
 toL := fun x => [.I x]
 ofL := fun ls => match ls with
  | [.I x0] => some x0
  | _ => none
 au := fun ls x h => by
  split at h
  ·cases h; rfl
  ·cases h
theorem GJ (a0 a1 a2 a3 a4 a5 a6 a7 a8 a9 a10 a11 a12 a13 a14 a15 x : Int) (h : iC a0 a1 a2 a3 a4 a5 a6 a7 a8 a9 a10 a11 a12 a13 a14 a15 = some x) : aX Tryz.prog 65 0 [.agg (af a0 a1 a2 a3 a4 a5 a6 a7), .agg (af a8 a9 a10 a11 a12 a13 a14 a15)] [] nN x :=
 FD.sem (ch := rq) (A := dW [(2, xh.la)]) (fn := Tryz.f65) (c := bq Tryz.f65) (fuel := 60) aL t0 mixed bE nN Tryz.func65 (by kernel_rfl) (aJ (l := [aK Tryz.f65 0]) (by kernel_rfl) ⟨bR (by kernel_rfl) DI, trivial⟩)
  (by kernel_rfl) (Eq.trans (by kernel_rfl) h)
def rr : HK where
 call := fun args σ k => match args with
  | [.agg [.int .u64 a0, .int .u64 a1, .int .u64 a2, .int .u64 a3, .int .u64 a4, .int .u64 a5, .int .u64 a6, .int .u64 a7], .agg [.int .u64 a8, .int .u64 a9, .int .u64 a10, .int .u64 a11, .int .u64 a12, .int .u64 a13, .int .u64 a14, .int .u64 a15]] => Option.bind (iC a0 a1 a2 a3 a4 a5 a6 a7 a8 a9 a10 a11 a12 a13 a14 a15) fun y => az σ 0 (nN.val y) (nN.aN y) k
  | _ => none
 nat := fun args σ k => by
  repeat' split
  all_goals simp only [aw, Option.bind_assoc, Option.bind_none, az, Option.bind_some]
 pure := true
 pok := fun _ args σ r σ' h => by
  split at h
  ·exact bm h (fun y => rfl) (fun y f => rfl)
  ·cases h
theorem yF : aT Tryz.prog 65 rr := by
 intro args σ r σ' h
 simp only [rr] at h
 split at h
 ·rename_i a0 a1 a2 a3 a4 a5 a6 a7 a8 a9 a10 a11 a12 a13 a14 a15
  obtain ⟨y, hy, h⟩ := bE_ h
  exact lifted (xs := []) (ls := []) (cargs := [.agg (af a0 a1 a2 a3 a4 a5 a6 a7), .agg (af a8 a9 a10 a11 a12 a13 a14 a15)]) (bt.of trivial) rfl (GJ a0 a1 a2 a3 a4 a5 a6 a7 a8 a9 a10 a11 a12 a13 a14 a15 y hy) rfl rfl rfl rfl h
 ·cases h
def DP : CH := CH.none
theorem Aw : aE Tryz.prog DP := CH.aC
def ak (a0 a1 a2 a3 a4 a5 a6 a7 : Int) : Option (Bool) :=
 (cond ((aF .u64 a7 63) == 1) (some true) (some false))
def jS : FD where
 X := Bool
 k := 0
 pre := []
 F := fun s => []
 M := .bool
 B := []
 toL := fun x => [.B x]
 ofL := fun ls => match ls with
  | [.B x0] => some x0
  | _ => none
 au := fun ls x h => by
  split at h
  ·cases h; rfl
  ·cases h
theorem C9 (a0 a1 a2 a3 a4 a5 a6 a7 : Int) (x : Bool) (h : ak a0 a1 a2 a3 a4 a5 a6 a7 = some x) : aX Tryz.prog 60 0 [.agg (v8 a0 a1 a2 a3 a4 a5 a6 a7 [])] [] jS x :=
 FD.semA jS Aw Tryz.func60 (fuel := 60) (by kernel_rfl) (by kernel_rfl)
  (by kernel_rfl) (Eq.trans (by kernel_rfl) h)
def cU : HK where
 call := fun args σ k => match args with
  | [.agg [.int .u64 a0, .int .u64 a1, .int .u64 a2, .int .u64 a3, .int .u64 a4, .int .u64 a5, .int .u64 a6, .int .u64 a7]] => Option.bind (ak a0 a1 a2 a3 a4 a5 a6 a7) fun y => az σ 0 (jS.val y) (jS.aN y) k
  | _ => none
 nat := fun args σ k => by
  repeat' split
  all_goals simp only [aw, Option.bind_assoc, Option.bind_none, az, Option.bind_some]
 pure := true
 pok := fun _ args σ r σ' h => by
  split at h
  ·exact bm h (fun y => rfl) (fun y f => rfl)
  ·cases h
theorem cY : aT Tryz.prog 60 cU := by
 intro args σ r σ' h
 simp only [cU] at h
 split at h
 ·rename_i a0 a1 a2 a3 a4 a5 a6 a7
  obtain ⟨y, hy, h⟩ := bE_ h
  exact lifted (xs := []) (ls := []) (cargs := [.agg (v8 a0 a1 a2 a3 a4 a5 a6 a7 [])]) (bt.of trivial) rfl (C9 a0 a1 a2 a3 a4 a5 a6 a7 y hy) rfl rfl rfl rfl h
 ·cases h
def KM : CH := (CH.add 65 rr (CH.add 60 cU CH.none))
theorem GL : aE Tryz.prog KM := (CH.aj yF (CH.aj cY CH.aC))
def rv (a0 a1 a2 a3 a4 a5 a6 a7 a8 a9 a10 a11 a12 a13 a14 a15 : Int) : Option (Int) :=
 (Option.bind (ak a0 a1 a2 a3 a4 a5 a6 a7) fun r1 => (cond r1 (Option.bind (ak a8 a9 a10 a11 a12 a13 a14 a15) fun r2 => (cond r2 (Option.bind (iC a0 a1 a2 a3 a4 a5 a6 a7 a8 a9 a10 a11 a12 a13 a14 a15) fun r3 => (some r3)) (some (-1)))) (Option.bind (ak a8 a9 a10 a11 a12 a13 a14 a15) fun r4 => (cond r4 (some 1) (Option.bind (iC a0 a1 a2 a3 a4 a5 a6 a7 a8 a9 a10 a11 a12 a13 a14 a15) fun r5 => (some r5))))))
def rx : FD where
 X := Int
 k := 0
 pre := []
 F := fun s => []
 M := .int .i64
 B := []
 toL := fun x => [.I x]
 ofL := fun ls => match ls with
  | [.I x0] => some x0
  | _ => none
 au := fun ls x h => by
  split at h
  ·cases h; rfl
  ·cases h
theorem Jn (a0 a1 a2 a3 a4 a5 a6 a7 a8 a9 a10 a11 a12 a13 a14 a15 x : Int) (h : rv a0 a1 a2 a3 a4 a5 a6 a7 a8 a9 a10 a11 a12 a13 a14 a15 = some x) : aX Tryz.prog 47 0 [.agg (v8 a0 a1 a2 a3 a4 a5 a6 a7 []), .agg (v8 a8 a9 a10 a11 a12 a13 a14 a15 [])] [] rx x :=
 FD.semA rx GL Tryz.func47 (fuel := 60) (by kernel_rfl) (by kernel_rfl)
  (by kernel_rfl) (Eq.trans (by kernel_rfl) h)
def Bv : HK where
 call := fun args σ k => match args with
  | [.agg [.int .u64 a0, .int .u64 a1, .int .u64 a2, .int .u64 a3, .int .u64 a4, .int .u64 a5, .int .u64 a6, .int .u64 a7], .agg [.int .u64 a8, .int .u64 a9, .int .u64 a10, .int .u64 a11, .int .u64 a12, .int .u64 a13, .int .u64 a14, .int .u64 a15]] => Option.bind (rv a0 a1 a2 a3 a4 a5 a6 a7 a8 a9 a10 a11 a12 a13 a14 a15) fun y => az σ 0 (rx.val y) (rx.aN y) k
  | _ => none
 nat := fun args σ k => by
  repeat' split
  all_goals simp only [aw, Option.bind_assoc, Option.bind_none, az, Option.bind_some]
 pure := true
 pok := fun _ args σ r σ' h => by
  split at h
  ·exact bm h (fun y => rfl) (fun y f => rfl)
  ·cases h
theorem KN : aT Tryz.prog 47 Bv := by
 intro args σ r σ' h
 simp only [Bv] at h
 split at h
 ·rename_i a0 a1 a2 a3 a4 a5 a6 a7 a8 a9 a10 a11 a12 a13 a14 a15
  obtain ⟨y, hy, h⟩ := bE_ h
  exact lifted (xs := []) (ls := []) (cargs := [.agg (v8 a0 a1 a2 a3 a4 a5 a6 a7 []), .agg (v8 a8 a9 a10 a11 a12 a13 a14 a15 [])]) (bt.of trivial) rfl (Jn a0 a1 a2 a3 a4 a5 a6 a7 a8 a9 a10 a11 a12 a13 a14 a15 y hy) rfl rfl rfl rfl h
 ·cases h
def Jw : CH := (CH.add 60 cU CH.none)
theorem FR : aE Tryz.prog Jw := (CH.aj cY CH.aC)
def lK (a0 a1 a2 a3 a4 a5 a6 a7 : Int) : Option (Int) :=
 (Option.bind (ak a0 a1 a2 a3 a4 a5 a6 a7) fun r1 => (cond r1 (some (-1)) (cond (a0 == 0 && (a1 == 0 && (a2 == 0 && (a3 == 0 && (a4 == 0 && (a5 == 0 && (a6 == 0 && (a7 == 0 && true)))))))) (some 0) (some 1))))
def pv : FD where
 X := Int
 k := 0
 pre := []
 F := fun s => []
 M := .int .i64
 B := []
 toL := fun x => [.I x]
 ofL := fun ls => match ls with
  | [.I x0] => some x0
  | _ => none
 au := fun ls x h => by
  split at h
  ·cases h; rfl
  ·cases h
theorem H7 (a0 a1 a2 a3 a4 a5 a6 a7 x : Int) (h : lK a0 a1 a2 a3 a4 a5 a6 a7 = some x) : aX Tryz.prog 56 0 [.agg (v8 a0 a1 a2 a3 a4 a5 a6 a7 [])] [] pv x :=
 FD.semA pv FR Tryz.func56 (fuel := 60) (by kernel_rfl) (by kernel_rfl)
  (by kernel_rfl) (Eq.trans (by kernel_rfl) h)
def tE : HK where
 call := fun args σ k => match args with
  | [.agg [.int .u64 a0, .int .u64 a1, .int .u64 a2, .int .u64 a3, .int .u64 a4, .int .u64 a5, .int .u64 a6, .int .u64 a7]] => Option.bind (lK a0 a1 a2 a3 a4 a5 a6 a7) fun y => az σ 0 (pv.val y) (pv.aN y) k
  | _ => none
 nat := fun args σ k => by
  repeat' split
  all_goals simp only [aw, Option.bind_assoc, Option.bind_none, az, Option.bind_some]
 pure := true
 pok := fun _ args σ r σ' h => by
  split at h
  ·exact bm h (fun y => rfl) (fun y f => rfl)
  ·cases h
theorem Aq : aT Tryz.prog 56 tE := by
 intro args σ r σ' h
 simp only [tE] at h
 split at h
 ·rename_i a0 a1 a2 a3 a4 a5 a6 a7
  obtain ⟨y, hy, h⟩ := bE_ h
  exact lifted (xs := []) (ls := []) (cargs := [.agg (v8 a0 a1 a2 a3 a4 a5 a6 a7 [])]) (bt.of trivial) rfl (H7 a0 a1 a2 a3 a4 a5 a6 a7 y hy) rfl rfl rfl rfl h
 ·cases h
abbrev BD := Int × Int × Int × Int × Int × Int × Int × Int
def yJ : CH := (CH.add 86 H3 CH.none)
def Ay : CH := wB Tryz.prog jM [81, 108] 60 yJ 2
theorem DW : aE Tryz.prog yJ := (CH.aj (J7 Tryz.func86 (by kernel_rfl) (by kernel_rfl) (by kernel_rfl) (by kernel_rfl)) CH.aC)
theorem FQ : aE Tryz.prog Ay := jn aL mixed bE DW 2
def dK (a0 a1 a2 a3 a4 a5 a6 a7 a8 a9 a10 a11 a12 a13 a14 a15 a16 : Int) : Option (BD) :=
 (Option.bind (iO a0 a8 a16) fun r1 => (Option.bind (iO a1 a9 r1.2) fun r2 => (Option.bind (iO a2 a10 r2.2) fun r3 => (Option.bind (iO a3 a11 r3.2) fun r4 => (Option.bind (iO a4 a12 r4.2) fun r5 => (Option.bind (iO a5 a13 r5.2) fun r6 => (Option.bind (iO a6 a14 r6.2) fun r7 => (Option.bind (iO a7 a15 r7.2) fun r8 => (some (r1.1, r2.1, r3.1, r4.1, r5.1, r6.1, r7.1, r8.1))))))))))
def pu : FD where
 X := BD
 k := 0
 pre := []
 F := fun s => []
 M := .agg (rl (.int .u64) 8 [])
 B := []
 toL := fun x => [.I x.1, .I x.2.1, .I x.2.2.1, .I x.2.2.2.1, .I x.s4.1, .I x.s4.2.1, .I x.s4.2.2.1, .I x.s4.2.2.2]
 ofL := fun ls => match ls with
  | [.I x0, .I x1, .I x2, .I x3, .I x4, .I x5, .I x6, .I x7] => some (x0, x1, x2, x3, x4, x5, x6, x7)
  | _ => none
 au := fun ls x h => by
  split at h
  ·cases h; rfl
  ·cases h
theorem H6 (a0 a1 a2 a3 a4 a5 a6 a7 a8 a9 a10 a11 a12 a13 a14 a15 a16 : Int) (x : BD) (h : dK a0 a1 a2 a3 a4 a5 a6 a7 a8 a9 a10 a11 a12 a13 a14 a15 a16 = some x) : aX Tryz.prog 58 0 [.agg (af a0 a1 a2 a3 a4 a5 a6 a7), .agg (af a8 a9 a10 a11 a12 a13 a14 a15), .int .u64 a16] [] pu x :=
 FD.sem (ch := Ay) (A := bu) (fn := Tryz.f58) (c := bq Tryz.f58) (fuel := 60) aL FQ mixed bE pu Tryz.func58 (by kernel_rfl) (aJ (l := [aK Tryz.f58 0]) (by kernel_rfl) ⟨(eH (by kernel_rfl)), trivial⟩)
  (by kernel_rfl) (Eq.trans (by kernel_rfl) h)
def jE : HK where
 call := fun args σ k => match args with
  | [.agg [.int .u64 a0, .int .u64 a1, .int .u64 a2, .int .u64 a3, .int .u64 a4, .int .u64 a5, .int .u64 a6, .int .u64 a7], .agg [.int .u64 a8, .int .u64 a9, .int .u64 a10, .int .u64 a11, .int .u64 a12, .int .u64 a13, .int .u64 a14, .int .u64 a15], .int .u64 a16] => Option.bind (dK a0 a1 a2 a3 a4 a5 a6 a7 a8 a9 a10 a11 a12 a13 a14 a15 a16) fun y => az σ 0 (pu.val y) (pu.aN y) k
  | _ => none
 nat := fun args σ k => by
  repeat' split
  all_goals simp only [aw, Option.bind_assoc, Option.bind_none, az, Option.bind_some]
 pure := true
 pok := fun _ args σ r σ' h => by
  split at h
  ·exact bm h (fun y => rfl) (fun y f => rfl)
  ·cases h
theorem ki : aT Tryz.prog 58 jE := by
 intro args σ r σ' h
 simp only [jE] at h
 split at h
 ·rename_i a0 a1 a2 a3 a4 a5 a6 a7 a8 a9 a10 a11 a12 a13 a14 a15 a16
  obtain ⟨y, hy, h⟩ := bE_ h
  exact lifted (xs := []) (ls := []) (cargs := [.agg (af a0 a1 a2 a3 a4 a5 a6 a7), .agg (af a8 a9 a10 a11 a12 a13 a14 a15), .int .u64 a16]) (bt.of trivial) rfl (H6 a0 a1 a2 a3 a4 a5 a6 a7 a8 a9 a10 a11 a12 a13 a14 a15 a16 y hy) rfl rfl rfl rfl h
 ·cases h
abbrev DJ := (I8 Bool)
def KK : CH := (CH.add 60 cU (CH.add 58 jE CH.none))
theorem GK : aE Tryz.prog KK := (CH.aj cY (CH.aj ki CH.aC))
def rt (a0 a1 a2 a3 a4 a5 a6 a7 a8 a9 a10 a11 a12 a13 a14 a15 : Int) : Option (DJ) :=
 (Option.bind (dK a0 a1 a2 a3 a4 a5 a6 a7 a8 a9 a10 a11 a12 a13 a14 a15 0) fun r1 => (Option.bind (ak a0 a1 a2 a3 a4 a5 a6 a7) fun r2 => (cond r2 (Option.bind (ak a8 a9 a10 a11 a12 a13 a14 a15) fun r3 => (cond r3 (Option.bind (ak r1.1 r1.2.1 r1.2.2.1 r1.2.2.2.1 r1.2.2.2.2.1 r1.2.2.2.2.2.1 r1.2.2.2.2.2.2.1 r1.2.2.2.2.2.2.2) fun r4 => (cond r4 (Option.bind (ak a0 a1 a2 a3 a4 a5 a6 a7) fun r5 => (cond r5 (some (r1.1, r1.2.1, r1.2.2.1, r1.2.2.2.1, r1.2.2.2.2.1, r1.2.2.2.2.2.1, r1.2.2.2.2.2.2.1, r1.2.2.2.2.2.2.2, true)) (some (0, 0, 0, 0, 0, 0, 0, 0, false)))) (Option.bind (ak a0 a1 a2 a3 a4 a5 a6 a7) fun r6 => (cond r6 (some (0, 0, 0, 0, 0, 0, 0, 0, false)) (some (r1.1, r1.2.1, r1.2.2.1, r1.2.2.2.1, r1.2.2.2.2.1, r1.2.2.2.2.2.1, r1.2.2.2.2.2.2.1, r1.2.2.2.2.2.2.2, true)))))) (some (r1.1, r1.2.1, r1.2.2.1, r1.2.2.2.1, r1.2.2.2.2.1, r1.2.2.2.2.2.1, r1.2.2.2.2.2.2.1, r1.2.2.2.2.2.2.2, true)))) (Option.bind (ak a8 a9 a10 a11 a12 a13 a14 a15) fun r7 => (cond r7 (some (r1.1, r1.2.1, r1.2.2.1, r1.2.2.2.1, r1.2.2.2.2.1, r1.2.2.2.2.2.1, r1.2.2.2.2.2.2.1, r1.2.2.2.2.2.2.2, true)) (Option.bind (ak r1.1 r1.2.1 r1.2.2.1 r1.2.2.2.1 r1.2.2.2.2.1 r1.2.2.2.2.2.1 r1.2.2.2.2.2.2.1 r1.2.2.2.2.2.2.2) fun r8 => (cond r8 (Option.bind (ak a0 a1 a2 a3 a4 a5 a6 a7) fun r9 => (cond r9 (some (r1.1, r1.2.1, r1.2.2.1, r1.2.2.2.1, r1.2.2.2.2.1, r1.2.2.2.2.2.1, r1.2.2.2.2.2.2.1, r1.2.2.2.2.2.2.2, true)) (some (0, 0, 0, 0, 0, 0, 0, 0, false)))) (Option.bind (ak a0 a1 a2 a3 a4 a5 a6 a7) fun r10 => (cond r10 (some (0, 0, 0, 0, 0, 0, 0, 0, false)) (some (r1.1, r1.2.1, r1.2.2.1, r1.2.2.2.1, r1.2.2.2.2.1, r1.2.2.2.2.2.1, r1.2.2.2.2.2.2.1, r1.2.2.2.2.2.2.2, true)))))))))))
def ru : FD where
 X := DJ
 k := 0
 pre := []
 F := fun s => []
 M := .tup [.agg (rl (.int .u64) 8 []), .bool]
 B := []
 toL := fun x => [.I x.1, .I x.2.1, .I x.2.2.1, .I x.2.2.2.1, .I x.s4.1, .I x.s4.2.1, .I x.s4.2.2.1, .I x.s4.2.2.2.1, .B x.s8]
 ofL := fun ls => match ls with
  | [.I x0, .I x1, .I x2, .I x3, .I x4, .I x5, .I x6, .I x7, .B x8] => some (x0, x1, x2, x3, x4, x5, x6, x7, x8)
  | _ => none
 au := fun ls x h => by
  split at h
  ·cases h; rfl
  ·cases h
theorem Jm (a0 a1 a2 a3 a4 a5 a6 a7 a8 a9 a10 a11 a12 a13 a14 a15 : Int) (x : DJ) (h : rt a0 a1 a2 a3 a4 a5 a6 a7 a8 a9 a10 a11 a12 a13 a14 a15 = some x) : aX Tryz.prog 64 0 [.agg (af a0 a1 a2 a3 a4 a5 a6 a7), .agg (af a8 a9 a10 a11 a12 a13 a14 a15)] [] ru x :=
 FD.semA ru GK Tryz.func64 (fuel := 60) (by kernel_rfl) (by kernel_rfl)
  (by kernel_rfl) (Eq.trans (by kernel_rfl) h)
def Bu : HK where
 call := fun args σ k => match args with
  | [.agg [.int .u64 a0, .int .u64 a1, .int .u64 a2, .int .u64 a3, .int .u64 a4, .int .u64 a5, .int .u64 a6, .int .u64 a7], .agg [.int .u64 a8, .int .u64 a9, .int .u64 a10, .int .u64 a11, .int .u64 a12, .int .u64 a13, .int .u64 a14, .int .u64 a15]] => Option.bind (rt a0 a1 a2 a3 a4 a5 a6 a7 a8 a9 a10 a11 a12 a13 a14 a15) fun y => az σ 0 (ru.val y) (ru.aN y) k
  | _ => none
 nat := fun args σ k => by
  repeat' split
  all_goals simp only [aw, Option.bind_assoc, Option.bind_none, az, Option.bind_some]
 pure := true
 pok := fun _ args σ r σ' h => by
  split at h
  ·exact bm h (fun y => rfl) (fun y f => rfl)
  ·cases h
theorem KL : aT Tryz.prog 64 Bu := by
 intro args σ r σ' h
 simp only [Bu] at h
 split at h
 ·rename_i a0 a1 a2 a3 a4 a5 a6 a7 a8 a9 a10 a11 a12 a13 a14 a15
  obtain ⟨y, hy, h⟩ := bE_ h
  exact lifted (xs := []) (ls := []) (cargs := [.agg (af a0 a1 a2 a3 a4 a5 a6 a7), .agg (af a8 a9 a10 a11 a12 a13 a14 a15)]) (bt.of trivial) rfl (Jm a0 a1 a2 a3 a4 a5 a6 a7 a8 a9 a10 a11 a12 a13 a14 a15 y hy) rfl rfl rfl rfl h
 ·cases h
abbrev DQ := Int × Int × Int × Int × Int × Int × Int × Int
def Cx : CH := CH.none
theorem GW : aE Tryz.prog Cx := CH.aC
def hU (a0 a1 a2 a3 a4 a5 a6 a7 : Int) : Option (DQ) :=
 (some ((zF .u64 18446744073709551615 a0), (zF .u64 18446744073709551615 a1), (zF .u64 18446744073709551615 a2), (zF .u64 18446744073709551615 a3), (zF .u64 18446744073709551615 a4), (zF .u64 18446744073709551615 a5), (zF .u64 18446744073709551615 a6), (zF .u64 18446744073709551615 a7)))
def rI : FD where
 X := DQ
 k := 0
 pre := []
 F := fun s => []
 M := .agg (rl (.int .u64) 8 [])
 B := []
 toL := fun x => [.I x.1, .I x.2.1, .I x.2.2.1, .I x.2.2.2.1, .I x.s4.1, .I x.s4.2.1, .I x.s4.2.2.1, .I x.s4.2.2.2]
 ofL := fun ls => match ls with
  | [.I x0, .I x1, .I x2, .I x3, .I x4, .I x5, .I x6, .I x7] => some (x0, x1, x2, x3, x4, x5, x6, x7)
  | _ => none
 au := fun ls x h => by
  split at h
  ·cases h; rfl
  ·cases h
theorem Jv (a0 a1 a2 a3 a4 a5 a6 a7 : Int) (x : DQ) (h : hU a0 a1 a2 a3 a4 a5 a6 a7 = some x) : aX Tryz.prog 59 0 [.agg (v8 a0 a1 a2 a3 a4 a5 a6 a7 [])] [] rI x :=
 FD.sem (ch := Cx) (A := bu) (fn := Tryz.f59) (c := bq Tryz.f59) (fuel := 60) aL GW mixed bE rI Tryz.func59 (by kernel_rfl) (aJ (l := [aK Tryz.f59 0]) (by kernel_rfl) ⟨(eH (by kernel_rfl)), trivial⟩)
  (by kernel_rfl) (Eq.trans (by kernel_rfl) h)
def nO : HK where
 call := fun args σ k => match args with
  | [.agg [.int .u64 a0, .int .u64 a1, .int .u64 a2, .int .u64 a3, .int .u64 a4, .int .u64 a5, .int .u64 a6, .int .u64 a7]] => Option.bind (hU a0 a1 a2 a3 a4 a5 a6 a7) fun y => az σ 0 (rI.val y) (rI.aN y) k
  | _ => none
 nat := fun args σ k => by
  repeat' split
  all_goals simp only [aw, Option.bind_assoc, Option.bind_none, az, Option.bind_some]
 pure := true
 pok := fun _ args σ r σ' h => by
  split at h
  ·exact bm h (fun y => rfl) (fun y f => rfl)
  ·cases h
theorem po : aT Tryz.prog 59 nO := by
 intro args σ r σ' h
 simp only [nO] at h
 split at h
 ·rename_i a0 a1 a2 a3 a4 a5 a6 a7
  obtain ⟨y, hy, h⟩ := bE_ h
  exact lifted (xs := []) (ls := []) (cargs := [.agg (v8 a0 a1 a2 a3 a4 a5 a6 a7 [])]) (bt.of trivial) rfl (Jv a0 a1 a2 a3 a4 a5 a6 a7 y hy) rfl rfl rfl rfl h
 ·cases h
abbrev DX := (I8 Bool)
def KT : CH := (CH.add 60 cU (CH.add 59 nO (CH.add 58 jE CH.none)))
theorem Ha : aE Tryz.prog KT := (CH.aj cY (CH.aj po (CH.aj ki CH.aC)))
def nQ (a0 a1 a2 a3 a4 a5 a6 a7 a8 a9 a10 a11 a12 a13 a14 a15 : Int) : Option (DX) :=
 (Option.bind (hU a8 a9 a10 a11 a12 a13 a14 a15) fun r1 => (Option.bind (dK a0 a1 a2 a3 a4 a5 a6 a7 r1.1 r1.2.1 r1.2.2.1 r1.2.2.2.1 r1.2.2.2.2.1 r1.2.2.2.2.2.1 r1.2.2.2.2.2.2.1 r1.2.2.2.2.2.2.2 1) fun r2 => (Option.bind (ak a0 a1 a2 a3 a4 a5 a6 a7) fun r3 => (cond r3 (Option.bind (ak a8 a9 a10 a11 a12 a13 a14 a15) fun r4 => (cond r4 (some (r2.1, r2.2.1, r2.2.2.1, r2.2.2.2.1, r2.2.2.2.2.1, r2.2.2.2.2.2.1, r2.2.2.2.2.2.2.1, r2.2.2.2.2.2.2.2, true)) (Option.bind (ak r2.1 r2.2.1 r2.2.2.1 r2.2.2.2.1 r2.2.2.2.2.1 r2.2.2.2.2.2.1 r2.2.2.2.2.2.2.1 r2.2.2.2.2.2.2.2) fun r5 => (cond r5 (Option.bind (ak a0 a1 a2 a3 a4 a5 a6 a7) fun r6 => (cond r6 (some (r2.1, r2.2.1, r2.2.2.1, r2.2.2.2.1, r2.2.2.2.2.1, r2.2.2.2.2.2.1, r2.2.2.2.2.2.2.1, r2.2.2.2.2.2.2.2, true)) (some (0, 0, 0, 0, 0, 0, 0, 0, false)))) (Option.bind (ak a0 a1 a2 a3 a4 a5 a6 a7) fun r7 => (cond r7 (some (0, 0, 0, 0, 0, 0, 0, 0, false)) (some (r2.1, r2.2.1, r2.2.2.1, r2.2.2.2.1, r2.2.2.2.2.1, r2.2.2.2.2.2.1, r2.2.2.2.2.2.2.1, r2.2.2.2.2.2.2.2, true)))))))) (Option.bind (ak a8 a9 a10 a11 a12 a13 a14 a15) fun r8 => (cond r8 (Option.bind (ak r2.1 r2.2.1 r2.2.2.1 r2.2.2.2.1 r2.2.2.2.2.1 r2.2.2.2.2.2.1 r2.2.2.2.2.2.2.1 r2.2.2.2.2.2.2.2) fun r9 => (cond r9 (Option.bind (ak a0 a1 a2 a3 a4 a5 a6 a7) fun r10 => (cond r10 (some (r2.1, r2.2.1, r2.2.2.1, r2.2.2.2.1, r2.2.2.2.2.1, r2.2.2.2.2.2.1, r2.2.2.2.2.2.2.1, r2.2.2.2.2.2.2.2, true)) (some (0, 0, 0, 0, 0, 0, 0, 0, false)))) (Option.bind (ak a0 a1 a2 a3 a4 a5 a6 a7) fun r11 => (cond r11 (some (0, 0, 0, 0, 0, 0, 0, 0, false)) (some (r2.1, r2.2.1, r2.2.2.1, r2.2.2.2.1, r2.2.2.2.2.1, r2.2.2.2.2.2.1, r2.2.2.2.2.2.2.1, r2.2.2.2.2.2.2.2, true)))))) (some (r2.1, r2.2.1, r2.2.2.1, r2.2.2.2.1, r2.2.2.2.2.1, r2.2.2.2.2.2.1, r2.2.2.2.2.2.2.1, r2.2.2.2.2.2.2.2, true))))))))
def rK : FD where
 X := DX
 k := 0
 pre := []
 F := fun s => []
 M := .tup [.agg (rl (.int .u64) 8 []), .bool]
 B := []
 toL := fun x => [.I x.1, .I x.2.1, .I x.2.2.1, .I x.2.2.2.1, .I x.s4.1, .I x.s4.2.1, .I x.s4.2.2.1, .I x.s4.2.2.2.1, .B x.s8]
 ofL := fun ls => match ls with
  | [.I x0, .I x1, .I x2, .I x3, .I x4, .I x5, .I x6, .I x7, .B x8] => some (x0, x1, x2, x3, x4, x5, x6, x7, x8)
  | _ => none
 au := fun ls x h => by
  split at h
  ·cases h; rfl
  ·cases h
theorem Jy (a0 a1 a2 a3 a4 a5 a6 a7 a8 a9 a10 a11 a12 a13 a14 a15 : Int) (x : DX) (h : nQ a0 a1 a2 a3 a4 a5 a6 a7 a8 a9 a10 a11 a12 a13 a14 a15 = some x) : aX Tryz.prog 38 0 [.agg (af a0 a1 a2 a3 a4 a5 a6 a7), .agg (af a8 a9 a10 a11 a12 a13 a14 a15)] [] rK x :=
 FD.semA rK Ha Tryz.func38 (fuel := 60) (by kernel_rfl) (by kernel_rfl)
  (by kernel_rfl) (Eq.trans (by kernel_rfl) h)
def wc : HK where
 call := fun args σ k => match args with
  | [.agg [.int .u64 a0, .int .u64 a1, .int .u64 a2, .int .u64 a3, .int .u64 a4, .int .u64 a5, .int .u64 a6, .int .u64 a7], .agg [.int .u64 a8, .int .u64 a9, .int .u64 a10, .int .u64 a11, .int .u64 a12, .int .u64 a13, .int .u64 a14, .int .u64 a15]] => Option.bind (nQ a0 a1 a2 a3 a4 a5 a6 a7 a8 a9 a10 a11 a12 a13 a14 a15) fun y => az σ 0 (rK.val y) (rK.aN y) k
  | _ => none
 nat := fun args σ k => by
  repeat' split
  all_goals simp only [aw, Option.bind_assoc, Option.bind_none, az, Option.bind_some]
 pure := true
 pok := fun _ args σ r σ' h => by
  split at h
  ·exact bm h (fun y => rfl) (fun y f => rfl)
  ·cases h
theorem Cw : aT Tryz.prog 38 wc := by
 intro args σ r σ' h
 simp only [wc] at h
 split at h
 ·rename_i a0 a1 a2 a3 a4 a5 a6 a7 a8 a9 a10 a11 a12 a13 a14 a15
  obtain ⟨y, hy, h⟩ := bE_ h
  exact lifted (xs := []) (ls := []) (cargs := [.agg (af a0 a1 a2 a3 a4 a5 a6 a7), .agg (af a8 a9 a10 a11 a12 a13 a14 a15)]) (bt.of trivial) rfl (Jy a0 a1 a2 a3 a4 a5 a6 a7 a8 a9 a10 a11 a12 a13 a14 a15 y hy) rfl rfl rfl rfl h
 ·cases h
abbrev DO := (I8 Bool)
def KQ : CH := (CH.add 38 wc CH.none)
theorem GV : aE Tryz.prog KQ := (CH.aj Cw CH.aC)
def rG (a0 a1 a2 a3 a4 a5 a6 a7 : Int) : Option (DO) :=
 (Option.bind (nQ 0 0 0 0 0 0 0 0 a0 a1 a2 a3 a4 a5 a6 a7) fun r1 => (cond r1.2.2.2.2.2.2.2.2 (some (r1.1, r1.2.1, r1.2.2.1, r1.2.2.2.1, r1.2.2.2.2.1, r1.2.2.2.2.2.1, r1.2.2.2.2.2.2.1, r1.2.2.2.2.2.2.2.1, true)) (some (r1.1, r1.2.1, r1.2.2.1, r1.2.2.2.1, r1.2.2.2.2.1, r1.2.2.2.2.2.1, r1.2.2.2.2.2.2.1, r1.2.2.2.2.2.2.2.1, false))))
def rH : FD where
 X := DO
 k := 0
 pre := []
 F := fun s => []
 M := .tup [.agg (rl (.int .u64) 8 []), .bool]
 B := []
 toL := fun x => [.I x.1, .I x.2.1, .I x.2.2.1, .I x.2.2.2.1, .I x.s4.1, .I x.s4.2.1, .I x.s4.2.2.1, .I x.s4.2.2.2.1, .B x.s8]
 ofL := fun ls => match ls with
  | [.I x0, .I x1, .I x2, .I x3, .I x4, .I x5, .I x6, .I x7, .B x8] => some (x0, x1, x2, x3, x4, x5, x6, x7, x8)
  | _ => none
 au := fun ls x h => by
  split at h
  ·cases h; rfl
  ·cases h
theorem Ju (a0 a1 a2 a3 a4 a5 a6 a7 : Int) (x : DO) (h : rG a0 a1 a2 a3 a4 a5 a6 a7 = some x) : aX Tryz.prog 26 0 [.agg (v8 a0 a1 a2 a3 a4 a5 a6 a7 [])] [] rH x :=
 FD.semA rH GV Tryz.func26 (fuel := 60) (by kernel_rfl) (by kernel_rfl)
  (by kernel_rfl) (Eq.trans (by kernel_rfl) h)
def BC : HK where
 call := fun args σ k => match args with
  | [.agg [.int .u64 a0, .int .u64 a1, .int .u64 a2, .int .u64 a3, .int .u64 a4, .int .u64 a5, .int .u64 a6, .int .u64 a7]] => Option.bind (rG a0 a1 a2 a3 a4 a5 a6 a7) fun y => az σ 0 (rH.val y) (rH.aN y) k
  | _ => none
 nat := fun args σ k => by
  repeat' split
  all_goals simp only [aw, Option.bind_assoc, Option.bind_none, az, Option.bind_some]
 pure := true
 pok := fun _ args σ r σ' h => by
  split at h
  ·exact bm h (fun y => rfl) (fun y f => rfl)
  ·cases h
theorem KR : aT Tryz.prog 26 BC := by
 intro args σ r σ' h
 simp only [BC] at h
 split at h
 ·rename_i a0 a1 a2 a3 a4 a5 a6 a7
  obtain ⟨y, hy, h⟩ := bE_ h
  exact lifted (xs := []) (ls := []) (cargs := [.agg (v8 a0 a1 a2 a3 a4 a5 a6 a7 [])]) (bt.of trivial) rfl (Ju a0 a1 a2 a3 a4 a5 a6 a7 y hy) rfl rfl rfl rfl h
 ·cases h
def A7 : CH := CH.none
theorem xP : aE Tryz.prog A7 := CH.aC
def gN (a0 a1 : Int) : Option (Int × Int) :=
 (some ((IntKind.wrap .u64 ((IntKind.wrap .u64 ((IntKind.wrap .u64 ((aF .u64 a0 32) * (aF .u64 a1 32))) + (aF .u64 (IntKind.wrap .u64 ((IntKind.wrap .u64 ((aF .u64 a0 32) * (wQ .u64 a1 4294967295))) + (aF .u64 (IntKind.wrap .u64 ((wQ .u64 a0 4294967295) * (wQ .u64 a1 4294967295))) 32))) 32))) + (aF .u64 (IntKind.wrap .u64 ((wQ .u64 (IntKind.wrap .u64 ((IntKind.wrap .u64 ((aF .u64 a0 32) * (wQ .u64 a1 4294967295))) + (aF .u64 (IntKind.wrap .u64 ((wQ .u64 a0 4294967295) * (wQ .u64 a1 4294967295))) 32))) 4294967295) + (IntKind.wrap .u64 ((wQ .u64 a0 4294967295) * (aF .u64 a1 32))))) 32))), (IntKind.wrap .u64 (a0 * a1))))
def iG : FD where
 X := Int × Int
 k := 0
 pre := []
 F := fun s => []
 M := .tup [.int .u64, .int .u64]
 B := []
 toL := fun x => [.I x.1, .I x.2]
 ofL := fun ls => match ls with
  | [.I x0, .I x1] => some (x0, x1)
  | _ => none
 au := fun ls x h => by
  split at h
  ·cases h; rfl
  ·cases h
theorem Aa (a0 a1 : Int) (x : Int × Int) (h : gN a0 a1 = some x) : aX Tryz.prog 85 0 [.int .u64 a0, .int .u64 a1] [] iG x :=
 FD.semA iG xP Tryz.func85 (fuel := 60) (by kernel_rfl) (by kernel_rfl)
  (by kernel_rfl) (Eq.trans (by kernel_rfl) h)
def oD : HK where
 call := fun args σ k => match args with
  | [.int .u64 a0, .int .u64 a1] => Option.bind (gN a0 a1) fun y => az σ 0 (iG.val y) (iG.aN y) k
  | _ => none
 nat := fun args σ k => by
  repeat' split
  all_goals simp only [aw, Option.bind_assoc, Option.bind_none, az, Option.bind_some]
 pure := true
 pok := fun _ args σ r σ' h => by
  split at h
  ·exact bm h (fun y => rfl) (fun y f => rfl)
  ·cases h
theorem A8 : aT Tryz.prog 85 oD := by
 intro args σ r σ' h
 simp only [oD] at h
 split at h
 ·rename_i a0 a1
  obtain ⟨y, hy, h⟩ := bE_ h
  exact lifted (xs := []) (ls := []) (cargs := [.int .u64 a0, .int .u64 a1]) (bt.of trivial) rfl (Aa a0 a1 y hy) rfl rfl rfl rfl h
 ·cases h
abbrev zE := Int × Int × Int × Int × Int × Int × Int × Int
def H2 : CH := (CH.add 59 nO (CH.add 58 jE CH.none))
theorem DM : aE Tryz.prog H2 := (CH.aj po (CH.aj ki CH.aC))
def fe (a0 a1 a2 a3 a4 a5 a6 a7 : Int) : Option (zE) :=
 (Option.bind (hU a0 a1 a2 a3 a4 a5 a6 a7) fun r1 => (Option.bind (dK r1.1 r1.2.1 r1.2.2.1 r1.2.2.2.1 r1.2.2.2.2.1 r1.2.2.2.2.2.1 r1.2.2.2.2.2.2.1 r1.2.2.2.2.2.2.2 0 0 0 0 0 0 0 0 1) fun r2 => (some (r2.1, r2.2.1, r2.2.2.1, r2.2.2.2.1, r2.2.2.2.2.1, r2.2.2.2.2.2.1, r2.2.2.2.2.2.2.1, r2.2.2.2.2.2.2.2))))
def nP : FD where
 X := zE
 k := 0
 pre := []
 F := fun s => []
 M := .agg (rl (.int .u64) 8 [])
 B := []
 toL := fun x => [.I x.1, .I x.2.1, .I x.2.2.1, .I x.2.2.2.1, .I x.s4.1, .I x.s4.2.1, .I x.s4.2.2.1, .I x.s4.2.2.2]
 ofL := fun ls => match ls with
  | [.I x0, .I x1, .I x2, .I x3, .I x4, .I x5, .I x6, .I x7] => some (x0, x1, x2, x3, x4, x5, x6, x7)
  | _ => none
 au := fun ls x h => by
  split at h
  ·cases h; rfl
  ·cases h
theorem GQ (a0 a1 a2 a3 a4 a5 a6 a7 : Int) (x : zE) (h : fe a0 a1 a2 a3 a4 a5 a6 a7 = some x) : aX Tryz.prog 109 0 [.agg (v8 a0 a1 a2 a3 a4 a5 a6 a7 [])] [] nP x :=
 FD.semA nP DM Tryz.func109 (fuel := 60) (by kernel_rfl) (by kernel_rfl)
  (by kernel_rfl) (Eq.trans (by kernel_rfl) h)
def m7 : HK where
 call := fun args σ k => match args with
  | [.agg [.int .u64 a0, .int .u64 a1, .int .u64 a2, .int .u64 a3, .int .u64 a4, .int .u64 a5, .int .u64 a6, .int .u64 a7]] => Option.bind (fe a0 a1 a2 a3 a4 a5 a6 a7) fun y => az σ 0 (nP.val y) (nP.aN y) k
  | _ => none
 nat := fun args σ k => by
  repeat' split
  all_goals simp only [aw, Option.bind_assoc, Option.bind_none, az, Option.bind_some]
 pure := true
 pok := fun _ args σ r σ' h => by
  split at h
  ·exact bm h (fun y => rfl) (fun y f => rfl)
  ·cases h
theorem rB : aT Tryz.prog 109 m7 := by
 intro args σ r σ' h
 simp only [m7] at h
 split at h
 ·rename_i a0 a1 a2 a3 a4 a5 a6 a7
  obtain ⟨y, hy, h⟩ := bE_ h
  exact lifted (xs := []) (ls := []) (cargs := [.agg (v8 a0 a1 a2 a3 a4 a5 a6 a7 [])]) (bt.of trivial) rfl (GQ a0 a1 a2 a3 a4 a5 a6 a7 y hy) rfl rfl rfl rfl h
 ·cases h
abbrev BE := Int × Int × Int × Int × Int × Int × Int × Int
def Jx : CH := (CH.add 109 m7 (CH.add 60 cU CH.none))
theorem FT : aE Tryz.prog Jx := (CH.aj rB (CH.aj cY CH.aC))
def dL (a0 a1 a2 a3 a4 a5 a6 a7 : Int) : Option (BE) :=
 (Option.bind (ak a0 a1 a2 a3 a4 a5 a6 a7) fun r1 => (cond r1 (Option.bind (fe a0 a1 a2 a3 a4 a5 a6 a7) fun r2 => (some (r2.1, r2.2.1, r2.2.2.1, r2.2.2.2.1, r2.2.2.2.2.1, r2.2.2.2.2.2.1, r2.2.2.2.2.2.2.1, r2.2.2.2.2.2.2.2))) (some (a0, a1, a2, a3, a4, a5, a6, a7))))
def pw : FD where
 X := BE
 k := 0
 pre := []
 F := fun s => []
 M := .agg (rl (.int .u64) 8 [])
 B := []
 toL := fun x => [.I x.1, .I x.2.1, .I x.2.2.1, .I x.2.2.2.1, .I x.s4.1, .I x.s4.2.1, .I x.s4.2.2.1, .I x.s4.2.2.2]
 ofL := fun ls => match ls with
  | [.I x0, .I x1, .I x2, .I x3, .I x4, .I x5, .I x6, .I x7] => some (x0, x1, x2, x3, x4, x5, x6, x7)
  | _ => none
 au := fun ls x h => by
  split at h
  ·cases h; rfl
  ·cases h
theorem H8 (a0 a1 a2 a3 a4 a5 a6 a7 : Int) (x : BE) (h : dL a0 a1 a2 a3 a4 a5 a6 a7 = some x) : aX Tryz.prog 84 0 [.agg (v8 a0 a1 a2 a3 a4 a5 a6 a7 [])] [] pw x :=
 FD.semA pw FT Tryz.func84 (fuel := 60) (by kernel_rfl) (by kernel_rfl)
  (by kernel_rfl) (Eq.trans (by kernel_rfl) h)
def tD : HK where
 call := fun args σ k => match args with
  | [.agg [.int .u64 a0, .int .u64 a1, .int .u64 a2, .int .u64 a3, .int .u64 a4, .int .u64 a5, .int .u64 a6, .int .u64 a7]] => Option.bind (dL a0 a1 a2 a3 a4 a5 a6 a7) fun y => az σ 0 (pw.val y) (pw.aN y) k
  | _ => none
 nat := fun args σ k => by
  repeat' split
  all_goals simp only [aw, Option.bind_assoc, Option.bind_none, az, Option.bind_some]
 pure := true
 pok := fun _ args σ r σ' h => by
  split at h
  ·exact bm h (fun y => rfl) (fun y f => rfl)
  ·cases h
theorem Ap : aT Tryz.prog 84 tD := by
 intro args σ r σ' h
 simp only [tD] at h
 split at h
 ·rename_i a0 a1 a2 a3 a4 a5 a6 a7
  obtain ⟨y, hy, h⟩ := bE_ h
  exact lifted (xs := []) (ls := []) (cargs := [.agg (v8 a0 a1 a2 a3 a4 a5 a6 a7 [])]) (bt.of trivial) rfl (H8 a0 a1 a2 a3 a4 a5 a6 a7 y hy) rfl rfl rfl rfl h
 ·cases h
abbrev jq := LA_ × Nat × LA_ × Nat × LA_ × Nat × LA_ × Nat × LA_ × Nat × Nat × Int × Int
abbrev jr := LA_ × Nat × LA_ × Nat × LA_ × Nat × LA_ × Nat × LA_ × Nat × Nat
abbrev DN := (I8 Bool)
def At : CH := (CH.add 109 m7 (CH.add 85 oD (CH.add 84 tD (CH.add 60 cU (CH.add 86 H3 CH.none)))))
def pt : CH := wB Tryz.prog jM [87] 60 At 2
theorem FM : aE Tryz.prog At := (CH.aj rB (CH.aj A8 (CH.aj Ap (CH.aj cY (CH.aj (J7 Tryz.func86 (by kernel_rfl) (by kernel_rfl) (by kernel_rfl) (by kernel_rfl)) CH.aC)))))
theorem pP : aE Tryz.prog pt := jn aL mixed bE FM 2
def gB {R : Type} (cc : jq) (v : LA_ × Int × Int) (kn : (LA_ × Int × Int) → Option R) (ke : ((Unit) ⊕ (LA_ × Int)) → Option R) : Option R :=
 (cond (decide (v.2.2 < 8)) (ag (decide (0 ≤ cc.2.2.2.2.2.2.2.2.2.2.2.1) && decide (cc.2.2.2.2.2.2.2.2.2.2.2.1 < ((8 : Nat) : Int))) (ag (an [.int .u64] cc.2.2.2.2.2.2.1 (0 + (Int.toNat cc.2.2.2.2.2.2.2.2.2.2.2.1 * 1))) (ag (decide (0 ≤ v.2.2) && decide (v.2.2 < ((8 : Nat) : Int))) (ag (an [.int .u64] cc.2.2.2.2.2.2.2.2.1 (0 + (Int.toNat v.2.2 * 1))) (Option.bind (gN (ac cc.2.2.2.2.2.2.1 ((0 + (Int.toNat cc.2.2.2.2.2.2.2.2.2.2.2.1 * 1)) + 0)) (ac cc.2.2.2.2.2.2.2.2.1 ((0 + (Int.toNat v.2.2 * 1)) + 0))) fun r3 => (Option.bind (iO r3.2 v.2.1 0) fun r4 => (cond (decide ((IntKind.wrap .i64 (cc.2.2.2.2.2.2.2.2.2.2.2.1 + v.2.2)) ≥ 8)) (cond (r4.1 != 0) (ke (.inl ())) (cond ((IntKind.wrap .u64 (r3.1 + r4.2)) != 0) (ke (.inl ())) (kn (v.1, 0, (IntKind.wrap .i64 (v.2.2 + 1)))))) (ag (decide (0 ≤ (IntKind.wrap .i64 (cc.2.2.2.2.2.2.2.2.2.2.2.1 + v.2.2))) && decide ((IntKind.wrap .i64 (cc.2.2.2.2.2.2.2.2.2.2.2.1 + v.2.2)) < ((8 : Nat) : Int))) (ag (an [.int .u64] v.1 (0 + (Int.toNat (IntKind.wrap .i64 (cc.2.2.2.2.2.2.2.2.2.2.2.1 + v.2.2)) * 1))) (Option.bind (iO (ac v.1 ((0 + (Int.toNat (IntKind.wrap .i64 (cc.2.2.2.2.2.2.2.2.2.2.2.1 + v.2.2)) * 1)) + 0)) r4.1 0) fun r5 => (ag (decide (0 ≤ (IntKind.wrap .i64 (cc.2.2.2.2.2.2.2.2.2.2.2.1 + v.2.2))) && decide ((IntKind.wrap .i64 (cc.2.2.2.2.2.2.2.2.2.2.2.1 + v.2.2)) < ((8 : Nat) : Int))) (ag (decide ((0 + (Int.toNat (IntKind.wrap .i64 (cc.2.2.2.2.2.2.2.2.2.2.2.1 + v.2.2)) * 1)) + 1 ≤ List.length v.1)) (kn ((spliced v.1 (0 + (Int.toNat (IntKind.wrap .i64 (cc.2.2.2.2.2.2.2.2.2.2.2.1 + v.2.2)) * 1)) [.int .u64 r5.1]), (IntKind.wrap .u64 ((IntKind.wrap .u64 (r3.1 + r4.2)) + r5.2)), (IntKind.wrap .i64 (v.2.2 + 1)))))))))))))))) (ke (.inr (v.1, v.2.1))))
def rC (cc : jq) (v : LA_ × Int × Int) : Option ((LA_ × Int × Int) ⊕ ((Unit) ⊕ (LA_ × Int))) := gB cc v (fun v => some (Sum.inl v)) fun e => some (Sum.inr e)
def Au (cc : jq) (v : LA_ × Int × Int) : Option ((Unit) ⊕ (LA_ × Int)) := dA (rC cc) v
def FN (cc : jq) (v : LA_ × Int × Int) : List ai := [.I cc.s8.2.2.2.1, .I v.2.1, .I cc.s8.s4, .I v.2.2, .C cc.1, .N cc.2.1, .C cc.2.2.1, .N cc.2.2.2.1, .C cc.s4.1, .N cc.s4.2.1, .C cc.s4.2.2.1, .N cc.s4.2.2.2.1, .C cc.s8.1, .N cc.s8.2.1, .C v.1, .N cc.s8.2.2.1]
def vI (ls : List ai) : Option ((jq) × (LA_ × Int × Int)) := match ls with
 | [.I x0, .I x1, .I x2, .I x3, .C x4, .N x5, .C x6, .N x7, .C x8, .N x9, .C x10, .N x11, .C x12, .N x13, .C x14, .N x15] => some ((x4, x5, x6, x7, x8, x9, x10, x11, x12, x13, x15, x0, x2), (x14, x1, x3))
 | _ => none
def vJ (e : (Unit) ⊕ (LA_ × Int)) : am := ((Sum.elim (fun e => .pan (.iface 133 (.agg []))) (fun e => .exit 2)) e)
def vK (cc : jq) (e : (Unit) ⊕ (LA_ × Int)) : List ai := ((Sum.elim (fun e => [.C cc.s4.1, .N cc.s4.2.1]) (fun e => [.I e.2, .I cc.s8.s4, .C cc.1, .N cc.2.1, .C cc.2.2.1, .N cc.2.2.2.1, .C cc.s4.1, .N cc.s4.2.1, .C cc.s4.2.2.1, .N cc.s4.2.2.2.1, .C cc.s8.1, .N cc.s8.2.1, .C e.1, .N cc.s8.2.2.1])) e)
def js (cc : jq) (e : (Unit) ⊕ (LA_ × Int)) : List ai := ((Sum.elim (fun e => [.C cc.s4.1, .N cc.s4.2.1]) (fun e => [.I cc.s8.s4, .C cc.1, .N cc.2.1, .C cc.2.2.1, .N cc.2.2.2.1, .C cc.s4.1, .N cc.s4.2.1, .C cc.s4.2.2.1, .N cc.s4.2.2.2.1, .C cc.s8.1, .N cc.s8.2.1, .N cc.s8.2.2.1])) e)
def oO (o : am) (ls : List ai) : Option (((Unit) ⊕ (LA_ × Int)) × List ai) := match o with
 | .pan (.iface 133 (.agg [])) => (match ls with
  | [.C x0, .N x1] => some ((.inl ()), [.C x0, .N x1])
  | _ => none)
 | .exit 2 => (match ls with
  | [.I x0, .I x1, .C x2, .N x3, .C x4, .N x5, .C x6, .N x7, .C x8, .N x9, .C x10, .N x11, .C x12, .N x13] => some ((.inr (x12, x0)), [.I x1, .C x2, .N x3, .C x4, .N x5, .C x6, .N x7, .C x8, .N x9, .C x10, .N x11, .N x13])
  | _ => none)
 | _ => none
theorem BA : ∀ o ls e cl cc, oO o ls = some (e, cl) → cl = js cc e → ls = vK cc e ∧ vJ e = o ∧ o ≠ .normal ∧ ∀ v, o = .pan v → sc 0 v = true := by
 intro o ls e cl cc h hc
 unfold oO at h
 split at h
 ·split at h
  ·cases h
   simp only [js, Sum.elim_inl, Sum.elim_inr, List.cons.injEq, ai.I.injEq, ai.N.injEq, ai.C.injEq, and_true] at hc
   obtain ⟨rfl, rfl⟩ := hc
   exact ⟨rfl, rfl, by simp, by intro v hv; cases hv <;> rfl⟩
  ·cases h
 ·split at h
  ·cases h
   simp only [js, Sum.elim_inl, Sum.elim_inr, List.cons.injEq, ai.I.injEq, ai.N.injEq, ai.C.injEq, and_true] at hc
   obtain ⟨rfl, rfl, rfl, rfl, rfl, rfl, rfl, rfl, rfl, rfl, rfl, rfl⟩ := hc
   exact ⟨rfl, rfl, by simp, by intro v hv; cases hv <;> rfl⟩
  ·cases h
 ·cases h
def GR (o : am) : ExS := match o with
 | .pan (.iface 133 (.agg [])) => ⟨2, (none :: none :: none :: none :: some (.ptr 0 0) :: some (.ptr 1 0) :: (rl none 89 [])), [(0, .vec 8 true), (1, .cells [.qS false] true none)], fun s => [nameAt s 4 [], nameAt s 5 []], [], [(83, [4, 5])]⟩
 | .exit 2 => ⟨7, (none :: none :: some (.ptr 0 0) :: some (.ptr 1 0) :: some (.ptr 2 0) :: some (.ptr 3 0) :: some (.ptr 4 0) :: some (.ptr 5 0) :: some (.ptr 6 0) :: none :: some (.int .u64) :: (rl none 11 (some (.int .i64) :: (rl none 72 [])))), [(0, .vec 8 true), (1, .vec 8 true), (2, .vec 8 true), (3, .cells [.qS false] true none), (4, .vec 8 true), (5, .vec 8 true), (6, .vec 8 true)], fun s => [nameAt s 2 [], nameAt s 3 [], nameAt s 4 [], nameAt s 5 [], nameAt s 6 [], nameAt s 7 [], nameAt s 8 []], [], [(83, [4, 5])]⟩
 | _ => ⟨0, [], [], fun _ => [], [], []⟩
theorem FO {R : Type} (cc : jq) (v : LA_ × Int × Int) (kn : (LA_ × Int × Int) → Option R) (ke : ((Unit) ⊕ (LA_ × Int)) → Option R) : gB cc v kn ke = (gB cc v (fun v => some (Sum.inl v)) fun e => some (Sum.inr e)).bind (Sum.elim kn ke) := by
 simp only [gB, bF, ax, Option.bind_assoc, bY, bB, Option.bind_some, Option.bind_none, Sum.elim_inl, Sum.elim_inr]
def rD : LD where
 CC := jq
 V := LA_ × Int × Int
 E := (Unit) ⊕ (LA_ × Int)
 n := 0
 K := 7
 M := (none :: none :: some (.ptr 0 0) :: some (.ptr 1 0) :: some (.ptr 2 0) :: some (.ptr 3 0) :: some (.ptr 4 0) :: some (.ptr 5 0) :: some (.ptr 6 0) :: some (.int .i64) :: some (.int .u64) :: (rl none 11 (some (.int .i64) :: (rl none 6 (some (.int .i64) :: (rl none 65 []))))))
 B := [(0, .vec 8 true), (1, .vec 8 true), (2, .vec 8 true), (3, .cells [.qS false] true none), (4, .vec 8 true), (5, .vec 8 true), (6, .vec 8 true)]
 D := [(83, [4, 5])]
 pre := []
 F := fun s => [nameAt s 2 [], nameAt s 3 [], nameAt s 4 [], nameAt s 5 [], nameAt s 6 [], nameAt s 7 [], nameAt s 8 []]
 toL := FN
 ofL := vI
 au := fun ls c v h => by
  unfold vI at h
  split at h
  ·cases h; rfl
  ·cases h
 cj := gB
 nat := FO
 sh := GR
 out := vJ
 toE := vK
 eV := js
 ofE := oO
 cO := BA
 post := fun cc e k => ((Sum.elim (fun e => k (.pan (.iface 133 (.agg []))) (aV 2 (none :: none :: none :: none :: some (.ptr 0 0) :: some (.ptr 1 0) :: (rl none 89 [])) [(0, .vec cc.s4.1 cc.s4.2.1 8 true), (1, .cells [.bool false] true none)] [(83, [4, 5])])) (fun e => k (.exit 2) (aV 7 (none :: none :: some (.ptr 0 0) :: some (.ptr 1 0) :: some (.ptr 2 0) :: some (.ptr 3 0) :: some (.ptr 4 0) :: some (.ptr 5 0) :: some (.ptr 6 0) :: none :: some (.int .u64 e.2) :: (rl none 11 (some (.int .i64 cc.s8.s4) :: (rl none 72 [])))) [(0, .vec cc.1 cc.2.1 8 true), (1, .vec cc.2.2.1 cc.2.2.2.1 8 true), (2, .vec cc.s4.1 cc.s4.2.1 8 true), (3, .cells [.bool false] true none), (4, .vec cc.s4.2.2.1 cc.s4.2.2.2.1 8 true), (5, .vec cc.s8.1 cc.s8.2.1 8 true), (6, .vec e.1 cc.s8.2.2.1 8 true)] [(83, [4, 5])]))) e)
 cd := fun cc e k => by rcases e with e | e <;> rfl
theorem vL : cG Tryz.prog 0 rD.la (aK Tryz.f63 1) :=
 LD.ok (ch := pt) (A := bu) aL pP mixed (fuel := 60) ⟨by kernel_rfl, fun e => by (rcases e with e | e <;> kernel_rfl), fun cc v => by kernel_rfl, aJ (l := []) (by kernel_rfl) trivial⟩
def io {R : Type} (cc : jr) (v : LA_ × Int) (kn : (LA_ × Int) → Option R) (ke : ((Unit) ⊕ (LA_)) → Option R) : Option R :=
 (cond (decide (v.2 < 8)) (ag (decide (0 ≤ v.2) && decide (v.2 < ((8 : Nat) : Int))) (ag (an [.int .u64] cc.2.2.2.2.2.2.1 (0 + (Int.toNat v.2 * 1))) (cond ((ac cc.2.2.2.2.2.2.1 ((0 + (Int.toNat v.2 * 1)) + 0)) == 0) (kn (v.1, (IntKind.wrap .i64 (v.2 + 1)))) (Option.bind (Au (cc.1, cc.2.1, cc.2.2.1, cc.2.2.2.1, cc.2.2.2.2.1, cc.2.2.2.2.2.1, cc.2.2.2.2.2.2.1, cc.2.2.2.2.2.2.2.1, cc.2.2.2.2.2.2.2.2.1, cc.2.2.2.2.2.2.2.2.2.1, cc.2.2.2.2.2.2.2.2.2.2, v.2, v.2) (v.1, 0, 0)) (Sum.elim (fun e6 => (ke (.inl ()))) (fun e6 => (cond (e6.2 != 0) (ke (.inl ())) (kn (e6.1, (IntKind.wrap .i64 (v.2 + 1))))))))))) (ke (.inr v.1)))
def tf (cc : jr) (v : LA_ × Int) : Option ((LA_ × Int) ⊕ ((Unit) ⊕ (LA_))) := io cc v (fun v => some (Sum.inl v)) fun e => some (Sum.inr e)
def vc (cc : jr) (v : LA_ × Int) : Option ((Unit) ⊕ (LA_)) := dA (tf cc) v
def GS (cc : jr) (v : LA_ × Int) : List ai := [.I v.2, .C cc.1, .N cc.2.1, .C cc.2.2.1, .N cc.2.2.2.1, .C cc.s4.1, .N cc.s4.2.1, .C cc.s4.2.2.1, .N cc.s4.2.2.2.1, .C cc.s8.1, .N cc.s8.2.1, .C v.1, .N cc.s8.2.2]
def xl (ls : List ai) : Option ((jr) × (LA_ × Int)) := match ls with
 | [.I x0, .C x1, .N x2, .C x3, .N x4, .C x5, .N x6, .C x7, .N x8, .C x9, .N x10, .C x11, .N x12] => some ((x1, x2, x3, x4, x5, x6, x7, x8, x9, x10, x12), (x11, x0))
 | _ => none
def xm (e : (Unit) ⊕ (LA_)) : am := ((Sum.elim (fun e => .pan (.iface 133 (.agg []))) (fun e => .exit 0)) e)
def xn (cc : jr) (e : (Unit) ⊕ (LA_)) : List ai := ((Sum.elim (fun e => [.C cc.s4.1, .N cc.s4.2.1]) (fun e => [.C cc.1, .N cc.2.1, .C cc.2.2.1, .N cc.2.2.2.1, .C cc.s4.1, .N cc.s4.2.1, .C e, .N cc.s8.2.2])) e)
def jR (cc : jr) (e : (Unit) ⊕ (LA_)) : List ai := ((Sum.elim (fun e => [.C cc.s4.1, .N cc.s4.2.1]) (fun e => [.C cc.1, .N cc.2.1, .C cc.2.2.1, .N cc.2.2.2.1, .C cc.s4.1, .N cc.s4.2.1, .N cc.s8.2.2])) e)
def pQ (o : am) (ls : List ai) : Option (((Unit) ⊕ (LA_)) × List ai) := match o with
 | .pan (.iface 133 (.agg [])) => (match ls with
  | [.C x0, .N x1] => some ((.inl ()), [.C x0, .N x1])
  | _ => none)
 | .exit 0 => (match ls with
  | [.C x0, .N x1, .C x2, .N x3, .C x4, .N x5, .C x6, .N x7] => some ((.inr x6), [.C x0, .N x1, .C x2, .N x3, .C x4, .N x5, .N x7])
  | _ => none)
 | _ => none
theorem C8 : ∀ o ls e cl cc, pQ o ls = some (e, cl) → cl = jR cc e → ls = xn cc e ∧ xm e = o ∧ o ≠ .normal ∧ ∀ v, o = .pan v → sc 0 v = true := by
 intro o ls e cl cc h hc
 unfold pQ at h
 split at h
 ·split at h
  ·cases h
   simp only [jR, Sum.elim_inl, Sum.elim_inr, List.cons.injEq, ai.N.injEq, ai.C.injEq, and_true] at hc
   obtain ⟨rfl, rfl⟩ := hc
   exact ⟨rfl, rfl, by simp, by intro v hv; cases hv <;> rfl⟩
  ·cases h
 ·split at h
  ·cases h
   simp only [jR, Sum.elim_inl, Sum.elim_inr, List.cons.injEq, ai.N.injEq, ai.C.injEq, and_true] at hc
   obtain ⟨rfl, rfl, rfl, rfl, rfl, rfl, rfl⟩ := hc
   exact ⟨rfl, rfl, by simp, by intro v hv; cases hv <;> rfl⟩
  ·cases h
 ·cases h
def H4 (o : am) : ExS := match o with
 | .pan (.iface 133 (.agg [])) => ⟨2, (none :: none :: none :: none :: some (.ptr 0 0) :: some (.ptr 1 0) :: (rl none 89 [])), [(0, .vec 8 true), (1, .cells [.qS false] true none)], fun s => [nameAt s 4 [], nameAt s 5 []], [], [(83, [4, 5])]⟩
 | .exit 0 => ⟨5, (none :: none :: some (.ptr 0 0) :: some (.ptr 1 0) :: some (.ptr 2 0) :: some (.ptr 3 0) :: none :: none :: some (.ptr 4 0) :: (rl none 86 [])), [(0, .vec 8 true), (1, .vec 8 true), (2, .vec 8 true), (3, .cells [.qS false] true none), (4, .vec 8 true)], fun s => [nameAt s 2 [], nameAt s 3 [], nameAt s 4 [], nameAt s 5 [], nameAt s 8 []], [], [(83, [4, 5])]⟩
 | _ => ⟨0, [], [], fun _ => [], [], []⟩
theorem GT {R : Type} (cc : jr) (v : LA_ × Int) (kn : (LA_ × Int) → Option R) (ke : ((Unit) ⊕ (LA_)) → Option R) : io cc v kn ke = (io cc v (fun v => some (Sum.inl v)) fun e => some (Sum.inr e)).bind (Sum.elim kn ke) := by
 simp only [io, bF, ax, Option.bind_assoc, bY, bB, Option.bind_some, Option.bind_none, Sum.elim_inl, Sum.elim_inr]
def Av : LD where
 CC := jr
 V := LA_ × Int
 E := (Unit) ⊕ (LA_)
 n := 0
 K := 7
 M := (none :: none :: some (.ptr 0 0) :: some (.ptr 1 0) :: some (.ptr 2 0) :: some (.ptr 3 0) :: some (.ptr 4 0) :: some (.ptr 5 0) :: some (.ptr 6 0) :: (rl none 13 (some (.int .i64) :: (rl none 72 []))))
 B := [(0, .vec 8 true), (1, .vec 8 true), (2, .vec 8 true), (3, .cells [.qS false] true none), (4, .vec 8 true), (5, .vec 8 true), (6, .vec 8 true)]
 D := [(83, [4, 5])]
 pre := []
 F := fun s => [nameAt s 2 [], nameAt s 3 [], nameAt s 4 [], nameAt s 5 [], nameAt s 6 [], nameAt s 7 [], nameAt s 8 []]
 toL := GS
 ofL := xl
 au := fun ls c v h => by
  unfold xl at h
  split at h
  ·cases h; rfl
  ·cases h
 cj := io
 nat := GT
 sh := H4
 out := xm
 toE := xn
 eV := jR
 ofE := pQ
 cO := C8
 post := fun cc e k => ((Sum.elim (fun e => k (.pan (.iface 133 (.agg []))) (aV 2 (none :: none :: none :: none :: some (.ptr 0 0) :: some (.ptr 1 0) :: (rl none 89 [])) [(0, .vec cc.s4.1 cc.s4.2.1 8 true), (1, .cells [.bool false] true none)] [(83, [4, 5])])) (fun e => k (.exit 0) (aV 5 (none :: none :: some (.ptr 0 0) :: some (.ptr 1 0) :: some (.ptr 2 0) :: some (.ptr 3 0) :: none :: none :: some (.ptr 4 0) :: (rl none 86 [])) [(0, .vec cc.1 cc.2.1 8 true), (1, .vec cc.2.2.1 cc.2.2.2.1 8 true), (2, .vec cc.s4.1 cc.s4.2.1 8 true), (3, .cells [.bool false] true none), (4, .vec e cc.s8.2.2 8 true)] [(83, [4, 5])]))) e)
 cd := fun cc e k => by rcases e with e | e <;> rfl
theorem GU : cG Tryz.prog 0 Av.la (aK Tryz.f63 0) :=
 LD.ok (ch := pt) (A := dW [(10, rD.la)]) aL pP mixed (fuel := 60) ⟨by kernel_rfl, fun e => by (rcases e with e | e <;> kernel_rfl), fun cc v => by kernel_rfl, aJ (l := [aK Tryz.f63 1]) (by kernel_rfl) ⟨bR (by kernel_rfl) vL, trivial⟩⟩
def rE (a0 a1 a2 a3 a4 a5 a6 a7 a8 a9 a10 a11 a12 a13 a14 a15 : Int) : Option (DN) :=
 (Option.bind (dL a0 a1 a2 a3 a4 a5 a6 a7) fun r1 => (Option.bind (dL a8 a9 a10 a11 a12 a13 a14 a15) fun r2 => (Option.bind (vc ((af a0 a1 a2 a3 a4 a5 a6 a7), 1, (af a8 a9 a10 a11 a12 a13 a14 a15), 1, (af 0 0 0 0 0 0 0 0), 1, (af r1.1 r1.2.1 r1.2.2.1 r1.2.2.2.1 r1.2.2.2.2.1 r1.2.2.2.2.2.1 r1.2.2.2.2.2.2.1 r1.2.2.2.2.2.2.2), 1, (af r2.1 r2.2.1 r2.2.2.1 r2.2.2.2.1 r2.2.2.2.2.1 r2.2.2.2.2.2.1 r2.2.2.2.2.2.2.1 r2.2.2.2.2.2.2.2), 1, 1) ((af 0 0 0 0 0 0 0 0), 0)) (Sum.elim (fun e3 => (ag (decide (0 + 8 ≤ List.length (af 0 0 0 0 0 0 0 0))) (ag (an di (spliced (af 0 0 0 0 0 0 0 0) 0 (af 0 0 0 0 0 0 0 0)) 0) (some ((ac (spliced (af 0 0 0 0 0 0 0 0) 0 (af 0 0 0 0 0 0 0 0)) 0), (ac (spliced (af 0 0 0 0 0 0 0 0) 0 (af 0 0 0 0 0 0 0 0)) 1), (ac (spliced (af 0 0 0 0 0 0 0 0) 0 (af 0 0 0 0 0 0 0 0)) 2), (ac (spliced (af 0 0 0 0 0 0 0 0) 0 (af 0 0 0 0 0 0 0 0)) 3), (ac (spliced (af 0 0 0 0 0 0 0 0) 0 (af 0 0 0 0 0 0 0 0)) 4), (ac (spliced (af 0 0 0 0 0 0 0 0) 0 (af 0 0 0 0 0 0 0 0)) 5), (ac (spliced (af 0 0 0 0 0 0 0 0) 0 (af 0 0 0 0 0 0 0 0)) 6), (ac (spliced (af 0 0 0 0 0 0 0 0) 0 (af 0 0 0 0 0 0 0 0)) 7), false))))) (fun e3 => (ag (an di e3 0) (ag (an di (af a0 a1 a2 a3 a4 a5 a6 a7) 0) (Option.bind (ak (ac (af a0 a1 a2 a3 a4 a5 a6 a7) 0) (ac (af a0 a1 a2 a3 a4 a5 a6 a7) 1) (ac (af a0 a1 a2 a3 a4 a5 a6 a7) 2) (ac (af a0 a1 a2 a3 a4 a5 a6 a7) 3) (ac (af a0 a1 a2 a3 a4 a5 a6 a7) 4) (ac (af a0 a1 a2 a3 a4 a5 a6 a7) 5) (ac (af a0 a1 a2 a3 a4 a5 a6 a7) 6) (ac (af a0 a1 a2 a3 a4 a5 a6 a7) 7)) fun r4 => (cond r4 (ag (an di (af a8 a9 a10 a11 a12 a13 a14 a15) 0) (Option.bind (ak (ac (af a8 a9 a10 a11 a12 a13 a14 a15) 0) (ac (af a8 a9 a10 a11 a12 a13 a14 a15) 1) (ac (af a8 a9 a10 a11 a12 a13 a14 a15) 2) (ac (af a8 a9 a10 a11 a12 a13 a14 a15) 3) (ac (af a8 a9 a10 a11 a12 a13 a14 a15) 4) (ac (af a8 a9 a10 a11 a12 a13 a14 a15) 5) (ac (af a8 a9 a10 a11 a12 a13 a14 a15) 6) (ac (af a8 a9 a10 a11 a12 a13 a14 a15) 7)) fun r5 => (cond r5 (cond (!((ac e3 0) == 0 && ((ac e3 1) == 0 && ((ac e3 2) == 0 && ((ac e3 3) == 0 && ((ac e3 4) == 0 && ((ac e3 5) == 0 && ((ac e3 6) == 0 && ((ac e3 7) == 0 && true))))))))) (Option.bind (ak (ac e3 0) (ac e3 1) (ac e3 2) (ac e3 3) (ac e3 4) (ac e3 5) (ac e3 6) (ac e3 7)) fun r6 => (cond r6 (ag (decide (0 + 8 ≤ List.length (af 0 0 0 0 0 0 0 0))) (ag (an di (spliced (af 0 0 0 0 0 0 0 0) 0 (af 0 0 0 0 0 0 0 0)) 0) (some ((ac (spliced (af 0 0 0 0 0 0 0 0) 0 (af 0 0 0 0 0 0 0 0)) 0), (ac (spliced (af 0 0 0 0 0 0 0 0) 0 (af 0 0 0 0 0 0 0 0)) 1), (ac (spliced (af 0 0 0 0 0 0 0 0) 0 (af 0 0 0 0 0 0 0 0)) 2), (ac (spliced (af 0 0 0 0 0 0 0 0) 0 (af 0 0 0 0 0 0 0 0)) 3), (ac (spliced (af 0 0 0 0 0 0 0 0) 0 (af 0 0 0 0 0 0 0 0)) 4), (ac (spliced (af 0 0 0 0 0 0 0 0) 0 (af 0 0 0 0 0 0 0 0)) 5), (ac (spliced (af 0 0 0 0 0 0 0 0) 0 (af 0 0 0 0 0 0 0 0)) 6), (ac (spliced (af 0 0 0 0 0 0 0 0) 0 (af 0 0 0 0 0 0 0 0)) 7), false)))) (ag (decide (0 + 8 ≤ List.length (af 0 0 0 0 0 0 0 0))) (ag (an di (spliced (af 0 0 0 0 0 0 0 0) 0 (af (ac e3 0) (ac e3 1) (ac e3 2) (ac e3 3) (ac e3 4) (ac e3 5) (ac e3 6) (ac e3 7))) 0) (some ((ac (spliced (af 0 0 0 0 0 0 0 0) 0 (af (ac e3 0) (ac e3 1) (ac e3 2) (ac e3 3) (ac e3 4) (ac e3 5) (ac e3 6) (ac e3 7))) 0), (ac (spliced (af 0 0 0 0 0 0 0 0) 0 (af (ac e3 0) (ac e3 1) (ac e3 2) (ac e3 3) (ac e3 4) (ac e3 5) (ac e3 6) (ac e3 7))) 1), (ac (spliced (af 0 0 0 0 0 0 0 0) 0 (af (ac e3 0) (ac e3 1) (ac e3 2) (ac e3 3) (ac e3 4) (ac e3 5) (ac e3 6) (ac e3 7))) 2), (ac (spliced (af 0 0 0 0 0 0 0 0) 0 (af (ac e3 0) (ac e3 1) (ac e3 2) (ac e3 3) (ac e3 4) (ac e3 5) (ac e3 6) (ac e3 7))) 3), (ac (spliced (af 0 0 0 0 0 0 0 0) 0 (af (ac e3 0) (ac e3 1) (ac e3 2) (ac e3 3) (ac e3 4) (ac e3 5) (ac e3 6) (ac e3 7))) 4), (ac (spliced (af 0 0 0 0 0 0 0 0) 0 (af (ac e3 0) (ac e3 1) (ac e3 2) (ac e3 3) (ac e3 4) (ac e3 5) (ac e3 6) (ac e3 7))) 5), (ac (spliced (af 0 0 0 0 0 0 0 0) 0 (af (ac e3 0) (ac e3 1) (ac e3 2) (ac e3 3) (ac e3 4) (ac e3 5) (ac e3 6) (ac e3 7))) 6), (ac (spliced (af 0 0 0 0 0 0 0 0) 0 (af (ac e3 0) (ac e3 1) (ac e3 2) (ac e3 3) (ac e3 4) (ac e3 5) (ac e3 6) (ac e3 7))) 7), true)))))) (ag (decide (0 + 8 ≤ List.length (af 0 0 0 0 0 0 0 0))) (ag (an di (spliced (af 0 0 0 0 0 0 0 0) 0 (af (ac e3 0) (ac e3 1) (ac e3 2) (ac e3 3) (ac e3 4) (ac e3 5) (ac e3 6) (ac e3 7))) 0) (some ((ac (spliced (af 0 0 0 0 0 0 0 0) 0 (af (ac e3 0) (ac e3 1) (ac e3 2) (ac e3 3) (ac e3 4) (ac e3 5) (ac e3 6) (ac e3 7))) 0), (ac (spliced (af 0 0 0 0 0 0 0 0) 0 (af (ac e3 0) (ac e3 1) (ac e3 2) (ac e3 3) (ac e3 4) (ac e3 5) (ac e3 6) (ac e3 7))) 1), (ac (spliced (af 0 0 0 0 0 0 0 0) 0 (af (ac e3 0) (ac e3 1) (ac e3 2) (ac e3 3) (ac e3 4) (ac e3 5) (ac e3 6) (ac e3 7))) 2), (ac (spliced (af 0 0 0 0 0 0 0 0) 0 (af (ac e3 0) (ac e3 1) (ac e3 2) (ac e3 3) (ac e3 4) (ac e3 5) (ac e3 6) (ac e3 7))) 3), (ac (spliced (af 0 0 0 0 0 0 0 0) 0 (af (ac e3 0) (ac e3 1) (ac e3 2) (ac e3 3) (ac e3 4) (ac e3 5) (ac e3 6) (ac e3 7))) 4), (ac (spliced (af 0 0 0 0 0 0 0 0) 0 (af (ac e3 0) (ac e3 1) (ac e3 2) (ac e3 3) (ac e3 4) (ac e3 5) (ac e3 6) (ac e3 7))) 5), (ac (spliced (af 0 0 0 0 0 0 0 0) 0 (af (ac e3 0) (ac e3 1) (ac e3 2) (ac e3 3) (ac e3 4) (ac e3 5) (ac e3 6) (ac e3 7))) 6), (ac (spliced (af 0 0 0 0 0 0 0 0) 0 (af (ac e3 0) (ac e3 1) (ac e3 2) (ac e3 3) (ac e3 4) (ac e3 5) (ac e3 6) (ac e3 7))) 7), true))))) (Option.bind (fe (ac e3 0) (ac e3 1) (ac e3 2) (ac e3 3) (ac e3 4) (ac e3 5) (ac e3 6) (ac e3 7)) fun r7 => (cond (!(r7.1 == 0 && (r7.2.1 == 0 && (r7.2.2.1 == 0 && (r7.2.2.2.1 == 0 && (r7.2.2.2.2.1 == 0 && (r7.2.2.2.2.2.1 == 0 && (r7.2.2.2.2.2.2.1 == 0 && (r7.2.2.2.2.2.2.2 == 0 && true))))))))) (Option.bind (ak r7.1 r7.2.1 r7.2.2.1 r7.2.2.2.1 r7.2.2.2.2.1 r7.2.2.2.2.2.1 r7.2.2.2.2.2.2.1 r7.2.2.2.2.2.2.2) fun r8 => (cond r8 (ag (decide (0 + 8 ≤ List.length (af 0 0 0 0 0 0 0 0))) (ag (an di (spliced (af 0 0 0 0 0 0 0 0) 0 (af r7.1 r7.2.1 r7.2.2.1 r7.2.2.2.1 r7.2.2.2.2.1 r7.2.2.2.2.2.1 r7.2.2.2.2.2.2.1 r7.2.2.2.2.2.2.2)) 0) (some ((ac (spliced (af 0 0 0 0 0 0 0 0) 0 (af r7.1 r7.2.1 r7.2.2.1 r7.2.2.2.1 r7.2.2.2.2.1 r7.2.2.2.2.2.1 r7.2.2.2.2.2.2.1 r7.2.2.2.2.2.2.2)) 0), (ac (spliced (af 0 0 0 0 0 0 0 0) 0 (af r7.1 r7.2.1 r7.2.2.1 r7.2.2.2.1 r7.2.2.2.2.1 r7.2.2.2.2.2.1 r7.2.2.2.2.2.2.1 r7.2.2.2.2.2.2.2)) 1), (ac (spliced (af 0 0 0 0 0 0 0 0) 0 (af r7.1 r7.2.1 r7.2.2.1 r7.2.2.2.1 r7.2.2.2.2.1 r7.2.2.2.2.2.1 r7.2.2.2.2.2.2.1 r7.2.2.2.2.2.2.2)) 2), (ac (spliced (af 0 0 0 0 0 0 0 0) 0 (af r7.1 r7.2.1 r7.2.2.1 r7.2.2.2.1 r7.2.2.2.2.1 r7.2.2.2.2.2.1 r7.2.2.2.2.2.2.1 r7.2.2.2.2.2.2.2)) 3), (ac (spliced (af 0 0 0 0 0 0 0 0) 0 (af r7.1 r7.2.1 r7.2.2.1 r7.2.2.2.1 r7.2.2.2.2.1 r7.2.2.2.2.2.1 r7.2.2.2.2.2.2.1 r7.2.2.2.2.2.2.2)) 4), (ac (spliced (af 0 0 0 0 0 0 0 0) 0 (af r7.1 r7.2.1 r7.2.2.1 r7.2.2.2.1 r7.2.2.2.2.1 r7.2.2.2.2.2.1 r7.2.2.2.2.2.2.1 r7.2.2.2.2.2.2.2)) 5), (ac (spliced (af 0 0 0 0 0 0 0 0) 0 (af r7.1 r7.2.1 r7.2.2.1 r7.2.2.2.1 r7.2.2.2.2.1 r7.2.2.2.2.2.1 r7.2.2.2.2.2.2.1 r7.2.2.2.2.2.2.2)) 6), (ac (spliced (af 0 0 0 0 0 0 0 0) 0 (af r7.1 r7.2.1 r7.2.2.1 r7.2.2.2.1 r7.2.2.2.2.1 r7.2.2.2.2.2.1 r7.2.2.2.2.2.2.1 r7.2.2.2.2.2.2.2)) 7), true)))) (ag (decide (0 + 8 ≤ List.length (af 0 0 0 0 0 0 0 0))) (ag (an di (spliced (af 0 0 0 0 0 0 0 0) 0 (af 0 0 0 0 0 0 0 0)) 0) (some ((ac (spliced (af 0 0 0 0 0 0 0 0) 0 (af 0 0 0 0 0 0 0 0)) 0), (ac (spliced (af 0 0 0 0 0 0 0 0) 0 (af 0 0 0 0 0 0 0 0)) 1), (ac (spliced (af 0 0 0 0 0 0 0 0) 0 (af 0 0 0 0 0 0 0 0)) 2), (ac (spliced (af 0 0 0 0 0 0 0 0) 0 (af 0 0 0 0 0 0 0 0)) 3), (ac (spliced (af 0 0 0 0 0 0 0 0) 0 (af 0 0 0 0 0 0 0 0)) 4), (ac (spliced (af 0 0 0 0 0 0 0 0) 0 (af 0 0 0 0 0 0 0 0)) 5), (ac (spliced (af 0 0 0 0 0 0 0 0) 0 (af 0 0 0 0 0 0 0 0)) 6), (ac (spliced (af 0 0 0 0 0 0 0 0) 0 (af 0 0 0 0 0 0 0 0)) 7), false)))))) (ag (decide (0 + 8 ≤ List.length (af 0 0 0 0 0 0 0 0))) (ag (an di (spliced (af 0 0 0 0 0 0 0 0) 0 (af r7.1 r7.2.1 r7.2.2.1 r7.2.2.2.1 r7.2.2.2.2.1 r7.2.2.2.2.2.1 r7.2.2.2.2.2.2.1 r7.2.2.2.2.2.2.2)) 0) (some ((ac (spliced (af 0 0 0 0 0 0 0 0) 0 (af r7.1 r7.2.1 r7.2.2.1 r7.2.2.2.1 r7.2.2.2.2.1 r7.2.2.2.2.2.1 r7.2.2.2.2.2.2.1 r7.2.2.2.2.2.2.2)) 0), (ac (spliced (af 0 0 0 0 0 0 0 0) 0 (af r7.1 r7.2.1 r7.2.2.1 r7.2.2.2.1 r7.2.2.2.2.1 r7.2.2.2.2.2.1 r7.2.2.2.2.2.2.1 r7.2.2.2.2.2.2.2)) 1), (ac (spliced (af 0 0 0 0 0 0 0 0) 0 (af r7.1 r7.2.1 r7.2.2.1 r7.2.2.2.1 r7.2.2.2.2.1 r7.2.2.2.2.2.1 r7.2.2.2.2.2.2.1 r7.2.2.2.2.2.2.2)) 2), (ac (spliced (af 0 0 0 0 0 0 0 0) 0 (af r7.1 r7.2.1 r7.2.2.1 r7.2.2.2.1 r7.2.2.2.2.1 r7.2.2.2.2.2.1 r7.2.2.2.2.2.2.1 r7.2.2.2.2.2.2.2)) 3), (ac (spliced (af 0 0 0 0 0 0 0 0) 0 (af r7.1 r7.2.1 r7.2.2.1 r7.2.2.2.1 r7.2.2.2.2.1 r7.2.2.2.2.2.1 r7.2.2.2.2.2.2.1 r7.2.2.2.2.2.2.2)) 4), (ac (spliced (af 0 0 0 0 0 0 0 0) 0 (af r7.1 r7.2.1 r7.2.2.1 r7.2.2.2.1 r7.2.2.2.2.1 r7.2.2.2.2.2.1 r7.2.2.2.2.2.2.1 r7.2.2.2.2.2.2.2)) 5), (ac (spliced (af 0 0 0 0 0 0 0 0) 0 (af r7.1 r7.2.1 r7.2.2.1 r7.2.2.2.1 r7.2.2.2.2.1 r7.2.2.2.2.2.1 r7.2.2.2.2.2.2.1 r7.2.2.2.2.2.2.2)) 6), (ac (spliced (af 0 0 0 0 0 0 0 0) 0 (af r7.1 r7.2.1 r7.2.2.1 r7.2.2.2.1 r7.2.2.2.2.1 r7.2.2.2.2.2.1 r7.2.2.2.2.2.2.1 r7.2.2.2.2.2.2.2)) 7), true))))))))) (ag (an di (af a8 a9 a10 a11 a12 a13 a14 a15) 0) (Option.bind (ak (ac (af a8 a9 a10 a11 a12 a13 a14 a15) 0) (ac (af a8 a9 a10 a11 a12 a13 a14 a15) 1) (ac (af a8 a9 a10 a11 a12 a13 a14 a15) 2) (ac (af a8 a9 a10 a11 a12 a13 a14 a15) 3) (ac (af a8 a9 a10 a11 a12 a13 a14 a15) 4) (ac (af a8 a9 a10 a11 a12 a13 a14 a15) 5) (ac (af a8 a9 a10 a11 a12 a13 a14 a15) 6) (ac (af a8 a9 a10 a11 a12 a13 a14 a15) 7)) fun r9 => (cond r9 (Option.bind (fe (ac e3 0) (ac e3 1) (ac e3 2) (ac e3 3) (ac e3 4) (ac e3 5) (ac e3 6) (ac e3 7)) fun r10 => (cond (!(r10.1 == 0 && (r10.2.1 == 0 && (r10.2.2.1 == 0 && (r10.2.2.2.1 == 0 && (r10.2.2.2.2.1 == 0 && (r10.2.2.2.2.2.1 == 0 && (r10.2.2.2.2.2.2.1 == 0 && (r10.2.2.2.2.2.2.2 == 0 && true))))))))) (Option.bind (ak r10.1 r10.2.1 r10.2.2.1 r10.2.2.2.1 r10.2.2.2.2.1 r10.2.2.2.2.2.1 r10.2.2.2.2.2.2.1 r10.2.2.2.2.2.2.2) fun r11 => (cond r11 (ag (decide (0 + 8 ≤ List.length (af 0 0 0 0 0 0 0 0))) (ag (an di (spliced (af 0 0 0 0 0 0 0 0) 0 (af r10.1 r10.2.1 r10.2.2.1 r10.2.2.2.1 r10.2.2.2.2.1 r10.2.2.2.2.2.1 r10.2.2.2.2.2.2.1 r10.2.2.2.2.2.2.2)) 0) (some ((ac (spliced (af 0 0 0 0 0 0 0 0) 0 (af r10.1 r10.2.1 r10.2.2.1 r10.2.2.2.1 r10.2.2.2.2.1 r10.2.2.2.2.2.1 r10.2.2.2.2.2.2.1 r10.2.2.2.2.2.2.2)) 0), (ac (spliced (af 0 0 0 0 0 0 0 0) 0 (af r10.1 r10.2.1 r10.2.2.1 r10.2.2.2.1 r10.2.2.2.2.1 r10.2.2.2.2.2.1 r10.2.2.2.2.2.2.1 r10.2.2.2.2.2.2.2)) 1), (ac (spliced (af 0 0 0 0 0 0 0 0) 0 (af r10.1 r10.2.1 r10.2.2.1 r10.2.2.2.1 r10.2.2.2.2.1 r10.2.2.2.2.2.1 r10.2.2.2.2.2.2.1 r10.2.2.2.2.2.2.2)) 2), (ac (spliced (af 0 0 0 0 0 0 0 0) 0 (af r10.1 r10.2.1 r10.2.2.1 r10.2.2.2.1 r10.2.2.2.2.1 r10.2.2.2.2.2.1 r10.2.2.2.2.2.2.1 r10.2.2.2.2.2.2.2)) 3), (ac (spliced (af 0 0 0 0 0 0 0 0) 0 (af r10.1 r10.2.1 r10.2.2.1 r10.2.2.2.1 r10.2.2.2.2.1 r10.2.2.2.2.2.1 r10.2.2.2.2.2.2.1 r10.2.2.2.2.2.2.2)) 4), (ac (spliced (af 0 0 0 0 0 0 0 0) 0 (af r10.1 r10.2.1 r10.2.2.1 r10.2.2.2.1 r10.2.2.2.2.1 r10.2.2.2.2.2.1 r10.2.2.2.2.2.2.1 r10.2.2.2.2.2.2.2)) 5), (ac (spliced (af 0 0 0 0 0 0 0 0) 0 (af r10.1 r10.2.1 r10.2.2.1 r10.2.2.2.1 r10.2.2.2.2.1 r10.2.2.2.2.2.1 r10.2.2.2.2.2.2.1 r10.2.2.2.2.2.2.2)) 6), (ac (spliced (af 0 0 0 0 0 0 0 0) 0 (af r10.1 r10.2.1 r10.2.2.1 r10.2.2.2.1 r10.2.2.2.2.1 r10.2.2.2.2.2.1 r10.2.2.2.2.2.2.1 r10.2.2.2.2.2.2.2)) 7), true)))) (ag (decide (0 + 8 ≤ List.length (af 0 0 0 0 0 0 0 0))) (ag (an di (spliced (af 0 0 0 0 0 0 0 0) 0 (af 0 0 0 0 0 0 0 0)) 0) (some ((ac (spliced (af 0 0 0 0 0 0 0 0) 0 (af 0 0 0 0 0 0 0 0)) 0), (ac (spliced (af 0 0 0 0 0 0 0 0) 0 (af 0 0 0 0 0 0 0 0)) 1), (ac (spliced (af 0 0 0 0 0 0 0 0) 0 (af 0 0 0 0 0 0 0 0)) 2), (ac (spliced (af 0 0 0 0 0 0 0 0) 0 (af 0 0 0 0 0 0 0 0)) 3), (ac (spliced (af 0 0 0 0 0 0 0 0) 0 (af 0 0 0 0 0 0 0 0)) 4), (ac (spliced (af 0 0 0 0 0 0 0 0) 0 (af 0 0 0 0 0 0 0 0)) 5), (ac (spliced (af 0 0 0 0 0 0 0 0) 0 (af 0 0 0 0 0 0 0 0)) 6), (ac (spliced (af 0 0 0 0 0 0 0 0) 0 (af 0 0 0 0 0 0 0 0)) 7), false)))))) (ag (decide (0 + 8 ≤ List.length (af 0 0 0 0 0 0 0 0))) (ag (an di (spliced (af 0 0 0 0 0 0 0 0) 0 (af r10.1 r10.2.1 r10.2.2.1 r10.2.2.2.1 r10.2.2.2.2.1 r10.2.2.2.2.2.1 r10.2.2.2.2.2.2.1 r10.2.2.2.2.2.2.2)) 0) (some ((ac (spliced (af 0 0 0 0 0 0 0 0) 0 (af r10.1 r10.2.1 r10.2.2.1 r10.2.2.2.1 r10.2.2.2.2.1 r10.2.2.2.2.2.1 r10.2.2.2.2.2.2.1 r10.2.2.2.2.2.2.2)) 0), (ac (spliced (af 0 0 0 0 0 0 0 0) 0 (af r10.1 r10.2.1 r10.2.2.1 r10.2.2.2.1 r10.2.2.2.2.1 r10.2.2.2.2.2.1 r10.2.2.2.2.2.2.1 r10.2.2.2.2.2.2.2)) 1), (ac (spliced (af 0 0 0 0 0 0 0 0) 0 (af r10.1 r10.2.1 r10.2.2.1 r10.2.2.2.1 r10.2.2.2.2.1 r10.2.2.2.2.2.1 r10.2.2.2.2.2.2.1 r10.2.2.2.2.2.2.2)) 2), (ac (spliced (af 0 0 0 0 0 0 0 0) 0 (af r10.1 r10.2.1 r10.2.2.1 r10.2.2.2.1 r10.2.2.2.2.1 r10.2.2.2.2.2.1 r10.2.2.2.2.2.2.1 r10.2.2.2.2.2.2.2)) 3), (ac (spliced (af 0 0 0 0 0 0 0 0) 0 (af r10.1 r10.2.1 r10.2.2.1 r10.2.2.2.1 r10.2.2.2.2.1 r10.2.2.2.2.2.1 r10.2.2.2.2.2.2.1 r10.2.2.2.2.2.2.2)) 4), (ac (spliced (af 0 0 0 0 0 0 0 0) 0 (af r10.1 r10.2.1 r10.2.2.1 r10.2.2.2.1 r10.2.2.2.2.1 r10.2.2.2.2.2.1 r10.2.2.2.2.2.2.1 r10.2.2.2.2.2.2.2)) 5), (ac (spliced (af 0 0 0 0 0 0 0 0) 0 (af r10.1 r10.2.1 r10.2.2.1 r10.2.2.2.1 r10.2.2.2.2.1 r10.2.2.2.2.2.1 r10.2.2.2.2.2.2.1 r10.2.2.2.2.2.2.2)) 6), (ac (spliced (af 0 0 0 0 0 0 0 0) 0 (af r10.1 r10.2.1 r10.2.2.1 r10.2.2.2.1 r10.2.2.2.2.1 r10.2.2.2.2.2.1 r10.2.2.2.2.2.2.1 r10.2.2.2.2.2.2.2)) 7), true)))))) (cond (!((ac e3 0) == 0 && ((ac e3 1) == 0 && ((ac e3 2) == 0 && ((ac e3 3) == 0 && ((ac e3 4) == 0 && ((ac e3 5) == 0 && ((ac e3 6) == 0 && ((ac e3 7) == 0 && true))))))))) (Option.bind (ak (ac e3 0) (ac e3 1) (ac e3 2) (ac e3 3) (ac e3 4) (ac e3 5) (ac e3 6) (ac e3 7)) fun r12 => (cond r12 (ag (decide (0 + 8 ≤ List.length (af 0 0 0 0 0 0 0 0))) (ag (an di (spliced (af 0 0 0 0 0 0 0 0) 0 (af 0 0 0 0 0 0 0 0)) 0) (some ((ac (spliced (af 0 0 0 0 0 0 0 0) 0 (af 0 0 0 0 0 0 0 0)) 0), (ac (spliced (af 0 0 0 0 0 0 0 0) 0 (af 0 0 0 0 0 0 0 0)) 1), (ac (spliced (af 0 0 0 0 0 0 0 0) 0 (af 0 0 0 0 0 0 0 0)) 2), (ac (spliced (af 0 0 0 0 0 0 0 0) 0 (af 0 0 0 0 0 0 0 0)) 3), (ac (spliced (af 0 0 0 0 0 0 0 0) 0 (af 0 0 0 0 0 0 0 0)) 4), (ac (spliced (af 0 0 0 0 0 0 0 0) 0 (af 0 0 0 0 0 0 0 0)) 5), (ac (spliced (af 0 0 0 0 0 0 0 0) 0 (af 0 0 0 0 0 0 0 0)) 6), (ac (spliced (af 0 0 0 0 0 0 0 0) 0 (af 0 0 0 0 0 0 0 0)) 7), false)))) (ag (decide (0 + 8 ≤ List.length (af 0 0 0 0 0 0 0 0))) (ag (an di (spliced (af 0 0 0 0 0 0 0 0) 0 (af (ac e3 0) (ac e3 1) (ac e3 2) (ac e3 3) (ac e3 4) (ac e3 5) (ac e3 6) (ac e3 7))) 0) (some ((ac (spliced (af 0 0 0 0 0 0 0 0) 0 (af (ac e3 0) (ac e3 1) (ac e3 2) (ac e3 3) (ac e3 4) (ac e3 5) (ac e3 6) (ac e3 7))) 0), (ac (spliced (af 0 0 0 0 0 0 0 0) 0 (af (ac e3 0) (ac e3 1) (ac e3 2) (ac e3 3) (ac e3 4) (ac e3 5) (ac e3 6) (ac e3 7))) 1), (ac (spliced (af 0 0 0 0 0 0 0 0) 0 (af (ac e3 0) (ac e3 1) (ac e3 2) (ac e3 3) (ac e3 4) (ac e3 5) (ac e3 6) (ac e3 7))) 2), (ac (spliced (af 0 0 0 0 0 0 0 0) 0 (af (ac e3 0) (ac e3 1) (ac e3 2) (ac e3 3) (ac e3 4) (ac e3 5) (ac e3 6) (ac e3 7))) 3), (ac (spliced (af 0 0 0 0 0 0 0 0) 0 (af (ac e3 0) (ac e3 1) (ac e3 2) (ac e3 3) (ac e3 4) (ac e3 5) (ac e3 6) (ac e3 7))) 4), (ac (spliced (af 0 0 0 0 0 0 0 0) 0 (af (ac e3 0) (ac e3 1) (ac e3 2) (ac e3 3) (ac e3 4) (ac e3 5) (ac e3 6) (ac e3 7))) 5), (ac (spliced (af 0 0 0 0 0 0 0 0) 0 (af (ac e3 0) (ac e3 1) (ac e3 2) (ac e3 3) (ac e3 4) (ac e3 5) (ac e3 6) (ac e3 7))) 6), (ac (spliced (af 0 0 0 0 0 0 0 0) 0 (af (ac e3 0) (ac e3 1) (ac e3 2) (ac e3 3) (ac e3 4) (ac e3 5) (ac e3 6) (ac e3 7))) 7), true)))))) (ag (decide (0 + 8 ≤ List.length (af 0 0 0 0 0 0 0 0))) (ag (an di (spliced (af 0 0 0 0 0 0 0 0) 0 (af (ac e3 0) (ac e3 1) (ac e3 2) (ac e3 3) (ac e3 4) (ac e3 5) (ac e3 6) (ac e3 7))) 0) (some ((ac (spliced (af 0 0 0 0 0 0 0 0) 0 (af (ac e3 0) (ac e3 1) (ac e3 2) (ac e3 3) (ac e3 4) (ac e3 5) (ac e3 6) (ac e3 7))) 0), (ac (spliced (af 0 0 0 0 0 0 0 0) 0 (af (ac e3 0) (ac e3 1) (ac e3 2) (ac e3 3) (ac e3 4) (ac e3 5) (ac e3 6) (ac e3 7))) 1), (ac (spliced (af 0 0 0 0 0 0 0 0) 0 (af (ac e3 0) (ac e3 1) (ac e3 2) (ac e3 3) (ac e3 4) (ac e3 5) (ac e3 6) (ac e3 7))) 2), (ac (spliced (af 0 0 0 0 0 0 0 0) 0 (af (ac e3 0) (ac e3 1) (ac e3 2) (ac e3 3) (ac e3 4) (ac e3 5) (ac e3 6) (ac e3 7))) 3), (ac (spliced (af 0 0 0 0 0 0 0 0) 0 (af (ac e3 0) (ac e3 1) (ac e3 2) (ac e3 3) (ac e3 4) (ac e3 5) (ac e3 6) (ac e3 7))) 4), (ac (spliced (af 0 0 0 0 0 0 0 0) 0 (af (ac e3 0) (ac e3 1) (ac e3 2) (ac e3 3) (ac e3 4) (ac e3 5) (ac e3 6) (ac e3 7))) 5), (ac (spliced (af 0 0 0 0 0 0 0 0) 0 (af (ac e3 0) (ac e3 1) (ac e3 2) (ac e3 3) (ac e3 4) (ac e3 5) (ac e3 6) (ac e3 7))) 6), (ac (spliced (af 0 0 0 0 0 0 0 0) 0 (af (ac e3 0) (ac e3 1) (ac e3 2) (ac e3 3) (ac e3 4) (ac e3 5) (ac e3 6) (ac e3 7))) 7), true)))))))))))))))))
def rF : FD where
 X := DN
 k := 0
 pre := []
 F := fun s => []
 M := .tup [.agg (rl (.int .u64) 8 []), .bool]
 B := []
 toL := fun x => [.I x.1, .I x.2.1, .I x.2.2.1, .I x.2.2.2.1, .I x.s4.1, .I x.s4.2.1, .I x.s4.2.2.1, .I x.s4.2.2.2.1, .B x.s8]
 ofL := fun ls => match ls with
  | [.I x0, .I x1, .I x2, .I x3, .I x4, .I x5, .I x6, .I x7, .B x8] => some (x0, x1, x2, x3, x4, x5, x6, x7, x8)
  | _ => none
 au := fun ls x h => by
  split at h
  ·cases h; rfl
  ·cases h
theorem Js : yt Tryz.prog 83 Tryz.f83 0 (NZ (Oa (bq Tryz.f83))) (I4 (bq Tryz.f83) 0) (I4 (bq Tryz.f83) 1) (QA (bq Tryz.f83)) 3 2 :=
 ⟨Tryz.func83, ⟨_, Tryz.func83, bE 83 _ Tryz.func83, by kernel_rfl⟩, by kernel_rfl, by kernel_rfl, by kernel_rfl, by kernel_rfl, by kernel_rfl, by kernel_rfl, by kernel_rfl, by kernel_rfl, by kernel_rfl, (by decide)⟩
theorem Jt (a0 a1 a2 a3 a4 a5 a6 a7 a8 a9 a10 a11 a12 a13 a14 a15 : Int) (x : DN) (h : rE a0 a1 a2 a3 a4 a5 a6 a7 a8 a9 a10 a11 a12 a13 a14 a15 = some x) : aX Tryz.prog 63 0 [.agg (af a0 a1 a2 a3 a4 a5 a6 a7), .agg (af a8 a9 a10 a11 a12 a13 a14 a15)] [] rF x :=
 FD.TB (ch := pt) (A := dW [(10, rD.la), (5, Av.la)]) (fn := Tryz.f63) (c := bq Tryz.f63) (fuel := 60) aL pP mixed bE rF Tryz.func63 (by kernel_rfl) (aJ (l := [aK Tryz.f63 0, aK Tryz.f63 1]) (by kernel_rfl) ⟨bR (by kernel_rfl) GU, bR (by kernel_rfl) vL, trivial⟩)
  (by kernel_rfl) Js (by kernel_rfl) (Eq.trans (by kernel_rfl) h)
def BB : HK where
 call := fun args σ k => match args with
  | [.agg [.int .u64 a0, .int .u64 a1, .int .u64 a2, .int .u64 a3, .int .u64 a4, .int .u64 a5, .int .u64 a6, .int .u64 a7], .agg [.int .u64 a8, .int .u64 a9, .int .u64 a10, .int .u64 a11, .int .u64 a12, .int .u64 a13, .int .u64 a14, .int .u64 a15]] => Option.bind (rE a0 a1 a2 a3 a4 a5 a6 a7 a8 a9 a10 a11 a12 a13 a14 a15) fun y => az σ 0 (rF.val y) (rF.aN y) k
  | _ => none
 nat := fun args σ k => by
  repeat' split
  all_goals simp only [aw, Option.bind_assoc, Option.bind_none, az, Option.bind_some]
 pure := true
 pok := fun _ args σ r σ' h => by
  split at h
  ·exact bm h (fun y => rfl) (fun y f => rfl)
  ·cases h
theorem KP : aT Tryz.prog 63 BB := by
 intro args σ r σ' h
 simp only [BB] at h
 split at h
 ·rename_i a0 a1 a2 a3 a4 a5 a6 a7 a8 a9 a10 a11 a12 a13 a14 a15
  obtain ⟨y, hy, h⟩ := bE_ h
  exact lifted (xs := []) (ls := []) (cargs := [.agg (af a0 a1 a2 a3 a4 a5 a6 a7), .agg (af a8 a9 a10 a11 a12 a13 a14 a15)]) (bt.of trivial) rfl (Jt a0 a1 a2 a3 a4 a5 a6 a7 a8 a9 a10 a11 a12 a13 a14 a15 y hy) rfl rfl rfl rfl h
 ·cases h
abbrev Bx := Int × Int × Int × Int × Int × Int × Int × Int
def Ar : CH := CH.none
theorem FH : aE Tryz.prog Ar := CH.aC
def lL (a0 a1 a2 a3 a4 a5 a6 a7 : Int) : Option (Bx) :=
 (some ((ior .u64 (aF .u64 a0 1) (iW .u64 a1 63)), (ior .u64 (aF .u64 a1 1) (iW .u64 a2 63)), (ior .u64 (aF .u64 a2 1) (iW .u64 a3 63)), (ior .u64 (aF .u64 a3 1) (iW .u64 a4 63)), (ior .u64 (aF .u64 a4 1) (iW .u64 a5 63)), (ior .u64 (aF .u64 a5 1) (iW .u64 a6 63)), (ior .u64 (aF .u64 a6 1) (iW .u64 a7 63)), (aF .u64 a7 1)))
def pp : FD where
 X := Bx
 k := 0
 pre := []
 F := fun s => []
 M := .agg (rl (.int .u64) 8 [])
 B := []
 toL := fun x => [.I x.1, .I x.2.1, .I x.2.2.1, .I x.2.2.2.1, .I x.s4.1, .I x.s4.2.1, .I x.s4.2.2.1, .I x.s4.2.2.2]
 ofL := fun ls => match ls with
  | [.I x0, .I x1, .I x2, .I x3, .I x4, .I x5, .I x6, .I x7] => some (x0, x1, x2, x3, x4, x5, x6, x7)
  | _ => none
 au := fun ls x h => by
  split at h
  ·cases h; rfl
  ·cases h
theorem H0 (a0 a1 a2 a3 a4 a5 a6 a7 : Int) (x : Bx) (h : lL a0 a1 a2 a3 a4 a5 a6 a7 = some x) : aX Tryz.prog 120 0 [.agg (v8 a0 a1 a2 a3 a4 a5 a6 a7 [])] [] pp x :=
 FD.sem (ch := Ar) (A := bu) (fn := Tryz.f120) (c := bq Tryz.f120) (fuel := 60) aL FH mixed bE pp Tryz.func120 (by kernel_rfl) (aJ (l := [aK Tryz.f120 0]) (by kernel_rfl) ⟨(eH (by kernel_rfl)), trivial⟩)
  (by kernel_rfl) (Eq.trans (by kernel_rfl) h)
def zB : HK where
 call := fun args σ k => match args with
  | [.agg [.int .u64 a0, .int .u64 a1, .int .u64 a2, .int .u64 a3, .int .u64 a4, .int .u64 a5, .int .u64 a6, .int .u64 a7]] => Option.bind (lL a0 a1 a2 a3 a4 a5 a6 a7) fun y => az σ 0 (pp.val y) (pp.aN y) k
  | _ => none
 nat := fun args σ k => by
  repeat' split
  all_goals simp only [aw, Option.bind_assoc, Option.bind_none, az, Option.bind_some]
 pure := true
 pok := fun _ args σ r σ' h => by
  split at h
  ·exact bm h (fun y => rfl) (fun y f => rfl)
  ·cases h
theorem Jq : aT Tryz.prog 120 zB := by
 intro args σ r σ' h
 simp only [zB] at h
 split at h
 ·rename_i a0 a1 a2 a3 a4 a5 a6 a7
  obtain ⟨y, hy, h⟩ := bE_ h
  exact lifted (xs := []) (ls := []) (cargs := [.agg (v8 a0 a1 a2 a3 a4 a5 a6 a7 [])]) (bt.of trivial) rfl (H0 a0 a1 a2 a3 a4 a5 a6 a7 y hy) rfl rfl rfl rfl h
 ·cases h
abbrev ia := Int × LA_ × Nat × LA_ × Nat × Nat
abbrev By := Int × Int × Int × Int × Int × Int × Int × Int
def te : CH := CH.none
theorem vD : aE Tryz.prog te := CH.aC
def gA {R : Type} (cc : ia) (v : LA_ × Int) (kn : (LA_ × Int) → Option R) (ke : ((LA_)) → Option R) : Option R :=
 (cond (decide (v.2 < 8)) (ag (decide (0 ≤ (IntKind.wrap .i64 (v.2 - (IntKind.wrap .i64 (Int.tdiv cc.1 64))))) && decide ((IntKind.wrap .i64 (v.2 - (IntKind.wrap .i64 (Int.tdiv cc.1 64)))) < ((8 : Nat) : Int))) (ag (an [.int .u64] cc.2.1 (0 + (Int.toNat (IntKind.wrap .i64 (v.2 - (IntKind.wrap .i64 (Int.tdiv cc.1 64)))) * 1))) (ag (!decide ((Int.tmod cc.1 64) < 0)) (ag (decide (0 ≤ v.2) && decide (v.2 < ((8 : Nat) : Int))) (ag (decide ((0 + (Int.toNat v.2 * 1)) + 1 ≤ List.length v.1)) (cond (decide ((Int.tmod cc.1 64) > 0)) (cond (decide (v.2 > (IntKind.wrap .i64 (Int.tdiv cc.1 64)))) (ag (decide (0 ≤ v.2) && decide (v.2 < ((8 : Nat) : Int))) (ag (an [.int .u64] (spliced v.1 (0 + (Int.toNat v.2 * 1)) [.int .u64 (iW .u64 (ac cc.2.1 ((0 + (Int.toNat (IntKind.wrap .i64 (v.2 - (IntKind.wrap .i64 (Int.tdiv cc.1 64)))) * 1)) + 0)) (Int.tmod cc.1 64))]) (0 + (Int.toNat v.2 * 1))) (ag (decide (0 ≤ (IntKind.wrap .i64 ((IntKind.wrap .i64 (v.2 - (IntKind.wrap .i64 (Int.tdiv cc.1 64)))) - 1))) && decide ((IntKind.wrap .i64 ((IntKind.wrap .i64 (v.2 - (IntKind.wrap .i64 (Int.tdiv cc.1 64)))) - 1)) < ((8 : Nat) : Int))) (ag (an [.int .u64] cc.2.1 (0 + (Int.toNat (IntKind.wrap .i64 ((IntKind.wrap .i64 (v.2 - (IntKind.wrap .i64 (Int.tdiv cc.1 64)))) - 1)) * 1))) (ag (!decide ((IntKind.wrap .i64 (64 - (Int.tmod cc.1 64))) < 0)) (ag (decide (0 ≤ v.2) && decide (v.2 < ((8 : Nat) : Int))) (ag (decide ((0 + (Int.toNat v.2 * 1)) + 1 ≤ List.length (spliced v.1 (0 + (Int.toNat v.2 * 1)) [.int .u64 (iW .u64 (ac cc.2.1 ((0 + (Int.toNat (IntKind.wrap .i64 (v.2 - (IntKind.wrap .i64 (Int.tdiv cc.1 64)))) * 1)) + 0)) (Int.tmod cc.1 64))]))) (kn ((spliced (spliced v.1 (0 + (Int.toNat v.2 * 1)) [.int .u64 (iW .u64 (ac cc.2.1 ((0 + (Int.toNat (IntKind.wrap .i64 (v.2 - (IntKind.wrap .i64 (Int.tdiv cc.1 64)))) * 1)) + 0)) (Int.tmod cc.1 64))]) (0 + (Int.toNat v.2 * 1)) [.int .u64 (ior .u64 (ac (spliced v.1 (0 + (Int.toNat v.2 * 1)) [.int .u64 (iW .u64 (ac cc.2.1 ((0 + (Int.toNat (IntKind.wrap .i64 (v.2 - (IntKind.wrap .i64 (Int.tdiv cc.1 64)))) * 1)) + 0)) (Int.tmod cc.1 64))]) ((0 + (Int.toNat v.2 * 1)) + 0)) (aF .u64 (ac cc.2.1 ((0 + (Int.toNat (IntKind.wrap .i64 ((IntKind.wrap .i64 (v.2 - (IntKind.wrap .i64 (Int.tdiv cc.1 64)))) - 1)) * 1)) + 0)) (IntKind.wrap .i64 (64 - (Int.tmod cc.1 64)))))]), (IntKind.wrap .i64 (v.2 + 1))))))))))) (kn ((spliced v.1 (0 + (Int.toNat v.2 * 1)) [.int .u64 (iW .u64 (ac cc.2.1 ((0 + (Int.toNat (IntKind.wrap .i64 (v.2 - (IntKind.wrap .i64 (Int.tdiv cc.1 64)))) * 1)) + 0)) (Int.tmod cc.1 64))]), (IntKind.wrap .i64 (v.2 + 1))))) (kn ((spliced v.1 (0 + (Int.toNat v.2 * 1)) [.int .u64 (iW .u64 (ac cc.2.1 ((0 + (Int.toNat (IntKind.wrap .i64 (v.2 - (IntKind.wrap .i64 (Int.tdiv cc.1 64)))) * 1)) + 0)) (Int.tmod cc.1 64))]), (IntKind.wrap .i64 (v.2 + 1)))))))))) (ke v.1))
def rz (cc : ia) (v : LA_ × Int) : Option ((LA_ × Int) ⊕ ((LA_))) := gA cc v (fun v => some (Sum.inl v)) fun e => some (Sum.inr e)
def As (cc : ia) (v : LA_ × Int) : Option ((LA_)) := dA (rz cc) v
def FI (cc : ia) (v : LA_ × Int) : List ai := [.I cc.1, .I v.2, .C cc.2.1, .N cc.2.2.1, .C cc.2.2.2.1, .N cc.s4.1, .C v.1, .N cc.s4.2]
def vE (ls : List ai) : Option ((ia) × (LA_ × Int)) := match ls with
 | [.I x0, .I x1, .C x2, .N x3, .C x4, .N x5, .C x6, .N x7] => some ((x0, x2, x3, x4, x5, x7), (x6, x1))
 | _ => none
def vF (e : (LA_)) : am := ((fun e => .exit 0) e)
def vG (cc : ia) (e : (LA_)) : List ai := ((fun e => [.C cc.2.2.2.1, .N cc.s4.1, .C e, .N cc.s4.2]) e)
def mZ (cc : ia) (e : (LA_)) : List ai := ((fun e => [.C cc.2.2.2.1, .N cc.s4.1, .N cc.s4.2]) e)
def oM (o : am) (ls : List ai) : Option (((LA_)) × List ai) := match o with
 | .exit 0 => (match ls with
  | [.C x0, .N x1, .C x2, .N x3] => some (x2, [.C x0, .N x1, .N x3])
  | _ => none)
 | _ => none
theorem Bz : ∀ o ls e cl cc, oM o ls = some (e, cl) → cl = mZ cc e → ls = vG cc e ∧ vF e = o ∧ o ≠ .normal ∧ ∀ v, o = .pan v → sc 0 v = true := by
 intro o ls e cl cc h hc
 unfold oM at h
 split at h
 ·split at h
  ·cases h
   simp only [mZ, List.cons.injEq, ai.N.injEq, ai.C.injEq, and_true] at hc
   obtain ⟨rfl, rfl, rfl⟩ := hc
   exact ⟨rfl, rfl, by simp, by intro v hv; cases hv <;> rfl⟩
  ·cases h
 ·cases h
def GO (o : am) : ExS := match o with
 | .exit 0 => ⟨2, (none :: none :: none :: none :: some (.ptr 0 0) :: some (.ptr 1 0) :: (rl none 44 [])), [(0, .vec 8 true), (1, .vec 8 true)], fun s => [nameAt s 4 [], nameAt s 5 []], [], []⟩
 | _ => ⟨0, [], [], fun _ => [], [], []⟩
theorem FJ {R : Type} (cc : ia) (v : LA_ × Int) (kn : (LA_ × Int) → Option R) (ke : ((LA_)) → Option R) : gA cc v kn ke = (gA cc v (fun v => some (Sum.inl v)) fun e => some (Sum.inr e)).bind (Sum.elim kn ke) := by
 simp only [gA, bF, ax, Option.bind_assoc, bY, bB, Option.bind_some, Option.bind_none, Sum.elim_inl, Sum.elim_inr]
def yH : LD where
 CC := ia
 V := LA_ × Int
 E := (LA_)
 n := 0
 K := 3
 M := (none :: some (.int .i64) :: some (.ptr 0 0) :: none :: some (.ptr 1 0) :: some (.ptr 2 0) :: some (.int .i64) :: (rl none 43 []))
 B := [(0, .vec 8 true), (1, .vec 8 true), (2, .vec 8 true)]
 D := []
 pre := []
 F := fun s => [nameAt s 2 [], nameAt s 4 [], nameAt s 5 []]
 toL := FI
 ofL := vE
 au := fun ls c v h => by
  unfold vE at h
  split at h
  ·cases h; rfl
  ·cases h
 cj := gA
 nat := FJ
 sh := GO
 out := vF
 toE := vG
 eV := mZ
 ofE := oM
 cO := Bz
 post := fun cc e k => ((fun e => k (.exit 0) (aV 2 (none :: none :: none :: none :: some (.ptr 0 0) :: some (.ptr 1 0) :: (rl none 44 [])) [(0, .vec cc.2.2.2.1 cc.s4.1 8 true), (1, .vec e cc.s4.2 8 true)] [])) e)
 cd := fun cc e k => by rfl
theorem FK : cG Tryz.prog 0 yH.la (aK Tryz.f119 0) :=
 LD.ok (ch := te) (A := bu) aL vD mixed (fuel := 60) ⟨by kernel_rfl, fun e => by kernel_rfl, fun cc v => by kernel_rfl, aJ (l := []) (by kernel_rfl) trivial⟩
def pa (a0 a1 a2 a3 a4 a5 a6 a7 a8 : Int) : Option (By) :=
 (Option.bind (As (a8, (af a0 a1 a2 a3 a4 a5 a6 a7), 1, (af 0 0 0 0 0 0 0 0), 1, 1) ((af 0 0 0 0 0 0 0 0), (IntKind.wrap .i64 (Int.tdiv a8 64)))) fun e1 => (ag (an di e1 0) (ag (decide (0 + 8 ≤ List.length (af 0 0 0 0 0 0 0 0))) (ag (an di (spliced (af 0 0 0 0 0 0 0 0) 0 (af (ac e1 0) (ac e1 1) (ac e1 2) (ac e1 3) (ac e1 4) (ac e1 5) (ac e1 6) (ac e1 7))) 0) (some ((ac (spliced (af 0 0 0 0 0 0 0 0) 0 (af (ac e1 0) (ac e1 1) (ac e1 2) (ac e1 3) (ac e1 4) (ac e1 5) (ac e1 6) (ac e1 7))) 0), (ac (spliced (af 0 0 0 0 0 0 0 0) 0 (af (ac e1 0) (ac e1 1) (ac e1 2) (ac e1 3) (ac e1 4) (ac e1 5) (ac e1 6) (ac e1 7))) 1), (ac (spliced (af 0 0 0 0 0 0 0 0) 0 (af (ac e1 0) (ac e1 1) (ac e1 2) (ac e1 3) (ac e1 4) (ac e1 5) (ac e1 6) (ac e1 7))) 2), (ac (spliced (af 0 0 0 0 0 0 0 0) 0 (af (ac e1 0) (ac e1 1) (ac e1 2) (ac e1 3) (ac e1 4) (ac e1 5) (ac e1 6) (ac e1 7))) 3), (ac (spliced (af 0 0 0 0 0 0 0 0) 0 (af (ac e1 0) (ac e1 1) (ac e1 2) (ac e1 3) (ac e1 4) (ac e1 5) (ac e1 6) (ac e1 7))) 4), (ac (spliced (af 0 0 0 0 0 0 0 0) 0 (af (ac e1 0) (ac e1 1) (ac e1 2) (ac e1 3) (ac e1 4) (ac e1 5) (ac e1 6) (ac e1 7))) 5), (ac (spliced (af 0 0 0 0 0 0 0 0) 0 (af (ac e1 0) (ac e1 1) (ac e1 2) (ac e1 3) (ac e1 4) (ac e1 5) (ac e1 6) (ac e1 7))) 6), (ac (spliced (af 0 0 0 0 0 0 0 0) 0 (af (ac e1 0) (ac e1 1) (ac e1 2) (ac e1 3) (ac e1 4) (ac e1 5) (ac e1 6) (ac e1 7))) 7)))))))
def pr : FD where
 X := By
 k := 0
 pre := []
 F := fun s => []
 M := .agg (rl (.int .u64) 8 [])
 B := []
 toL := fun x => [.I x.1, .I x.2.1, .I x.2.2.1, .I x.2.2.2.1, .I x.s4.1, .I x.s4.2.1, .I x.s4.2.2.1, .I x.s4.2.2.2]
 ofL := fun ls => match ls with
  | [.I x0, .I x1, .I x2, .I x3, .I x4, .I x5, .I x6, .I x7] => some (x0, x1, x2, x3, x4, x5, x6, x7)
  | _ => none
 au := fun ls x h => by
  split at h
  ·cases h; rfl
  ·cases h
theorem H1 (a0 a1 a2 a3 a4 a5 a6 a7 a8 : Int) (x : By) (h : pa a0 a1 a2 a3 a4 a5 a6 a7 a8 = some x) : aX Tryz.prog 119 0 [.agg (af a0 a1 a2 a3 a4 a5 a6 a7), .int .i64 a8] [] pr x :=
 FD.sem (ch := te) (A := dW [(3, yH.la)]) (fn := Tryz.f119) (c := bq Tryz.f119) (fuel := 60) aL vD mixed bE pr Tryz.func119 (by kernel_rfl) (aJ (l := [aK Tryz.f119 0]) (by kernel_rfl) ⟨bR (by kernel_rfl) FK, trivial⟩)
  (by kernel_rfl) (Eq.trans (by kernel_rfl) h)
def zC : HK where
 call := fun args σ k => match args with
  | [.agg [.int .u64 a0, .int .u64 a1, .int .u64 a2, .int .u64 a3, .int .u64 a4, .int .u64 a5, .int .u64 a6, .int .u64 a7], .int .i64 a8] => Option.bind (pa a0 a1 a2 a3 a4 a5 a6 a7 a8) fun y => az σ 0 (pr.val y) (pr.aN y) k
  | _ => none
 nat := fun args σ k => by
  repeat' split
  all_goals simp only [aw, Option.bind_assoc, Option.bind_none, az, Option.bind_some]
 pure := true
 pok := fun _ args σ r σ' h => by
  split at h
  ·exact bm h (fun y => rfl) (fun y f => rfl)
  ·cases h
theorem Jr : aT Tryz.prog 119 zC := by
 intro args σ r σ' h
 simp only [zC] at h
 split at h
 ·rename_i a0 a1 a2 a3 a4 a5 a6 a7 a8
  obtain ⟨y, hy, h⟩ := bE_ h
  exact lifted (xs := []) (ls := []) (cargs := [.agg (af a0 a1 a2 a3 a4 a5 a6 a7), .int .i64 a8]) (bt.of trivial) rfl (H1 a0 a1 a2 a3 a4 a5 a6 a7 a8 y hy) rfl rfl rfl rfl h
 ·cases h
abbrev bz : ByteArray := ⟨#[0, 1, 2, 2, 3, 3, 3, 3, 4, 4, 4, 4, 4, 4, 4, 4, 5, 5, 5, 5, 5, 5, 5, 5, 5, 5, 5, 5, 5, 5, 5, 5, 6, 6, 6, 6, 6, 6, 6, 6, 6, 6, 6, 6, 6, 6, 6, 6, 6, 6, 6, 6, 6, 6, 6, 6, 6, 6, 6, 6, 6, 6, 6, 6, 7, 7, 7, 7, 7, 7, 7, 7, 7, 7, 7, 7, 7, 7, 7, 7, 7, 7, 7, 7, 7, 7, 7, 7, 7, 7, 7, 7, 7, 7, 7, 7, 7, 7, 7, 7, 7, 7, 7, 7, 7, 7, 7, 7, 7, 7, 7, 7, 7, 7, 7, 7, 7, 7, 7, 7, 7, 7, 7, 7, 7, 7, 7, 7, 8, 8, 8, 8, 8, 8, 8, 8, 8, 8, 8, 8, 8, 8, 8, 8, 8, 8, 8, 8, 8, 8, 8, 8, 8, 8, 8, 8, 8, 8, 8, 8, 8, 8, 8, 8, 8, 8, 8, 8, 8, 8, 8, 8, 8, 8, 8, 8, 8, 8, 8, 8, 8, 8, 8, 8, 8, 8, 8, 8, 8, 8, 8, 8, 8, 8, 8, 8, 8, 8, 8, 8, 8, 8, 8, 8, 8, 8, 8, 8, 8, 8, 8, 8, 8, 8, 8, 8, 8, 8, 8, 8, 8, 8, 8, 8, 8, 8, 8, 8, 8, 8, 8, 8, 8, 8, 8, 8, 8, 8, 8, 8, 8, 8, 8, 8, 8, 8, 8, 8, 8, 8, 8, 8, 8, 8, 8, 8]⟩
def A5 : CH := CH.none
theorem xO : aE Tryz.prog A5 := CH.aC
def gM (a0 : Int) : Option (Int) :=
 (cond (decide (a0 ≥ 4294967296)) (cond (decide ((aF .u64 a0 32) ≥ 65536)) (cond (decide ((aF .u64 (aF .u64 a0 32) 16) ≥ 256)) (ag (decide (0 ≤ (IntKind.wrap .u8 (aF .u64 (aF .u64 (aF .u64 a0 32) 16) 8))) && decide ((IntKind.wrap .u8 (aF .u64 (aF .u64 (aF .u64 a0 32) 16) 8)) < ((ByteArray.size bz : Nat) : Int))) (some (IntKind.wrap .i64 (56 + (IntKind.wrap .i64 (eu bz (Int.toNat (IntKind.wrap .u8 (aF .u64 (aF .u64 (aF .u64 a0 32) 16) 8))))))))) (ag (decide (0 ≤ (IntKind.wrap .u8 (aF .u64 (aF .u64 a0 32) 16))) && decide ((IntKind.wrap .u8 (aF .u64 (aF .u64 a0 32) 16)) < ((ByteArray.size bz : Nat) : Int))) (some (IntKind.wrap .i64 (48 + (IntKind.wrap .i64 (eu bz (Int.toNat (IntKind.wrap .u8 (aF .u64 (aF .u64 a0 32) 16)))))))))) (cond (decide ((aF .u64 a0 32) ≥ 256)) (ag (decide (0 ≤ (IntKind.wrap .u8 (aF .u64 (aF .u64 a0 32) 8))) && decide ((IntKind.wrap .u8 (aF .u64 (aF .u64 a0 32) 8)) < ((ByteArray.size bz : Nat) : Int))) (some (IntKind.wrap .i64 (40 + (IntKind.wrap .i64 (eu bz (Int.toNat (IntKind.wrap .u8 (aF .u64 (aF .u64 a0 32) 8))))))))) (ag (decide (0 ≤ (IntKind.wrap .u8 (aF .u64 a0 32))) && decide ((IntKind.wrap .u8 (aF .u64 a0 32)) < ((ByteArray.size bz : Nat) : Int))) (some (IntKind.wrap .i64 (32 + (IntKind.wrap .i64 (eu bz (Int.toNat (IntKind.wrap .u8 (aF .u64 a0 32))))))))))) (cond (decide (a0 ≥ 65536)) (cond (decide ((aF .u64 a0 16) ≥ 256)) (ag (decide (0 ≤ (IntKind.wrap .u8 (aF .u64 (aF .u64 a0 16) 8))) && decide ((IntKind.wrap .u8 (aF .u64 (aF .u64 a0 16) 8)) < ((ByteArray.size bz : Nat) : Int))) (some (IntKind.wrap .i64 (24 + (IntKind.wrap .i64 (eu bz (Int.toNat (IntKind.wrap .u8 (aF .u64 (aF .u64 a0 16) 8))))))))) (ag (decide (0 ≤ (IntKind.wrap .u8 (aF .u64 a0 16))) && decide ((IntKind.wrap .u8 (aF .u64 a0 16)) < ((ByteArray.size bz : Nat) : Int))) (some (IntKind.wrap .i64 (16 + (IntKind.wrap .i64 (eu bz (Int.toNat (IntKind.wrap .u8 (aF .u64 a0 16)))))))))) (cond (decide (a0 ≥ 256)) (ag (decide (0 ≤ (IntKind.wrap .u8 (aF .u64 a0 8))) && decide ((IntKind.wrap .u8 (aF .u64 a0 8)) < ((ByteArray.size bz : Nat) : Int))) (some (IntKind.wrap .i64 (8 + (IntKind.wrap .i64 (eu bz (Int.toNat (IntKind.wrap .u8 (aF .u64 a0 8))))))))) (ag (decide (0 ≤ (IntKind.wrap .u8 a0)) && decide ((IntKind.wrap .u8 a0) < ((ByteArray.size bz : Nat) : Int))) (some (IntKind.wrap .i64 (0 + (IntKind.wrap .i64 (eu bz (Int.toNat (IntKind.wrap .u8 a0)))))))))))
def iF : FD where
 X := Int
 k := 0
 pre := []
 F := fun s => []
 M := .int .i64
 B := []
 toL := fun x => [.I x]
 ofL := fun ls => match ls with
  | [.I x0] => some x0
  | _ => none
 au := fun ls x h => by
  split at h
  ·cases h; rfl
  ·cases h
theorem z9 (a0 x : Int) (h : gM a0 = some x) : aX Tryz.prog 98 0 [.int .u64 a0] [] iF x :=
 FD.semA iF xO Tryz.func98 (fuel := 60) (by kernel_rfl) (by kernel_rfl)
  (by kernel_rfl) (Eq.trans (by kernel_rfl) h)
def oC : HK where
 call := fun args σ k => match args with
  | [.int .u64 a0] => Option.bind (gM a0) fun y => az σ 0 (iF.val y) (iF.aN y) k
  | _ => none
 nat := fun args σ k => by
  repeat' split
  all_goals simp only [aw, Option.bind_assoc, Option.bind_none, az, Option.bind_some]
 pure := true
 pok := fun _ args σ r σ' h => by
  split at h
  ·exact bm h (fun y => rfl) (fun y f => rfl)
  ·cases h
theorem A6 : aT Tryz.prog 98 oC := by
 intro args σ r σ' h
 simp only [oC] at h
 split at h
 ·rename_i a0
  obtain ⟨y, hy, h⟩ := bE_ h
  exact lifted (xs := []) (ls := []) (cargs := [.int .u64 a0]) (bt.of trivial) rfl (z9 a0 y hy) rfl rfl rfl rfl h
 ·cases h
def pO : CH := (CH.add 98 oC CH.none)
theorem sM : aE Tryz.prog pO := (CH.aj A6 CH.aC)
def fu {R : Type} (cc : LA_ × Nat) (v : Int) (kn : (Int) → Option R) (ke : ((Int) ⊕ (Unit)) → Option R) : Option R :=
 (cond (decide (v ≥ 0)) (ag (decide (0 ≤ v) && decide (v < ((8 : Nat) : Int))) (ag (an [.int .u64] cc.1 (0 + (Int.toNat v * 1))) (cond ((ac cc.1 ((0 + (Int.toNat v * 1)) + 0)) != 0) (ag (decide (0 ≤ v) && decide (v < ((8 : Nat) : Int))) (ag (an [.int .u64] cc.1 (0 + (Int.toNat v * 1))) (Option.bind (gM (ac cc.1 ((0 + (Int.toNat v * 1)) + 0))) fun r1 => (ke (.inl (IntKind.wrap .i64 ((IntKind.wrap .i64 (64 * v)) + r1))))))) (kn (IntKind.wrap .i64 (v - 1)))))) (ke (.inr ())))
def oN (cc : LA_ × Nat) (v : Int) : Option ((Int) ⊕ ((Int) ⊕ (Unit))) := fu cc v (fun v => some (Sum.inl v)) fun e => some (Sum.inr e)
def xk (cc : LA_ × Nat) (v : Int) : Option ((Int) ⊕ (Unit)) := dA (oN cc) v
def C5 (cc : LA_ × Nat) (v : Int) : List ai := [.I v, .C cc.1, .N cc.2]
def sO (ls : List ai) : Option ((LA_ × Nat) × (Int)) := match ls with
 | [.I x0, .C x1, .N x2] => some ((x1, x2), x0)
 | _ => none
def sP (e : (Int) ⊕ (Unit)) : am := ((Sum.elim (fun e => .ret) (fun e => .exit 0)) e)
def sQ (cc : LA_ × Nat) (e : (Int) ⊕ (Unit)) : List ai := ((Sum.elim (fun e => [.I e]) (fun e => [])) e)
def rA (cc : LA_ × Nat) (e : (Int) ⊕ (Unit)) : List ai := ((Sum.elim (fun e => []) (fun e => [])) e)
def mb (o : am) (ls : List ai) : Option (((Int) ⊕ (Unit)) × List ai) := match o with
 | .ret => (match ls with
  | [.I x0] => some ((.inl x0), [])
  | _ => none)
 | .exit 0 => (match ls with
  | [] => some ((.inr ()), [])
  | _ => none)
 | _ => none
theorem zD : ∀ o ls e cl cc, mb o ls = some (e, cl) → cl = rA cc e → ls = sQ cc e ∧ sP e = o ∧ o ≠ .normal ∧ ∀ v, o = .pan v → sc 0 v = true := by
 intro o ls e cl cc h hc
 unfold mb at h
 split at h
 ·split at h
  ·cases h
   exact ⟨rfl, rfl, by simp, by intro v hv; cases hv <;> rfl⟩
  ·cases h
 ·split at h
  ·cases h
   exact ⟨rfl, rfl, by simp, by intro v hv; cases hv <;> rfl⟩
  ·cases h
 ·cases h
def DL (o : am) : ExS := match o with
 | .ret => ⟨0, (none :: none :: some (.int .i64) :: (rl none 16 [])), [], fun s => [], [], []⟩
 | .exit 0 => ⟨0, (rl none 19 []), [], fun s => [], [], []⟩
 | _ => ⟨0, [], [], fun _ => [], [], []⟩
theorem C6 {R : Type} (cc : LA_ × Nat) (v : Int) (kn : (Int) → Option R) (ke : ((Int) ⊕ (Unit)) → Option R) : fu cc v kn ke = (fu cc v (fun v => some (Sum.inl v)) fun e => some (Sum.inr e)).bind (Sum.elim kn ke) := by
 simp only [fu, bF, ax, Option.bind_assoc, bY, bB, Option.bind_some, Option.bind_none, Sum.elim_inl, Sum.elim_inr]
def vH : LD where
 CC := LA_ × Nat
 V := Int
 E := (Int) ⊕ (Unit)
 n := 0
 K := 1
 M := (none :: some (.ptr 0 0) :: none :: some (.int .i64) :: (rl none 15 []))
 B := [(0, .vec 8 true)]
 D := []
 pre := []
 F := fun s => [nameAt s 1 []]
 toL := C5
 ofL := sO
 au := fun ls c v h => by
  unfold sO at h
  split at h
  ·cases h; rfl
  ·cases h
 cj := fu
 nat := C6
 sh := DL
 out := sP
 toE := sQ
 eV := rA
 ofE := mb
 cO := zD
 post := fun cc e k => ((Sum.elim (fun e => k (.ret) (aV 0 (none :: none :: some (.int .i64 e) :: (rl none 16 [])) [] [])) (fun e => k (.exit 0) (aV 0 (rl none 19 []) [] []))) e)
 cd := fun cc e k => by rcases e with e | e <;> rfl
theorem C7 : cG Tryz.prog 0 vH.la (aK Tryz.f118 0) :=
 LD.ok (ch := pO) (A := bu) aL sM mixed (fuel := 60) ⟨by kernel_rfl, fun e => by (rcases e with e | e <;> kernel_rfl), fun cc v => by kernel_rfl, aJ (l := []) (by kernel_rfl) trivial⟩
def iY (a0 a1 a2 a3 a4 a5 a6 a7 : Int) : Option (Int) :=
 (Option.bind (xk (([.int .u64 a0, .int .u64 a1, .int .u64 a2, .int .u64 a3, .int .u64 a4, .int .u64 a5, .int .u64 a6, .int .u64 a7] : LA_), 1) 7) (Sum.elim (fun e1 => (some e1)) (fun e1 => (some 0))))
def mA : FD where
 X := Int
 k := 0
 pre := []
 F := fun s => []
 M := .int .i64
 B := []
 toL := fun x => [.I x]
 ofL := fun ls => match ls with
  | [.I x0] => some x0
  | _ => none
 au := fun ls x h => by
  split at h
  ·cases h; rfl
  ·cases h
theorem FL (a0 a1 a2 a3 a4 a5 a6 a7 x : Int) (h : iY a0 a1 a2 a3 a4 a5 a6 a7 = some x) : aX Tryz.prog 118 0 [.agg (v8 a0 a1 a2 a3 a4 a5 a6 a7 [])] [] mA x :=
 FD.sem (ch := pO) (A := dW [(2, vH.la)]) (fn := Tryz.f118) (c := bq Tryz.f118) (fuel := 60) aL sM mixed bE mA Tryz.func118 (by kernel_rfl) (aJ (l := [aK Tryz.f118 0]) (by kernel_rfl) ⟨bR (by kernel_rfl) C7, trivial⟩)
  (by kernel_rfl) (Eq.trans (by kernel_rfl) h)
def vb : HK where
 call := fun args σ k => match args with
  | [.agg [.int .u64 a0, .int .u64 a1, .int .u64 a2, .int .u64 a3, .int .u64 a4, .int .u64 a5, .int .u64 a6, .int .u64 a7]] => Option.bind (iY a0 a1 a2 a3 a4 a5 a6 a7) fun y => az σ 0 (mA.val y) (mA.aN y) k
  | _ => none
 nat := fun args σ k => by
  repeat' split
  all_goals simp only [aw, Option.bind_assoc, Option.bind_none, az, Option.bind_some]
 pure := true
 pok := fun _ args σ r σ' h => by
  split at h
  ·exact bm h (fun y => rfl) (fun y f => rfl)
  ·cases h
theorem GP : aT Tryz.prog 118 vb := by
 intro args σ r σ' h
 simp only [vb] at h
 split at h
 ·rename_i a0 a1 a2 a3 a4 a5 a6 a7
  obtain ⟨y, hy, h⟩ := bE_ h
  exact lifted (xs := []) (ls := []) (cargs := [.agg (v8 a0 a1 a2 a3 a4 a5 a6 a7 [])]) (bt.of trivial) rfl (FL a0 a1 a2 a3 a4 a5 a6 a7 y hy) rfl rfl rfl rfl h
 ·cases h
end Go.Ev
