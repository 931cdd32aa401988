import Derived.Test.YtbmjabafceihgaaProg
import Derived.KernelRfl
import Derived.Test.YtbmjabafceihgaaKaf
set_option linter.unusedVariables false
set_option linter.unusedSimpArgs false
set_option maxRecDepth 100000
noncomputable section
namespace Go.Ev
open Go.Proofs
def ty1 : TyI := ⟨1, 8, [.cO], false, none, .func⟩
def ty2 : TyI := ⟨1, 8, [.int .i64 0], false, none, .int .i64⟩
def ty3 : TyI := ⟨1, 8, [.int .i64 0], false, none, .int .i64⟩
def ty4 : TyI := ⟨1, 1, [.bool false], false, none, .bool⟩
def ty5 : TyI := ⟨1, 1, [.int .u8 0], false, none, .int .u8⟩
def ty9 : TyI := ⟨1, 16, [.str ⟨#[]⟩], false, none, .str⟩
def SQ : TyI := ⟨1, 16, [.dC], false, none, .iface⟩
def SR : TyI := ⟨1, 24, [.aO], false, none, .slice 38⟩
def SS : TyI := ⟨1, 8, [.int .u64 0], false, none, .int .u64⟩
def ST : TyI := ⟨8, 64, [.int .u64 0, .int .u64 0, .int .u64 0, .int .u64 0, .int .u64 0, .int .u64 0, .int .u64 0, .int .u64 0], true, some [.int .u64, .int .u64, .int .u64, .int .u64, .int .u64, .int .u64, .int .u64, .int .u64], .arr 8 23⟩
def SU : TyI := ⟨8, 64, [.int .u64 0, .int .u64 0, .int .u64 0, .int .u64 0, .int .u64 0, .int .u64 0, .int .u64 0, .int .u64 0], true, some [.int .u64, .int .u64, .int .u64, .int .u64, .int .u64, .int .u64, .int .u64, .int .u64], .struct [(0, 24)]⟩
def SV : TyI := ⟨24, 192, [.int .u64 0, .int .u64 0, .int .u64 0, .int .u64 0, .int .u64 0, .int .u64 0, .int .u64 0, .int .u64 0, .int .u64 0, .int .u64 0, .int .u64 0, .int .u64 0, .int .u64 0, .int .u64 0, .int .u64 0, .int .u64 0, .int .u64 0, .int .u64 0, .int .u64 0, .int .u64 0, .int .u64 0, .int .u64 0, .int .u64 0, .int .u64 0], true, some [.int .u64, .int .u64, .int .u64, .int .u64, .int .u64, .int .u64, .int .u64, .int .u64, .int .u64, .int .u64, .int .u64, .int .u64, .int .u64, .int .u64, .int .u64, .int .u64, .int .u64, .int .u64, .int .u64, .int .u64, .int .u64, .int .u64, .int .u64, .int .u64], .struct [(0, 26), (8, 26), (16, 26)]⟩
def SW : TyI := ⟨1, 24, [.aO], false, none, .slice 3⟩
def SX : TyI := ⟨33, 280, [.int .u64 0, .int .u64 0, .int .u64 0, .int .u64 0, .int .u64 0, .int .u64 0, .int .u64 0, .int .u64 0, .int .u64 0, .int .u64 0, .int .u64 0, .int .u64 0, .int .u64 0, .int .u64 0, .int .u64 0, .int .u64 0, .int .u64 0, .int .u64 0, .int .u64 0, .int .u64 0, .int .u64 0, .int .u64 0, .int .u64 0, .int .u64 0, .int .u64 0, .int .u64 0, .int .u64 0, .int .u64 0, .int .u64 0, .int .u64 0, .int .u64 0, .int .u64 0, .aO], true, none, .struct [(0, 28), (24, 26), (32, 29)]⟩
def SY : TyI := ⟨1, 8, [.int .i64 0], false, none, .int .i64⟩
def SZ : TyI := ⟨3, 24, [.int .i64 0, .int .i64 0, .int .i64 0], true, some [.int .i64, .int .i64, .int .i64], .struct [(0, 2), (1, 2), (2, 2)]⟩
def S0 : TyI := ⟨1, 8, [.cO], false, none, .func⟩
def S1 : TyI := ⟨1, 8, [.cO], false, none, .func⟩
def S2 : TyI := ⟨3, 24, [.int .i64 0, .int .i64 0, .int .i64 0], true, some [.int .i64, .int .i64, .int .i64], .arr 3 2⟩
def S3 : TyI := ⟨8, 64, [.int .u64 0, .int .u64 0, .int .u64 0, .int .u64 0, .int .u64 0, .int .u64 0, .int .u64 0, .int .u64 0], true, some [.int .u64, .int .u64, .int .u64, .int .u64, .int .u64, .int .u64, .int .u64, .int .u64], .arr 8 23⟩
def S4 : TyI := ⟨1, 8, [.int .u64 0], false, none, .int .u64⟩
def S5 : TyI := ⟨1, 8, [.cO], false, none, .func⟩
def S6 : TyI := ⟨1, 8, [.cO], false, none, .func⟩
def S7 : TyI := ⟨1, 24, [.aO], true, none, .struct [(0, 22)]⟩
def S8 : TyI := ⟨1, 8, [.cO], false, none, .func⟩
def S9 : TyI := ⟨1, 8, [.cO], false, none, .func⟩
def Ta : TyI := ⟨1, 24, [.aO], false, none, .slice 29⟩
def Tb : TyI := ⟨1, 24, [.aO], false, none, .slice 26⟩
def Tc : TyI := ⟨1, 8, [.cO], false, none, .func⟩
def QR : TyI := ⟨0, 0, [], true, some [], .struct []⟩
def QS : TyI := ⟨1, 8, [.cO], false, none, .func⟩
def QT : TyI := ⟨0, 0, [], true, some [], .struct []⟩
def QU : TyI := ⟨1, 8, [.el], false, none, .ptr 84⟩
def QV : TyI := ⟨9, 72, [.int .i64 0, .int .i64 0, .int .i64 0, .int .i64 0, .int .i64 0, .int .i64 0, .int .i64 0, .int .i64 0, .int .i64 0], true, some [.int .i64, .int .i64, .int .i64, .int .i64, .int .i64, .int .i64, .int .i64, .int .i64, .int .i64], .arr 3 38⟩
def QW : TyI := ⟨1, 8, [.cO], false, none, .func⟩
def QX : TyI := ⟨24, 192, [.int .u64 0, .int .u64 0, .int .u64 0, .int .u64 0, .int .u64 0, .int .u64 0, .int .u64 0, .int .u64 0, .int .u64 0, .int .u64 0, .int .u64 0, .int .u64 0, .int .u64 0, .int .u64 0, .int .u64 0, .int .u64 0, .int .u64 0, .int .u64 0, .int .u64 0, .int .u64 0, .int .u64 0, .int .u64 0, .int .u64 0, .int .u64 0], true, some [.int .u64, .int .u64, .int .u64, .int .u64, .int .u64, .int .u64, .int .u64, .int .u64, .int .u64, .int .u64, .int .u64, .int .u64, .int .u64, .int .u64, .int .u64, .int .u64, .int .u64, .int .u64, .int .u64, .int .u64, .int .u64, .int .u64, .int .u64, .int .u64], .arr 3 26⟩
def QY : TyI := ⟨1, 8, [.cO], false, none, .func⟩
def QZ : TyI := ⟨1, 8, [.cO], false, none, .func⟩
def Q0 : TyI := ⟨3, 24, [.int .i64 0, .int .i64 0, .int .i64 0], true, some [.int .i64, .int .i64, .int .i64], .arr 3 32⟩
def Q1 : TyI := ⟨1, 4, [.int .u32 0], false, none, .int .u32⟩
def Q2 : TyI := ⟨1, 8, [.cO], false, none, .func⟩
def Q3 : TyI := ⟨1, 8, [.int .i64 0], false, none, .int .i64⟩
def Q4 : TyI := ⟨1, 8, [.int .u64 0], false, none, .int .u64⟩
def Q5 : TyI := ⟨1, 8, [.el], false, none, .ptr 3⟩
def Q6 : TyI := ⟨1, 8, [.el], false, none, .ptr 142⟩
theorem aS {P : Program} {k : Nat} {ty : TyI} (h : bD P k ty) {t : Nat} {i : TyI} (e : cond (Nat.beq t k) (some ty) none = some i) : bD P t i := by
 cases hb : Nat.beq t k with
 | false => rw [hb] at e; cases e
 | true => rw [hb] at e; cases e; rw [Nat.eq_of_beq_eq_true hb]; exact h
theorem aU {P : Program} {a b : Option TyI} {c : Bool} {t : Nat} {i : TyI} (h1 : a = some i → bD P t i) (h2 : b = some i → bD P t i) (e : cond c a b = some i) : bD P t i := by
 cases c with
 | true => exact h1 e
 | false => exact h2 e
def jm : av := fun t => (cond (Nat.blt t 77) (cond (Nat.blt t 28) (cond (Nat.blt t 9) (cond (Nat.blt t 3) (cond (Nat.blt t 2) (cond (Nat.beq t 1) (some ty1) none) (cond (Nat.beq t 2) (some ty2) none)) (cond (Nat.blt t 4) (cond (Nat.beq t 3) (some ty3) none) (cond (Nat.blt t 5) (cond (Nat.beq t 4) (some ty4) none) (cond (Nat.beq t 5) (some ty5) none)))) (cond (Nat.blt t 23) (cond (Nat.blt t 20) (cond (Nat.beq t 9) (some ty9) none) (cond (Nat.blt t 22) (cond (Nat.beq t 20) (some SQ) none) (cond (Nat.beq t 22) (some SR) none))) (cond (Nat.blt t 24) (cond (Nat.beq t 23) (some SS) none) (cond (Nat.blt t 26) (cond (Nat.beq t 24) (some ST) none) (cond (Nat.beq t 26) (some SU) none))))) (cond (Nat.blt t 61) (cond (Nat.blt t 31) (cond (Nat.blt t 29) (cond (Nat.beq t 28) (some SV) none) (cond (Nat.beq t 29) (some SW) none)) (cond (Nat.blt t 32) (cond (Nat.beq t 31) (some SX) none) (cond (Nat.blt t 38) (cond (Nat.beq t 32) (some SY) none) (cond (Nat.beq t 38) (some SZ) none)))) (cond (Nat.blt t 74) (cond (Nat.blt t 62) (cond (Nat.beq t 61) (some S0) none) (cond (Nat.blt t 66) (cond (Nat.beq t 62) (some S1) none) (cond (Nat.beq t 66) (some S2) none))) (cond (Nat.blt t 75) (cond (Nat.beq t 74) (some S3) none) (cond (Nat.blt t 76) (cond (Nat.beq t 75) (some S4) none) (cond (Nat.beq t 76) (some S5) none)))))) (cond (Nat.blt t 116) (cond (Nat.blt t 90) (cond (Nat.blt t 85) (cond (Nat.blt t 84) (cond (Nat.beq t 77) (some S6) none) (cond (Nat.beq t 84) (some S7) none)) (cond (Nat.blt t 87) (cond (Nat.beq t 85) (some S8) none) (cond (Nat.blt t 88) (cond (Nat.beq t 87) (some S9) none) (cond (Nat.beq t 88) (some Ta) none)))) (cond (Nat.blt t 106) (cond (Nat.blt t 99) (cond (Nat.beq t 90) (some Tb) none) (cond (Nat.blt t 101) (cond (Nat.beq t 99) (some Tc) none) (cond (Nat.beq t 101) (some QR) none))) (cond (Nat.blt t 110) (cond (Nat.beq t 106) (some QS) none) (cond (Nat.blt t 111) (cond (Nat.beq t 110) (some QT) none) (cond (Nat.beq t 111) (some QU) none))))) (cond (Nat.blt t 130) (cond (Nat.blt t 122) (cond (Nat.blt t 119) (cond (Nat.beq t 116) (some QV) none) (cond (Nat.blt t 121) (cond (Nat.beq t 119) (some QW) none) (cond (Nat.beq t 121) (some QX) none))) (cond (Nat.blt t 125) (cond (Nat.beq t 122) (some QY) none) (cond (Nat.blt t 128) (cond (Nat.beq t 125) (some QZ) none) (cond (Nat.beq t 128) (some Q0) none)))) (cond (Nat.blt t 142) (cond (Nat.blt t 132) (cond (Nat.beq t 130) (some Q1) none) (cond (Nat.blt t 134) (cond (Nat.beq t 132) (some Q2) none) (cond (Nat.beq t 134) (some Q3) none))) (cond (Nat.blt t 146) (cond (Nat.beq t 142) (some Q4) none) (cond (Nat.blt t 149) (cond (Nat.beq t 146) (some Q5) none) (cond (Nat.beq t 149) (some Q6) none)))))))
theorem Td : bD Try.prog 1 ty1 :=
 ⟨⟨Try.t1, by kernel_rfl, rfl, rfl, _, rfl, fun _ => rfl⟩, rfl, by decide, rfl, ⟨_, _, _, Try.underlying1⟩, rfl, nofun⟩
theorem Te : bD Try.prog 2 ty2 :=
 ⟨⟨Try.t2, by kernel_rfl, rfl, rfl, _, rfl, fun _ => rfl⟩, rfl, by decide, rfl, Try.underlying2, rfl, nofun⟩
theorem Tf : bD Try.prog 3 ty3 :=
 ⟨⟨Try.t3, by kernel_rfl, rfl, rfl, _, rfl, fun _ => rfl⟩, rfl, by decide, rfl, Try.underlying3, rfl, nofun⟩
theorem Tg : bD Try.prog 4 ty4 :=
 ⟨⟨Try.t4, by kernel_rfl, rfl, rfl, _, rfl, fun _ => rfl⟩, rfl, by decide, rfl, Try.underlying4, rfl, nofun⟩
theorem Th : bD Try.prog 5 ty5 :=
 ⟨⟨Try.t5, by kernel_rfl, rfl, rfl, _, rfl, fun _ => rfl⟩, rfl, by decide, rfl, Try.underlying5, rfl, nofun⟩
theorem Ti : bD Try.prog 9 ty9 :=
 ⟨⟨Try.t9, by kernel_rfl, rfl, rfl, _, rfl, fun _ => rfl⟩, rfl, by decide, rfl, Try.underlying9, rfl, nofun⟩
theorem Rz : bD Try.prog 20 SQ :=
 ⟨⟨Try.t20, by kernel_rfl, rfl, rfl, _, rfl, fun _ => rfl⟩, rfl, by decide, rfl, ⟨_, Try.underlying20⟩, rfl, nofun⟩
theorem RA : bD Try.prog 22 SR :=
 ⟨⟨Try.t22, by kernel_rfl, rfl, rfl, _, rfl, fun _ => rfl⟩, rfl, by decide, rfl, Try.underlying22, rfl, nofun⟩
theorem RB : bD Try.prog 23 SS :=
 ⟨⟨Try.t23, by kernel_rfl, rfl, rfl, _, rfl, fun _ => rfl⟩, rfl, by decide, rfl, Try.underlying23, rfl, nofun⟩
theorem RC : bD Try.prog 24 ST :=
 ⟨⟨Try.t24, by kernel_rfl, rfl, rfl, _, rfl, fun _ => rfl⟩, rfl, by decide, rfl, Try.underlying24, rfl, fun ks h => fU (d := 12) (by decide) (by cases h; kernel_rfl) Try.eqGuardType24 (by rw [Try.underlying24])⟩
theorem RD : bD Try.prog 26 SU :=
 ⟨⟨Try.t26, by kernel_rfl, rfl, rfl, _, rfl, fun _ => rfl⟩, rfl, by decide, rfl, ⟨_, Try.underlying26, rfl⟩, rfl, fun ks h => fU (d := 12) (by decide) (by cases h; kernel_rfl) Try.eqGuardType26 (by rw [Try.underlying26])⟩
theorem RE : bD Try.prog 28 SV :=
 ⟨⟨Try.t28, by kernel_rfl, rfl, rfl, _, rfl, fun _ => rfl⟩, rfl, by decide, rfl, ⟨_, Try.underlying28, rfl⟩, rfl, fun ks h => fU (d := 12) (by decide) (by cases h; kernel_rfl) Try.eqGuardType28 (by rw [Try.underlying28])⟩
theorem RF : bD Try.prog 29 SW :=
 ⟨⟨Try.t29, by kernel_rfl, rfl, rfl, _, rfl, fun _ => rfl⟩, rfl, by decide, rfl, Try.underlying29, rfl, nofun⟩
theorem RG : bD Try.prog 31 SX :=
 ⟨⟨Try.t31, by kernel_rfl, rfl, rfl, _, rfl, fun _ => rfl⟩, rfl, by decide, rfl, ⟨_, Try.underlying31, rfl⟩, rfl, nofun⟩
theorem RH : bD Try.prog 32 SY :=
 ⟨⟨Try.t32, by kernel_rfl, rfl, rfl, _, rfl, fun _ => rfl⟩, rfl, by decide, rfl, Try.underlying32, rfl, nofun⟩
theorem RK : bD Try.prog 38 SZ :=
 ⟨⟨Try.t38, by kernel_rfl, rfl, rfl, _, rfl, fun _ => rfl⟩, rfl, by decide, rfl, ⟨_, Try.underlying38, rfl⟩, rfl, fun ks h => fU (d := 12) (by decide) (by cases h; kernel_rfl) Try.eqGuardType38 (by rw [Try.underlying38])⟩
theorem RL : bD Try.prog 61 S0 :=
 ⟨⟨Try.t61, by kernel_rfl, rfl, rfl, _, rfl, fun _ => rfl⟩, rfl, by decide, rfl, ⟨_, _, _, Try.underlying61⟩, rfl, nofun⟩
theorem RM : bD Try.prog 62 S1 :=
 ⟨⟨Try.t62, by kernel_rfl, rfl, rfl, _, rfl, fun _ => rfl⟩, rfl, by decide, rfl, ⟨_, _, _, Try.underlying62⟩, rfl, nofun⟩
theorem RN : bD Try.prog 66 S2 :=
 ⟨⟨Try.t66, by kernel_rfl, rfl, rfl, _, rfl, fun _ => rfl⟩, rfl, by decide, rfl, Try.underlying66, rfl, fun ks h => fU (d := 12) (by decide) (by cases h; kernel_rfl) Try.eqGuardType66 (by rw [Try.underlying66])⟩
theorem RO : bD Try.prog 74 S3 :=
 ⟨⟨Try.t74, by kernel_rfl, rfl, rfl, _, rfl, fun _ => rfl⟩, rfl, by decide, rfl, Try.underlying74, rfl, fun ks h => fU (d := 12) (by decide) (by cases h; kernel_rfl) Try.eqGuardType74 (by rw [Try.underlying74])⟩
theorem RP : bD Try.prog 75 S4 :=
 ⟨⟨Try.t75, by kernel_rfl, rfl, rfl, _, rfl, fun _ => rfl⟩, rfl, by decide, rfl, Try.underlying75, rfl, nofun⟩
theorem RQ : bD Try.prog 76 S5 :=
 ⟨⟨Try.t76, by kernel_rfl, rfl, rfl, _, rfl, fun _ => rfl⟩, rfl, by decide, rfl, ⟨_, _, _, Try.underlying76⟩, rfl, nofun⟩
theorem RR : bD Try.prog 77 S6 :=
 ⟨⟨Try.t77, by kernel_rfl, rfl, rfl, _, rfl, fun _ => rfl⟩, rfl, by decide, rfl, ⟨_, _, _, Try.underlying77⟩, rfl, nofun⟩
theorem RS : bD Try.prog 84 S7 :=
 ⟨⟨Try.t84, by kernel_rfl, rfl, rfl, _, rfl, fun _ => rfl⟩, rfl, by decide, rfl, ⟨_, Try.underlying84, rfl⟩, rfl, nofun⟩
theorem RT : bD Try.prog 85 S8 :=
 ⟨⟨Try.t85, by kernel_rfl, rfl, rfl, _, rfl, fun _ => rfl⟩, rfl, by decide, rfl, ⟨_, _, _, Try.underlying85⟩, rfl, nofun⟩
theorem RU : bD Try.prog 87 S9 :=
 ⟨⟨Try.t87, by kernel_rfl, rfl, rfl, _, rfl, fun _ => rfl⟩, rfl, by decide, rfl, ⟨_, _, _, Try.underlying87⟩, rfl, nofun⟩
theorem RV : bD Try.prog 88 Ta :=
 ⟨⟨Try.t88, by kernel_rfl, rfl, rfl, _, rfl, fun _ => rfl⟩, rfl, by decide, rfl, Try.underlying88, rfl, nofun⟩
theorem RW : bD Try.prog 90 Tb :=
 ⟨⟨Try.t90, by kernel_rfl, rfl, rfl, _, rfl, fun _ => rfl⟩, rfl, by decide, rfl, Try.underlying90, rfl, nofun⟩
theorem RX : bD Try.prog 99 Tc :=
 ⟨⟨Try.t99, by kernel_rfl, rfl, rfl, _, rfl, fun _ => rfl⟩, rfl, by decide, rfl, ⟨_, _, _, Try.underlying99⟩, rfl, nofun⟩
theorem PO : bD Try.prog 101 QR :=
 ⟨⟨Try.t101, by kernel_rfl, rfl, rfl, _, rfl, fun _ => rfl⟩, rfl, by decide, rfl, ⟨_, Try.underlying101, rfl⟩, rfl, fun ks h => fU (d := 12) (by decide) (by cases h; kernel_rfl) Try.eqGuardType101 (by rw [Try.underlying101])⟩
theorem PP : bD Try.prog 106 QS :=
 ⟨⟨Try.t106, by kernel_rfl, rfl, rfl, _, rfl, fun _ => rfl⟩, rfl, by decide, rfl, ⟨_, _, _, Try.underlying106⟩, rfl, nofun⟩
theorem PQ : bD Try.prog 110 QT :=
 ⟨⟨Try.t110, by kernel_rfl, rfl, rfl, _, rfl, fun _ => rfl⟩, rfl, by decide, rfl, ⟨_, Try.underlying110, rfl⟩, rfl, fun ks h => fU (d := 12) (by decide) (by cases h; kernel_rfl) Try.eqGuardType110 (by rw [Try.underlying110])⟩
theorem PR : bD Try.prog 111 QU :=
 ⟨⟨Try.t111, by kernel_rfl, rfl, rfl, _, rfl, fun _ => rfl⟩, rfl, by decide, rfl, Try.underlying111, rfl, nofun⟩
theorem PS : bD Try.prog 116 QV :=
 ⟨⟨Try.t116, by kernel_rfl, rfl, rfl, _, rfl, fun _ => rfl⟩, rfl, by decide, rfl, Try.underlying116, rfl, fun ks h => fU (d := 12) (by decide) (by cases h; kernel_rfl) Try.eqGuardType116 (by rw [Try.underlying116])⟩
theorem PT : bD Try.prog 119 QW :=
 ⟨⟨Try.t119, by kernel_rfl, rfl, rfl, _, rfl, fun _ => rfl⟩, rfl, by decide, rfl, ⟨_, _, _, Try.underlying119⟩, rfl, nofun⟩
theorem PU : bD Try.prog 121 QX :=
 ⟨⟨Try.t121, by kernel_rfl, rfl, rfl, _, rfl, fun _ => rfl⟩, rfl, by decide, rfl, Try.underlying121, rfl, fun ks h => fU (d := 12) (by decide) (by cases h; kernel_rfl) Try.eqGuardType121 (by rw [Try.underlying121])⟩
theorem PV : bD Try.prog 122 QY :=
 ⟨⟨Try.t122, by kernel_rfl, rfl, rfl, _, rfl, fun _ => rfl⟩, rfl, by decide, rfl, ⟨_, _, _, Try.underlying122⟩, rfl, nofun⟩
theorem PW : bD Try.prog 125 QZ :=
 ⟨⟨Try.t125, by kernel_rfl, rfl, rfl, _, rfl, fun _ => rfl⟩, rfl, by decide, rfl, ⟨_, _, _, Try.underlying125⟩, rfl, nofun⟩
theorem PX : bD Try.prog 128 Q0 :=
 ⟨⟨Try.t128, by kernel_rfl, rfl, rfl, _, rfl, fun _ => rfl⟩, rfl, by decide, rfl, Try.underlying128, rfl, fun ks h => fU (d := 12) (by decide) (by cases h; kernel_rfl) Try.eqGuardType128 (by rw [Try.underlying128])⟩
theorem PY : bD Try.prog 130 Q1 :=
 ⟨⟨Try.t130, by kernel_rfl, rfl, rfl, _, rfl, fun _ => rfl⟩, rfl, by decide, rfl, Try.underlying130, rfl, nofun⟩
theorem PZ : bD Try.prog 132 Q2 :=
 ⟨⟨Try.t132, by kernel_rfl, rfl, rfl, _, rfl, fun _ => rfl⟩, rfl, by decide, rfl, ⟨_, _, _, Try.underlying132⟩, rfl, nofun⟩
theorem P0 : bD Try.prog 134 Q3 :=
 ⟨⟨Try.t134, by kernel_rfl, rfl, rfl, _, rfl, fun _ => rfl⟩, rfl, by decide, rfl, Try.underlying134, rfl, nofun⟩
theorem P1 : bD Try.prog 142 Q4 :=
 ⟨⟨Try.t142, by kernel_rfl, rfl, rfl, _, rfl, fun _ => rfl⟩, rfl, by decide, rfl, Try.underlying142, rfl, nofun⟩
theorem P2 : bD Try.prog 146 Q5 :=
 ⟨⟨Try.t146, by kernel_rfl, rfl, rfl, _, rfl, fun _ => rfl⟩, rfl, by decide, rfl, Try.underlying146, rfl, nofun⟩
theorem P3 : bD Try.prog 149 Q6 :=
 ⟨⟨Try.t149, by kernel_rfl, rfl, rfl, _, rfl, fun _ => rfl⟩, rfl, by decide, rfl, Try.underlying149, rfl, nofun⟩
theorem aJ : aY Try.prog jm := fun t i => (aU (aU (aU (aU (aU (aS Td) (aS Te)) (aU (aS Tf) (aU (aS Tg) (aS Th)))) (aU (aU (aS Ti) (aU (aS Rz) (aS RA))) (aU (aS RB) (aU (aS RC) (aS RD))))) (aU (aU (aU (aS RE) (aS RF)) (aU (aS RG) (aU (aS RH) (aS RK)))) (aU (aU (aS RL) (aU (aS RM) (aS RN))) (aU (aS RO) (aU (aS RP) (aS RQ)))))) (aU (aU (aU (aU (aS RR) (aS RS)) (aU (aS RT) (aU (aS RU) (aS RV)))) (aU (aU (aS RW) (aU (aS RX) (aS PO))) (aU (aS PP) (aU (aS PQ) (aS PR))))) (aU (aU (aU (aS PS) (aU (aS PT) (aS PU))) (aU (aS PV) (aU (aS PW) (aS PX)))) (aU (aU (aS PY) (aU (aS PZ) (aS P0))) (aU (aS P1) (aU (aS P2) (aS P3)))))))
theorem mixed : Try.prog.follows .mixedOrders = true := by kernel_rfl
theorem bG : ou Try.prog := by
 intro g fn h
 have e : Try.prog.funcs.all (fun fn => !(fn.name == "runtime.NumGoroutine")) = true := by kernel_rfl
 rw [Array.all_eq_true_iff_forall_mem] at e
 have := e fn (Array.mem_of_getElem? h)
 simpa using this
def vm (P : Program) (T : av) (l : List FuncId) (f : Nat) (c : CH) : Nat → CH
 | 0 => c
 | n + 1 => CH.inl P T l f (vm P T l f c n) c
theorem iF {P : Program} {T : av} {l : List FuncId} {f : Nat} {c : CH} (hT : aY P T) (hm : P.follows .mixedOrders = true) (hN : ou P) (hc : aE P c) : ∀ n, aE P (vm P T l f c n)
 | 0 => hc
 | n + 1 => CH.Tn hT hm hN (iF hT hm hN hc n) hc
def rl {A : Type} (a : A) : Nat → List A → List A
 | 0, l => l
 | n + 1, l => a :: rl a n l
abbrev v8 (a b c d e f g h : Int) (r : LA_) : LA_ := .int .u64 a :: .int .u64 b :: .int .u64 c :: .int .u64 d :: .int .u64 e :: .int .u64 f :: .int .u64 g :: .int .u64 h :: r
abbrev bE (a b c d e f g h : Int) : LA_ := [.int .u64 a, .int .u64 b, .int .u64 c, .int .u64 d, .int .u64 e, .int .u64 f, .int .u64 g, .int .u64 h]
abbrev _root_.Prod.s4 {a0 a1 a2 a3 R : Type} (x : a0 × a1 × a2 × a3 × R) : R := x.2.2.2.2
abbrev _root_.Prod.s8 {a0 a1 a2 a3 a4 a5 a6 a7 R : Type} (x : a0 × a1 × a2 × a3 × a4 × a5 × a6 × a7 × R) : R := x.2.2.2.2.2.2.2.2
abbrev _root_.Prod.s16 {a0 a1 a2 a3 a4 a5 a6 a7 b0 b1 b2 b3 b4 b5 b6 b7 R : Type} (x : a0 × a1 × a2 × a3 × a4 × a5 × a6 × a7 × b0 × b1 × b2 × b3 × b4 × b5 × b6 × b7 × R) : R := x.2.2.2.2.2.2.2.2.2.2.2.2.2.2.2.2
abbrev fP {R : Type} (d : Nat → Int) (r : R) : Int × Int × Int × Int × Int × Int × Int × Int × Int × Int × Int × Int × Int × Int × Int × Int × Int × Int × Int × Int × Int × Int × Int × Int × Int × Int × Int × Int × Int × Int × Int × Int × R := (d 0, d 1, d 2, d 3, d 4, d 5, d 6, d 7, d 8, d 9, d 10, d 11, d 12, d 13, d 14, d 15, d 16, d 17, d 18, d 19, d 20, d 21, d 22, d 23, d 24, d 25, d 26, d 27, d 28, d 29, d 30, d 31, r)
abbrev bc (P : Program) (g : FuncId) (k : Nat) (args : LA_) (ls : List ar) (d : FD) (x : d.X) : Prop := nE P g ∧ di P g args ⟨k, cQ 0 ls⟩ (.ret (d.val x)) ⟨k + (d.aL x).length, cQ k (d.aL x)⟩
theorem FD.semA (d : FD) {ch : CH} (hH : aE Try.prog ch) {g : FuncId} {fn : Func} (hf : Try.prog.funcs[g]? = some fn) {fuel : Nat} {cargs : LA_} {B0 : List (Nat × ar)} {x : d.X} (hb : fn.body = some (bq fn)) (hl : bm (bq fn) = [])
  (hS : shP (d.k + d.B.length) [some d.M] (dX d.k d.B) = true)
  (hx : bh jm ch bt fuel (bq fn) (bC fn.ntmps cargs ⟨d.k, B0⟩) .nil (d.leaf jm fn.results.toList) = some x) :
  nE Try.prog g ∧ di Try.prog g cargs ⟨d.k, B0⟩ (.ret (d.val x)) ⟨d.k + (d.aL x).length, cQ d.k (d.aL x)⟩ :=
 FD.sem aJ hH mixed bG d hf hb (aI (l := []) hl trivial) hS hx
end Go.Ev
namespace Go.Ev
open Go.Proofs
abbrev Fx := Int × Int × Int × Int × Int × Int × Int × Int
def Cv : CH := CH.none
theorem GC : aE Try.prog Cv := CH.aB
def s6 (a0 : Int) : Option (Fx) :=
 (some ((IntKind.wrap .u64 a0), (IntKind.wrap .u64 (aC .i64 a0 63)), (IntKind.wrap .u64 (aC .i64 a0 63)), (IntKind.wrap .u64 (aC .i64 a0 63)), (IntKind.wrap .u64 (aC .i64 a0 63)), (IntKind.wrap .u64 (aC .i64 a0 63)), (IntKind.wrap .u64 (aC .i64 a0 63)), (IntKind.wrap .u64 (aC .i64 a0 63))))
def sw : FD where
 X := Fx
 k := 0
 pre := []
 F := fun s => []
 M := .agg (rl (.int .u64) 8 [])
 B := []
 toL := fun x => [.I x.1, .I x.2.1, .I x.2.2.1, .I x.2.2.2.1, .I x.s4.1, .I x.s4.2.1, .I x.s4.2.2.1, .I x.s4.2.2.2]
 ofL := fun ls => match ls with
  | [.I x0, .I x1, .I x2, .I x3, .I x4, .I x5, .I x6, .I x7] => some (x0, x1, x2, x3, x4, x5, x6, x7)
  | _ => none
 au := fun ls x h => by
  split at h
  ·cases h; rfl
  ·cases h
theorem JS (a0 : Int) (x : Fx) (h : s6 a0 = some x) : bc Try.prog 19 0 [.int .i64 a0] [] sw x :=
 FD.sem (ch := Cv) (A := bt) (fn := Try.f19) (c := bq Try.f19) (fuel := 60) aJ GC mixed bG sw Try.func19 (by kernel_rfl) (aI (l := [aK Try.f19 0]) (by kernel_rfl) ⟨(eh (by kernel_rfl)), trivial⟩)
  (by kernel_rfl) (Eq.trans (by kernel_rfl) h)
def Cw : HK where
 call := fun args σ k => match args with
  | [.int .i64 a0] => Option.bind (s6 a0) fun y => aA σ 0 (sw.val y) (sw.aL y) k
  | _ => none
 nat := fun args σ k => by
  repeat' split
  all_goals simp only [aw, ai, Option.bind_assoc, Option.bind_none, aA, Option.bind_some]
 pure := true
 pok := fun _ args σ r σ' h => by
  split at h
  ·exact bp h (fun y => rfl) (fun y f => rfl)
  ·cases h
theorem Kr : aW Try.prog 19 Cw := by
 intro args σ r σ' h
 simp only [Cw] at h
 split at h
 ·rename_i a0
  obtain ⟨y, hy, h⟩ := bE_ h
  exact lifted (xs := []) (ls := []) (cargs := [.int .i64 a0]) (bv.of trivial) rfl (JS a0 y hy) rfl rfl rfl rfl h
 ·cases h
def qg : CH := CH.none
theorem sW : aE Try.prog qg := CH.aB
def fv {R : Type} (cc : LA_ × Nat × LA_ × Nat) (v : Int) (kn : (Int) → Option R) (ke : ((Int) ⊕ (Unit)) → Option R) : Option R :=
 (cond (decide (v ≥ 0)) (af (decide (0 ≤ v) && decide (v < ((8 : Nat) : Int))) (af (aq [.int .u64] cc.1 (0 + (Int.toNat v * 1))) (af (decide (0 ≤ v) && decide (v < ((8 : Nat) : Int))) (af (aq [.int .u64] cc.2.2.1 (0 + (Int.toNat v * 1))) (cond ((ac cc.1 ((0 + (Int.toNat v * 1)) + 0)) != (ac cc.2.2.1 ((0 + (Int.toNat v * 1)) + 0))) (af (decide (0 ≤ v) && decide (v < ((8 : Nat) : Int))) (af (aq [.int .u64] cc.1 (0 + (Int.toNat v * 1))) (af (decide (0 ≤ v) && decide (v < ((8 : Nat) : Int))) (af (aq [.int .u64] cc.2.2.1 (0 + (Int.toNat v * 1))) (cond (decide ((ac cc.1 ((0 + (Int.toNat v * 1)) + 0)) < (ac cc.2.2.1 ((0 + (Int.toNat v * 1)) + 0)))) (ke (.inl (-1))) (ke (.inl 1))))))) (kn (IntKind.wrap .i64 (v - 1)))))))) (ke (.inr ())))
def oL (cc : LA_ × Nat × LA_ × Nat) (v : Int) : Option ((Int) ⊕ ((Int) ⊕ (Unit))) := fv cc v (fun v => some (Sum.inl v)) fun e => some (Sum.inr e)
def wS (cc : LA_ × Nat × LA_ × Nat) (v : Int) : Option ((Int) ⊕ (Unit)) := dA (oL cc) v
def Ck (cc : LA_ × Nat × LA_ × Nat) (v : Int) : List ah := [.I v, .C cc.1, .N cc.2.1, .C cc.2.2.1, .N cc.2.2.2]
def sX (ls : List ah) : Option ((LA_ × Nat × LA_ × Nat) × (Int)) := match ls with
 | [.I x0, .C x1, .N x2, .C x3, .N x4] => some ((x1, x2, x3, x4), x0)
 | _ => none
def sY (e : (Int) ⊕ (Unit)) : an := ((Sum.elim (fun e => .ret) (fun e => .exit 0)) e)
def sZ (cc : LA_ × Nat × LA_ × Nat) (e : (Int) ⊕ (Unit)) : List ah := ((Sum.elim (fun e => [.I e]) (fun e => [])) e)
def rB (cc : LA_ × Nat × LA_ × Nat) (e : (Int) ⊕ (Unit)) : List ah := ((Sum.elim (fun e => []) (fun e => [])) e)
def lU (o : an) (ls : List ah) : Option (((Int) ⊕ (Unit)) × List ah) := match o with
 | .ret => (match ls with
  | [.I x0] => some ((.inl x0), [])
  | _ => none)
 | .exit 0 => (match ls with
  | [] => some ((.inr ()), [])
  | _ => none)
 | _ => none
theorem yN : ∀ o ls e cl cc, lU o ls = some (e, cl) → cl = rB cc e → ls = sZ cc e ∧ sY e = o ∧ o ≠ .normal ∧ ∀ v, o = .pan v → sc 0 v = true := by
 intro o ls e cl cc h hc
 unfold lU at h
 split at h
 ·split at h
  ·cases h
   exact ⟨rfl, rfl, by simp, by intro v hv; cases hv <;> rfl⟩
  ·cases h
 ·split at h
  ·cases h
   exact ⟨rfl, rfl, by simp, by intro v hv; cases hv <;> rfl⟩
  ·cases h
 ·cases h
def Ej (o : an) : ExS := match o with
 | .ret => ⟨0, (none :: none :: none :: none :: some (.int .i64) :: (rl none 19 [])), [], fun s => [], [], []⟩
 | .exit 0 => ⟨0, (rl none 24 []), [], fun s => [], [], []⟩
 | _ => ⟨0, [], [], fun _ => [], [], []⟩
theorem Cl {R : Type} (cc : LA_ × Nat × LA_ × Nat) (v : Int) (kn : (Int) → Option R) (ke : ((Int) ⊕ (Unit)) → Option R) : fv cc v kn ke = (fv cc v (fun v => some (Sum.inl v)) fun e => some (Sum.inr e)).bind (Sum.elim kn ke) := by
 simp only [fv, bK, ai, Option.bind_assoc, cb, bF, Option.bind_some, Option.bind_none, Sum.elim_inl, Sum.elim_inr]
def vQ : LD where
 CC := LA_ × Nat × LA_ × Nat
 V := Int
 E := (Int) ⊕ (Unit)
 n := 0
 K := 2
 M := (none :: none :: some (.ptr 0 0) :: some (.ptr 1 0) :: none :: some (.int .i64) :: (rl none 18 []))
 B := [(0, .vec 8 true), (1, .vec 8 true)]
 D := []
 pre := []
 F := fun s => [nameAt s 2 [], nameAt s 3 []]
 toL := Ck
 ofL := sX
 au := fun ls c v h => by
  unfold sX at h
  split at h
  ·cases h; rfl
  ·cases h
 ck := fv
 nat := Cl
 sh := Ej
 out := sY
 toE := sZ
 fp := rB
 ofE := lU
 da := yN
 post := fun cc e k => ((Sum.elim (fun e => k (.ret) (bd 0 (none :: none :: none :: none :: some (.int .i64 e) :: (rl none 19 [])) [] [])) (fun e => k (.exit 0) (bd 0 (rl none 24 []) [] []))) e)
 cd := fun cc e k => by rcases e with e | e <;> rfl
theorem Cm : cF Try.prog 0 vQ.la (aK Try.f38 0) :=
 LD.ok (ch := qg) (A := bt) aJ sW mixed (fuel := 60) ⟨by kernel_rfl, fun e => by (rcases e with e | e <;> kernel_rfl), fun cc v => by kernel_rfl, aI (l := []) (by kernel_rfl) trivial⟩
def gV (a0 a1 a2 a3 a4 a5 a6 a7 a8 a9 a10 a11 a12 a13 a14 a15 : Int) : Option (Int) :=
 (Option.bind (wS ((bE a0 a1 a2 a3 a4 a5 a6 a7), 1, (bE a8 a9 a10 a11 a12 a13 a14 a15), 1) 7) (Sum.elim (fun e1 => (some e1)) (fun e1 => (some 0))))
def mJ : FD where
 X := Int
 k := 0
 pre := []
 F := fun s => []
 M := .int .i64
 B := []
 toL := fun x => [.I x]
 ofL := fun ls => match ls with
  | [.I x0] => some x0
  | _ => none
 au := fun ls x h => by
  split at h
  ·cases h; rfl
  ·cases h
theorem Fi (a0 a1 a2 a3 a4 a5 a6 a7 a8 a9 a10 a11 a12 a13 a14 a15 x : Int) (h : gV a0 a1 a2 a3 a4 a5 a6 a7 a8 a9 a10 a11 a12 a13 a14 a15 = some x) : bc Try.prog 38 0 [.agg (bE a0 a1 a2 a3 a4 a5 a6 a7), .agg (bE a8 a9 a10 a11 a12 a13 a14 a15)] [] mJ x :=
 FD.sem (ch := qg) (A := eF [(2, vQ.la)]) (fn := Try.f38) (c := bq Try.f38) (fuel := 60) aJ sW mixed bG mJ Try.func38 (by kernel_rfl) (aI (l := [aK Try.f38 0]) (by kernel_rfl) ⟨bX (by kernel_rfl) Cm, trivial⟩)
  (by kernel_rfl) (Eq.trans (by kernel_rfl) h)
def qh : HK where
 call := fun args σ k => match args with
  | [.agg [.int .u64 a0, .int .u64 a1, .int .u64 a2, .int .u64 a3, .int .u64 a4, .int .u64 a5, .int .u64 a6, .int .u64 a7], .agg [.int .u64 a8, .int .u64 a9, .int .u64 a10, .int .u64 a11, .int .u64 a12, .int .u64 a13, .int .u64 a14, .int .u64 a15]] => Option.bind (gV a0 a1 a2 a3 a4 a5 a6 a7 a8 a9 a10 a11 a12 a13 a14 a15) fun y => aA σ 0 (mJ.val y) (mJ.aL y) k
  | _ => none
 nat := fun args σ k => by
  repeat' split
  all_goals simp only [aw, ai, Option.bind_assoc, Option.bind_none, aA, Option.bind_some]
 pure := true
 pok := fun _ args σ r σ' h => by
  split at h
  ·exact bp h (fun y => rfl) (fun y f => rfl)
  ·cases h
theorem wT : aW Try.prog 38 qh := by
 intro args σ r σ' h
 simp only [qh] at h
 split at h
 ·rename_i a0 a1 a2 a3 a4 a5 a6 a7 a8 a9 a10 a11 a12 a13 a14 a15
  obtain ⟨y, hy, h⟩ := bE_ h
  exact lifted (xs := []) (ls := []) (cargs := [.agg (bE a0 a1 a2 a3 a4 a5 a6 a7), .agg (bE a8 a9 a10 a11 a12 a13 a14 a15)]) (bv.of trivial) rfl (Fi a0 a1 a2 a3 a4 a5 a6 a7 a8 a9 a10 a11 a12 a13 a14 a15 y hy) rfl rfl rfl rfl h
 ·cases h
def Ct : CH := CH.none
theorem yV : aE Try.prog Ct := CH.aB
def ak (a0 a1 a2 a3 a4 a5 a6 a7 : Int) : Option (Bool) :=
 (cond ((aC .u64 a7 63) == 1) (some true) (some false))
def js : FD where
 X := Bool
 k := 0
 pre := []
 F := fun s => []
 M := .bool
 B := []
 toL := fun x => [.B x]
 ofL := fun ls => match ls with
  | [.B x0] => some x0
  | _ => none
 au := fun ls x h => by
  split at h
  ·cases h; rfl
  ·cases h
theorem BL (a0 a1 a2 a3 a4 a5 a6 a7 : Int) (x : Bool) (h : ak a0 a1 a2 a3 a4 a5 a6 a7 = some x) : bc Try.prog 37 0 [.agg (v8 a0 a1 a2 a3 a4 a5 a6 a7 [])] [] js x :=
 FD.semA js yV Try.func37 (fuel := 60) (by kernel_rfl) (by kernel_rfl)
  (by kernel_rfl) (Eq.trans (by kernel_rfl) h)
def cN : HK where
 call := fun args σ k => match args with
  | [.agg [.int .u64 a0, .int .u64 a1, .int .u64 a2, .int .u64 a3, .int .u64 a4, .int .u64 a5, .int .u64 a6, .int .u64 a7]] => Option.bind (ak a0 a1 a2 a3 a4 a5 a6 a7) fun y => aA σ 0 (js.val y) (js.aL y) k
  | _ => none
 nat := fun args σ k => by
  repeat' split
  all_goals simp only [aw, ai, Option.bind_assoc, Option.bind_none, aA, Option.bind_some]
 pure := true
 pok := fun _ args σ r σ' h => by
  split at h
  ·exact bp h (fun y => rfl) (fun y f => rfl)
  ·cases h
theorem cU : aW Try.prog 37 cN := by
 intro args σ r σ' h
 simp only [cN] at h
 split at h
 ·rename_i a0 a1 a2 a3 a4 a5 a6 a7
  obtain ⟨y, hy, h⟩ := bE_ h
  exact lifted (xs := []) (ls := []) (cargs := [.agg (v8 a0 a1 a2 a3 a4 a5 a6 a7 [])]) (bv.of trivial) rfl (BL a0 a1 a2 a3 a4 a5 a6 a7 y hy) rfl rfl rfl rfl h
 ·cases h
def JM : CH := (CH.add 38 qh (CH.add 37 cN CH.none))
theorem Fk : aE Try.prog JM := (CH.aj wT (CH.aj cU CH.aB))
def ql (a0 a1 a2 a3 a4 a5 a6 a7 a8 a9 a10 a11 a12 a13 a14 a15 : Int) : Option (Int) :=
 (Option.bind (ak a0 a1 a2 a3 a4 a5 a6 a7) fun r1 => (cond r1 (Option.bind (ak a8 a9 a10 a11 a12 a13 a14 a15) fun r2 => (cond r2 (Option.bind (gV a0 a1 a2 a3 a4 a5 a6 a7 a8 a9 a10 a11 a12 a13 a14 a15) fun r3 => (some r3)) (some (-1)))) (Option.bind (ak a8 a9 a10 a11 a12 a13 a14 a15) fun r4 => (cond r4 (some 1) (Option.bind (gV a0 a1 a2 a3 a4 a5 a6 a7 a8 a9 a10 a11 a12 a13 a14 a15) fun r5 => (some r5))))))
def qm : FD where
 X := Int
 k := 0
 pre := []
 F := fun s => []
 M := .int .i64
 B := []
 toL := fun x => [.I x]
 ofL := fun ls => match ls with
  | [.I x0] => some x0
  | _ => none
 au := fun ls x h => by
  split at h
  ·cases h; rfl
  ·cases h
theorem If (a0 a1 a2 a3 a4 a5 a6 a7 a8 a9 a10 a11 a12 a13 a14 a15 x : Int) (h : ql a0 a1 a2 a3 a4 a5 a6 a7 a8 a9 a10 a11 a12 a13 a14 a15 = some x) : bc Try.prog 21 0 [.agg (v8 a0 a1 a2 a3 a4 a5 a6 a7 []), .agg (v8 a8 a9 a10 a11 a12 a13 a14 a15 [])] [] qm x :=
 FD.semA qm Fk Try.func21 (fuel := 60) (by kernel_rfl) (by kernel_rfl)
  (by kernel_rfl) (Eq.trans (by kernel_rfl) h)
def Ad : HK where
 call := fun args σ k => match args with
  | [.agg [.int .u64 a0, .int .u64 a1, .int .u64 a2, .int .u64 a3, .int .u64 a4, .int .u64 a5, .int .u64 a6, .int .u64 a7], .agg [.int .u64 a8, .int .u64 a9, .int .u64 a10, .int .u64 a11, .int .u64 a12, .int .u64 a13, .int .u64 a14, .int .u64 a15]] => Option.bind (ql a0 a1 a2 a3 a4 a5 a6 a7 a8 a9 a10 a11 a12 a13 a14 a15) fun y => aA σ 0 (qm.val y) (qm.aL y) k
  | _ => none
 nat := fun args σ k => by
  repeat' split
  all_goals simp only [aw, ai, Option.bind_assoc, Option.bind_none, aA, Option.bind_some]
 pure := true
 pok := fun _ args σ r σ' h => by
  split at h
  ·exact bp h (fun y => rfl) (fun y f => rfl)
  ·cases h
theorem JN : aW Try.prog 21 Ad := by
 intro args σ r σ' h
 simp only [Ad] at h
 split at h
 ·rename_i a0 a1 a2 a3 a4 a5 a6 a7 a8 a9 a10 a11 a12 a13 a14 a15
  obtain ⟨y, hy, h⟩ := bE_ h
  exact lifted (xs := []) (ls := []) (cargs := [.agg (v8 a0 a1 a2 a3 a4 a5 a6 a7 []), .agg (v8 a8 a9 a10 a11 a12 a13 a14 a15 [])]) (bv.of trivial) rfl (If a0 a1 a2 a3 a4 a5 a6 a7 a8 a9 a10 a11 a12 a13 a14 a15 y hy) rfl rfl rfl rfl h
 ·cases h
def Io : CH := (CH.add 37 cN CH.none)
theorem Ew : aE Try.prog Io := (CH.aj cU CH.aB)
def kU (a0 a1 a2 a3 a4 a5 a6 a7 : Int) : Option (Int) :=
 (Option.bind (ak a0 a1 a2 a3 a4 a5 a6 a7) fun r1 => (cond r1 (some (-1)) (cond (a0 == 0 && (a1 == 0 && (a2 == 0 && (a3 == 0 && (a4 == 0 && (a5 == 0 && (a6 == 0 && (a7 == 0 && true)))))))) (some 0) (some 1))))
def oh : FD where
 X := Int
 k := 0
 pre := []
 F := fun s => []
 M := .int .i64
 B := []
 toL := fun x => [.I x]
 ofL := fun ls => match ls with
  | [.I x0] => some x0
  | _ => none
 au := fun ls x h => by
  split at h
  ·cases h; rfl
  ·cases h
theorem GE (a0 a1 a2 a3 a4 a5 a6 a7 x : Int) (h : kU a0 a1 a2 a3 a4 a5 a6 a7 = some x) : bc Try.prog 28 0 [.agg (v8 a0 a1 a2 a3 a4 a5 a6 a7 [])] [] oh x :=
 FD.semA oh Ew Try.func28 (fuel := 60) (by kernel_rfl) (by kernel_rfl)
  (by kernel_rfl) (Eq.trans (by kernel_rfl) h)
def sv : HK where
 call := fun args σ k => match args with
  | [.agg [.int .u64 a0, .int .u64 a1, .int .u64 a2, .int .u64 a3, .int .u64 a4, .int .u64 a5, .int .u64 a6, .int .u64 a7]] => Option.bind (kU a0 a1 a2 a3 a4 a5 a6 a7) fun y => aA σ 0 (oh.val y) (oh.aL y) k
  | _ => none
 nat := fun args σ k => by
  repeat' split
  all_goals simp only [aw, ai, Option.bind_assoc, Option.bind_none, aA, Option.bind_some]
 pure := true
 pok := fun _ args σ r σ' h => by
  split at h
  ·exact bp h (fun y => rfl) (fun y f => rfl)
  ·cases h
theorem yP : aW Try.prog 28 sv := by
 intro args σ r σ' h
 simp only [sv] at h
 split at h
 ·rename_i a0 a1 a2 a3 a4 a5 a6 a7
  obtain ⟨y, hy, h⟩ := bE_ h
  exact lifted (xs := []) (ls := []) (cargs := [.agg (v8 a0 a1 a2 a3 a4 a5 a6 a7 [])]) (bv.of trivial) rfl (GE a0 a1 a2 a3 a4 a5 a6 a7 y hy) rfl rfl rfl rfl h
 ·cases h
abbrev Al := Int × Int × Int × Int × Int × Int × Int × Int
def wW : CH := (CH.add 60 Gz CH.none)
def yX : CH := vm Try.prog jm [76, 87] 60 wW 2
theorem CA : aE Try.prog wW := (CH.aj (I6 Try.func60 (by kernel_rfl) (by kernel_rfl) (by kernel_rfl) (by kernel_rfl)) CH.aB)
theorem Eu : aE Try.prog yX := iF aJ mixed bG CA 2
def dy (a0 a1 a2 a3 a4 a5 a6 a7 a8 a9 a10 a11 a12 a13 a14 a15 a16 : Int) : Option (Al) :=
 (Option.bind (ib a0 a8 a16) fun r1 => (Option.bind (ib a1 a9 r1.2) fun r2 => (Option.bind (ib a2 a10 r2.2) fun r3 => (Option.bind (ib a3 a11 r3.2) fun r4 => (Option.bind (ib a4 a12 r4.2) fun r5 => (Option.bind (ib a5 a13 r5.2) fun r6 => (Option.bind (ib a6 a14 r6.2) fun r7 => (Option.bind (ib a7 a15 r7.2) fun r8 => (some (r1.1, r2.1, r3.1, r4.1, r5.1, r6.1, r7.1, r8.1))))))))))
def og : FD where
 X := Al
 k := 0
 pre := []
 F := fun s => []
 M := .agg (rl (.int .u64) 8 [])
 B := []
 toL := fun x => [.I x.1, .I x.2.1, .I x.2.2.1, .I x.2.2.2.1, .I x.s4.1, .I x.s4.2.1, .I x.s4.2.2.1, .I x.s4.2.2.2]
 ofL := fun ls => match ls with
  | [.I x0, .I x1, .I x2, .I x3, .I x4, .I x5, .I x6, .I x7] => some (x0, x1, x2, x3, x4, x5, x6, x7)
  | _ => none
 au := fun ls x h => by
  split at h
  ·cases h; rfl
  ·cases h
theorem GD (a0 a1 a2 a3 a4 a5 a6 a7 a8 a9 a10 a11 a12 a13 a14 a15 a16 : Int) (x : Al) (h : dy a0 a1 a2 a3 a4 a5 a6 a7 a8 a9 a10 a11 a12 a13 a14 a15 a16 = some x) : bc Try.prog 49 0 [.agg (bE a0 a1 a2 a3 a4 a5 a6 a7), .agg (bE a8 a9 a10 a11 a12 a13 a14 a15), .int .u64 a16] [] og x :=
 FD.sem (ch := yX) (A := bt) (fn := Try.f49) (c := bq Try.f49) (fuel := 60) aJ Eu mixed bG og Try.func49 (by kernel_rfl) (aI (l := [aK Try.f49 0]) (by kernel_rfl) ⟨(eh (by kernel_rfl)), trivial⟩)
  (by kernel_rfl) (Eq.trans (by kernel_rfl) h)
def iX : HK where
 call := fun args σ k => match args with
  | [.agg [.int .u64 a0, .int .u64 a1, .int .u64 a2, .int .u64 a3, .int .u64 a4, .int .u64 a5, .int .u64 a6, .int .u64 a7], .agg [.int .u64 a8, .int .u64 a9, .int .u64 a10, .int .u64 a11, .int .u64 a12, .int .u64 a13, .int .u64 a14, .int .u64 a15], .int .u64 a16] => Option.bind (dy a0 a1 a2 a3 a4 a5 a6 a7 a8 a9 a10 a11 a12 a13 a14 a15 a16) fun y => aA σ 0 (og.val y) (og.aL y) k
  | _ => none
 nat := fun args σ k => by
  repeat' split
  all_goals simp only [aw, ai, Option.bind_assoc, Option.bind_none, aA, Option.bind_some]
 pure := true
 pok := fun _ args σ r σ' h => by
  split at h
  ·exact bp h (fun y => rfl) (fun y f => rfl)
  ·cases h
theorem jI : aW Try.prog 49 iX := by
 intro args σ r σ' h
 simp only [iX] at h
 split at h
 ·rename_i a0 a1 a2 a3 a4 a5 a6 a7 a8 a9 a10 a11 a12 a13 a14 a15 a16
  obtain ⟨y, hy, h⟩ := bE_ h
  exact lifted (xs := []) (ls := []) (cargs := [.agg (bE a0 a1 a2 a3 a4 a5 a6 a7), .agg (bE a8 a9 a10 a11 a12 a13 a14 a15), .int .u64 a16]) (bv.of trivial) rfl (GD a0 a1 a2 a3 a4 a5 a6 a7 a8 a9 a10 a11 a12 a13 a14 a15 a16 y hy) rfl rfl rfl rfl h
 ·cases h
abbrev Cn := (I8 Bool)
def JK : CH := (CH.add 49 iX (CH.add 37 cN CH.none))
theorem Fj : aE Try.prog JK := (CH.aj jI (CH.aj cU CH.aB))
def qj (a0 a1 a2 a3 a4 a5 a6 a7 a8 a9 a10 a11 a12 a13 a14 a15 : Int) : Option (Cn) :=
 (Option.bind (dy a0 a1 a2 a3 a4 a5 a6 a7 a8 a9 a10 a11 a12 a13 a14 a15 0) fun r1 => (Option.bind (ak a0 a1 a2 a3 a4 a5 a6 a7) fun r2 => (cond r2 (Option.bind (ak a8 a9 a10 a11 a12 a13 a14 a15) fun r3 => (cond r3 (Option.bind (ak r1.1 r1.2.1 r1.2.2.1 r1.2.2.2.1 r1.2.2.2.2.1 r1.2.2.2.2.2.1 r1.2.2.2.2.2.2.1 r1.2.2.2.2.2.2.2) fun r4 => (cond r4 (Option.bind (ak a0 a1 a2 a3 a4 a5 a6 a7) fun r5 => (cond r5 (some (r1.1, r1.2.1, r1.2.2.1, r1.2.2.2.1, r1.2.2.2.2.1, r1.2.2.2.2.2.1, r1.2.2.2.2.2.2.1, r1.2.2.2.2.2.2.2, true)) (some (0, 0, 0, 0, 0, 0, 0, 0, false)))) (Option.bind (ak a0 a1 a2 a3 a4 a5 a6 a7) fun r6 => (cond r6 (some (0, 0, 0, 0, 0, 0, 0, 0, false)) (some (r1.1, r1.2.1, r1.2.2.1, r1.2.2.2.1, r1.2.2.2.2.1, r1.2.2.2.2.2.1, r1.2.2.2.2.2.2.1, r1.2.2.2.2.2.2.2, true)))))) (some (r1.1, r1.2.1, r1.2.2.1, r1.2.2.2.1, r1.2.2.2.2.1, r1.2.2.2.2.2.1, r1.2.2.2.2.2.2.1, r1.2.2.2.2.2.2.2, true)))) (Option.bind (ak a8 a9 a10 a11 a12 a13 a14 a15) fun r7 => (cond r7 (some (r1.1, r1.2.1, r1.2.2.1, r1.2.2.2.1, r1.2.2.2.2.1, r1.2.2.2.2.2.1, r1.2.2.2.2.2.2.1, r1.2.2.2.2.2.2.2, true)) (Option.bind (ak r1.1 r1.2.1 r1.2.2.1 r1.2.2.2.1 r1.2.2.2.2.1 r1.2.2.2.2.2.1 r1.2.2.2.2.2.2.1 r1.2.2.2.2.2.2.2) fun r8 => (cond r8 (Option.bind (ak a0 a1 a2 a3 a4 a5 a6 a7) fun r9 => (cond r9 (some (r1.1, r1.2.1, r1.2.2.1, r1.2.2.2.1, r1.2.2.2.2.1, r1.2.2.2.2.2.1, r1.2.2.2.2.2.2.1, r1.2.2.2.2.2.2.2, true)) (some (0, 0, 0, 0, 0, 0, 0, 0, false)))) (Option.bind (ak a0 a1 a2 a3 a4 a5 a6 a7) fun r10 => (cond r10 (some (0, 0, 0, 0, 0, 0, 0, 0, false)) (some (r1.1, r1.2.1, r1.2.2.1, r1.2.2.2.1, r1.2.2.2.2.1, r1.2.2.2.2.2.1, r1.2.2.2.2.2.2.1, r1.2.2.2.2.2.2.2, true)))))))))))
def qk : FD where
 X := Cn
 k := 0
 pre := []
 F := fun s => []
 M := .tup [.agg (rl (.int .u64) 8 []), .bool]
 B := []
 toL := fun x => [.I x.1, .I x.2.1, .I x.2.2.1, .I x.2.2.2.1, .I x.s4.1, .I x.s4.2.1, .I x.s4.2.2.1, .I x.s4.2.2.2.1, .B x.s8]
 ofL := fun ls => match ls with
  | [.I x0, .I x1, .I x2, .I x3, .I x4, .I x5, .I x6, .I x7, .B x8] => some (x0, x1, x2, x3, x4, x5, x6, x7, x8)
  | _ => none
 au := fun ls x h => by
  split at h
  ·cases h; rfl
  ·cases h
theorem Ie (a0 a1 a2 a3 a4 a5 a6 a7 a8 a9 a10 a11 a12 a13 a14 a15 : Int) (x : Cn) (h : qj a0 a1 a2 a3 a4 a5 a6 a7 a8 a9 a10 a11 a12 a13 a14 a15 = some x) : bc Try.prog 36 0 [.agg (bE a0 a1 a2 a3 a4 a5 a6 a7), .agg (bE a8 a9 a10 a11 a12 a13 a14 a15)] [] qk x :=
 FD.semA qk Fj Try.func36 (fuel := 60) (by kernel_rfl) (by kernel_rfl)
  (by kernel_rfl) (Eq.trans (by kernel_rfl) h)
def Ac : HK where
 call := fun args σ k => match args with
  | [.agg [.int .u64 a0, .int .u64 a1, .int .u64 a2, .int .u64 a3, .int .u64 a4, .int .u64 a5, .int .u64 a6, .int .u64 a7], .agg [.int .u64 a8, .int .u64 a9, .int .u64 a10, .int .u64 a11, .int .u64 a12, .int .u64 a13, .int .u64 a14, .int .u64 a15]] => Option.bind (qj a0 a1 a2 a3 a4 a5 a6 a7 a8 a9 a10 a11 a12 a13 a14 a15) fun y => aA σ 0 (qk.val y) (qk.aL y) k
  | _ => none
 nat := fun args σ k => by
  repeat' split
  all_goals simp only [aw, ai, Option.bind_assoc, Option.bind_none, aA, Option.bind_some]
 pure := true
 pok := fun _ args σ r σ' h => by
  split at h
  ·exact bp h (fun y => rfl) (fun y f => rfl)
  ·cases h
theorem JL : aW Try.prog 36 Ac := by
 intro args σ r σ' h
 simp only [Ac] at h
 split at h
 ·rename_i a0 a1 a2 a3 a4 a5 a6 a7 a8 a9 a10 a11 a12 a13 a14 a15
  obtain ⟨y, hy, h⟩ := bE_ h
  exact lifted (xs := []) (ls := []) (cargs := [.agg (bE a0 a1 a2 a3 a4 a5 a6 a7), .agg (bE a8 a9 a10 a11 a12 a13 a14 a15)]) (bv.of trivial) rfl (Ie a0 a1 a2 a3 a4 a5 a6 a7 a8 a9 a10 a11 a12 a13 a14 a15 y hy) rfl rfl rfl rfl h
 ·cases h
abbrev Cu := Int × Int × Int × Int × Int × Int × Int × Int
def Bb : CH := CH.none
theorem Fw : aE Try.prog Bb := CH.aB
def gC (a0 a1 a2 a3 a4 a5 a6 a7 : Int) : Option (Cu) :=
 (some ((xV .u64 18446744073709551615 a0), (xV .u64 18446744073709551615 a1), (xV .u64 18446744073709551615 a2), (xV .u64 18446744073709551615 a3), (xV .u64 18446744073709551615 a4), (xV .u64 18446744073709551615 a5), (xV .u64 18446744073709551615 a6), (xV .u64 18446744073709551615 a7)))
def qB : FD where
 X := Cu
 k := 0
 pre := []
 F := fun s => []
 M := .agg (rl (.int .u64) 8 [])
 B := []
 toL := fun x => [.I x.1, .I x.2.1, .I x.2.2.1, .I x.2.2.2.1, .I x.s4.1, .I x.s4.2.1, .I x.s4.2.2.1, .I x.s4.2.2.2]
 ofL := fun ls => match ls with
  | [.I x0, .I x1, .I x2, .I x3, .I x4, .I x5, .I x6, .I x7] => some (x0, x1, x2, x3, x4, x5, x6, x7)
  | _ => none
 au := fun ls x h => by
  split at h
  ·cases h; rfl
  ·cases h
theorem In (a0 a1 a2 a3 a4 a5 a6 a7 : Int) (x : Cu) (h : gC a0 a1 a2 a3 a4 a5 a6 a7 = some x) : bc Try.prog 50 0 [.agg (v8 a0 a1 a2 a3 a4 a5 a6 a7 [])] [] qB x :=
 FD.sem (ch := Bb) (A := bt) (fn := Try.f50) (c := bq Try.f50) (fuel := 60) aJ Fw mixed bG qB Try.func50 (by kernel_rfl) (aI (l := [aK Try.f50 0]) (by kernel_rfl) ⟨(eh (by kernel_rfl)), trivial⟩)
  (by kernel_rfl) (Eq.trans (by kernel_rfl) h)
def mK : HK where
 call := fun args σ k => match args with
  | [.agg [.int .u64 a0, .int .u64 a1, .int .u64 a2, .int .u64 a3, .int .u64 a4, .int .u64 a5, .int .u64 a6, .int .u64 a7]] => Option.bind (gC a0 a1 a2 a3 a4 a5 a6 a7) fun y => aA σ 0 (qB.val y) (qB.aL y) k
  | _ => none
 nat := fun args σ k => by
  repeat' split
  all_goals simp only [aw, ai, Option.bind_assoc, Option.bind_none, aA, Option.bind_some]
 pure := true
 pok := fun _ args σ r σ' h => by
  split at h
  ·exact bp h (fun y => rfl) (fun y f => rfl)
  ·cases h
theorem n9 : aW Try.prog 50 mK := by
 intro args σ r σ' h
 simp only [mK] at h
 split at h
 ·rename_i a0 a1 a2 a3 a4 a5 a6 a7
  obtain ⟨y, hy, h⟩ := bE_ h
  exact lifted (xs := []) (ls := []) (cargs := [.agg (v8 a0 a1 a2 a3 a4 a5 a6 a7 [])]) (bv.of trivial) rfl (In a0 a1 a2 a3 a4 a5 a6 a7 y hy) rfl rfl rfl rfl h
 ·cases h
abbrev CB := (I8 Bool)
def JT : CH := (CH.add 50 mK (CH.add 49 iX (CH.add 37 cN CH.none)))
theorem FA : aE Try.prog JT := (CH.aj n9 (CH.aj jI (CH.aj cU CH.aB)))
def mN (a0 a1 a2 a3 a4 a5 a6 a7 a8 a9 a10 a11 a12 a13 a14 a15 : Int) : Option (CB) :=
 (Option.bind (gC a8 a9 a10 a11 a12 a13 a14 a15) fun r1 => (Option.bind (dy a0 a1 a2 a3 a4 a5 a6 a7 r1.1 r1.2.1 r1.2.2.1 r1.2.2.2.1 r1.2.2.2.2.1 r1.2.2.2.2.2.1 r1.2.2.2.2.2.2.1 r1.2.2.2.2.2.2.2 1) fun r2 => (Option.bind (ak a0 a1 a2 a3 a4 a5 a6 a7) fun r3 => (cond r3 (Option.bind (ak a8 a9 a10 a11 a12 a13 a14 a15) fun r4 => (cond r4 (some (r2.1, r2.2.1, r2.2.2.1, r2.2.2.2.1, r2.2.2.2.2.1, r2.2.2.2.2.2.1, r2.2.2.2.2.2.2.1, r2.2.2.2.2.2.2.2, true)) (Option.bind (ak r2.1 r2.2.1 r2.2.2.1 r2.2.2.2.1 r2.2.2.2.2.1 r2.2.2.2.2.2.1 r2.2.2.2.2.2.2.1 r2.2.2.2.2.2.2.2) fun r5 => (cond r5 (Option.bind (ak a0 a1 a2 a3 a4 a5 a6 a7) fun r6 => (cond r6 (some (r2.1, r2.2.1, r2.2.2.1, r2.2.2.2.1, r2.2.2.2.2.1, r2.2.2.2.2.2.1, r2.2.2.2.2.2.2.1, r2.2.2.2.2.2.2.2, true)) (some (0, 0, 0, 0, 0, 0, 0, 0, false)))) (Option.bind (ak a0 a1 a2 a3 a4 a5 a6 a7) fun r7 => (cond r7 (some (0, 0, 0, 0, 0, 0, 0, 0, false)) (some (r2.1, r2.2.1, r2.2.2.1, r2.2.2.2.1, r2.2.2.2.2.1, r2.2.2.2.2.2.1, r2.2.2.2.2.2.2.1, r2.2.2.2.2.2.2.2, true)))))))) (Option.bind (ak a8 a9 a10 a11 a12 a13 a14 a15) fun r8 => (cond r8 (Option.bind (ak r2.1 r2.2.1 r2.2.2.1 r2.2.2.2.1 r2.2.2.2.2.1 r2.2.2.2.2.2.1 r2.2.2.2.2.2.2.1 r2.2.2.2.2.2.2.2) fun r9 => (cond r9 (Option.bind (ak a0 a1 a2 a3 a4 a5 a6 a7) fun r10 => (cond r10 (some (r2.1, r2.2.1, r2.2.2.1, r2.2.2.2.1, r2.2.2.2.2.1, r2.2.2.2.2.2.1, r2.2.2.2.2.2.2.1, r2.2.2.2.2.2.2.2, true)) (some (0, 0, 0, 0, 0, 0, 0, 0, false)))) (Option.bind (ak a0 a1 a2 a3 a4 a5 a6 a7) fun r11 => (cond r11 (some (0, 0, 0, 0, 0, 0, 0, 0, false)) (some (r2.1, r2.2.1, r2.2.2.1, r2.2.2.2.1, r2.2.2.2.2.1, r2.2.2.2.2.2.1, r2.2.2.2.2.2.2.1, r2.2.2.2.2.2.2.2, true)))))) (some (r2.1, r2.2.1, r2.2.2.1, r2.2.2.2.1, r2.2.2.2.2.1, r2.2.2.2.2.2.1, r2.2.2.2.2.2.2.1, r2.2.2.2.2.2.2.2, true))))))))
def qD : FD where
 X := CB
 k := 0
 pre := []
 F := fun s => []
 M := .tup [.agg (rl (.int .u64) 8 []), .bool]
 B := []
 toL := fun x => [.I x.1, .I x.2.1, .I x.2.2.1, .I x.2.2.2.1, .I x.s4.1, .I x.s4.2.1, .I x.s4.2.2.1, .I x.s4.2.2.2.1, .B x.s8]
 ofL := fun ls => match ls with
  | [.I x0, .I x1, .I x2, .I x3, .I x4, .I x5, .I x6, .I x7, .B x8] => some (x0, x1, x2, x3, x4, x5, x6, x7, x8)
  | _ => none
 au := fun ls x h => by
  split at h
  ·cases h; rfl
  ·cases h
theorem Iq (a0 a1 a2 a3 a4 a5 a6 a7 a8 a9 a10 a11 a12 a13 a14 a15 : Int) (x : CB) (h : mN a0 a1 a2 a3 a4 a5 a6 a7 a8 a9 a10 a11 a12 a13 a14 a15 = some x) : bc Try.prog 83 0 [.agg (bE a0 a1 a2 a3 a4 a5 a6 a7), .agg (bE a8 a9 a10 a11 a12 a13 a14 a15)] [] qD x :=
 FD.semA qD FA Try.func83 (fuel := 60) (by kernel_rfl) (by kernel_rfl)
  (by kernel_rfl) (Eq.trans (by kernel_rfl) h)
def uP : HK where
 call := fun args σ k => match args with
  | [.agg [.int .u64 a0, .int .u64 a1, .int .u64 a2, .int .u64 a3, .int .u64 a4, .int .u64 a5, .int .u64 a6, .int .u64 a7], .agg [.int .u64 a8, .int .u64 a9, .int .u64 a10, .int .u64 a11, .int .u64 a12, .int .u64 a13, .int .u64 a14, .int .u64 a15]] => Option.bind (mN a0 a1 a2 a3 a4 a5 a6 a7 a8 a9 a10 a11 a12 a13 a14 a15) fun y => aA σ 0 (qD.val y) (qD.aL y) k
  | _ => none
 nat := fun args σ k => by
  repeat' split
  all_goals simp only [aw, ai, Option.bind_assoc, Option.bind_none, aA, Option.bind_some]
 pure := true
 pok := fun _ args σ r σ' h => by
  split at h
  ·exact bp h (fun y => rfl) (fun y f => rfl)
  ·cases h
theorem Ba : aW Try.prog 83 uP := by
 intro args σ r σ' h
 simp only [uP] at h
 split at h
 ·rename_i a0 a1 a2 a3 a4 a5 a6 a7 a8 a9 a10 a11 a12 a13 a14 a15
  obtain ⟨y, hy, h⟩ := bE_ h
  exact lifted (xs := []) (ls := []) (cargs := [.agg (bE a0 a1 a2 a3 a4 a5 a6 a7), .agg (bE a8 a9 a10 a11 a12 a13 a14 a15)]) (bv.of trivial) rfl (Iq a0 a1 a2 a3 a4 a5 a6 a7 a8 a9 a10 a11 a12 a13 a14 a15 y hy) rfl rfl rfl rfl h
 ·cases h
abbrev Cs := (I8 Bool)
def JQ : CH := (CH.add 83 uP CH.none)
theorem Fv : aE Try.prog JQ := (CH.aj Ba CH.aB)
def qz (a0 a1 a2 a3 a4 a5 a6 a7 : Int) : Option (Cs) :=
 (Option.bind (mN 0 0 0 0 0 0 0 0 a0 a1 a2 a3 a4 a5 a6 a7) fun r1 => (cond r1.2.2.2.2.2.2.2.2 (some (r1.1, r1.2.1, r1.2.2.1, r1.2.2.2.1, r1.2.2.2.2.1, r1.2.2.2.2.2.1, r1.2.2.2.2.2.2.1, r1.2.2.2.2.2.2.2.1, true)) (some (r1.1, r1.2.1, r1.2.2.1, r1.2.2.2.1, r1.2.2.2.2.1, r1.2.2.2.2.2.1, r1.2.2.2.2.2.2.1, r1.2.2.2.2.2.2.2.1, false))))
def qA : FD where
 X := Cs
 k := 0
 pre := []
 F := fun s => []
 M := .tup [.agg (rl (.int .u64) 8 []), .bool]
 B := []
 toL := fun x => [.I x.1, .I x.2.1, .I x.2.2.1, .I x.2.2.2.1, .I x.s4.1, .I x.s4.2.1, .I x.s4.2.2.1, .I x.s4.2.2.2.1, .B x.s8]
 ofL := fun ls => match ls with
  | [.I x0, .I x1, .I x2, .I x3, .I x4, .I x5, .I x6, .I x7, .B x8] => some (x0, x1, x2, x3, x4, x5, x6, x7, x8)
  | _ => none
 au := fun ls x h => by
  split at h
  ·cases h; rfl
  ·cases h
theorem Im (a0 a1 a2 a3 a4 a5 a6 a7 : Int) (x : Cs) (h : qz a0 a1 a2 a3 a4 a5 a6 a7 = some x) : bc Try.prog 67 0 [.agg (v8 a0 a1 a2 a3 a4 a5 a6 a7 [])] [] qA x :=
 FD.semA qA Fv Try.func67 (fuel := 60) (by kernel_rfl) (by kernel_rfl)
  (by kernel_rfl) (Eq.trans (by kernel_rfl) h)
def Ak : HK where
 call := fun args σ k => match args with
  | [.agg [.int .u64 a0, .int .u64 a1, .int .u64 a2, .int .u64 a3, .int .u64 a4, .int .u64 a5, .int .u64 a6, .int .u64 a7]] => Option.bind (qz a0 a1 a2 a3 a4 a5 a6 a7) fun y => aA σ 0 (qA.val y) (qA.aL y) k
  | _ => none
 nat := fun args σ k => by
  repeat' split
  all_goals simp only [aw, ai, Option.bind_assoc, Option.bind_none, aA, Option.bind_some]
 pure := true
 pok := fun _ args σ r σ' h => by
  split at h
  ·exact bp h (fun y => rfl) (fun y f => rfl)
  ·cases h
theorem JR : aW Try.prog 67 Ak := by
 intro args σ r σ' h
 simp only [Ak] at h
 split at h
 ·rename_i a0 a1 a2 a3 a4 a5 a6 a7
  obtain ⟨y, hy, h⟩ := bE_ h
  exact lifted (xs := []) (ls := []) (cargs := [.agg (v8 a0 a1 a2 a3 a4 a5 a6 a7 [])]) (bv.of trivial) rfl (Im a0 a1 a2 a3 a4 a5 a6 a7 y hy) rfl rfl rfl rfl h
 ·cases h
def zJ : CH := CH.none
theorem wn : aE Try.prog zJ := CH.aB
def gl (a0 a1 : Int) : Option (Int × Int) :=
 (some ((IntKind.wrap .u64 ((IntKind.wrap .u64 ((IntKind.wrap .u64 ((aC .u64 a0 32) * (aC .u64 a1 32))) + (aC .u64 (IntKind.wrap .u64 ((IntKind.wrap .u64 ((aC .u64 a0 32) * (vD .u64 a1 4294967295))) + (aC .u64 (IntKind.wrap .u64 ((vD .u64 a0 4294967295) * (vD .u64 a1 4294967295))) 32))) 32))) + (aC .u64 (IntKind.wrap .u64 ((vD .u64 (IntKind.wrap .u64 ((IntKind.wrap .u64 ((aC .u64 a0 32) * (vD .u64 a1 4294967295))) + (aC .u64 (IntKind.wrap .u64 ((vD .u64 a0 4294967295) * (vD .u64 a1 4294967295))) 32))) 4294967295) + (IntKind.wrap .u64 ((vD .u64 a0 4294967295) * (aC .u64 a1 32))))) 32))), (IntKind.wrap .u64 (a0 * a1))))
def g7 : FD where
 X := Int × Int
 k := 0
 pre := []
 F := fun s => []
 M := .tup [.int .u64, .int .u64]
 B := []
 toL := fun x => [.I x.1, .I x.2]
 ofL := fun ls => match ls with
  | [.I x0, .I x1] => some (x0, x1)
  | _ => none
 au := fun ls x h => by
  split at h
  ·cases h; rfl
  ·cases h
theorem yz (a0 a1 : Int) (x : Int × Int) (h : gl a0 a1 = some x) : bc Try.prog 59 0 [.int .u64 a0, .int .u64 a1] [] g7 x :=
 FD.semA g7 wn Try.func59 (fuel := 60) (by kernel_rfl) (by kernel_rfl)
  (by kernel_rfl) (Eq.trans (by kernel_rfl) h)
def nq : HK where
 call := fun args σ k => match args with
  | [.int .u64 a0, .int .u64 a1] => Option.bind (gl a0 a1) fun y => aA σ 0 (g7.val y) (g7.aL y) k
  | _ => none
 nat := fun args σ k => by
  repeat' split
  all_goals simp only [aw, ai, Option.bind_assoc, Option.bind_none, aA, Option.bind_some]
 pure := true
 pok := fun _ args σ r σ' h => by
  split at h
  ·exact bp h (fun y => rfl) (fun y f => rfl)
  ·cases h
theorem zK : aW Try.prog 59 nq := by
 intro args σ r σ' h
 simp only [nq] at h
 split at h
 ·rename_i a0 a1
  obtain ⟨y, hy, h⟩ := bE_ h
  exact lifted (xs := []) (ls := []) (cargs := [.int .u64 a0, .int .u64 a1]) (bv.of trivial) rfl (yz a0 a1 y hy) rfl rfl rfl rfl h
 ·cases h
abbrev xU := Int × Int × Int × Int × Int × Int × Int × Int
def Gy : CH := (CH.add 50 mK (CH.add 49 iX CH.none))
theorem Cq : aE Try.prog Gy := (CH.aj n9 (CH.aj jI CH.aB))
def eP (a0 a1 a2 a3 a4 a5 a6 a7 : Int) : Option (xU) :=
 (Option.bind (gC a0 a1 a2 a3 a4 a5 a6 a7) fun r1 => (Option.bind (dy r1.1 r1.2.1 r1.2.2.1 r1.2.2.2.1 r1.2.2.2.2.1 r1.2.2.2.2.2.1 r1.2.2.2.2.2.2.1 r1.2.2.2.2.2.2.2 0 0 0 0 0 0 0 0 1) fun r2 => (some (r2.1, r2.2.1, r2.2.2.1, r2.2.2.2.1, r2.2.2.2.2.1, r2.2.2.2.2.2.1, r2.2.2.2.2.2.2.1, r2.2.2.2.2.2.2.2))))
def mL : FD where
 X := xU
 k := 0
 pre := []
 F := fun s => []
 M := .agg (rl (.int .u64) 8 [])
 B := []
 toL := fun x => [.I x.1, .I x.2.1, .I x.2.2.1, .I x.2.2.2.1, .I x.s4.1, .I x.s4.2.1, .I x.s4.2.2.1, .I x.s4.2.2.2]
 ofL := fun ls => match ls with
  | [.I x0, .I x1, .I x2, .I x3, .I x4, .I x5, .I x6, .I x7] => some (x0, x1, x2, x3, x4, x5, x6, x7)
  | _ => none
 au := fun ls x h => by
  split at h
  ·cases h; rfl
  ·cases h
theorem Fq (a0 a1 a2 a3 a4 a5 a6 a7 : Int) (x : xU) (h : eP a0 a1 a2 a3 a4 a5 a6 a7 = some x) : bc Try.prog 75 0 [.agg (v8 a0 a1 a2 a3 a4 a5 a6 a7 [])] [] mL x :=
 FD.semA mL Cq Try.func75 (fuel := 60) (by kernel_rfl) (by kernel_rfl)
  (by kernel_rfl) (Eq.trans (by kernel_rfl) h)
def lX : HK where
 call := fun args σ k => match args with
  | [.agg [.int .u64 a0, .int .u64 a1, .int .u64 a2, .int .u64 a3, .int .u64 a4, .int .u64 a5, .int .u64 a6, .int .u64 a7]] => Option.bind (eP a0 a1 a2 a3 a4 a5 a6 a7) fun y => aA σ 0 (mL.val y) (mL.aL y) k
  | _ => none
 nat := fun args σ k => by
  repeat' split
  all_goals simp only [aw, ai, Option.bind_assoc, Option.bind_none, aA, Option.bind_some]
 pure := true
 pok := fun _ args σ r σ' h => by
  split at h
  ·exact bp h (fun y => rfl) (fun y f => rfl)
  ·cases h
theorem qt : aW Try.prog 75 lX := by
 intro args σ r σ' h
 simp only [lX] at h
 split at h
 ·rename_i a0 a1 a2 a3 a4 a5 a6 a7
  obtain ⟨y, hy, h⟩ := bE_ h
  exact lifted (xs := []) (ls := []) (cargs := [.agg (v8 a0 a1 a2 a3 a4 a5 a6 a7 [])]) (bv.of trivial) rfl (Fq a0 a1 a2 a3 a4 a5 a6 a7 y hy) rfl rfl rfl rfl h
 ·cases h
abbrev Am := Int × Int × Int × Int × Int × Int × Int × Int
def Ip : CH := (CH.add 75 lX (CH.add 37 cN CH.none))
theorem Ey : aE Try.prog Ip := (CH.aj qt (CH.aj cU CH.aB))
def dz (a0 a1 a2 a3 a4 a5 a6 a7 : Int) : Option (Am) :=
 (Option.bind (ak a0 a1 a2 a3 a4 a5 a6 a7) fun r1 => (cond r1 (Option.bind (eP a0 a1 a2 a3 a4 a5 a6 a7) fun r2 => (some (r2.1, r2.2.1, r2.2.2.1, r2.2.2.2.1, r2.2.2.2.2.1, r2.2.2.2.2.2.1, r2.2.2.2.2.2.2.1, r2.2.2.2.2.2.2.2))) (some (a0, a1, a2, a3, a4, a5, a6, a7))))
def om : FD where
 X := Am
 k := 0
 pre := []
 F := fun s => []
 M := .agg (rl (.int .u64) 8 [])
 B := []
 toL := fun x => [.I x.1, .I x.2.1, .I x.2.2.1, .I x.2.2.2.1, .I x.s4.1, .I x.s4.2.1, .I x.s4.2.2.1, .I x.s4.2.2.2]
 ofL := fun ls => match ls with
  | [.I x0, .I x1, .I x2, .I x3, .I x4, .I x5, .I x6, .I x7] => some (x0, x1, x2, x3, x4, x5, x6, x7)
  | _ => none
 au := fun ls x h => by
  split at h
  ·cases h; rfl
  ·cases h
theorem GF (a0 a1 a2 a3 a4 a5 a6 a7 : Int) (x : Am) (h : dz a0 a1 a2 a3 a4 a5 a6 a7 = some x) : bc Try.prog 48 0 [.agg (v8 a0 a1 a2 a3 a4 a5 a6 a7 [])] [] om x :=
 FD.semA om Ey Try.func48 (fuel := 60) (by kernel_rfl) (by kernel_rfl)
  (by kernel_rfl) (Eq.trans (by kernel_rfl) h)
def su : HK where
 call := fun args σ k => match args with
  | [.agg [.int .u64 a0, .int .u64 a1, .int .u64 a2, .int .u64 a3, .int .u64 a4, .int .u64 a5, .int .u64 a6, .int .u64 a7]] => Option.bind (dz a0 a1 a2 a3 a4 a5 a6 a7) fun y => aA σ 0 (om.val y) (om.aL y) k
  | _ => none
 nat := fun args σ k => by
  repeat' split
  all_goals simp only [aw, ai, Option.bind_assoc, Option.bind_none, aA, Option.bind_some]
 pure := true
 pok := fun _ args σ r σ' h => by
  split at h
  ·exact bp h (fun y => rfl) (fun y f => rfl)
  ·cases h
theorem yO : aW Try.prog 48 su := by
 intro args σ r σ' h
 simp only [su] at h
 split at h
 ·rename_i a0 a1 a2 a3 a4 a5 a6 a7
  obtain ⟨y, hy, h⟩ := bE_ h
  exact lifted (xs := []) (ls := []) (cargs := [.agg (v8 a0 a1 a2 a3 a4 a5 a6 a7 [])]) (bv.of trivial) rfl (GF a0 a1 a2 a3 a4 a5 a6 a7 y hy) rfl rfl rfl rfl h
 ·cases h
abbrev iI := LA_ × Nat × LA_ × Nat × LA_ × Nat × LA_ × Nat × LA_ × Nat × Nat × Int × Int
abbrev iJ := LA_ × Nat × LA_ × Nat × LA_ × Nat × LA_ × Nat × LA_ × Nat × Nat
abbrev Cr := (I8 Bool)
def yS : CH := (CH.add 75 lX (CH.add 59 nq (CH.add 48 su (CH.add 37 cN (CH.add 60 Gz CH.none)))))
def oe : CH := vm Try.prog jm [51] 60 yS 2
theorem Ep : aE Try.prog yS := (CH.aj qt (CH.aj zK (CH.aj yO (CH.aj cU (CH.aj (I6 Try.func60 (by kernel_rfl) (by kernel_rfl) (by kernel_rfl) (by kernel_rfl)) CH.aB)))))
theorem oN : aE Try.prog oe := iF aJ mixed bG Ep 2
def fY {R : Type} (cc : iI) (v : LA_ × Int × Int) (kn : (LA_ × Int × Int) → Option R) (ke : ((Unit) ⊕ (LA_ × Int)) → Option R) : Option R :=
 (cond (decide (v.2.2 < 8)) (af (decide (0 ≤ cc.2.2.2.2.2.2.2.2.2.2.2.1) && decide (cc.2.2.2.2.2.2.2.2.2.2.2.1 < ((8 : Nat) : Int))) (af (aq [.int .u64] cc.2.2.2.2.2.2.1 (0 + (Int.toNat cc.2.2.2.2.2.2.2.2.2.2.2.1 * 1))) (af (decide (0 ≤ v.2.2) && decide (v.2.2 < ((8 : Nat) : Int))) (af (aq [.int .u64] cc.2.2.2.2.2.2.2.2.1 (0 + (Int.toNat v.2.2 * 1))) (Option.bind (gl (ac cc.2.2.2.2.2.2.1 ((0 + (Int.toNat cc.2.2.2.2.2.2.2.2.2.2.2.1 * 1)) + 0)) (ac cc.2.2.2.2.2.2.2.2.1 ((0 + (Int.toNat v.2.2 * 1)) + 0))) fun r3 => (Option.bind (ib r3.2 v.2.1 0) fun r4 => (cond (decide ((IntKind.wrap .i64 (cc.2.2.2.2.2.2.2.2.2.2.2.1 + v.2.2)) ≥ 8)) (cond (r4.1 != 0) (ke (.inl ())) (cond ((IntKind.wrap .u64 (r3.1 + r4.2)) != 0) (ke (.inl ())) (kn (v.1, 0, (IntKind.wrap .i64 (v.2.2 + 1)))))) (af (decide (0 ≤ (IntKind.wrap .i64 (cc.2.2.2.2.2.2.2.2.2.2.2.1 + v.2.2))) && decide ((IntKind.wrap .i64 (cc.2.2.2.2.2.2.2.2.2.2.2.1 + v.2.2)) < ((8 : Nat) : Int))) (af (aq [.int .u64] v.1 (0 + (Int.toNat (IntKind.wrap .i64 (cc.2.2.2.2.2.2.2.2.2.2.2.1 + v.2.2)) * 1))) (Option.bind (ib (ac v.1 ((0 + (Int.toNat (IntKind.wrap .i64 (cc.2.2.2.2.2.2.2.2.2.2.2.1 + v.2.2)) * 1)) + 0)) r4.1 0) fun r5 => (af (decide (0 ≤ (IntKind.wrap .i64 (cc.2.2.2.2.2.2.2.2.2.2.2.1 + v.2.2))) && decide ((IntKind.wrap .i64 (cc.2.2.2.2.2.2.2.2.2.2.2.1 + v.2.2)) < ((8 : Nat) : Int))) (af (decide ((0 + (Int.toNat (IntKind.wrap .i64 (cc.2.2.2.2.2.2.2.2.2.2.2.1 + v.2.2)) * 1)) + 1 ≤ List.length v.1)) (kn ((spliced v.1 (0 + (Int.toNat (IntKind.wrap .i64 (cc.2.2.2.2.2.2.2.2.2.2.2.1 + v.2.2)) * 1)) [.int .u64 r5.1]), (IntKind.wrap .u64 ((IntKind.wrap .u64 (r3.1 + r4.2)) + r5.2)), (IntKind.wrap .i64 (v.2.2 + 1)))))))))))))))) (ke (.inr (v.1, v.2.1))))
def qu (cc : iI) (v : LA_ × Int × Int) : Option ((LA_ × Int × Int) ⊕ ((Unit) ⊕ (LA_ × Int))) := fY cc v (fun v => some (Sum.inl v)) fun e => some (Sum.inr e)
def yT (cc : iI) (v : LA_ × Int × Int) : Option ((Unit) ⊕ (LA_ × Int)) := dA (qu cc) v
def Er (cc : iI) (v : LA_ × Int × Int) : List ah := [.I cc.s8.2.2.2.1, .I v.2.1, .I cc.s8.s4, .I v.2.2, .C cc.1, .N cc.2.1, .C cc.2.2.1, .N cc.2.2.2.1, .C cc.s4.1, .N cc.s4.2.1, .C cc.s4.2.2.1, .N cc.s4.2.2.2.1, .C cc.s8.1, .N cc.s8.2.1, .C v.1, .N cc.s8.2.2.1]
def ux (ls : List ah) : Option ((iI) × (LA_ × Int × Int)) := match ls with
 | [.I x0, .I x1, .I x2, .I x3, .C x4, .N x5, .C x6, .N x7, .C x8, .N x9, .C x10, .N x11, .C x12, .N x13, .C x14, .N x15] => some ((x4, x5, x6, x7, x8, x9, x10, x11, x12, x13, x15, x0, x2), (x14, x1, x3))
 | _ => none
def uy (e : (Unit) ⊕ (LA_ × Int)) : an := ((Sum.elim (fun e => .pan (.iface 110 (.agg []))) (fun e => .exit 2)) e)
def uz (cc : iI) (e : (Unit) ⊕ (LA_ × Int)) : List ah := ((Sum.elim (fun e => [.C cc.s4.1, .N cc.s4.2.1]) (fun e => [.I e.2, .I cc.s8.s4, .C cc.1, .N cc.2.1, .C cc.2.2.1, .N cc.2.2.2.1, .C cc.s4.1, .N cc.s4.2.1, .C cc.s4.2.2.1, .N cc.s4.2.2.2.1, .C cc.s8.1, .N cc.s8.2.1, .C e.1, .N cc.s8.2.2.1])) e)
def iK (cc : iI) (e : (Unit) ⊕ (LA_ × Int)) : List ah := ((Sum.elim (fun e => [.C cc.s4.1, .N cc.s4.2.1]) (fun e => [.I cc.s8.s4, .C cc.1, .N cc.2.1, .C cc.2.2.1, .N cc.2.2.2.1, .C cc.s4.1, .N cc.s4.2.1, .C cc.s4.2.2.1, .N cc.s4.2.2.2.1, .C cc.s8.1, .N cc.s8.2.1, .N cc.s8.2.2.1])) e)
def nC (o : an) (ls : List ah) : Option (((Unit) ⊕ (LA_ × Int)) × List ah) := match o with
 | .pan (.iface 110 (.agg [])) => (match ls with
  | [.C x0, .N x1] => some ((.inl ()), [.C x0, .N x1])
  | _ => none)
 | .exit 2 => (match ls with
  | [.I x0, .I x1, .C x2, .N x3, .C x4, .N x5, .C x6, .N x7, .C x8, .N x9, .C x10, .N x11, .C x12, .N x13] => some ((.inr (x12, x0)), [.I x1, .C x2, .N x3, .C x4, .N x5, .C x6, .N x7, .C x8, .N x9, .C x10, .N x11, .N x13])
  | _ => none)
 | _ => none
theorem Ai : ∀ o ls e cl cc, nC o ls = some (e, cl) → cl = iK cc e → ls = uz cc e ∧ uy e = o ∧ o ≠ .normal ∧ ∀ v, o = .pan v → sc 0 v = true := by
 intro o ls e cl cc h hc
 unfold nC at h
 split at h
 ·split at h
  ·cases h
   simp only [iK, Sum.elim_inl, Sum.elim_inr, List.cons.injEq, ah.I.injEq, ah.N.injEq, ah.C.injEq, and_true] at hc
   obtain ⟨rfl, rfl⟩ := hc
   exact ⟨rfl, rfl, by simp, by intro v hv; cases hv <;> rfl⟩
  ·cases h
 ·split at h
  ·cases h
   simp only [iK, Sum.elim_inl, Sum.elim_inr, List.cons.injEq, ah.I.injEq, ah.N.injEq, ah.C.injEq, and_true] at hc
   obtain ⟨rfl, rfl, rfl, rfl, rfl, rfl, rfl, rfl, rfl, rfl, rfl, rfl⟩ := hc
   exact ⟨rfl, rfl, by simp, by intro v hv; cases hv <;> rfl⟩
  ·cases h
 ·cases h
def Fr (o : an) : ExS := match o with
 | .pan (.iface 110 (.agg [])) => ⟨2, (none :: none :: none :: none :: some (.ptr 0 0) :: some (.ptr 1 0) :: (rl none 89 [])), [(0, .vec 8 true), (1, .cells [.pR false] true none)], fun s => [nameAt s 4 [], nameAt s 5 []], [], [(58, [4, 5])]⟩
 | .exit 2 => ⟨7, (none :: none :: some (.ptr 0 0) :: some (.ptr 1 0) :: some (.ptr 2 0) :: some (.ptr 3 0) :: some (.ptr 4 0) :: some (.ptr 5 0) :: some (.ptr 6 0) :: none :: some (.int .u64) :: (rl none 11 (some (.int .i64) :: (rl none 72 [])))), [(0, .vec 8 true), (1, .vec 8 true), (2, .vec 8 true), (3, .cells [.pR false] true none), (4, .vec 8 true), (5, .vec 8 true), (6, .vec 8 true)], fun s => [nameAt s 2 [], nameAt s 3 [], nameAt s 4 [], nameAt s 5 [], nameAt s 6 [], nameAt s 7 [], nameAt s 8 []], [], [(58, [4, 5])]⟩
 | _ => ⟨0, [], [], fun _ => [], [], []⟩
theorem Es {R : Type} (cc : iI) (v : LA_ × Int × Int) (kn : (LA_ × Int × Int) → Option R) (ke : ((Unit) ⊕ (LA_ × Int)) → Option R) : fY cc v kn ke = (fY cc v (fun v => some (Sum.inl v)) fun e => some (Sum.inr e)).bind (Sum.elim kn ke) := by
 simp only [fY, bK, ai, Option.bind_assoc, cb, bF, Option.bind_some, Option.bind_none, Sum.elim_inl, Sum.elim_inr]
def qw : LD where
 CC := iI
 V := LA_ × Int × Int
 E := (Unit) ⊕ (LA_ × Int)
 n := 0
 K := 7
 M := (none :: none :: some (.ptr 0 0) :: some (.ptr 1 0) :: some (.ptr 2 0) :: some (.ptr 3 0) :: some (.ptr 4 0) :: some (.ptr 5 0) :: some (.ptr 6 0) :: some (.int .i64) :: some (.int .u64) :: (rl none 11 (some (.int .i64) :: (rl none 6 (some (.int .i64) :: (rl none 65 []))))))
 B := [(0, .vec 8 true), (1, .vec 8 true), (2, .vec 8 true), (3, .cells [.pR false] true none), (4, .vec 8 true), (5, .vec 8 true), (6, .vec 8 true)]
 D := [(58, [4, 5])]
 pre := []
 F := fun s => [nameAt s 2 [], nameAt s 3 [], nameAt s 4 [], nameAt s 5 [], nameAt s 6 [], nameAt s 7 [], nameAt s 8 []]
 toL := Er
 ofL := ux
 au := fun ls c v h => by
  unfold ux at h
  split at h
  ·cases h; rfl
  ·cases h
 ck := fY
 nat := Es
 sh := Fr
 out := uy
 toE := uz
 fp := iK
 ofE := nC
 da := Ai
 post := fun cc e k => ((Sum.elim (fun e => k (.pan (.iface 110 (.agg []))) (bd 2 (none :: none :: none :: none :: some (.ptr 0 0) :: some (.ptr 1 0) :: (rl none 89 [])) [(0, .vec cc.s4.1 cc.s4.2.1 8 true), (1, .cells [.bool false] true none)] [(58, [4, 5])])) (fun e => k (.exit 2) (bd 7 (none :: none :: some (.ptr 0 0) :: some (.ptr 1 0) :: some (.ptr 2 0) :: some (.ptr 3 0) :: some (.ptr 4 0) :: some (.ptr 5 0) :: some (.ptr 6 0) :: none :: some (.int .u64 e.2) :: (rl none 11 (some (.int .i64 cc.s8.s4) :: (rl none 72 [])))) [(0, .vec cc.1 cc.2.1 8 true), (1, .vec cc.2.2.1 cc.2.2.2.1 8 true), (2, .vec cc.s4.1 cc.s4.2.1 8 true), (3, .cells [.bool false] true none), (4, .vec cc.s4.2.2.1 cc.s4.2.2.2.1 8 true), (5, .vec cc.s8.1 cc.s8.2.1 8 true), (6, .vec e.1 cc.s8.2.2.1 8 true)] [(58, [4, 5])]))) e)
 cd := fun cc e k => by rcases e with e | e <;> rfl
theorem uA : cF Try.prog 0 qw.la (aK Try.f35 1) :=
 LD.ok (ch := oe) (A := bt) aJ oN mixed (fuel := 60) ⟨by kernel_rfl, fun e => by (rcases e with e | e <;> kernel_rfl), fun cc v => by kernel_rfl, aI (l := []) (by kernel_rfl) trivial⟩
def gM {R : Type} (cc : iJ) (v : LA_ × Int) (kn : (LA_ × Int) → Option R) (ke : ((Unit) ⊕ (LA_)) → Option R) : Option R :=
 (cond (decide (v.2 < 8)) (af (decide (0 ≤ v.2) && decide (v.2 < ((8 : Nat) : Int))) (af (aq [.int .u64] cc.2.2.2.2.2.2.1 (0 + (Int.toNat v.2 * 1))) (cond ((ac cc.2.2.2.2.2.2.1 ((0 + (Int.toNat v.2 * 1)) + 0)) == 0) (kn (v.1, (IntKind.wrap .i64 (v.2 + 1)))) (Option.bind (yT (cc.1, cc.2.1, cc.2.2.1, cc.2.2.2.1, cc.2.2.2.2.1, cc.2.2.2.2.2.1, cc.2.2.2.2.2.2.1, cc.2.2.2.2.2.2.2.1, cc.2.2.2.2.2.2.2.2.1, cc.2.2.2.2.2.2.2.2.2.1, cc.2.2.2.2.2.2.2.2.2.2, v.2, v.2) (v.1, 0, 0)) (Sum.elim (fun e6 => (ke (.inl ()))) (fun e6 => (cond (e6.2 != 0) (ke (.inl ())) (kn (e6.1, (IntKind.wrap .i64 (v.2 + 1))))))))))) (ke (.inr v.1)))
def rW (cc : iJ) (v : LA_ × Int) : Option ((LA_ × Int) ⊕ ((Unit) ⊕ (LA_))) := gM cc v (fun v => some (Sum.inl v)) fun e => some (Sum.inr e)
def tW (cc : iJ) (v : LA_ × Int) : Option ((Unit) ⊕ (LA_)) := dA (rW cc) v
def Fs (cc : iJ) (v : LA_ × Int) : List ah := [.I v.2, .C cc.1, .N cc.2.1, .C cc.2.2.1, .N cc.2.2.2.1, .C cc.s4.1, .N cc.s4.2.1, .C cc.s4.2.2.1, .N cc.s4.2.2.2.1, .C cc.s8.1, .N cc.s8.2.1, .C v.1, .N cc.s8.2.2]
def vT (ls : List ah) : Option ((iJ) × (LA_ × Int)) := match ls with
 | [.I x0, .C x1, .N x2, .C x3, .N x4, .C x5, .N x6, .C x7, .N x8, .C x9, .N x10, .C x11, .N x12] => some ((x1, x2, x3, x4, x5, x6, x7, x8, x9, x10, x12), (x11, x0))
 | _ => none
def vU (e : (Unit) ⊕ (LA_)) : an := ((Sum.elim (fun e => .pan (.iface 110 (.agg []))) (fun e => .exit 0)) e)
def vV (cc : iJ) (e : (Unit) ⊕ (LA_)) : List ah := ((Sum.elim (fun e => [.C cc.s4.1, .N cc.s4.2.1]) (fun e => [.C cc.1, .N cc.2.1, .C cc.2.2.1, .N cc.2.2.2.1, .C cc.s4.1, .N cc.s4.2.1, .C e, .N cc.s8.2.2])) e)
def jr (cc : iJ) (e : (Unit) ⊕ (LA_)) : List ah := ((Sum.elim (fun e => [.C cc.s4.1, .N cc.s4.2.1]) (fun e => [.C cc.1, .N cc.2.1, .C cc.2.2.1, .N cc.2.2.2.1, .C cc.s4.1, .N cc.s4.2.1, .N cc.s8.2.2])) e)
def oO (o : an) (ls : List ah) : Option (((Unit) ⊕ (LA_)) × List ah) := match o with
 | .pan (.iface 110 (.agg [])) => (match ls with
  | [.C x0, .N x1] => some ((.inl ()), [.C x0, .N x1])
  | _ => none)
 | .exit 0 => (match ls with
  | [.C x0, .N x1, .C x2, .N x3, .C x4, .N x5, .C x6, .N x7] => some ((.inr x6), [.C x0, .N x1, .C x2, .N x3, .C x4, .N x5, .N x7])
  | _ => none)
 | _ => none
theorem BK : ∀ o ls e cl cc, oO o ls = some (e, cl) → cl = jr cc e → ls = vV cc e ∧ vU e = o ∧ o ≠ .normal ∧ ∀ v, o = .pan v → sc 0 v = true := by
 intro o ls e cl cc h hc
 unfold oO at h
 split at h
 ·split at h
  ·cases h
   simp only [jr, Sum.elim_inl, Sum.elim_inr, List.cons.injEq, ah.N.injEq, ah.C.injEq, and_true] at hc
   obtain ⟨rfl, rfl⟩ := hc
   exact ⟨rfl, rfl, by simp, by intro v hv; cases hv <;> rfl⟩
  ·cases h
 ·split at h
  ·cases h
   simp only [jr, Sum.elim_inl, Sum.elim_inr, List.cons.injEq, ah.N.injEq, ah.C.injEq, and_true] at hc
   obtain ⟨rfl, rfl, rfl, rfl, rfl, rfl, rfl⟩ := hc
   exact ⟨rfl, rfl, by simp, by intro v hv; cases hv <;> rfl⟩
  ·cases h
 ·cases h
def GB (o : an) : ExS := match o with
 | .pan (.iface 110 (.agg [])) => ⟨2, (none :: none :: none :: none :: some (.ptr 0 0) :: some (.ptr 1 0) :: (rl none 89 [])), [(0, .vec 8 true), (1, .cells [.pR false] true none)], fun s => [nameAt s 4 [], nameAt s 5 []], [], [(58, [4, 5])]⟩
 | .exit 0 => ⟨5, (none :: none :: some (.ptr 0 0) :: some (.ptr 1 0) :: some (.ptr 2 0) :: some (.ptr 3 0) :: none :: none :: some (.ptr 4 0) :: (rl none 86 [])), [(0, .vec 8 true), (1, .vec 8 true), (2, .vec 8 true), (3, .cells [.pR false] true none), (4, .vec 8 true)], fun s => [nameAt s 2 [], nameAt s 3 [], nameAt s 4 [], nameAt s 5 [], nameAt s 8 []], [], [(58, [4, 5])]⟩
 | _ => ⟨0, [], [], fun _ => [], [], []⟩
theorem Ft {R : Type} (cc : iJ) (v : LA_ × Int) (kn : (LA_ × Int) → Option R) (ke : ((Unit) ⊕ (LA_)) → Option R) : gM cc v kn ke = (gM cc v (fun v => some (Sum.inl v)) fun e => some (Sum.inr e)).bind (Sum.elim kn ke) := by
 simp only [gM, bK, ai, Option.bind_assoc, cb, bF, Option.bind_some, Option.bind_none, Sum.elim_inl, Sum.elim_inr]
def yU : LD where
 CC := iJ
 V := LA_ × Int
 E := (Unit) ⊕ (LA_)
 n := 0
 K := 7
 M := (none :: none :: some (.ptr 0 0) :: some (.ptr 1 0) :: some (.ptr 2 0) :: some (.ptr 3 0) :: some (.ptr 4 0) :: some (.ptr 5 0) :: some (.ptr 6 0) :: (rl none 13 (some (.int .i64) :: (rl none 72 []))))
 B := [(0, .vec 8 true), (1, .vec 8 true), (2, .vec 8 true), (3, .cells [.pR false] true none), (4, .vec 8 true), (5, .vec 8 true), (6, .vec 8 true)]
 D := [(58, [4, 5])]
 pre := []
 F := fun s => [nameAt s 2 [], nameAt s 3 [], nameAt s 4 [], nameAt s 5 [], nameAt s 6 [], nameAt s 7 [], nameAt s 8 []]
 toL := Fs
 ofL := vT
 au := fun ls c v h => by
  unfold vT at h
  split at h
  ·cases h; rfl
  ·cases h
 ck := gM
 nat := Ft
 sh := GB
 out := vU
 toE := vV
 fp := jr
 ofE := oO
 da := BK
 post := fun cc e k => ((Sum.elim (fun e => k (.pan (.iface 110 (.agg []))) (bd 2 (none :: none :: none :: none :: some (.ptr 0 0) :: some (.ptr 1 0) :: (rl none 89 [])) [(0, .vec cc.s4.1 cc.s4.2.1 8 true), (1, .cells [.bool false] true none)] [(58, [4, 5])])) (fun e => k (.exit 0) (bd 5 (none :: none :: some (.ptr 0 0) :: some (.ptr 1 0) :: some (.ptr 2 0) :: some (.ptr 3 0) :: none :: none :: some (.ptr 4 0) :: (rl none 86 [])) [(0, .vec cc.1 cc.2.1 8 true), (1, .vec cc.2.2.1 cc.2.2.2.1 8 true), (2, .vec cc.s4.1 cc.s4.2.1 8 true), (3, .cells [.bool false] true none), (4, .vec e cc.s8.2.2 8 true)] [(58, [4, 5])]))) e)
 cd := fun cc e k => by rcases e with e | e <;> rfl
theorem Fu : cF Try.prog 0 yU.la (aK Try.f35 0) :=
 LD.ok (ch := oe) (A := eF [(10, qw.la)]) aJ oN mixed (fuel := 60) ⟨by kernel_rfl, fun e => by (rcases e with e | e <;> kernel_rfl), fun cc v => by kernel_rfl, aI (l := [aK Try.f35 1]) (by kernel_rfl) ⟨bX (by kernel_rfl) uA, trivial⟩⟩
def qx (a0 a1 a2 a3 a4 a5 a6 a7 a8 a9 a10 a11 a12 a13 a14 a15 : Int) : Option (Cr) :=
 (Option.bind (dz a0 a1 a2 a3 a4 a5 a6 a7) fun r1 => (Option.bind (dz a8 a9 a10 a11 a12 a13 a14 a15) fun r2 => (Option.bind (tW ((bE a0 a1 a2 a3 a4 a5 a6 a7), 1, (bE a8 a9 a10 a11 a12 a13 a14 a15), 1, (bE 0 0 0 0 0 0 0 0), 1, (bE r1.1 r1.2.1 r1.2.2.1 r1.2.2.2.1 r1.2.2.2.2.1 r1.2.2.2.2.2.1 r1.2.2.2.2.2.2.1 r1.2.2.2.2.2.2.2), 1, (bE r2.1 r2.2.1 r2.2.2.1 r2.2.2.2.1 r2.2.2.2.2.1 r2.2.2.2.2.2.1 r2.2.2.2.2.2.2.1 r2.2.2.2.2.2.2.2), 1, 1) ((bE 0 0 0 0 0 0 0 0), 0)) (Sum.elim (fun e3 => (some (0, 0, 0, 0, 0, 0, 0, 0, false))) (fun e3 => (af (aq fW e3 0) (Option.bind (ak a0 a1 a2 a3 a4 a5 a6 a7) fun r4 => (cond r4 (Option.bind (ak a8 a9 a10 a11 a12 a13 a14 a15) fun r5 => (cond r5 (cond (!((ac e3 0) == 0 && ((ac e3 1) == 0 && ((ac e3 2) == 0 && ((ac e3 3) == 0 && ((ac e3 4) == 0 && ((ac e3 5) == 0 && ((ac e3 6) == 0 && ((ac e3 7) == 0 && true))))))))) (Option.bind (ak (ac e3 0) (ac e3 1) (ac e3 2) (ac e3 3) (ac e3 4) (ac e3 5) (ac e3 6) (ac e3 7)) fun r6 => (cond r6 (some (0, 0, 0, 0, 0, 0, 0, 0, false)) (some ((ac e3 0), (ac e3 1), (ac e3 2), (ac e3 3), (ac e3 4), (ac e3 5), (ac e3 6), (ac e3 7), true)))) (some ((ac e3 0), (ac e3 1), (ac e3 2), (ac e3 3), (ac e3 4), (ac e3 5), (ac e3 6), (ac e3 7), true))) (Option.bind (eP (ac e3 0) (ac e3 1) (ac e3 2) (ac e3 3) (ac e3 4) (ac e3 5) (ac e3 6) (ac e3 7)) fun r7 => (cond (!(r7.1 == 0 && (r7.2.1 == 0 && (r7.2.2.1 == 0 && (r7.2.2.2.1 == 0 && (r7.2.2.2.2.1 == 0 && (r7.2.2.2.2.2.1 == 0 && (r7.2.2.2.2.2.2.1 == 0 && (r7.2.2.2.2.2.2.2 == 0 && true))))))))) (Option.bind (ak r7.1 r7.2.1 r7.2.2.1 r7.2.2.2.1 r7.2.2.2.2.1 r7.2.2.2.2.2.1 r7.2.2.2.2.2.2.1 r7.2.2.2.2.2.2.2) fun r8 => (cond r8 (some (r7.1, r7.2.1, r7.2.2.1, r7.2.2.2.1, r7.2.2.2.2.1, r7.2.2.2.2.2.1, r7.2.2.2.2.2.2.1, r7.2.2.2.2.2.2.2, true)) (some (0, 0, 0, 0, 0, 0, 0, 0, false)))) (some (r7.1, r7.2.1, r7.2.2.1, r7.2.2.2.1, r7.2.2.2.2.1, r7.2.2.2.2.2.1, r7.2.2.2.2.2.2.1, r7.2.2.2.2.2.2.2, true)))))) (Option.bind (ak a8 a9 a10 a11 a12 a13 a14 a15) fun r9 => (cond r9 (Option.bind (eP (ac e3 0) (ac e3 1) (ac e3 2) (ac e3 3) (ac e3 4) (ac e3 5) (ac e3 6) (ac e3 7)) fun r10 => (cond (!(r10.1 == 0 && (r10.2.1 == 0 && (r10.2.2.1 == 0 && (r10.2.2.2.1 == 0 && (r10.2.2.2.2.1 == 0 && (r10.2.2.2.2.2.1 == 0 && (r10.2.2.2.2.2.2.1 == 0 && (r10.2.2.2.2.2.2.2 == 0 && true))))))))) (Option.bind (ak r10.1 r10.2.1 r10.2.2.1 r10.2.2.2.1 r10.2.2.2.2.1 r10.2.2.2.2.2.1 r10.2.2.2.2.2.2.1 r10.2.2.2.2.2.2.2) fun r11 => (cond r11 (some (r10.1, r10.2.1, r10.2.2.1, r10.2.2.2.1, r10.2.2.2.2.1, r10.2.2.2.2.2.1, r10.2.2.2.2.2.2.1, r10.2.2.2.2.2.2.2, true)) (some (0, 0, 0, 0, 0, 0, 0, 0, false)))) (some (r10.1, r10.2.1, r10.2.2.1, r10.2.2.2.1, r10.2.2.2.2.1, r10.2.2.2.2.2.1, r10.2.2.2.2.2.2.1, r10.2.2.2.2.2.2.2, true)))) (cond (!((ac e3 0) == 0 && ((ac e3 1) == 0 && ((ac e3 2) == 0 && ((ac e3 3) == 0 && ((ac e3 4) == 0 && ((ac e3 5) == 0 && ((ac e3 6) == 0 && ((ac e3 7) == 0 && true))))))))) (Option.bind (ak (ac e3 0) (ac e3 1) (ac e3 2) (ac e3 3) (ac e3 4) (ac e3 5) (ac e3 6) (ac e3 7)) fun r12 => (cond r12 (some (0, 0, 0, 0, 0, 0, 0, 0, false)) (some ((ac e3 0), (ac e3 1), (ac e3 2), (ac e3 3), (ac e3 4), (ac e3 5), (ac e3 6), (ac e3 7), true)))) (some ((ac e3 0), (ac e3 1), (ac e3 2), (ac e3 3), (ac e3 4), (ac e3 5), (ac e3 6), (ac e3 7), true)))))))))))))
def qy : FD where
 X := Cr
 k := 0
 pre := []
 F := fun s => []
 M := .tup [.agg (rl (.int .u64) 8 []), .bool]
 B := []
 toL := fun x => [.I x.1, .I x.2.1, .I x.2.2.1, .I x.2.2.2.1, .I x.s4.1, .I x.s4.2.1, .I x.s4.2.2.1, .I x.s4.2.2.2.1, .B x.s8]
 ofL := fun ls => match ls with
  | [.I x0, .I x1, .I x2, .I x3, .I x4, .I x5, .I x6, .I x7, .B x8] => some (x0, x1, x2, x3, x4, x5, x6, x7, x8)
  | _ => none
 au := fun ls x h => by
  split at h
  ·cases h; rfl
  ·cases h
theorem Ik : wJ Try.prog 58 Try.f58 0 (MP (MQ (bq Try.f58))) (HS (bq Try.f58) 0) (HS (bq Try.f58) 1) (Pr (bq Try.f58)) 3 2 :=
 ⟨Try.func58, ⟨_, Try.func58, bG 58 _ Try.func58, by kernel_rfl⟩, by kernel_rfl, by kernel_rfl, by kernel_rfl, by kernel_rfl, by kernel_rfl, by kernel_rfl, by kernel_rfl, by kernel_rfl, by kernel_rfl, (by decide)⟩
theorem Il (a0 a1 a2 a3 a4 a5 a6 a7 a8 a9 a10 a11 a12 a13 a14 a15 : Int) (x : Cr) (h : qx a0 a1 a2 a3 a4 a5 a6 a7 a8 a9 a10 a11 a12 a13 a14 a15 = some x) : bc Try.prog 35 0 [.agg (bE a0 a1 a2 a3 a4 a5 a6 a7), .agg (bE a8 a9 a10 a11 a12 a13 a14 a15)] [] qy x :=
 FD.SG (ch := oe) (A := eF [(10, qw.la), (5, yU.la)]) (fn := Try.f35) (c := bq Try.f35) (fuel := 60) aJ oN mixed bG qy Try.func35 (by kernel_rfl) (aI (l := [aK Try.f35 0, aK Try.f35 1]) (by kernel_rfl) ⟨bX (by kernel_rfl) Fu, bX (by kernel_rfl) uA, trivial⟩)
  (by kernel_rfl) Ik (by kernel_rfl) (Eq.trans (by kernel_rfl) h)
def Aj : HK where
 call := fun args σ k => match args with
  | [.agg [.int .u64 a0, .int .u64 a1, .int .u64 a2, .int .u64 a3, .int .u64 a4, .int .u64 a5, .int .u64 a6, .int .u64 a7], .agg [.int .u64 a8, .int .u64 a9, .int .u64 a10, .int .u64 a11, .int .u64 a12, .int .u64 a13, .int .u64 a14, .int .u64 a15]] => Option.bind (qx a0 a1 a2 a3 a4 a5 a6 a7 a8 a9 a10 a11 a12 a13 a14 a15) fun y => aA σ 0 (qy.val y) (qy.aL y) k
  | _ => none
 nat := fun args σ k => by
  repeat' split
  all_goals simp only [aw, ai, Option.bind_assoc, Option.bind_none, aA, Option.bind_some]
 pure := true
 pok := fun _ args σ r σ' h => by
  split at h
  ·exact bp h (fun y => rfl) (fun y f => rfl)
  ·cases h
theorem JP : aW Try.prog 35 Aj := by
 intro args σ r σ' h
 simp only [Aj] at h
 split at h
 ·rename_i a0 a1 a2 a3 a4 a5 a6 a7 a8 a9 a10 a11 a12 a13 a14 a15
  obtain ⟨y, hy, h⟩ := bE_ h
  exact lifted (xs := []) (ls := []) (cargs := [.agg (bE a0 a1 a2 a3 a4 a5 a6 a7), .agg (bE a8 a9 a10 a11 a12 a13 a14 a15)]) (bv.of trivial) rfl (Il a0 a1 a2 a3 a4 a5 a6 a7 a8 a9 a10 a11 a12 a13 a14 a15 y hy) rfl rfl rfl rfl h
 ·cases h
abbrev Af := Int × Int × Int × Int × Int × Int × Int × Int
def yQ : CH := CH.none
theorem Ek : aE Try.prog yQ := CH.aB
def kV (a0 a1 a2 a3 a4 a5 a6 a7 : Int) : Option (Af) :=
 (some ((ior .u64 (aC .u64 a0 1) (ii .u64 a1 63)), (ior .u64 (aC .u64 a1 1) (ii .u64 a2 63)), (ior .u64 (aC .u64 a2 1) (ii .u64 a3 63)), (ior .u64 (aC .u64 a3 1) (ii .u64 a4 63)), (ior .u64 (aC .u64 a4 1) (ii .u64 a5 63)), (ior .u64 (aC .u64 a5 1) (ii .u64 a6 63)), (ior .u64 (aC .u64 a6 1) (ii .u64 a7 63)), (aC .u64 a7 1)))
def oc : FD where
 X := Af
 k := 0
 pre := []
 F := fun s => []
 M := .agg (rl (.int .u64) 8 [])
 B := []
 toL := fun x => [.I x.1, .I x.2.1, .I x.2.2.1, .I x.2.2.2.1, .I x.s4.1, .I x.s4.2.1, .I x.s4.2.2.1, .I x.s4.2.2.2]
 ofL := fun ls => match ls with
  | [.I x0, .I x1, .I x2, .I x3, .I x4, .I x5, .I x6, .I x7] => some (x0, x1, x2, x3, x4, x5, x6, x7)
  | _ => none
 au := fun ls x h => by
  split at h
  ·cases h; rfl
  ·cases h
theorem Gw (a0 a1 a2 a3 a4 a5 a6 a7 : Int) (x : Af) (h : kV a0 a1 a2 a3 a4 a5 a6 a7 = some x) : bc Try.prog 74 0 [.agg (v8 a0 a1 a2 a3 a4 a5 a6 a7 [])] [] oc x :=
 FD.sem (ch := yQ) (A := bt) (fn := Try.f74) (c := bq Try.f74) (fuel := 60) aJ Ek mixed bG oc Try.func74 (by kernel_rfl) (aI (l := [aK Try.f74 0]) (by kernel_rfl) ⟨(eh (by kernel_rfl)), trivial⟩)
  (by kernel_rfl) (Eq.trans (by kernel_rfl) h)
def xR : HK where
 call := fun args σ k => match args with
  | [.agg [.int .u64 a0, .int .u64 a1, .int .u64 a2, .int .u64 a3, .int .u64 a4, .int .u64 a5, .int .u64 a6, .int .u64 a7]] => Option.bind (kV a0 a1 a2 a3 a4 a5 a6 a7) fun y => aA σ 0 (oc.val y) (oc.aL y) k
  | _ => none
 nat := fun args σ k => by
  repeat' split
  all_goals simp only [aw, ai, Option.bind_assoc, Option.bind_none, aA, Option.bind_some]
 pure := true
 pok := fun _ args σ r σ' h => by
  split at h
  ·exact bp h (fun y => rfl) (fun y f => rfl)
  ·cases h
theorem Ii : aW Try.prog 74 xR := by
 intro args σ r σ' h
 simp only [xR] at h
 split at h
 ·rename_i a0 a1 a2 a3 a4 a5 a6 a7
  obtain ⟨y, hy, h⟩ := bE_ h
  exact lifted (xs := []) (ls := []) (cargs := [.agg (v8 a0 a1 a2 a3 a4 a5 a6 a7 [])]) (bv.of trivial) rfl (Gw a0 a1 a2 a3 a4 a5 a6 a7 y hy) rfl rfl rfl rfl h
 ·cases h
abbrev gD := Int × LA_ × Nat × LA_ × Nat × Nat
abbrev Ag := Int × Int × Int × Int × Int × Int × Int × Int
def rV : CH := CH.none
theorem uq : aE Try.prog rV := CH.aB
def fX {R : Type} (cc : gD) (v : LA_ × Int) (kn : (LA_ × Int) → Option R) (ke : ((LA_)) → Option R) : Option R :=
 (cond (decide (v.2 < 8)) (af (decide (0 ≤ (IntKind.wrap .i64 (v.2 - (IntKind.wrap .i64 (Int.tdiv cc.1 64))))) && decide ((IntKind.wrap .i64 (v.2 - (IntKind.wrap .i64 (Int.tdiv cc.1 64)))) < ((8 : Nat) : Int))) (af (aq [.int .u64] cc.2.1 (0 + (Int.toNat (IntKind.wrap .i64 (v.2 - (IntKind.wrap .i64 (Int.tdiv cc.1 64)))) * 1))) (af (!decide ((Int.tmod cc.1 64) < 0)) (af (decide (0 ≤ v.2) && decide (v.2 < ((8 : Nat) : Int))) (af (decide ((0 + (Int.toNat v.2 * 1)) + 1 ≤ List.length v.1)) (cond (decide ((Int.tmod cc.1 64) > 0)) (cond (decide (v.2 > (IntKind.wrap .i64 (Int.tdiv cc.1 64)))) (af (decide (0 ≤ v.2) && decide (v.2 < ((8 : Nat) : Int))) (af (aq [.int .u64] (spliced v.1 (0 + (Int.toNat v.2 * 1)) [.int .u64 (ii .u64 (ac cc.2.1 ((0 + (Int.toNat (IntKind.wrap .i64 (v.2 - (IntKind.wrap .i64 (Int.tdiv cc.1 64)))) * 1)) + 0)) (Int.tmod cc.1 64))]) (0 + (Int.toNat v.2 * 1))) (af (decide (0 ≤ (IntKind.wrap .i64 ((IntKind.wrap .i64 (v.2 - (IntKind.wrap .i64 (Int.tdiv cc.1 64)))) - 1))) && decide ((IntKind.wrap .i64 ((IntKind.wrap .i64 (v.2 - (IntKind.wrap .i64 (Int.tdiv cc.1 64)))) - 1)) < ((8 : Nat) : Int))) (af (aq [.int .u64] cc.2.1 (0 + (Int.toNat (IntKind.wrap .i64 ((IntKind.wrap .i64 (v.2 - (IntKind.wrap .i64 (Int.tdiv cc.1 64)))) - 1)) * 1))) (af (!decide ((IntKind.wrap .i64 (64 - (Int.tmod cc.1 64))) < 0)) (af (decide (0 ≤ v.2) && decide (v.2 < ((8 : Nat) : Int))) (af (decide ((0 + (Int.toNat v.2 * 1)) + 1 ≤ List.length (spliced v.1 (0 + (Int.toNat v.2 * 1)) [.int .u64 (ii .u64 (ac cc.2.1 ((0 + (Int.toNat (IntKind.wrap .i64 (v.2 - (IntKind.wrap .i64 (Int.tdiv cc.1 64)))) * 1)) + 0)) (Int.tmod cc.1 64))]))) (kn ((spliced (spliced v.1 (0 + (Int.toNat v.2 * 1)) [.int .u64 (ii .u64 (ac cc.2.1 ((0 + (Int.toNat (IntKind.wrap .i64 (v.2 - (IntKind.wrap .i64 (Int.tdiv cc.1 64)))) * 1)) + 0)) (Int.tmod cc.1 64))]) (0 + (Int.toNat v.2 * 1)) [.int .u64 (ior .u64 (ac (spliced v.1 (0 + (Int.toNat v.2 * 1)) [.int .u64 (ii .u64 (ac cc.2.1 ((0 + (Int.toNat (IntKind.wrap .i64 (v.2 - (IntKind.wrap .i64 (Int.tdiv cc.1 64)))) * 1)) + 0)) (Int.tmod cc.1 64))]) ((0 + (Int.toNat v.2 * 1)) + 0)) (aC .u64 (ac cc.2.1 ((0 + (Int.toNat (IntKind.wrap .i64 ((IntKind.wrap .i64 (v.2 - (IntKind.wrap .i64 (Int.tdiv cc.1 64)))) - 1)) * 1)) + 0)) (IntKind.wrap .i64 (64 - (Int.tmod cc.1 64)))))]), (IntKind.wrap .i64 (v.2 + 1))))))))))) (kn ((spliced v.1 (0 + (Int.toNat v.2 * 1)) [.int .u64 (ii .u64 (ac cc.2.1 ((0 + (Int.toNat (IntKind.wrap .i64 (v.2 - (IntKind.wrap .i64 (Int.tdiv cc.1 64)))) * 1)) + 0)) (Int.tmod cc.1 64))]), (IntKind.wrap .i64 (v.2 + 1))))) (kn ((spliced v.1 (0 + (Int.toNat v.2 * 1)) [.int .u64 (ii .u64 (ac cc.2.1 ((0 + (Int.toNat (IntKind.wrap .i64 (v.2 - (IntKind.wrap .i64 (Int.tdiv cc.1 64)))) * 1)) + 0)) (Int.tmod cc.1 64))]), (IntKind.wrap .i64 (v.2 + 1)))))))))) (ke v.1))
def qp (cc : gD) (v : LA_ × Int) : Option ((LA_ × Int) ⊕ ((LA_))) := fX cc v (fun v => some (Sum.inl v)) fun e => some (Sum.inr e)
def yR (cc : gD) (v : LA_ × Int) : Option ((LA_)) := dA (qp cc) v
def El (cc : gD) (v : LA_ × Int) : List ah := [.I cc.1, .I v.2, .C cc.2.1, .N cc.2.2.1, .C cc.2.2.2.1, .N cc.s4.1, .C v.1, .N cc.s4.2]
def ur (ls : List ah) : Option ((gD) × (LA_ × Int)) := match ls with
 | [.I x0, .I x1, .C x2, .N x3, .C x4, .N x5, .C x6, .N x7] => some ((x0, x2, x3, x4, x5, x7), (x6, x1))
 | _ => none
def ut (e : (LA_)) : an := ((fun e => .exit 0) e)
def uv (cc : gD) (e : (LA_)) : List ah := ((fun e => [.C cc.2.2.2.1, .N cc.s4.1, .C e, .N cc.s4.2]) e)
def lW (cc : gD) (e : (LA_)) : List ah := ((fun e => [.C cc.2.2.2.1, .N cc.s4.1, .N cc.s4.2]) e)
def nA (o : an) (ls : List ah) : Option (((LA_)) × List ah) := match o with
 | .exit 0 => (match ls with
  | [.C x0, .N x1, .C x2, .N x3] => some (x2, [.C x0, .N x1, .N x3])
  | _ => none)
 | _ => none
theorem Ah : ∀ o ls e cl cc, nA o ls = some (e, cl) → cl = lW cc e → ls = uv cc e ∧ ut e = o ∧ o ≠ .normal ∧ ∀ v, o = .pan v → sc 0 v = true := by
 intro o ls e cl cc h hc
 unfold nA at h
 split at h
 ·split at h
  ·cases h
   simp only [lW, List.cons.injEq, ah.N.injEq, ah.C.injEq, and_true] at hc
   obtain ⟨rfl, rfl, rfl⟩ := hc
   exact ⟨rfl, rfl, by simp, by intro v hv; cases hv <;> rfl⟩
  ·cases h
 ·cases h
def Fo (o : an) : ExS := match o with
 | .exit 0 => ⟨2, (none :: none :: none :: none :: some (.ptr 0 0) :: some (.ptr 1 0) :: (rl none 44 [])), [(0, .vec 8 true), (1, .vec 8 true)], fun s => [nameAt s 4 [], nameAt s 5 []], [], []⟩
 | _ => ⟨0, [], [], fun _ => [], [], []⟩
theorem Em {R : Type} (cc : gD) (v : LA_ × Int) (kn : (LA_ × Int) → Option R) (ke : ((LA_)) → Option R) : fX cc v kn ke = (fX cc v (fun v => some (Sum.inl v)) fun e => some (Sum.inr e)).bind (Sum.elim kn ke) := by
 simp only [fX, bK, ai, Option.bind_assoc, cb, bF, Option.bind_some, Option.bind_none, Sum.elim_inl, Sum.elim_inr]
def wU : LD where
 CC := gD
 V := LA_ × Int
 E := (LA_)
 n := 0
 K := 3
 M := (none :: some (.int .i64) :: some (.ptr 0 0) :: none :: some (.ptr 1 0) :: some (.ptr 2 0) :: some (.int .i64) :: (rl none 43 []))
 B := [(0, .vec 8 true), (1, .vec 8 true), (2, .vec 8 true)]
 D := []
 pre := []
 F := fun s => [nameAt s 2 [], nameAt s 4 [], nameAt s 5 []]
 toL := El
 ofL := ur
 au := fun ls c v h => by
  unfold ur at h
  split at h
  ·cases h; rfl
  ·cases h
 ck := fX
 nat := Em
 sh := Fo
 out := ut
 toE := uv
 fp := lW
 ofE := nA
 da := Ah
 post := fun cc e k => ((fun e => k (.exit 0) (bd 2 (none :: none :: none :: none :: some (.ptr 0 0) :: some (.ptr 1 0) :: (rl none 44 [])) [(0, .vec cc.2.2.2.1 cc.s4.1 8 true), (1, .vec e cc.s4.2 8 true)] [])) e)
 cd := fun cc e k => by rfl
theorem En : cF Try.prog 0 wU.la (aK Try.f73 0) :=
 LD.ok (ch := rV) (A := bt) aJ uq mixed (fuel := 60) ⟨by kernel_rfl, fun e => by kernel_rfl, fun cc v => by kernel_rfl, aI (l := []) (by kernel_rfl) trivial⟩
def nQ (a0 a1 a2 a3 a4 a5 a6 a7 a8 : Int) : Option (Ag) :=
 (Option.bind (yR (a8, (bE a0 a1 a2 a3 a4 a5 a6 a7), 1, (bE 0 0 0 0 0 0 0 0), 1, 1) ((bE 0 0 0 0 0 0 0 0), (IntKind.wrap .i64 (Int.tdiv a8 64)))) fun e1 => (af (aq fW e1 0) (some ((ac e1 0), (ac e1 1), (ac e1 2), (ac e1 3), (ac e1 4), (ac e1 5), (ac e1 6), (ac e1 7)))))
def od : FD where
 X := Ag
 k := 0
 pre := []
 F := fun s => []
 M := .agg (rl (.int .u64) 8 [])
 B := []
 toL := fun x => [.I x.1, .I x.2.1, .I x.2.2.1, .I x.2.2.2.1, .I x.s4.1, .I x.s4.2.1, .I x.s4.2.2.1, .I x.s4.2.2.2]
 ofL := fun ls => match ls with
  | [.I x0, .I x1, .I x2, .I x3, .I x4, .I x5, .I x6, .I x7] => some (x0, x1, x2, x3, x4, x5, x6, x7)
  | _ => none
 au := fun ls x h => by
  split at h
  ·cases h; rfl
  ·cases h
theorem Gx (a0 a1 a2 a3 a4 a5 a6 a7 a8 : Int) (x : Ag) (h : nQ a0 a1 a2 a3 a4 a5 a6 a7 a8 = some x) : bc Try.prog 73 0 [.agg (bE a0 a1 a2 a3 a4 a5 a6 a7), .int .i64 a8] [] od x :=
 FD.sem (ch := rV) (A := eF [(3, wU.la)]) (fn := Try.f73) (c := bq Try.f73) (fuel := 60) aJ uq mixed bG od Try.func73 (by kernel_rfl) (aI (l := [aK Try.f73 0]) (by kernel_rfl) ⟨bX (by kernel_rfl) En, trivial⟩)
  (by kernel_rfl) (Eq.trans (by kernel_rfl) h)
def xS : HK where
 call := fun args σ k => match args with
  | [.agg [.int .u64 a0, .int .u64 a1, .int .u64 a2, .int .u64 a3, .int .u64 a4, .int .u64 a5, .int .u64 a6, .int .u64 a7], .int .i64 a8] => Option.bind (nQ a0 a1 a2 a3 a4 a5 a6 a7 a8) fun y => aA σ 0 (od.val y) (od.aL y) k
  | _ => none
 nat := fun args σ k => by
  repeat' split
  all_goals simp only [aw, ai, Option.bind_assoc, Option.bind_none, aA, Option.bind_some]
 pure := true
 pok := fun _ args σ r σ' h => by
  split at h
  ·exact bp h (fun y => rfl) (fun y f => rfl)
  ·cases h
theorem Ij : aW Try.prog 73 xS := by
 intro args σ r σ' h
 simp only [xS] at h
 split at h
 ·rename_i a0 a1 a2 a3 a4 a5 a6 a7 a8
  obtain ⟨y, hy, h⟩ := bE_ h
  exact lifted (xs := []) (ls := []) (cargs := [.agg (bE a0 a1 a2 a3 a4 a5 a6 a7), .int .i64 a8]) (bv.of trivial) rfl (Gx a0 a1 a2 a3 a4 a5 a6 a7 a8 y hy) rfl rfl rfl rfl h
 ·cases h
abbrev bw : ByteArray := ⟨#[0, 1, 2, 2, 3, 3, 3, 3, 4, 4, 4, 4, 4, 4, 4, 4, 5, 5, 5, 5, 5, 5, 5, 5, 5, 5, 5, 5, 5, 5, 5, 5, 6, 6, 6, 6, 6, 6, 6, 6, 6, 6, 6, 6, 6, 6, 6, 6, 6, 6, 6, 6, 6, 6, 6, 6, 6, 6, 6, 6, 6, 6, 6, 6, 7, 7, 7, 7, 7, 7, 7, 7, 7, 7, 7, 7, 7, 7, 7, 7, 7, 7, 7, 7, 7, 7, 7, 7, 7, 7, 7, 7, 7, 7, 7, 7, 7, 7, 7, 7, 7, 7, 7, 7, 7, 7, 7, 7, 7, 7, 7, 7, 7, 7, 7, 7, 7, 7, 7, 7, 7, 7, 7, 7, 7, 7, 7, 7, 8, 8, 8, 8, 8, 8, 8, 8, 8, 8, 8, 8, 8, 8, 8, 8, 8, 8, 8, 8, 8, 8, 8, 8, 8, 8, 8, 8, 8, 8, 8, 8, 8, 8, 8, 8, 8, 8, 8, 8, 8, 8, 8, 8, 8, 8, 8, 8, 8, 8, 8, 8, 8, 8, 8, 8, 8, 8, 8, 8, 8, 8, 8, 8, 8, 8, 8, 8, 8, 8, 8, 8, 8, 8, 8, 8, 8, 8, 8, 8, 8, 8, 8, 8, 8, 8, 8, 8, 8, 8, 8, 8, 8, 8, 8, 8, 8, 8, 8, 8, 8, 8, 8, 8, 8, 8, 8, 8, 8, 8, 8, 8, 8, 8, 8, 8, 8, 8, 8, 8, 8, 8, 8, 8, 8, 8, 8, 8]⟩
def zH : CH := CH.none
theorem wk : aE Try.prog zH := CH.aB
def gk (a0 : Int) : Option (Int) :=
 (cond (decide (a0 ≥ 4294967296)) (cond (decide ((aC .u64 a0 32) ≥ 65536)) (cond (decide ((aC .u64 (aC .u64 a0 32) 16) ≥ 256)) (af (decide (0 ≤ (IntKind.wrap .u8 (aC .u64 (aC .u64 (aC .u64 a0 32) 16) 8))) && decide ((IntKind.wrap .u8 (aC .u64 (aC .u64 (aC .u64 a0 32) 16) 8)) < ((ByteArray.size bw : Nat) : Int))) (some (IntKind.wrap .i64 (56 + (IntKind.wrap .i64 (dS bw (Int.toNat (IntKind.wrap .u8 (aC .u64 (aC .u64 (aC .u64 a0 32) 16) 8))))))))) (af (decide (0 ≤ (IntKind.wrap .u8 (aC .u64 (aC .u64 a0 32) 16))) && decide ((IntKind.wrap .u8 (aC .u64 (aC .u64 a0 32) 16)) < ((ByteArray.size bw : Nat) : Int))) (some (IntKind.wrap .i64 (48 + (IntKind.wrap .i64 (dS bw (Int.toNat (IntKind.wrap .u8 (aC .u64 (aC .u64 a0 32) 16)))))))))) (cond (decide ((aC .u64 a0 32) ≥ 256)) (af (decide (0 ≤ (IntKind.wrap .u8 (aC .u64 (aC .u64 a0 32) 8))) && decide ((IntKind.wrap .u8 (aC .u64 (aC .u64 a0 32) 8)) < ((ByteArray.size bw : Nat) : Int))) (some (IntKind.wrap .i64 (40 + (IntKind.wrap .i64 (dS bw (Int.toNat (IntKind.wrap .u8 (aC .u64 (aC .u64 a0 32) 8))))))))) (af (decide (0 ≤ (IntKind.wrap .u8 (aC .u64 a0 32))) && decide ((IntKind.wrap .u8 (aC .u64 a0 32)) < ((ByteArray.size bw : Nat) : Int))) (some (IntKind.wrap .i64 (32 + (IntKind.wrap .i64 (dS bw (Int.toNat (IntKind.wrap .u8 (aC .u64 a0 32))))))))))) (cond (decide (a0 ≥ 65536)) (cond (decide ((aC .u64 a0 16) ≥ 256)) (af (decide (0 ≤ (IntKind.wrap .u8 (aC .u64 (aC .u64 a0 16) 8))) && decide ((IntKind.wrap .u8 (aC .u64 (aC .u64 a0 16) 8)) < ((ByteArray.size bw : Nat) : Int))) (some (IntKind.wrap .i64 (24 + (IntKind.wrap .i64 (dS bw (Int.toNat (IntKind.wrap .u8 (aC .u64 (aC .u64 a0 16) 8))))))))) (af (decide (0 ≤ (IntKind.wrap .u8 (aC .u64 a0 16))) && decide ((IntKind.wrap .u8 (aC .u64 a0 16)) < ((ByteArray.size bw : Nat) : Int))) (some (IntKind.wrap .i64 (16 + (IntKind.wrap .i64 (dS bw (Int.toNat (IntKind.wrap .u8 (aC .u64 a0 16)))))))))) (cond (decide (a0 ≥ 256)) (af (decide (0 ≤ (IntKind.wrap .u8 (aC .u64 a0 8))) && decide ((IntKind.wrap .u8 (aC .u64 a0 8)) < ((ByteArray.size bw : Nat) : Int))) (some (IntKind.wrap .i64 (8 + (IntKind.wrap .i64 (dS bw (Int.toNat (IntKind.wrap .u8 (aC .u64 a0 8))))))))) (af (decide (0 ≤ (IntKind.wrap .u8 a0)) && decide ((IntKind.wrap .u8 a0) < ((ByteArray.size bw : Nat) : Int))) (some (IntKind.wrap .i64 (0 + (IntKind.wrap .i64 (dS bw (Int.toNat (IntKind.wrap .u8 a0)))))))))))
def gZ : FD where
 X := Int
 k := 0
 pre := []
 F := fun s => []
 M := .int .i64
 B := []
 toL := fun x => [.I x]
 ofL := fun ls => match ls with
  | [.I x0] => some x0
  | _ => none
 au := fun ls x h => by
  split at h
  ·cases h; rfl
  ·cases h
theorem yx (a0 x : Int) (h : gk a0 = some x) : bc Try.prog 86 0 [.int .u64 a0] [] gZ x :=
 FD.semA gZ wk Try.func86 (fuel := 60) (by kernel_rfl) (by kernel_rfl)
  (by kernel_rfl) (Eq.trans (by kernel_rfl) h)
def np : HK where
 call := fun args σ k => match args with
  | [.int .u64 a0] => Option.bind (gk a0) fun y => aA σ 0 (gZ.val y) (gZ.aL y) k
  | _ => none
 nat := fun args σ k => by
  repeat' split
  all_goals simp only [aw, ai, Option.bind_assoc, Option.bind_none, aA, Option.bind_some]
 pure := true
 pok := fun _ args σ r σ' h => by
  split at h
  ·exact bp h (fun y => rfl) (fun y f => rfl)
  ·cases h
theorem zI : aW Try.prog 86 np := by
 intro args σ r σ' h
 simp only [np] at h
 split at h
 ·rename_i a0
  obtain ⟨y, hy, h⟩ := bE_ h
  exact lifted (xs := []) (ls := []) (cargs := [.int .u64 a0]) (bv.of trivial) rfl (yx a0 y hy) rfl rfl rfl rfl h
 ·cases h
def oM : CH := (CH.add 86 np CH.none)
theorem rC : aE Try.prog oM := (CH.aj zI CH.aB)
def eV {R : Type} (cc : LA_ × Nat) (v : Int) (kn : (Int) → Option R) (ke : ((Int) ⊕ (Unit)) → Option R) : Option R :=
 (cond (decide (v ≥ 0)) (af (decide (0 ≤ v) && decide (v < ((8 : Nat) : Int))) (af (aq [.int .u64] cc.1 (0 + (Int.toNat v * 1))) (cond ((ac cc.1 ((0 + (Int.toNat v * 1)) + 0)) != 0) (af (decide (0 ≤ v) && decide (v < ((8 : Nat) : Int))) (af (aq [.int .u64] cc.1 (0 + (Int.toNat v * 1))) (Option.bind (gk (ac cc.1 ((0 + (Int.toNat v * 1)) + 0))) fun r1 => (ke (.inl (IntKind.wrap .i64 ((IntKind.wrap .i64 (64 * v)) + r1))))))) (kn (IntKind.wrap .i64 (v - 1)))))) (ke (.inr ())))
def nB (cc : LA_ × Nat) (v : Int) : Option ((Int) ⊕ ((Int) ⊕ (Unit))) := eV cc v (fun v => some (Sum.inl v)) fun e => some (Sum.inr e)
def vS (cc : LA_ × Nat) (v : Int) : Option ((Int) ⊕ (Unit)) := dA (nB cc) v
def BH (cc : LA_ × Nat) (v : Int) : List ah := [.I v, .C cc.1, .N cc.2]
def rD (ls : List ah) : Option ((LA_ × Nat) × (Int)) := match ls with
 | [.I x0, .C x1, .N x2] => some ((x1, x2), x0)
 | _ => none
def rE (e : (Int) ⊕ (Unit)) : an := ((Sum.elim (fun e => .ret) (fun e => .exit 0)) e)
def rF (cc : LA_ × Nat) (e : (Int) ⊕ (Unit)) : List ah := ((Sum.elim (fun e => [.I e]) (fun e => [])) e)
def qr (cc : LA_ × Nat) (e : (Int) ⊕ (Unit)) : List ah := ((Sum.elim (fun e => []) (fun e => [])) e)
def li (o : an) (ls : List ah) : Option (((Int) ⊕ (Unit)) × List ah) := match o with
 | .ret => (match ls with
  | [.I x0] => some ((.inl x0), [])
  | _ => none)
 | .exit 0 => (match ls with
  | [] => some ((.inr ()), [])
  | _ => none)
 | _ => none
theorem xT : ∀ o ls e cl cc, li o ls = some (e, cl) → cl = qr cc e → ls = rF cc e ∧ rE e = o ∧ o ≠ .normal ∧ ∀ v, o = .pan v → sc 0 v = true := by
 intro o ls e cl cc h hc
 unfold li at h
 split at h
 ·split at h
  ·cases h
   exact ⟨rfl, rfl, by simp, by intro v hv; cases hv <;> rfl⟩
  ·cases h
 ·split at h
  ·cases h
   exact ⟨rfl, rfl, by simp, by intro v hv; cases hv <;> rfl⟩
  ·cases h
 ·cases h
def Cp (o : an) : ExS := match o with
 | .ret => ⟨0, (none :: none :: some (.int .i64) :: (rl none 16 [])), [], fun s => [], [], []⟩
 | .exit 0 => ⟨0, (rl none 19 []), [], fun s => [], [], []⟩
 | _ => ⟨0, [], [], fun _ => [], [], []⟩
theorem BI {R : Type} (cc : LA_ × Nat) (v : Int) (kn : (Int) → Option R) (ke : ((Int) ⊕ (Unit)) → Option R) : eV cc v kn ke = (eV cc v (fun v => some (Sum.inl v)) fun e => some (Sum.inr e)).bind (Sum.elim kn ke) := by
 simp only [eV, bK, ai, Option.bind_assoc, cb, bF, Option.bind_some, Option.bind_none, Sum.elim_inl, Sum.elim_inr]
def uw : LD where
 CC := LA_ × Nat
 V := Int
 E := (Int) ⊕ (Unit)
 n := 0
 K := 1
 M := (none :: some (.ptr 0 0) :: none :: some (.int .i64) :: (rl none 15 []))
 B := [(0, .vec 8 true)]
 D := []
 pre := []
 F := fun s => [nameAt s 1 []]
 toL := BH
 ofL := rD
 au := fun ls c v h => by
  unfold rD at h
  split at h
  ·cases h; rfl
  ·cases h
 ck := eV
 nat := BI
 sh := Cp
 out := rE
 toE := rF
 fp := qr
 ofE := li
 da := xT
 post := fun cc e k => ((Sum.elim (fun e => k (.ret) (bd 0 (none :: none :: some (.int .i64 e) :: (rl none 16 [])) [] [])) (fun e => k (.exit 0) (bd 0 (rl none 19 []) [] []))) e)
 cd := fun cc e k => by rcases e with e | e <;> rfl
theorem BJ : cF Try.prog 0 uw.la (aK Try.f72 0) :=
 LD.ok (ch := oM) (A := bt) aJ rC mixed (fuel := 60) ⟨by kernel_rfl, fun e => by (rcases e with e | e <;> kernel_rfl), fun cc v => by kernel_rfl, aI (l := []) (by kernel_rfl) trivial⟩
def ij (a0 a1 a2 a3 a4 a5 a6 a7 : Int) : Option (Int) :=
 (Option.bind (vS (([.int .u64 a0, .int .u64 a1, .int .u64 a2, .int .u64 a3, .int .u64 a4, .int .u64 a5, .int .u64 a6, .int .u64 a7] : LA_), 1) 7) (Sum.elim (fun e1 => (some e1)) (fun e1 => (some 0))))
def lA : FD where
 X := Int
 k := 0
 pre := []
 F := fun s => []
 M := .int .i64
 B := []
 toL := fun x => [.I x]
 ofL := fun ls => match ls with
  | [.I x0] => some x0
  | _ => none
 au := fun ls x h => by
  split at h
  ·cases h; rfl
  ·cases h
theorem Eo (a0 a1 a2 a3 a4 a5 a6 a7 x : Int) (h : ij a0 a1 a2 a3 a4 a5 a6 a7 = some x) : bc Try.prog 72 0 [.agg (v8 a0 a1 a2 a3 a4 a5 a6 a7 [])] [] lA x :=
 FD.sem (ch := oM) (A := eF [(2, uw.la)]) (fn := Try.f72) (c := bq Try.f72) (fuel := 60) aJ rC mixed bG lA Try.func72 (by kernel_rfl) (aI (l := [aK Try.f72 0]) (by kernel_rfl) ⟨bX (by kernel_rfl) BJ, trivial⟩)
  (by kernel_rfl) (Eq.trans (by kernel_rfl) h)
def tV : HK where
 call := fun args σ k => match args with
  | [.agg [.int .u64 a0, .int .u64 a1, .int .u64 a2, .int .u64 a3, .int .u64 a4, .int .u64 a5, .int .u64 a6, .int .u64 a7]] => Option.bind (ij a0 a1 a2 a3 a4 a5 a6 a7) fun y => aA σ 0 (lA.val y) (lA.aL y) k
  | _ => none
 nat := fun args σ k => by
  repeat' split
  all_goals simp only [aw, ai, Option.bind_assoc, Option.bind_none, aA, Option.bind_some]
 pure := true
 pok := fun _ args σ r σ' h => by
  split at h
  ·exact bp h (fun y => rfl) (fun y f => rfl)
  ·cases h
theorem Fp : aW Try.prog 72 tV := by
 intro args σ r σ' h
 simp only [tV] at h
 split at h
 ·rename_i a0 a1 a2 a3 a4 a5 a6 a7
  obtain ⟨y, hy, h⟩ := bE_ h
  exact lifted (xs := []) (ls := []) (cargs := [.agg (v8 a0 a1 a2 a3 a4 a5 a6 a7 [])]) (bv.of trivial) rfl (Eo a0 a1 a2 a3 a4 a5 a6 a7 y hy) rfl rfl rfl rfl h
 ·cases h
abbrev xW := (I8 (Int × Int × Int × Int × Int × Int × Int × Int))
abbrev eE := LA_ × LA_ × Int × LA_ × Nat
def qC : CH := (CH.add 74 xR (CH.add 73 xS (CH.add 72 tV (CH.add 50 mK (CH.add 49 iX (CH.add 38 qh CH.none))))))
theorem s7 : aE Try.prog qC := (CH.aj Ii (CH.aj Ij (CH.aj Fp (CH.aj n9 (CH.aj jI (CH.aj wT CH.aB))))))
def fw {R : Type} (cc : Nat × Nat) (v : eE) (kn : (eE) → Option R) (ke : ((LA_ × LA_)) → Option R) : Option R :=
 (cond (decide (v.2.2.1 ≥ 0)) (af (aq fW v.2.1 0) (af (aq fW v.2.2.2.1 0) (Option.bind (gV (ac v.2.1 0) (ac v.2.1 1) (ac v.2.1 2) (ac v.2.1 3) (ac v.2.1 4) (ac v.2.1 5) (ac v.2.1 6) (ac v.2.1 7) (ac v.2.2.2.1 0) (ac v.2.2.2.1 1) (ac v.2.2.2.1 2) (ac v.2.2.2.1 3) (ac v.2.2.2.1 4) (ac v.2.2.2.1 5) (ac v.2.2.2.1 6) (ac v.2.2.2.1 7)) fun r4 => (cond (decide (r4 ≥ 0)) (af (aq fW v.2.1 0) (af (aq fW v.2.2.2.1 0) (Option.bind (gC (ac v.2.2.2.1 0) (ac v.2.2.2.1 1) (ac v.2.2.2.1 2) (ac v.2.2.2.1 3) (ac v.2.2.2.1 4) (ac v.2.2.2.1 5) (ac v.2.2.2.1 6) (ac v.2.2.2.1 7)) fun r5 => (Option.bind (dy (ac v.2.1 0) (ac v.2.1 1) (ac v.2.1 2) (ac v.2.1 3) (ac v.2.1 4) (ac v.2.1 5) (ac v.2.1 6) (ac v.2.1 7) r5.1 r5.2.1 r5.2.2.1 r5.2.2.2.1 r5.2.2.2.2.1 r5.2.2.2.2.2.1 r5.2.2.2.2.2.2.1 r5.2.2.2.2.2.2.2 1) fun r6 => (af (decide (0 + 8 ≤ List.length v.2.1)) (af (decide (0 ≤ (IntKind.wrap .i64 (Int.tdiv v.2.2.1 64))) && decide ((IntKind.wrap .i64 (Int.tdiv v.2.2.1 64)) < ((8 : Nat) : Int))) (af (aq [.int .u64] v.1 (0 + (Int.toNat (IntKind.wrap .i64 (Int.tdiv v.2.2.1 64)) * 1))) (af (!decide ((Int.tmod v.2.2.1 64) < 0)) (af (decide (0 ≤ (IntKind.wrap .i64 (Int.tdiv v.2.2.1 64))) && decide ((IntKind.wrap .i64 (Int.tdiv v.2.2.1 64)) < ((8 : Nat) : Int))) (af (decide ((0 + (Int.toNat (IntKind.wrap .i64 (Int.tdiv v.2.2.1 64)) * 1)) + 1 ≤ List.length v.1)) (af (aq fW v.2.2.2.1 0) (Option.bind (kV (ac v.2.2.2.1 0) (ac v.2.2.2.1 1) (ac v.2.2.2.1 2) (ac v.2.2.2.1 3) (ac v.2.2.2.1 4) (ac v.2.2.2.1 5) (ac v.2.2.2.1 6) (ac v.2.2.2.1 7)) fun r7 => (af (decide (0 + 8 ≤ List.length v.2.2.2.1)) (af (aq fW (spliced v.2.2.2.1 0 (bE r7.1 r7.2.1 r7.2.2.1 r7.2.2.2.1 r7.2.2.2.2.1 r7.2.2.2.2.2.1 r7.2.2.2.2.2.2.1 r7.2.2.2.2.2.2.2)) 0) (kn ((spliced v.1 (0 + (Int.toNat (IntKind.wrap .i64 (Int.tdiv v.2.2.1 64)) * 1)) [.int .u64 (ior .u64 (ac v.1 ((0 + (Int.toNat (IntKind.wrap .i64 (Int.tdiv v.2.2.1 64)) * 1)) + 0)) (ii .u64 1 (Int.tmod v.2.2.1 64)))]), (spliced v.2.1 0 (bE r6.1 r6.2.1 r6.2.2.1 r6.2.2.2.1 r6.2.2.2.2.1 r6.2.2.2.2.2.1 r6.2.2.2.2.2.2.1 r6.2.2.2.2.2.2.2)), (IntKind.wrap .i64 (v.2.2.1 - 1)), ([.int .u64 (ac (spliced v.2.2.2.1 0 (bE r7.1 r7.2.1 r7.2.2.1 r7.2.2.2.1 r7.2.2.2.2.1 r7.2.2.2.2.2.1 r7.2.2.2.2.2.2.1 r7.2.2.2.2.2.2.2)) 0), .int .u64 (ac (spliced v.2.2.2.1 0 (bE r7.1 r7.2.1 r7.2.2.1 r7.2.2.2.1 r7.2.2.2.2.1 r7.2.2.2.2.2.1 r7.2.2.2.2.2.2.1 r7.2.2.2.2.2.2.2)) 1), .int .u64 (ac (spliced v.2.2.2.1 0 (bE r7.1 r7.2.1 r7.2.2.1 r7.2.2.2.1 r7.2.2.2.2.1 r7.2.2.2.2.2.1 r7.2.2.2.2.2.2.1 r7.2.2.2.2.2.2.2)) 2), .int .u64 (ac (spliced v.2.2.2.1 0 (bE r7.1 r7.2.1 r7.2.2.1 r7.2.2.2.1 r7.2.2.2.2.1 r7.2.2.2.2.2.1 r7.2.2.2.2.2.2.1 r7.2.2.2.2.2.2.2)) 3), .int .u64 (ac (spliced v.2.2.2.1 0 (bE r7.1 r7.2.1 r7.2.2.1 r7.2.2.2.1 r7.2.2.2.2.1 r7.2.2.2.2.2.1 r7.2.2.2.2.2.2.1 r7.2.2.2.2.2.2.2)) 4), .int .u64 (ac (spliced v.2.2.2.1 0 (bE r7.1 r7.2.1 r7.2.2.1 r7.2.2.2.1 r7.2.2.2.2.1 r7.2.2.2.2.2.1 r7.2.2.2.2.2.2.1 r7.2.2.2.2.2.2.2)) 5), .int .u64 (ac (spliced v.2.2.2.1 0 (bE r7.1 r7.2.1 r7.2.2.1 r7.2.2.2.1 r7.2.2.2.2.1 r7.2.2.2.2.2.1 r7.2.2.2.2.2.2.1 r7.2.2.2.2.2.2.2)) 6), .int .u64 (ac (spliced v.2.2.2.1 0 (bE r7.1 r7.2.1 r7.2.2.1 r7.2.2.2.1 r7.2.2.2.2.1 r7.2.2.2.2.2.1 r7.2.2.2.2.2.2.1 r7.2.2.2.2.2.2.2)) 7)] : LA_), 1)))))))))))))))) (af (aq fW v.2.2.2.1 0) (Option.bind (kV (ac v.2.2.2.1 0) (ac v.2.2.2.1 1) (ac v.2.2.2.1 2) (ac v.2.2.2.1 3) (ac v.2.2.2.1 4) (ac v.2.2.2.1 5) (ac v.2.2.2.1 6) (ac v.2.2.2.1 7)) fun r8 => (af (decide (0 + 8 ≤ List.length v.2.2.2.1)) (af (aq fW (spliced v.2.2.2.1 0 (bE r8.1 r8.2.1 r8.2.2.1 r8.2.2.2.1 r8.2.2.2.2.1 r8.2.2.2.2.2.1 r8.2.2.2.2.2.2.1 r8.2.2.2.2.2.2.2)) 0) (kn (v.1, v.2.1, (IntKind.wrap .i64 (v.2.2.1 - 1)), ([.int .u64 (ac (spliced v.2.2.2.1 0 (bE r8.1 r8.2.1 r8.2.2.1 r8.2.2.2.1 r8.2.2.2.2.1 r8.2.2.2.2.2.1 r8.2.2.2.2.2.2.1 r8.2.2.2.2.2.2.2)) 0), .int .u64 (ac (spliced v.2.2.2.1 0 (bE r8.1 r8.2.1 r8.2.2.1 r8.2.2.2.1 r8.2.2.2.2.1 r8.2.2.2.2.2.1 r8.2.2.2.2.2.2.1 r8.2.2.2.2.2.2.2)) 1), .int .u64 (ac (spliced v.2.2.2.1 0 (bE r8.1 r8.2.1 r8.2.2.1 r8.2.2.2.1 r8.2.2.2.2.1 r8.2.2.2.2.2.1 r8.2.2.2.2.2.2.1 r8.2.2.2.2.2.2.2)) 2), .int .u64 (ac (spliced v.2.2.2.1 0 (bE r8.1 r8.2.1 r8.2.2.1 r8.2.2.2.1 r8.2.2.2.2.1 r8.2.2.2.2.2.1 r8.2.2.2.2.2.2.1 r8.2.2.2.2.2.2.2)) 3), .int .u64 (ac (spliced v.2.2.2.1 0 (bE r8.1 r8.2.1 r8.2.2.1 r8.2.2.2.1 r8.2.2.2.2.1 r8.2.2.2.2.2.1 r8.2.2.2.2.2.2.1 r8.2.2.2.2.2.2.2)) 4), .int .u64 (ac (spliced v.2.2.2.1 0 (bE r8.1 r8.2.1 r8.2.2.1 r8.2.2.2.1 r8.2.2.2.2.1 r8.2.2.2.2.2.1 r8.2.2.2.2.2.2.1 r8.2.2.2.2.2.2.2)) 5), .int .u64 (ac (spliced v.2.2.2.1 0 (bE r8.1 r8.2.1 r8.2.2.1 r8.2.2.2.1 r8.2.2.2.2.1 r8.2.2.2.2.2.1 r8.2.2.2.2.2.2.1 r8.2.2.2.2.2.2.2)) 6), .int .u64 (ac (spliced v.2.2.2.1 0 (bE r8.1 r8.2.1 r8.2.2.1 r8.2.2.2.1 r8.2.2.2.2.1 r8.2.2.2.2.2.1 r8.2.2.2.2.2.2.1 r8.2.2.2.2.2.2.2)) 7)] : LA_), 1)))))))))) (ke (v.1, v.2.1)))
def oP (cc : Nat × Nat) (v : eE) : Option ((eE) ⊕ ((LA_ × LA_))) := fw cc v (fun v => some (Sum.inl v)) fun e => some (Sum.inr e)
def wV (cc : Nat × Nat) (v : eE) : Option ((LA_ × LA_)) := dA (oP cc) v
def Cx (cc : Nat × Nat) (v : eE) : List ah := [.I v.2.2.1, .C v.1, .N cc.1, .C v.2.1, .N cc.2, .C v.2.2.2.1, .N v.s4]
def s9 (ls : List ah) : Option ((Nat × Nat) × (eE)) := match ls with
 | [.I x0, .C x1, .N x2, .C x3, .N x4, .C x5, .N x6] => some ((x2, x4), (x1, x3, x0, x5, x6))
 | _ => none
def ta (e : (LA_ × LA_)) : an := ((fun e => .exit 0) e)
def tb (cc : Nat × Nat) (e : (LA_ × LA_)) : List ah := ((fun e => [.C e.1, .N cc.1, .C e.2, .N cc.2]) e)
def lj (cc : Nat × Nat) (e : (LA_ × LA_)) : List ah := ((fun e => [.N cc.1, .N cc.2]) e)
def lY (o : an) (ls : List ah) : Option (((LA_ × LA_)) × List ah) := match o with
 | .exit 0 => (match ls with
  | [.C x0, .N x1, .C x2, .N x3] => some ((x0, x2), [.N x1, .N x3])
  | _ => none)
 | _ => none
theorem yW : ∀ o ls e cl cc, lY o ls = some (e, cl) → cl = lj cc e → ls = tb cc e ∧ ta e = o ∧ o ≠ .normal ∧ ∀ v, o = .pan v → sc 0 v = true := by
 intro o ls e cl cc h hc
 unfold lY at h
 split at h
 ·split at h
  ·cases h
   simp only [lj, List.cons.injEq, ah.N.injEq, and_true] at hc
   obtain ⟨rfl, rfl⟩ := hc
   exact ⟨rfl, rfl, by simp, by intro v hv; cases hv <;> rfl⟩
  ·cases h
 ·cases h
def Et (o : an) : ExS := match o with
 | .exit 0 => ⟨2, (none :: none :: none :: none :: some (.ptr 0 0) :: some (.ptr 1 0) :: (rl none 41 [])), [(0, .vec 8 true), (1, .vec 8 true)], fun s => [nameAt s 4 [], nameAt s 5 []], [], []⟩
 | _ => ⟨0, [], [], fun _ => [], [], []⟩
theorem Cy {R : Type} (cc : Nat × Nat) (v : eE) (kn : (eE) → Option R) (ke : ((LA_ × LA_)) → Option R) : fw cc v kn ke = (fw cc v (fun v => some (Sum.inl v)) fun e => some (Sum.inr e)).bind (Sum.elim kn ke) := by
 simp only [fw, bK, ai, Option.bind_assoc, cb, bF, Option.bind_some, Option.bind_none, Sum.elim_inl, Sum.elim_inr]
def vW : LD where
 CC := Nat × Nat
 V := eE
 E := (LA_ × LA_)
 n := 0
 K := 3
 M := (none :: none :: none :: none :: some (.ptr 0 0) :: some (.ptr 1 0) :: some (.int .i64) :: some (.ptr 2 0) :: (rl none 39 []))
 B := [(0, .vec 8 true), (1, .vec 8 true), (2, .vec 8 true)]
 D := []
 pre := []
 F := fun s => [nameAt s 4 [], nameAt s 5 [], nameAt s 7 []]
 toL := Cx
 ofL := s9
 au := fun ls c v h => by
  unfold s9 at h
  split at h
  ·cases h; rfl
  ·cases h
 ck := fw
 nat := Cy
 sh := Et
 out := ta
 toE := tb
 fp := lj
 ofE := lY
 da := yW
 post := fun cc e k => ((fun e => k (.exit 0) (bd 2 (none :: none :: none :: none :: some (.ptr 0 0) :: some (.ptr 1 0) :: (rl none 41 [])) [(0, .vec e.1 cc.1 8 true), (1, .vec e.2 cc.2 8 true)] [])) e)
 cd := fun cc e k => by rfl
theorem Cz : cF Try.prog 0 vW.la (aK Try.f47 0) :=
 LD.ok (ch := qC) (A := bt) aJ s7 mixed (fuel := 60) ⟨by kernel_rfl, fun e => by kernel_rfl, fun cc v => by kernel_rfl, aI (l := []) (by kernel_rfl) trivial⟩
def lV (a0 a1 a2 a3 a4 a5 a6 a7 a8 a9 a10 a11 a12 a13 a14 a15 : Int) : Option (xW) :=
 (Option.bind (ij a0 a1 a2 a3 a4 a5 a6 a7) fun r1 => (Option.bind (ij a8 a9 a10 a11 a12 a13 a14 a15) fun r2 => (cond (decide ((IntKind.wrap .i64 (r1 - r2)) < 0)) (some (0, 0, 0, 0, 0, 0, 0, 0, a0, a1, a2, a3, a4, a5, a6, a7)) (Option.bind (nQ a8 a9 a10 a11 a12 a13 a14 a15 (IntKind.wrap .i64 (r1 - r2))) fun r3 => (Option.bind (wV (1, 1) ((bE 0 0 0 0 0 0 0 0), (bE a0 a1 a2 a3 a4 a5 a6 a7), (IntKind.wrap .i64 (r1 - r2)), (bE r3.1 r3.2.1 r3.2.2.1 r3.2.2.2.1 r3.2.2.2.2.1 r3.2.2.2.2.2.1 r3.2.2.2.2.2.2.1 r3.2.2.2.2.2.2.2), 1)) fun e4 => (af (aq fW e4.1 0) (af (aq fW e4.2 0) (af (decide (0 + 8 ≤ List.length e4.1)) (af (decide (0 + 8 ≤ List.length e4.2)) (af (aq fW (spliced e4.1 0 (bE (ac e4.1 0) (ac e4.1 1) (ac e4.1 2) (ac e4.1 3) (ac e4.1 4) (ac e4.1 5) (ac e4.1 6) (ac e4.1 7))) 0) (af (aq fW (spliced e4.2 0 (bE (ac e4.2 0) (ac e4.2 1) (ac e4.2 2) (ac e4.2 3) (ac e4.2 4) (ac e4.2 5) (ac e4.2 6) (ac e4.2 7))) 0) (some ((ac (spliced e4.1 0 (bE (ac e4.1 0) (ac e4.1 1) (ac e4.1 2) (ac e4.1 3) (ac e4.1 4) (ac e4.1 5) (ac e4.1 6) (ac e4.1 7))) 0), (ac (spliced e4.1 0 (bE (ac e4.1 0) (ac e4.1 1) (ac e4.1 2) (ac e4.1 3) (ac e4.1 4) (ac e4.1 5) (ac e4.1 6) (ac e4.1 7))) 1), (ac (spliced e4.1 0 (bE (ac e4.1 0) (ac e4.1 1) (ac e4.1 2) (ac e4.1 3) (ac e4.1 4) (ac e4.1 5) (ac e4.1 6) (ac e4.1 7))) 2), (ac (spliced e4.1 0 (bE (ac e4.1 0) (ac e4.1 1) (ac e4.1 2) (ac e4.1 3) (ac e4.1 4) (ac e4.1 5) (ac e4.1 6) (ac e4.1 7))) 3), (ac (spliced e4.1 0 (bE (ac e4.1 0) (ac e4.1 1) (ac e4.1 2) (ac e4.1 3) (ac e4.1 4) (ac e4.1 5) (ac e4.1 6) (ac e4.1 7))) 4), (ac (spliced e4.1 0 (bE (ac e4.1 0) (ac e4.1 1) (ac e4.1 2) (ac e4.1 3) (ac e4.1 4) (ac e4.1 5) (ac e4.1 6) (ac e4.1 7))) 5), (ac (spliced e4.1 0 (bE (ac e4.1 0) (ac e4.1 1) (ac e4.1 2) (ac e4.1 3) (ac e4.1 4) (ac e4.1 5) (ac e4.1 6) (ac e4.1 7))) 6), (ac (spliced e4.1 0 (bE (ac e4.1 0) (ac e4.1 1) (ac e4.1 2) (ac e4.1 3) (ac e4.1 4) (ac e4.1 5) (ac e4.1 6) (ac e4.1 7))) 7), (ac (spliced e4.2 0 (bE (ac e4.2 0) (ac e4.2 1) (ac e4.2 2) (ac e4.2 3) (ac e4.2 4) (ac e4.2 5) (ac e4.2 6) (ac e4.2 7))) 0), (ac (spliced e4.2 0 (bE (ac e4.2 0) (ac e4.2 1) (ac e4.2 2) (ac e4.2 3) (ac e4.2 4) (ac e4.2 5) (ac e4.2 6) (ac e4.2 7))) 1), (ac (spliced e4.2 0 (bE (ac e4.2 0) (ac e4.2 1) (ac e4.2 2) (ac e4.2 3) (ac e4.2 4) (ac e4.2 5) (ac e4.2 6) (ac e4.2 7))) 2), (ac (spliced e4.2 0 (bE (ac e4.2 0) (ac e4.2 1) (ac e4.2 2) (ac e4.2 3) (ac e4.2 4) (ac e4.2 5) (ac e4.2 6) (ac e4.2 7))) 3), (ac (spliced e4.2 0 (bE (ac e4.2 0) (ac e4.2 1) (ac e4.2 2) (ac e4.2 3) (ac e4.2 4) (ac e4.2 5) (ac e4.2 6) (ac e4.2 7))) 4), (ac (spliced e4.2 0 (bE (ac e4.2 0) (ac e4.2 1) (ac e4.2 2) (ac e4.2 3) (ac e4.2 4) (ac e4.2 5) (ac e4.2 6) (ac e4.2 7))) 5), (ac (spliced e4.2 0 (bE (ac e4.2 0) (ac e4.2 1) (ac e4.2 2) (ac e4.2 3) (ac e4.2 4) (ac e4.2 5) (ac e4.2 6) (ac e4.2 7))) 6), (ac (spliced e4.2 0 (bE (ac e4.2 0) (ac e4.2 1) (ac e4.2 2) (ac e4.2 3) (ac e4.2 4) (ac e4.2 5) (ac e4.2 6) (ac e4.2 7))) 7))))))))))))))
def mO : FD where
 X := xW
 k := 0
 pre := []
 F := fun s => []
 M := .tup [.agg (rl (.int .u64) 8 []), .agg (rl (.int .u64) 8 [])]
 B := []
 toL := fun x => [.I x.1, .I x.2.1, .I x.2.2.1, .I x.2.2.2.1, .I x.s4.1, .I x.s4.2.1, .I x.s4.2.2.1, .I x.s4.2.2.2.1, .I x.s8.1, .I x.s8.2.1, .I x.s8.2.2.1, .I x.s8.2.2.2.1, .I x.s8.s4.1, .I x.s8.s4.2.1, .I x.s8.s4.2.2.1, .I x.s8.s4.2.2.2]
 ofL := fun ls => match ls with
  | [.I x0, .I x1, .I x2, .I x3, .I x4, .I x5, .I x6, .I x7, .I x8, .I x9, .I x10, .I x11, .I x12, .I x13, .I x14, .I x15] => some (x0, x1, x2, x3, x4, x5, x6, x7, x8, x9, x10, x11, x12, x13, x14, x15)
  | _ => none
 au := fun ls x h => by
  split at h
  ·cases h; rfl
  ·cases h
theorem Fy (a0 a1 a2 a3 a4 a5 a6 a7 a8 a9 a10 a11 a12 a13 a14 a15 : Int) (x : xW) (h : lV a0 a1 a2 a3 a4 a5 a6 a7 a8 a9 a10 a11 a12 a13 a14 a15 = some x) : bc Try.prog 47 0 [.agg (bE a0 a1 a2 a3 a4 a5 a6 a7), .agg (bE a8 a9 a10 a11 a12 a13 a14 a15)] [] mO x :=
 FD.sem (ch := qC) (A := eF [(6, vW.la)]) (fn := Try.f47) (c := bq Try.f47) (fuel := 60) aJ s7 mixed bG mO Try.func47 (by kernel_rfl) (aI (l := [aK Try.f47 0]) (by kernel_rfl) ⟨bX (by kernel_rfl) Cz, trivial⟩)
  (by kernel_rfl) (Eq.trans (by kernel_rfl) h)
def vR : HK where
 call := fun args σ k => match args with
  | [.agg [.int .u64 a0, .int .u64 a1, .int .u64 a2, .int .u64 a3, .int .u64 a4, .int .u64 a5, .int .u64 a6, .int .u64 a7], .agg [.int .u64 a8, .int .u64 a9, .int .u64 a10, .int .u64 a11, .int .u64 a12, .int .u64 a13, .int .u64 a14, .int .u64 a15]] => Option.bind (lV a0 a1 a2 a3 a4 a5 a6 a7 a8 a9 a10 a11 a12 a13 a14 a15) fun y => aA σ 0 (mO.val y) (mO.aL y) k
  | _ => none
 nat := fun args σ k => by
  repeat' split
  all_goals simp only [aw, ai, Option.bind_assoc, Option.bind_none, aA, Option.bind_some]
 pure := true
 pok := fun _ args σ r σ' h => by
  split at h
  ·exact bp h (fun y => rfl) (fun y f => rfl)
  ·cases h
theorem Gv : aW Try.prog 47 vR := by
 intro args σ r σ' h
 simp only [vR] at h
 split at h
 ·rename_i a0 a1 a2 a3 a4 a5 a6 a7 a8 a9 a10 a11 a12 a13 a14 a15
  obtain ⟨y, hy, h⟩ := bE_ h
  exact lifted (xs := []) (ls := []) (cargs := [.agg (bE a0 a1 a2 a3 a4 a5 a6 a7), .agg (bE a8 a9 a10 a11 a12 a13 a14 a15)]) (bv.of trivial) rfl (Fy a0 a1 a2 a3 a4 a5 a6 a7 a8 a9 a10 a11 a12 a13 a14 a15 y hy) rfl rfl rfl rfl h
 ·cases h
def Fz : CH := (CH.add 75 lX (CH.add 37 cN CH.none))
theorem BM : aE Try.prog Fz := (CH.aj qt (CH.aj cU CH.aB))
def bn (a0 a1 a2 a3 a4 a5 a6 a7 : Int) (q8 : Bool) : Option (Int × Int × Int × Int × Int × Int × Int × Int) :=
 (cond q8 (Option.bind (eP a0 a1 a2 a3 a4 a5 a6 a7) fun r1 => (cond (!(r1.1 == 0 && (r1.2.1 == 0 && (r1.2.2.1 == 0 && (r1.2.2.2.1 == 0 && (r1.2.2.2.2.1 == 0 && (r1.2.2.2.2.2.1 == 0 && (r1.2.2.2.2.2.2.1 == 0 && (r1.2.2.2.2.2.2.2 == 0 && true))))))))) (Option.bind (ak r1.1 r1.2.1 r1.2.2.1 r1.2.2.2.1 r1.2.2.2.2.1 r1.2.2.2.2.2.1 r1.2.2.2.2.2.2.1 r1.2.2.2.2.2.2.2) fun r2 => (cond r2 (cond q8 (some (r1.1, r1.2.1, r1.2.2.1, r1.2.2.2.1, r1.2.2.2.2.1, r1.2.2.2.2.2.1, r1.2.2.2.2.2.2.1, r1.2.2.2.2.2.2.2)) none) (cond q8 none (some (r1.1, r1.2.1, r1.2.2.1, r1.2.2.2.1, r1.2.2.2.2.1, r1.2.2.2.2.2.1, r1.2.2.2.2.2.2.1, r1.2.2.2.2.2.2.2))))) (some (r1.1, r1.2.1, r1.2.2.1, r1.2.2.2.1, r1.2.2.2.2.1, r1.2.2.2.2.2.1, r1.2.2.2.2.2.2.1, r1.2.2.2.2.2.2.2)))) (cond (!(a0 == 0 && (a1 == 0 && (a2 == 0 && (a3 == 0 && (a4 == 0 && (a5 == 0 && (a6 == 0 && (a7 == 0 && true))))))))) (Option.bind (ak a0 a1 a2 a3 a4 a5 a6 a7) fun r3 => (cond r3 (cond q8 (some (a0, a1, a2, a3, a4, a5, a6, a7)) none) (cond q8 none (some (a0, a1, a2, a3, a4, a5, a6, a7))))) (some (a0, a1, a2, a3, a4, a5, a6, a7))))
def lB : FD where
 X := Int × Int × Int × Int × Int × Int × Int × Int
 k := 0
 pre := []
 F := fun s => []
 M := .agg (rl (.int .u64) 8 [])
 B := []
 toL := fun x => [.I x.1, .I x.2.1, .I x.2.2.1, .I x.2.2.2.1, .I x.s4.1, .I x.s4.2.1, .I x.s4.2.2.1, .I x.s4.2.2.2]
 ofL := fun ls => match ls with
  | [.I x0, .I x1, .I x2, .I x3, .I x4, .I x5, .I x6, .I x7] => some (x0, x1, x2, x3, x4, x5, x6, x7)
  | _ => none
 au := fun ls x h => by
  split at h
  ·cases h; rfl
  ·cases h
theorem Ex (a0 a1 a2 a3 a4 a5 a6 a7 : Int) (q8 : Bool) (x : Int × Int × Int × Int × Int × Int × Int × Int) (h : bn a0 a1 a2 a3 a4 a5 a6 a7 q8 = some x) : bc Try.prog 51 0 [.agg (bE a0 a1 a2 a3 a4 a5 a6 a7), .bool q8] [] lB x :=
 FD.semA lB BM Try.func51 (fuel := 60) (by kernel_rfl) (by kernel_rfl)
  (by kernel_rfl) (Eq.trans (by kernel_rfl) h)
def tU : HK where
 call := fun args σ k => match args with
  | [.agg [.int .u64 a0, .int .u64 a1, .int .u64 a2, .int .u64 a3, .int .u64 a4, .int .u64 a5, .int .u64 a6, .int .u64 a7], .bool q8] => Option.bind (bn a0 a1 a2 a3 a4 a5 a6 a7 q8) fun y => aA σ 0 (lB.val y) (lB.aL y) k
  | _ => none
 nat := fun args σ k => by
  repeat' split
  all_goals simp only [aw, ai, Option.bind_assoc, Option.bind_none, aA, Option.bind_some]
 pure := true
 pok := fun _ args σ r σ' h => by
  split at h
  ·exact bp h (fun y => rfl) (fun y f => rfl)
  ·cases h
theorem Fm : aW Try.prog 51 tU := by
 intro args σ r σ' h
 simp only [tU] at h
 split at h
 ·rename_i a0 a1 a2 a3 a4 a5 a6 a7 q8
  obtain ⟨y, hy, h⟩ := bE_ h
  exact lifted (xs := []) (ls := []) (cargs := [.agg (bE a0 a1 a2 a3 a4 a5 a6 a7), .bool q8]) (bv.of trivial) rfl (Ex a0 a1 a2 a3 a4 a5 a6 a7 q8 y hy) rfl rfl rfl rfl h
 ·cases h
end Go.Ev
