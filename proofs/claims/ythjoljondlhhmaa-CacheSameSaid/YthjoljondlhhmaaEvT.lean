/- What the interpreter knows of this program's types, and that it is so. No statement is proved here. -/
import Derived.Test.YthjoljondlhhmaaEvN
import Derived.Test.YthjoljondlhhmaaProg
import Derived.KernelRfl
namespace Go.Ev
set_option linter.unusedVariables false
set_option linter.unusedSimpArgs false
open Go.Proofs
def ty1 : TyI := ⟨1, 8, [.nilf], false, none, .func⟩
def ty2 : TyI := ⟨1, 8, [.int .i64 0], false, none, .int .i64⟩
def ty3 : TyI := ⟨1, 8, [.int .i64 0], false, none, .int .i64⟩
def ty4 : TyI := ⟨1, 1, [.bool false], false, none, .bool⟩
def ty5 : TyI := ⟨1, 1, [.int .u8 0], false, none, .int .u8⟩
def ty6 : TyI := ⟨1, 1, [.int .u8 0], false, none, .int .u8⟩
def ty7 : TyI := ⟨4, 24, [.int .i64 0, .int .i64 0, .bool false, .int .u8 0], true, some [.int .i64, .int .i64, .bool, .int .u8], .struct [(0, 2), (1, 3), (2, 4), (3, 6)]⟩
def ty8 : TyI := ⟨4, 24, [.int .i64 0, .int .i64 0, .bool false, .int .u8 0], true, some [.int .i64, .int .i64, .bool, .int .u8], .struct [(0, 2), (1, 3), (2, 4), (3, 6)]⟩
def ty9 : TyI := ⟨1, 16, [.str ⟨#[]⟩], false, none, .str⟩
def ty10 : TyI := ⟨1, 16, [.str ⟨#[]⟩], false, none, .str⟩
def ty11 : TyI := ⟨1, 16, [.str ⟨#[]⟩], false, none, .str⟩
def ty12 : TyI := ⟨1, 8, [.int .u64 0], false, none, .int .u64⟩
def ty13 : TyI := ⟨2, 24, [.str ⟨#[]⟩, .int .u64 0], true, none, .struct [(0, 9), (1, 12)]⟩
def ty14 : TyI := ⟨2, 24, [.str ⟨#[]⟩, .int .u64 0], true, none, .struct [(0, 9), (1, 12)]⟩
def ty15 : TyI := ⟨1, 8, [.nilp], false, none, .ptr 53⟩
def ty16 : TyI := ⟨1, 8, [.nilp], false, none, .ptr 56⟩
def ty17 : TyI := ⟨1, 8, [.nilp], false, none, .ptr 66⟩
def ty18 : TyI := ⟨1, 8, [.nilp], true, none, .struct [(0, 17)]⟩
def ty19 : TyI := ⟨1, 8, [.nilp], true, none, .struct [(0, 17)]⟩
def ty20 : TyI := ⟨1, 16, [.nili], false, none, .iface⟩
def ty21 : TyI := ⟨1, 4, [.int .i32 0], false, none, .int .i32⟩
def ty22 : TyI := ⟨1, 24, [.nils], false, none, .slice 41⟩
def ty23 : TyI := ⟨1, 24, [.nils], false, none, .slice 25⟩
def ty24 : TyI := ⟨4, 32, [.int .i64 0, .int .i64 0, .int .i64 0, .int .i64 0], true, some [.int .i64, .int .i64, .int .i64, .int .i64], .struct [(0, 3), (1, 3), (2, 3), (3, 3)]⟩
def ty25 : TyI := ⟨4, 32, [.int .i64 0, .int .i64 0, .int .i64 0, .int .i64 0], true, some [.int .i64, .int .i64, .int .i64, .int .i64], .struct [(0, 3), (1, 3), (2, 3), (3, 3)]⟩
def ty26 : TyI := ⟨1, 8, [.nilf], false, none, .func⟩
def ty27 : TyI := ⟨1, 8, [.int .i64 0], false, none, .int .i64⟩
def ty29 : TyI := ⟨1, 8, [.nilf], false, none, .func⟩
def ty30 : TyI := ⟨1, 8, [.nilf], false, none, .func⟩
def ty31 : TyI := ⟨1, 8, [.nilf], false, none, .func⟩
def ty32 : TyI := ⟨1, 8, [.nilf], false, none, .func⟩
def ty33 : TyI := ⟨1, 8, [.nilf], false, none, .func⟩
def ty34 : TyI := ⟨1, 8, [.nilf], false, none, .func⟩
def ty35 : TyI := ⟨1, 8, [.nilf], false, none, .func⟩
def ty36 : TyI := ⟨1, 8, [.nilf], false, none, .func⟩
def ty37 : TyI := ⟨1, 8, [.nilf], false, none, .func⟩
def ty38 : TyI := ⟨1, 8, [.nilf], false, none, .func⟩
def ty39 : TyI := ⟨1, 8, [.int .i64 0], false, none, .int .i64⟩
def ty40 : TyI := ⟨7, 56, [.int .i64 0, .int .i64 0, .int .i64 0, .int .i64 0, .int .i64 0, .int .i64 0, .int .i64 0], true, some [.int .i64, .int .i64, .int .i64, .int .i64, .int .i64, .int .i64, .int .i64], .struct [(0, 25), (4, 39), (5, 39), (6, 39)]⟩
def ty41 : TyI := ⟨7, 56, [.int .i64 0, .int .i64 0, .int .i64 0, .int .i64 0, .int .i64 0, .int .i64 0, .int .i64 0], true, some [.int .i64, .int .i64, .int .i64, .int .i64, .int .i64, .int .i64, .int .i64], .struct [(0, 25), (4, 39), (5, 39), (6, 39)]⟩
def ty42 : TyI := ⟨1, 8, [.nilf], false, none, .func⟩
def ty43 : TyI := ⟨1, 8, [.nilf], false, none, .func⟩
def ty44 : TyI := ⟨1, 8, [.nilf], false, none, .func⟩
def ty45 : TyI := ⟨1, 8, [.nilm], false, none, .map 25 41⟩
def ty46 : TyI := ⟨1, 8, [.nilf], false, none, .func⟩
def ty47 : TyI := ⟨1, 8, [.nilf], false, none, .func⟩
def ty48 : TyI := ⟨1, 8, [.nilf], false, none, .func⟩
def ty49 : TyI := ⟨1, 24, [.nils], false, none, .slice 3⟩
def ty50 : TyI := ⟨1, 8, [.nilf], false, none, .func⟩
def ty51 : TyI := ⟨1, 8, [.nilf], false, none, .func⟩
def ty52 : TyI := ⟨4, 40, [.nilp, .nilp, .nilp, .str ⟨#[]⟩], true, none, .struct [(0, 17), (1, 17), (2, 17), (3, 9)]⟩
def ty53 : TyI := ⟨4, 40, [.nilp, .nilp, .nilp, .str ⟨#[]⟩], true, none, .struct [(0, 17), (1, 17), (2, 17), (3, 9)]⟩
def ty54 : TyI := ⟨0, 0, [], true, none, .arr 0 16⟩
def ty55 : TyI := ⟨0, 0, [], true, none, .struct [(0, 54)]⟩
def ty56 : TyI := ⟨0, 0, [], true, none, .struct [(0, 54)]⟩
def ty57 : TyI := ⟨1, 8, [.nilf], false, none, .func⟩
def ty58 : TyI := ⟨1, 4, [.int .u32 0], false, none, .int .u32⟩
def ty59 : TyI := ⟨1, 1, [.int .u8 0], false, none, .int .u8⟩
def ty60 : TyI := ⟨1, 1, [.int .u8 0], false, none, .int .u8⟩
def ty61 : TyI := ⟨1, 8, [.nilf], false, none, .func⟩
def ty62 : TyI := ⟨1, 8, [.nilp], false, none, .ptr 5⟩
def ty63 : TyI := ⟨1, 4, [.int .i32 0], false, none, .int .i32⟩
def ty64 : TyI := ⟨1, 4, [.int .i32 0], false, none, .int .i32⟩
def ty65 : TyI := ⟨11, 48, [.int .u64 0, .int .u64 0, .int .u32 0, .int .u8 0, .int .u8 0, .int .u8 0, .int .u8 0, .nilf, .nilp, .int .i32 0, .int .i32 0], true, none, .struct [(0, 12), (1, 12), (2, 58), (3, 59), (4, 5), (5, 5), (6, 60), (7, 61), (8, 62), (9, 63), (10, 64)]⟩
def ty66 : TyI := ⟨11, 48, [.int .u64 0, .int .u64 0, .int .u32 0, .int .u8 0, .int .u8 0, .int .u8 0, .int .u8 0, .nilf, .nilp, .int .i32 0, .int .i32 0], true, none, .struct [(0, 12), (1, 12), (2, 58), (3, 59), (4, 5), (5, 5), (6, 60), (7, 61), (8, 62), (9, 63), (10, 64)]⟩
def tyTab : TTab
  | 1 => some ty1
  | 2 => some ty2
  | 3 => some ty3
  | 4 => some ty4
  | 5 => some ty5
  | 6 => some ty6
  | 7 => some ty7
  | 8 => some ty8
  | 9 => some ty9
  | 10 => some ty10
  | 11 => some ty11
  | 12 => some ty12
  | 13 => some ty13
  | 14 => some ty14
  | 15 => some ty15
  | 16 => some ty16
  | 17 => some ty17
  | 18 => some ty18
  | 19 => some ty19
  | 20 => some ty20
  | 21 => some ty21
  | 22 => some ty22
  | 23 => some ty23
  | 24 => some ty24
  | 25 => some ty25
  | 26 => some ty26
  | 27 => some ty27
  | 29 => some ty29
  | 30 => some ty30
  | 31 => some ty31
  | 32 => some ty32
  | 33 => some ty33
  | 34 => some ty34
  | 35 => some ty35
  | 36 => some ty36
  | 37 => some ty37
  | 38 => some ty38
  | 39 => some ty39
  | 40 => some ty40
  | 41 => some ty41
  | 42 => some ty42
  | 43 => some ty43
  | 44 => some ty44
  | 45 => some ty45
  | 46 => some ty46
  | 47 => some ty47
  | 48 => some ty48
  | 49 => some ty49
  | 50 => some ty50
  | 51 => some ty51
  | 52 => some ty52
  | 53 => some ty53
  | 54 => some ty54
  | 55 => some ty55
  | 56 => some ty56
  | 57 => some ty57
  | 58 => some ty58
  | 59 => some ty59
  | 60 => some ty60
  | 61 => some ty61
  | 62 => some ty62
  | 63 => some ty63
  | 64 => some ty64
  | 65 => some ty65
  | 66 => some ty66
  | _ => none
theorem ty1_ok : TyOk Try.prog 1 ty1 :=
  ⟨⟨Try.t1, by kernel_rfl, rfl, rfl, _, rfl, fun ρ => by simp [ty1, γ]⟩, rfl, by first | (intro h; cases h; done) | (intro _; rfl), rfl, ⟨_, _, _, Try.underlying1⟩, rfl, fun ks h => by cases h⟩
theorem ty2_ok : TyOk Try.prog 2 ty2 :=
  ⟨⟨Try.t2, by kernel_rfl, rfl, rfl, _, rfl, fun ρ => by simp [ty2, γ]⟩, rfl, by first | (intro h; cases h; done) | (intro _; rfl), rfl, Try.underlying2, rfl, fun ks h => by cases h⟩
theorem ty3_ok : TyOk Try.prog 3 ty3 :=
  ⟨⟨Try.t3, by kernel_rfl, rfl, rfl, _, rfl, fun ρ => by simp [ty3, γ]⟩, rfl, by first | (intro h; cases h; done) | (intro _; rfl), rfl, Try.underlying3, rfl, fun ks h => by cases h⟩
theorem ty4_ok : TyOk Try.prog 4 ty4 :=
  ⟨⟨Try.t4, by kernel_rfl, rfl, rfl, _, rfl, fun ρ => by simp [ty4, γ]⟩, rfl, by first | (intro h; cases h; done) | (intro _; rfl), rfl, Try.underlying4, rfl, fun ks h => by cases h⟩
theorem ty5_ok : TyOk Try.prog 5 ty5 :=
  ⟨⟨Try.t5, by kernel_rfl, rfl, rfl, _, rfl, fun ρ => by simp [ty5, γ]⟩, rfl, by first | (intro h; cases h; done) | (intro _; rfl), rfl, Try.underlying5, rfl, fun ks h => by cases h⟩
theorem ty6_ok : TyOk Try.prog 6 ty6 :=
  ⟨⟨Try.t6, by kernel_rfl, rfl, rfl, _, rfl, fun ρ => by simp [ty6, γ]⟩, rfl, by first | (intro h; cases h; done) | (intro _; rfl), rfl, Try.underlying6, rfl, fun ks h => by cases h⟩
theorem ty7_ok : TyOk Try.prog 7 ty7 :=
  ⟨⟨Try.t7, by kernel_rfl, rfl, rfl, _, rfl, fun ρ => by simp [ty7, γ, γL]⟩, rfl, by first | (intro h; cases h; done) | (intro _; rfl), rfl, ⟨_, Try.underlying7, rfl⟩, rfl, fun ks h => flatOk_of (d := 12) (by decide) (by cases h; kernel_rfl) Try.eqGuardType7 (by rw [Try.underlying7])⟩
theorem ty8_ok : TyOk Try.prog 8 ty8 :=
  ⟨⟨Try.t8, by kernel_rfl, rfl, rfl, _, rfl, fun ρ => by simp [ty8, γ, γL]⟩, rfl, by first | (intro h; cases h; done) | (intro _; rfl), rfl, ⟨_, Try.underlying8, rfl⟩, rfl, fun ks h => flatOk_of (d := 12) (by decide) (by cases h; kernel_rfl) Try.eqGuardType8 (by rw [Try.underlying8])⟩
theorem ty9_ok : TyOk Try.prog 9 ty9 :=
  ⟨⟨Try.t9, by kernel_rfl, rfl, rfl, _, rfl, fun ρ => by simp [ty9, γ]⟩, rfl, by first | (intro h; cases h; done) | (intro _; rfl), rfl, Try.underlying9, rfl, fun ks h => by cases h⟩
theorem ty10_ok : TyOk Try.prog 10 ty10 :=
  ⟨⟨Try.t10, by kernel_rfl, rfl, rfl, _, rfl, fun ρ => by simp [ty10, γ]⟩, rfl, by first | (intro h; cases h; done) | (intro _; rfl), rfl, Try.underlying10, rfl, fun ks h => by cases h⟩
theorem ty11_ok : TyOk Try.prog 11 ty11 :=
  ⟨⟨Try.t11, by kernel_rfl, rfl, rfl, _, rfl, fun ρ => by simp [ty11, γ]⟩, rfl, by first | (intro h; cases h; done) | (intro _; rfl), rfl, Try.underlying11, rfl, fun ks h => by cases h⟩
theorem ty12_ok : TyOk Try.prog 12 ty12 :=
  ⟨⟨Try.t12, by kernel_rfl, rfl, rfl, _, rfl, fun ρ => by simp [ty12, γ]⟩, rfl, by first | (intro h; cases h; done) | (intro _; rfl), rfl, Try.underlying12, rfl, fun ks h => by cases h⟩
theorem ty13_ok : TyOk Try.prog 13 ty13 :=
  ⟨⟨Try.t13, by kernel_rfl, rfl, rfl, _, rfl, fun ρ => by simp [ty13, γ, γL]⟩, rfl, by first | (intro h; cases h; done) | (intro _; rfl), rfl, ⟨_, Try.underlying13, rfl⟩, rfl, fun ks h => by cases h⟩
theorem ty14_ok : TyOk Try.prog 14 ty14 :=
  ⟨⟨Try.t14, by kernel_rfl, rfl, rfl, _, rfl, fun ρ => by simp [ty14, γ, γL]⟩, rfl, by first | (intro h; cases h; done) | (intro _; rfl), rfl, ⟨_, Try.underlying14, rfl⟩, rfl, fun ks h => by cases h⟩
theorem ty15_ok : TyOk Try.prog 15 ty15 :=
  ⟨⟨Try.t15, by kernel_rfl, rfl, rfl, _, rfl, fun ρ => by simp [ty15, γ]⟩, rfl, by first | (intro h; cases h; done) | (intro _; rfl), rfl, Try.underlying15, rfl, fun ks h => by cases h⟩
theorem ty16_ok : TyOk Try.prog 16 ty16 :=
  ⟨⟨Try.t16, by kernel_rfl, rfl, rfl, _, rfl, fun ρ => by simp [ty16, γ]⟩, rfl, by first | (intro h; cases h; done) | (intro _; rfl), rfl, Try.underlying16, rfl, fun ks h => by cases h⟩
theorem ty17_ok : TyOk Try.prog 17 ty17 :=
  ⟨⟨Try.t17, by kernel_rfl, rfl, rfl, _, rfl, fun ρ => by simp [ty17, γ]⟩, rfl, by first | (intro h; cases h; done) | (intro _; rfl), rfl, Try.underlying17, rfl, fun ks h => by cases h⟩
theorem ty18_ok : TyOk Try.prog 18 ty18 :=
  ⟨⟨Try.t18, by kernel_rfl, rfl, rfl, _, rfl, fun ρ => by simp [ty18, γ, γL]⟩, rfl, by first | (intro h; cases h; done) | (intro _; rfl), rfl, ⟨_, Try.underlying18, rfl⟩, rfl, fun ks h => by cases h⟩
theorem ty19_ok : TyOk Try.prog 19 ty19 :=
  ⟨⟨Try.t19, by kernel_rfl, rfl, rfl, _, rfl, fun ρ => by simp [ty19, γ, γL]⟩, rfl, by first | (intro h; cases h; done) | (intro _; rfl), rfl, ⟨_, Try.underlying19, rfl⟩, rfl, fun ks h => by cases h⟩
theorem ty20_ok : TyOk Try.prog 20 ty20 :=
  ⟨⟨Try.t20, by kernel_rfl, rfl, rfl, _, rfl, fun ρ => by simp [ty20, γ]⟩, rfl, by first | (intro h; cases h; done) | (intro _; rfl), rfl, ⟨_, Try.underlying20⟩, rfl, fun ks h => by cases h⟩
theorem ty21_ok : TyOk Try.prog 21 ty21 :=
  ⟨⟨Try.t21, by kernel_rfl, rfl, rfl, _, rfl, fun ρ => by simp [ty21, γ]⟩, rfl, by first | (intro h; cases h; done) | (intro _; rfl), rfl, Try.underlying21, rfl, fun ks h => by cases h⟩
theorem ty22_ok : TyOk Try.prog 22 ty22 :=
  ⟨⟨Try.t22, by kernel_rfl, rfl, rfl, _, rfl, fun ρ => by simp [ty22, γ]⟩, rfl, by first | (intro h; cases h; done) | (intro _; rfl), rfl, Try.underlying22, rfl, fun ks h => by cases h⟩
theorem ty23_ok : TyOk Try.prog 23 ty23 :=
  ⟨⟨Try.t23, by kernel_rfl, rfl, rfl, _, rfl, fun ρ => by simp [ty23, γ]⟩, rfl, by first | (intro h; cases h; done) | (intro _; rfl), rfl, Try.underlying23, rfl, fun ks h => by cases h⟩
theorem ty24_ok : TyOk Try.prog 24 ty24 :=
  ⟨⟨Try.t24, by kernel_rfl, rfl, rfl, _, rfl, fun ρ => by simp [ty24, γ, γL]⟩, rfl, by first | (intro h; cases h; done) | (intro _; rfl), rfl, ⟨_, Try.underlying24, rfl⟩, rfl, fun ks h => flatOk_of (d := 12) (by decide) (by cases h; kernel_rfl) Try.eqGuardType24 (by rw [Try.underlying24])⟩
theorem ty25_ok : TyOk Try.prog 25 ty25 :=
  ⟨⟨Try.t25, by kernel_rfl, rfl, rfl, _, rfl, fun ρ => by simp [ty25, γ, γL]⟩, rfl, by first | (intro h; cases h; done) | (intro _; rfl), rfl, ⟨_, Try.underlying25, rfl⟩, rfl, fun ks h => flatOk_of (d := 12) (by decide) (by cases h; kernel_rfl) Try.eqGuardType25 (by rw [Try.underlying25])⟩
theorem ty26_ok : TyOk Try.prog 26 ty26 :=
  ⟨⟨Try.t26, by kernel_rfl, rfl, rfl, _, rfl, fun ρ => by simp [ty26, γ]⟩, rfl, by first | (intro h; cases h; done) | (intro _; rfl), rfl, ⟨_, _, _, Try.underlying26⟩, rfl, fun ks h => by cases h⟩
theorem ty27_ok : TyOk Try.prog 27 ty27 :=
  ⟨⟨Try.t27, by kernel_rfl, rfl, rfl, _, rfl, fun ρ => by simp [ty27, γ]⟩, rfl, by first | (intro h; cases h; done) | (intro _; rfl), rfl, Try.underlying27, rfl, fun ks h => by cases h⟩
theorem ty29_ok : TyOk Try.prog 29 ty29 :=
  ⟨⟨Try.t29, by kernel_rfl, rfl, rfl, _, rfl, fun ρ => by simp [ty29, γ]⟩, rfl, by first | (intro h; cases h; done) | (intro _; rfl), rfl, ⟨_, _, _, Try.underlying29⟩, rfl, fun ks h => by cases h⟩
theorem ty30_ok : TyOk Try.prog 30 ty30 :=
  ⟨⟨Try.t30, by kernel_rfl, rfl, rfl, _, rfl, fun ρ => by simp [ty30, γ]⟩, rfl, by first | (intro h; cases h; done) | (intro _; rfl), rfl, ⟨_, _, _, Try.underlying30⟩, rfl, fun ks h => by cases h⟩
theorem ty31_ok : TyOk Try.prog 31 ty31 :=
  ⟨⟨Try.t31, by kernel_rfl, rfl, rfl, _, rfl, fun ρ => by simp [ty31, γ]⟩, rfl, by first | (intro h; cases h; done) | (intro _; rfl), rfl, ⟨_, _, _, Try.underlying31⟩, rfl, fun ks h => by cases h⟩
theorem ty32_ok : TyOk Try.prog 32 ty32 :=
  ⟨⟨Try.t32, by kernel_rfl, rfl, rfl, _, rfl, fun ρ => by simp [ty32, γ]⟩, rfl, by first | (intro h; cases h; done) | (intro _; rfl), rfl, ⟨_, _, _, Try.underlying32⟩, rfl, fun ks h => by cases h⟩
theorem ty33_ok : TyOk Try.prog 33 ty33 :=
  ⟨⟨Try.t33, by kernel_rfl, rfl, rfl, _, rfl, fun ρ => by simp [ty33, γ]⟩, rfl, by first | (intro h; cases h; done) | (intro _; rfl), rfl, ⟨_, _, _, Try.underlying33⟩, rfl, fun ks h => by cases h⟩
theorem ty34_ok : TyOk Try.prog 34 ty34 :=
  ⟨⟨Try.t34, by kernel_rfl, rfl, rfl, _, rfl, fun ρ => by simp [ty34, γ]⟩, rfl, by first | (intro h; cases h; done) | (intro _; rfl), rfl, ⟨_, _, _, Try.underlying34⟩, rfl, fun ks h => by cases h⟩
theorem ty35_ok : TyOk Try.prog 35 ty35 :=
  ⟨⟨Try.t35, by kernel_rfl, rfl, rfl, _, rfl, fun ρ => by simp [ty35, γ]⟩, rfl, by first | (intro h; cases h; done) | (intro _; rfl), rfl, ⟨_, _, _, Try.underlying35⟩, rfl, fun ks h => by cases h⟩
theorem ty36_ok : TyOk Try.prog 36 ty36 :=
  ⟨⟨Try.t36, by kernel_rfl, rfl, rfl, _, rfl, fun ρ => by simp [ty36, γ]⟩, rfl, by first | (intro h; cases h; done) | (intro _; rfl), rfl, ⟨_, _, _, Try.underlying36⟩, rfl, fun ks h => by cases h⟩
theorem ty37_ok : TyOk Try.prog 37 ty37 :=
  ⟨⟨Try.t37, by kernel_rfl, rfl, rfl, _, rfl, fun ρ => by simp [ty37, γ]⟩, rfl, by first | (intro h; cases h; done) | (intro _; rfl), rfl, ⟨_, _, _, Try.underlying37⟩, rfl, fun ks h => by cases h⟩
theorem ty38_ok : TyOk Try.prog 38 ty38 :=
  ⟨⟨Try.t38, by kernel_rfl, rfl, rfl, _, rfl, fun ρ => by simp [ty38, γ]⟩, rfl, by first | (intro h; cases h; done) | (intro _; rfl), rfl, ⟨_, _, _, Try.underlying38⟩, rfl, fun ks h => by cases h⟩
theorem ty39_ok : TyOk Try.prog 39 ty39 :=
  ⟨⟨Try.t39, by kernel_rfl, rfl, rfl, _, rfl, fun ρ => by simp [ty39, γ]⟩, rfl, by first | (intro h; cases h; done) | (intro _; rfl), rfl, Try.underlying39, rfl, fun ks h => by cases h⟩
theorem ty40_ok : TyOk Try.prog 40 ty40 :=
  ⟨⟨Try.t40, by kernel_rfl, rfl, rfl, _, rfl, fun ρ => by simp [ty40, γ, γL]⟩, rfl, by first | (intro h; cases h; done) | (intro _; rfl), rfl, ⟨_, Try.underlying40, rfl⟩, rfl, fun ks h => flatOk_of (d := 12) (by decide) (by cases h; kernel_rfl) Try.eqGuardType40 (by rw [Try.underlying40])⟩
theorem ty41_ok : TyOk Try.prog 41 ty41 :=
  ⟨⟨Try.t41, by kernel_rfl, rfl, rfl, _, rfl, fun ρ => by simp [ty41, γ, γL]⟩, rfl, by first | (intro h; cases h; done) | (intro _; rfl), rfl, ⟨_, Try.underlying41, rfl⟩, rfl, fun ks h => flatOk_of (d := 12) (by decide) (by cases h; kernel_rfl) Try.eqGuardType41 (by rw [Try.underlying41])⟩
theorem ty42_ok : TyOk Try.prog 42 ty42 :=
  ⟨⟨Try.t42, by kernel_rfl, rfl, rfl, _, rfl, fun ρ => by simp [ty42, γ]⟩, rfl, by first | (intro h; cases h; done) | (intro _; rfl), rfl, ⟨_, _, _, Try.underlying42⟩, rfl, fun ks h => by cases h⟩
theorem ty43_ok : TyOk Try.prog 43 ty43 :=
  ⟨⟨Try.t43, by kernel_rfl, rfl, rfl, _, rfl, fun ρ => by simp [ty43, γ]⟩, rfl, by first | (intro h; cases h; done) | (intro _; rfl), rfl, ⟨_, _, _, Try.underlying43⟩, rfl, fun ks h => by cases h⟩
theorem ty44_ok : TyOk Try.prog 44 ty44 :=
  ⟨⟨Try.t44, by kernel_rfl, rfl, rfl, _, rfl, fun ρ => by simp [ty44, γ]⟩, rfl, by first | (intro h; cases h; done) | (intro _; rfl), rfl, ⟨_, _, _, Try.underlying44⟩, rfl, fun ks h => by cases h⟩
theorem ty45_ok : TyOk Try.prog 45 ty45 :=
  ⟨⟨Try.t45, by kernel_rfl, rfl, rfl, _, rfl, fun ρ => by simp [ty45, γ]⟩, rfl, by first | (intro h; cases h; done) | (intro _; rfl), rfl, Try.underlying45, rfl, fun ks h => by cases h⟩
theorem ty46_ok : TyOk Try.prog 46 ty46 :=
  ⟨⟨Try.t46, by kernel_rfl, rfl, rfl, _, rfl, fun ρ => by simp [ty46, γ]⟩, rfl, by first | (intro h; cases h; done) | (intro _; rfl), rfl, ⟨_, _, _, Try.underlying46⟩, rfl, fun ks h => by cases h⟩
theorem ty47_ok : TyOk Try.prog 47 ty47 :=
  ⟨⟨Try.t47, by kernel_rfl, rfl, rfl, _, rfl, fun ρ => by simp [ty47, γ]⟩, rfl, by first | (intro h; cases h; done) | (intro _; rfl), rfl, ⟨_, _, _, Try.underlying47⟩, rfl, fun ks h => by cases h⟩
theorem ty48_ok : TyOk Try.prog 48 ty48 :=
  ⟨⟨Try.t48, by kernel_rfl, rfl, rfl, _, rfl, fun ρ => by simp [ty48, γ]⟩, rfl, by first | (intro h; cases h; done) | (intro _; rfl), rfl, ⟨_, _, _, Try.underlying48⟩, rfl, fun ks h => by cases h⟩
theorem ty49_ok : TyOk Try.prog 49 ty49 :=
  ⟨⟨Try.t49, by kernel_rfl, rfl, rfl, _, rfl, fun ρ => by simp [ty49, γ]⟩, rfl, by first | (intro h; cases h; done) | (intro _; rfl), rfl, Try.underlying49, rfl, fun ks h => by cases h⟩
theorem ty50_ok : TyOk Try.prog 50 ty50 :=
  ⟨⟨Try.t50, by kernel_rfl, rfl, rfl, _, rfl, fun ρ => by simp [ty50, γ]⟩, rfl, by first | (intro h; cases h; done) | (intro _; rfl), rfl, ⟨_, _, _, Try.underlying50⟩, rfl, fun ks h => by cases h⟩
theorem ty51_ok : TyOk Try.prog 51 ty51 :=
  ⟨⟨Try.t51, by kernel_rfl, rfl, rfl, _, rfl, fun ρ => by simp [ty51, γ]⟩, rfl, by first | (intro h; cases h; done) | (intro _; rfl), rfl, ⟨_, _, _, Try.underlying51⟩, rfl, fun ks h => by cases h⟩
theorem ty52_ok : TyOk Try.prog 52 ty52 :=
  ⟨⟨Try.t52, by kernel_rfl, rfl, rfl, _, rfl, fun ρ => by simp [ty52, γ, γL]⟩, rfl, by first | (intro h; cases h; done) | (intro _; rfl), rfl, ⟨_, Try.underlying52, rfl⟩, rfl, fun ks h => by cases h⟩
theorem ty53_ok : TyOk Try.prog 53 ty53 :=
  ⟨⟨Try.t53, by kernel_rfl, rfl, rfl, _, rfl, fun ρ => by simp [ty53, γ, γL]⟩, rfl, by first | (intro h; cases h; done) | (intro _; rfl), rfl, ⟨_, Try.underlying53, rfl⟩, rfl, fun ks h => by cases h⟩
theorem ty54_ok : TyOk Try.prog 54 ty54 :=
  ⟨⟨Try.t54, by kernel_rfl, rfl, rfl, _, rfl, fun ρ => by simp [ty54, γ, γL]⟩, rfl, by first | (intro h; cases h; done) | (intro _; rfl), rfl, Try.underlying54, rfl, fun ks h => by cases h⟩
theorem ty55_ok : TyOk Try.prog 55 ty55 :=
  ⟨⟨Try.t55, by kernel_rfl, rfl, rfl, _, rfl, fun ρ => by simp [ty55, γ, γL]⟩, rfl, by first | (intro h; cases h; done) | (intro _; rfl), rfl, ⟨_, Try.underlying55, rfl⟩, rfl, fun ks h => by cases h⟩
theorem ty56_ok : TyOk Try.prog 56 ty56 :=
  ⟨⟨Try.t56, by kernel_rfl, rfl, rfl, _, rfl, fun ρ => by simp [ty56, γ, γL]⟩, rfl, by first | (intro h; cases h; done) | (intro _; rfl), rfl, ⟨_, Try.underlying56, rfl⟩, rfl, fun ks h => by cases h⟩
theorem ty57_ok : TyOk Try.prog 57 ty57 :=
  ⟨⟨Try.t57, by kernel_rfl, rfl, rfl, _, rfl, fun ρ => by simp [ty57, γ]⟩, rfl, by first | (intro h; cases h; done) | (intro _; rfl), rfl, ⟨_, _, _, Try.underlying57⟩, rfl, fun ks h => by cases h⟩
theorem ty58_ok : TyOk Try.prog 58 ty58 :=
  ⟨⟨Try.t58, by kernel_rfl, rfl, rfl, _, rfl, fun ρ => by simp [ty58, γ]⟩, rfl, by first | (intro h; cases h; done) | (intro _; rfl), rfl, Try.underlying58, rfl, fun ks h => by cases h⟩
theorem ty59_ok : TyOk Try.prog 59 ty59 :=
  ⟨⟨Try.t59, by kernel_rfl, rfl, rfl, _, rfl, fun ρ => by simp [ty59, γ]⟩, rfl, by first | (intro h; cases h; done) | (intro _; rfl), rfl, Try.underlying59, rfl, fun ks h => by cases h⟩
theorem ty60_ok : TyOk Try.prog 60 ty60 :=
  ⟨⟨Try.t60, by kernel_rfl, rfl, rfl, _, rfl, fun ρ => by simp [ty60, γ]⟩, rfl, by first | (intro h; cases h; done) | (intro _; rfl), rfl, Try.underlying60, rfl, fun ks h => by cases h⟩
theorem ty61_ok : TyOk Try.prog 61 ty61 :=
  ⟨⟨Try.t61, by kernel_rfl, rfl, rfl, _, rfl, fun ρ => by simp [ty61, γ]⟩, rfl, by first | (intro h; cases h; done) | (intro _; rfl), rfl, ⟨_, _, _, Try.underlying61⟩, rfl, fun ks h => by cases h⟩
theorem ty62_ok : TyOk Try.prog 62 ty62 :=
  ⟨⟨Try.t62, by kernel_rfl, rfl, rfl, _, rfl, fun ρ => by simp [ty62, γ]⟩, rfl, by first | (intro h; cases h; done) | (intro _; rfl), rfl, Try.underlying62, rfl, fun ks h => by cases h⟩
theorem ty63_ok : TyOk Try.prog 63 ty63 :=
  ⟨⟨Try.t63, by kernel_rfl, rfl, rfl, _, rfl, fun ρ => by simp [ty63, γ]⟩, rfl, by first | (intro h; cases h; done) | (intro _; rfl), rfl, Try.underlying63, rfl, fun ks h => by cases h⟩
theorem ty64_ok : TyOk Try.prog 64 ty64 :=
  ⟨⟨Try.t64, by kernel_rfl, rfl, rfl, _, rfl, fun ρ => by simp [ty64, γ]⟩, rfl, by first | (intro h; cases h; done) | (intro _; rfl), rfl, Try.underlying64, rfl, fun ks h => by cases h⟩
theorem ty65_ok : TyOk Try.prog 65 ty65 :=
  ⟨⟨Try.t65, by kernel_rfl, rfl, rfl, _, rfl, fun ρ => by simp [ty65, γ, γL]⟩, rfl, by first | (intro h; cases h; done) | (intro _; rfl), rfl, ⟨_, Try.underlying65, rfl⟩, rfl, fun ks h => by cases h⟩
theorem ty66_ok : TyOk Try.prog 66 ty66 :=
  ⟨⟨Try.t66, by kernel_rfl, rfl, rfl, _, rfl, fun ρ => by simp [ty66, γ, γL]⟩, rfl, by first | (intro h; cases h; done) | (intro _; rfl), rfl, ⟨_, Try.underlying66, rfl⟩, rfl, fun ks h => by cases h⟩
theorem tab_ok : TabOk Try.prog tyTab := by
  intro t i h
  unfold tyTab at h
  split at h
  · cases h; exact ty1_ok
  · cases h; exact ty2_ok
  · cases h; exact ty3_ok
  · cases h; exact ty4_ok
  · cases h; exact ty5_ok
  · cases h; exact ty6_ok
  · cases h; exact ty7_ok
  · cases h; exact ty8_ok
  · cases h; exact ty9_ok
  · cases h; exact ty10_ok
  · cases h; exact ty11_ok
  · cases h; exact ty12_ok
  · cases h; exact ty13_ok
  · cases h; exact ty14_ok
  · cases h; exact ty15_ok
  · cases h; exact ty16_ok
  · cases h; exact ty17_ok
  · cases h; exact ty18_ok
  · cases h; exact ty19_ok
  · cases h; exact ty20_ok
  · cases h; exact ty21_ok
  · cases h; exact ty22_ok
  · cases h; exact ty23_ok
  · cases h; exact ty24_ok
  · cases h; exact ty25_ok
  · cases h; exact ty26_ok
  · cases h; exact ty27_ok
  · cases h; exact ty29_ok
  · cases h; exact ty30_ok
  · cases h; exact ty31_ok
  · cases h; exact ty32_ok
  · cases h; exact ty33_ok
  · cases h; exact ty34_ok
  · cases h; exact ty35_ok
  · cases h; exact ty36_ok
  · cases h; exact ty37_ok
  · cases h; exact ty38_ok
  · cases h; exact ty39_ok
  · cases h; exact ty40_ok
  · cases h; exact ty41_ok
  · cases h; exact ty42_ok
  · cases h; exact ty43_ok
  · cases h; exact ty44_ok
  · cases h; exact ty45_ok
  · cases h; exact ty46_ok
  · cases h; exact ty47_ok
  · cases h; exact ty48_ok
  · cases h; exact ty49_ok
  · cases h; exact ty50_ok
  · cases h; exact ty51_ok
  · cases h; exact ty52_ok
  · cases h; exact ty53_ok
  · cases h; exact ty54_ok
  · cases h; exact ty55_ok
  · cases h; exact ty56_ok
  · cases h; exact ty57_ok
  · cases h; exact ty58_ok
  · cases h; exact ty59_ok
  · cases h; exact ty60_ok
  · cases h; exact ty61_ok
  · cases h; exact ty62_ok
  · cases h; exact ty63_ok
  · cases h; exact ty64_ok
  · cases h; exact ty65_ok
  · cases h; exact ty66_ok
  · cases h
theorem mixed : Try.prog.follows .mixedOrders = true := by kernel_rfl
theorem noNum : NoNum Try.prog := by
  intro g fn h
  have e : Try.prog.funcs.all (fun fn => !(fn.name == "runtime.NumGoroutine")) = true := by kernel_rfl
  rw [Array.all_eq_true_iff_forall_mem] at e
  have := e fn (Array.mem_of_getElem? h)
  simpa using this
end Go.Ev

