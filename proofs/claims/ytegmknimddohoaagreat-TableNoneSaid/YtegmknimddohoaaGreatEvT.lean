/- What the interpreter knows of this program's types, and that it is so. No statement is proved here. -/
import Derived.Test.YtegmknimddohoaaGreatEvN
import Derived.Test.YtegmknimddohoaaGreatProg
import Derived.KernelRfl
namespace Go.Ev
open Go.Proofs
set_option linter.unusedVariables false
set_option linter.unusedSimpArgs false
def ty1 : TyI := ⟨1, 8, [.nilf], false, none, .func⟩
def ty2 : TyI := ⟨1, 8, [.int .i64 0], false, none, .int .i64⟩
def ty3 : TyI := ⟨1, 8, [.int .i64 0], false, none, .int .i64⟩
def ty4 : TyI := ⟨1, 1, [.bool false], false, none, .bool⟩
def ty5 : TyI := ⟨1, 1, [.int .u8 0], false, none, .int .u8⟩
def ty6 : TyI := ⟨1, 1, [.int .u8 0], false, none, .int .u8⟩
def ty7 : TyI := ⟨4, 24, [.int .i64 0, .int .i64 0, .bool false, .int .u8 0], true, some [.int .i64, .int .i64, .bool, .int .u8], .struct [(0, 2), (1, 3), (2, 4), (3, 6)]⟩
def ty8 : TyI := ⟨4, 24, [.int .i64 0, .int .i64 0, .bool false, .int .u8 0], true, some [.int .i64, .int .i64, .bool, .int .u8], .struct [(0, 2), (1, 3), (2, 4), (3, 6)]⟩
def ty9 : TyI := ⟨1, 16, [.str ⟨#[]⟩], false, none, .str⟩
def ty10 : TyI := ⟨1, 16, [.str ⟨#[]⟩], false, none, .str⟩
def ty11 : TyI := ⟨1, 16, [.str ⟨#[]⟩], false, none, .str⟩
def ty12 : TyI := ⟨1, 8, [.int .u64 0], false, none, .int .u64⟩
def ty13 : TyI := ⟨2, 24, [.str ⟨#[]⟩, .int .u64 0], true, none, .struct [(0, 9), (1, 12)]⟩
def ty14 : TyI := ⟨2, 24, [.str ⟨#[]⟩, .int .u64 0], true, none, .struct [(0, 9), (1, 12)]⟩
def ty15 : TyI := ⟨1, 8, [.nilp], false, none, .ptr 262⟩
def ty16 : TyI := ⟨1, 8, [.nilp], false, none, .ptr 265⟩
def ty17 : TyI := ⟨1, 8, [.nilp], false, none, .ptr 273⟩
def ty18 : TyI := ⟨1, 8, [.nilp], true, none, .struct [(0, 17)]⟩
def ty19 : TyI := ⟨1, 8, [.nilp], true, none, .struct [(0, 17)]⟩
def ty20 : TyI := ⟨1, 16, [.nili], false, none, .iface⟩
def ty21 : TyI := ⟨1, 4, [.int .i32 0], false, none, .int .i32⟩
def ty22 : TyI := ⟨1, 8, [.int .i64 0], false, none, .int .i64⟩
def ty23 : TyI := ⟨3, 24, [.int .i64 0, .int .i64 0, .int .i64 0], true, some [.int .i64, .int .i64, .int .i64], .struct [(0, 22), (1, 22), (2, 22)]⟩
def ty24 : TyI := ⟨3, 24, [.int .i64 0, .int .i64 0, .int .i64 0], true, some [.int .i64, .int .i64, .int .i64], .struct [(0, 22), (1, 22), (2, 22)]⟩
def ty25 : TyI := ⟨1, 24, [.nils], false, none, .slice 24⟩
def ty26 : TyI := ⟨6, 64, [.int .i64 0, .int .i64 0, .int .i64 0, .int .i64 0, .int .i64 0, .nils], true, none, .struct [(0, 3), (1, 22), (2, 24), (5, 25)]⟩
def ty27 : TyI := ⟨6, 64, [.int .i64 0, .int .i64 0, .int .i64 0, .int .i64 0, .int .i64 0, .nils], true, none, .struct [(0, 3), (1, 22), (2, 24), (5, 25)]⟩
def ty28 : TyI := ⟨4, 32, [.int .i64 0, .int .i64 0, .int .i64 0, .int .i64 0], true, some [.int .i64, .int .i64, .int .i64, .int .i64], .struct [(0, 22), (1, 22), (2, 22), (3, 22)]⟩
def ty29 : TyI := ⟨4, 32, [.int .i64 0, .int .i64 0, .int .i64 0, .int .i64 0], true, some [.int .i64, .int .i64, .int .i64, .int .i64], .struct [(0, 22), (1, 22), (2, 22), (3, 22)]⟩
def ty30 : TyI := ⟨7, 56, [.int .i64 0, .int .i64 0, .int .i64 0, .int .i64 0, .int .i64 0, .int .i64 0, .int .i64 0], true, some [.int .i64, .int .i64, .int .i64, .int .i64, .int .i64, .int .i64, .int .i64], .struct [(0, 24), (3, 29)]⟩
def ty31 : TyI := ⟨7, 56, [.int .i64 0, .int .i64 0, .int .i64 0, .int .i64 0, .int .i64 0, .int .i64 0, .int .i64 0], true, some [.int .i64, .int .i64, .int .i64, .int .i64, .int .i64, .int .i64, .int .i64], .struct [(0, 24), (3, 29)]⟩
def ty32 : TyI := ⟨13, 120, [.int .i64 0, .int .i64 0, .int .i64 0, .int .i64 0, .int .i64 0, .nils, .int .i64 0, .int .i64 0, .int .i64 0, .int .i64 0, .int .i64 0, .int .i64 0, .int .i64 0], true, none, .struct [(0, 27), (6, 31)]⟩
def ty33 : TyI := ⟨13, 120, [.int .i64 0, .int .i64 0, .int .i64 0, .int .i64 0, .int .i64 0, .nils, .int .i64 0, .int .i64 0, .int .i64 0, .int .i64 0, .int .i64 0, .int .i64 0, .int .i64 0], true, none, .struct [(0, 27), (6, 31)]⟩
def ty34 : TyI := ⟨22, 192, [.int .i64 0, .int .i64 0, .int .i64 0, .int .i64 0, .int .i64 0, .int .i64 0, .nils, .int .i64 0, .int .i64 0, .int .i64 0, .int .i64 0, .int .i64 0, .int .i64 0, .int .i64 0, .int .i64 0, .int .i64 0, .int .i64 0, .int .i64 0, .int .i64 0, .int .i64 0, .int .i64 0, .int .i64 0], true, none, .struct [(0, 3), (1, 33), (14, 22), (15, 24), (18, 24), (21, 22)]⟩
def ty35 : TyI := ⟨22, 192, [.int .i64 0, .int .i64 0, .int .i64 0, .int .i64 0, .int .i64 0, .int .i64 0, .nils, .int .i64 0, .int .i64 0, .int .i64 0, .int .i64 0, .int .i64 0, .int .i64 0, .int .i64 0, .int .i64 0, .int .i64 0, .int .i64 0, .int .i64 0, .int .i64 0, .int .i64 0, .int .i64 0, .int .i64 0], true, none, .struct [(0, 3), (1, 33), (14, 22), (15, 24), (18, 24), (21, 22)]⟩
def ty36 : TyI := ⟨3, 24, [.int .i64 0, .int .i64 0, .int .i64 0], true, some [.int .i64, .int .i64, .int .i64], .struct [(0, 2), (1, 2), (2, 2)]⟩
def ty37 : TyI := ⟨3, 24, [.int .i64 0, .int .i64 0, .int .i64 0], true, some [.int .i64, .int .i64, .int .i64], .struct [(0, 2), (1, 2), (2, 2)]⟩
def ty38 : TyI := ⟨6, 48, [.int .i64 0, .int .i64 0, .int .i64 0, .int .i64 0, .int .i64 0, .int .i64 0], true, some [.int .i64, .int .i64, .int .i64, .int .i64, .int .i64, .int .i64], .struct [(0, 37), (3, 37)]⟩
def ty39 : TyI := ⟨6, 48, [.int .i64 0, .int .i64 0, .int .i64 0, .int .i64 0, .int .i64 0, .int .i64 0], true, some [.int .i64, .int .i64, .int .i64, .int .i64, .int .i64, .int .i64], .struct [(0, 37), (3, 37)]⟩
def ty40 : TyI := ⟨1, 8, [.nilp], false, none, .ptr 46⟩
def ty41 : TyI := ⟨1, 8, [.nilp], false, none, .ptr 95⟩
def ty42 : TyI := ⟨1, 8, [.nilp], true, none, .struct [(0, 41)]⟩
def ty43 : TyI := ⟨1, 8, [.nilp], true, none, .struct [(0, 41)]⟩
def ty44 : TyI := ⟨1, 8, [.nilm], false, none, .map 3 35⟩
def ty45 : TyI := ⟨2, 16, [.nilp, .nilm], true, none, .struct [(0, 43), (1, 44)]⟩
def ty46 : TyI := ⟨2, 16, [.nilp, .nilm], true, none, .struct [(0, 43), (1, 44)]⟩
def ty47 : TyI := ⟨1, 8, [.int .i64 0], false, none, .int .i64⟩
def ty49 : TyI := ⟨1, 8, [.nilf], false, none, .func⟩
def ty50 : TyI := ⟨1, 24, [.nils], false, none, .slice 3⟩
def ty52 : TyI := ⟨1, 8, [.nilf], false, none, .func⟩
def ty53 : TyI := ⟨1, 8, [.nilf], false, none, .func⟩
def ty54 : TyI := ⟨1, 8, [.nilf], false, none, .func⟩
def ty55 : TyI := ⟨1, 8, [.nilf], false, none, .func⟩
def ty56 : TyI := ⟨1, 24, [.nils], false, none, .slice 35⟩
def ty57 : TyI := ⟨1, 8, [.nilf], false, none, .func⟩
def ty58 : TyI := ⟨1, 24, [.nils], false, none, .slice 76⟩
def ty59 : TyI := ⟨1, 8, [.nilf], false, none, .func⟩
def ty60 : TyI := ⟨1, 8, [.nilf], false, none, .func⟩
def ty61 : TyI := ⟨1, 8, [.nilf], false, none, .func⟩
def ty62 : TyI := ⟨1, 8, [.nilf], false, none, .func⟩
def ty64 : TyI := ⟨1, 8, [.nilf], false, none, .func⟩
def ty66 : TyI := ⟨1, 8, [.nilf], false, none, .func⟩
def ty67 : TyI := ⟨1, 8, [.nilf], false, none, .func⟩
def ty69 : TyI := ⟨1, 8, [.nilf], false, none, .func⟩
def ty70 : TyI := ⟨1, 8, [.nilf], false, none, .func⟩
def ty71 : TyI := ⟨1, 8, [.nilf], false, none, .func⟩
def ty72 : TyI := ⟨1, 8, [.nilf], false, none, .func⟩
def ty73 : TyI := ⟨1, 8, [.nilf], false, none, .func⟩
def ty74 : TyI := ⟨1, 8, [.nilf], false, none, .func⟩
def ty75 : TyI := ⟨2, 16, [.int .i64 0, .int .i64 0], true, some [.int .i64, .int .i64], .struct [(0, 3), (1, 3)]⟩
def ty76 : TyI := ⟨2, 16, [.int .i64 0, .int .i64 0], true, some [.int .i64, .int .i64], .struct [(0, 3), (1, 3)]⟩
def ty77 : TyI := ⟨1, 8, [.nilf], false, none, .func⟩
def ty78 : TyI := ⟨1, 8, [.nilf], false, none, .func⟩
def ty79 : TyI := ⟨1, 8, [.nilf], false, none, .func⟩
def ty80 : TyI := ⟨1, 8, [.nilf], false, none, .func⟩
def ty81 : TyI := ⟨1, 8, [.nilf], false, none, .func⟩
def ty82 : TyI := ⟨1, 8, [.nilf], false, none, .func⟩
def ty83 : TyI := ⟨1, 8, [.nilf], false, none, .func⟩
def ty84 : TyI := ⟨1, 8, [.nilf], false, none, .func⟩
def ty85 : TyI := ⟨1, 8, [.nilf], false, none, .func⟩
def ty86 : TyI := ⟨1, 24, [.nils], false, none, .slice 37⟩
def ty88 : TyI := ⟨1, 8, [.nilf], false, none, .func⟩
def ty89 : TyI := ⟨1, 8, [.nilf], false, none, .func⟩
def ty90 : TyI := ⟨1, 8, [.int .u64 0], false, none, .int .u64⟩
def ty92 : TyI := ⟨1, 24, [.nils], false, none, .slice 99⟩
def ty93 : TyI := ⟨1, 8, [.nilm], false, none, .map 3 3⟩
def ty94 : TyI := ⟨6, 80, [.bool false, .int .i64 0, .nils, .nils, .int .i64 0, .nilm], true, none, .struct [(0, 4), (1, 2), (2, 92), (3, 50), (4, 3), (5, 93)]⟩
def ty95 : TyI := ⟨6, 80, [.bool false, .int .i64 0, .nils, .nils, .int .i64 0, .nilm], true, none, .struct [(0, 4), (1, 2), (2, 92), (3, 50), (4, 3), (5, 93)]⟩
def ty96 : TyI := ⟨1, 8, [.nilf], false, none, .func⟩
def ty97 : TyI := ⟨1, 8, [.nilf], false, none, .func⟩
def ty98 : TyI := ⟨17, 136, [.int .i64 0, .int .i64 0, .int .i64 0, .int .i64 0, .int .i64 0, .int .i64 0, .int .i64 0, .int .i64 0, .int .i64 0, .int .i64 0, .int .i64 0, .int .i64 0, .int .i64 0, .int .i64 0, .int .i64 0, .int .i64 0, .int .i64 0], true, some [.int .i64, .int .i64, .int .i64, .int .i64, .int .i64, .int .i64, .int .i64, .int .i64, .int .i64, .int .i64, .int .i64, .int .i64, .int .i64, .int .i64, .int .i64, .int .i64, .int .i64], .struct [(0, 39), (6, 39), (12, 3), (13, 3), (14, 3), (15, 3), (16, 3)]⟩
def ty99 : TyI := ⟨17, 136, [.int .i64 0, .int .i64 0, .int .i64 0, .int .i64 0, .int .i64 0, .int .i64 0, .int .i64 0, .int .i64 0, .int .i64 0, .int .i64 0, .int .i64 0, .int .i64 0, .int .i64 0, .int .i64 0, .int .i64 0, .int .i64 0, .int .i64 0], true, some [.int .i64, .int .i64, .int .i64, .int .i64, .int .i64, .int .i64, .int .i64, .int .i64, .int .i64, .int .i64, .int .i64, .int .i64, .int .i64, .int .i64, .int .i64, .int .i64, .int .i64], .struct [(0, 39), (6, 39), (12, 3), (13, 3), (14, 3), (15, 3), (16, 3)]⟩
def ty100 : TyI := ⟨1, 8, [.nilf], false, none, .func⟩
def ty101 : TyI := ⟨1, 8, [.nilf], false, none, .func⟩
def ty102 : TyI := ⟨1, 8, [.nilf], false, none, .func⟩
def ty103 : TyI := ⟨1, 8, [.nilf], false, none, .func⟩
def ty104 : TyI := ⟨1, 8, [.nilf], false, none, .func⟩
def ty105 : TyI := ⟨1, 8, [.nilf], false, none, .func⟩
def ty106 : TyI := ⟨1, 8, [.nilf], false, none, .func⟩
def ty108 : TyI := ⟨1, 8, [.nilf], false, none, .func⟩
def ty109 : TyI := ⟨1, 8, [.nilf], false, none, .func⟩
def ty110 : TyI := ⟨1, 8, [.nilf], false, none, .func⟩
def ty111 : TyI := ⟨1, 8, [.nilf], false, none, .func⟩
def ty112 : TyI := ⟨1, 8, [.nilf], false, none, .func⟩
def ty113 : TyI := ⟨3, 24, [.int .i64 0, .int .i64 0, .int .i64 0], true, some [.int .i64, .int .i64, .int .i64], .arr 3 2⟩
def ty114 : TyI := ⟨2, 16, [.int .i64 0, .int .i64 0], true, some [.int .i64, .int .i64], .struct [(0, 2), (1, 2)]⟩
def ty115 : TyI := ⟨2, 16, [.int .i64 0, .int .i64 0], true, some [.int .i64, .int .i64], .struct [(0, 2), (1, 2)]⟩
def ty116 : TyI := ⟨1, 8, [.nilf], false, none, .func⟩
def ty117 : TyI := ⟨1, 8, [.nilf], false, none, .func⟩
def ty118 : TyI := ⟨1, 8, [.nilf], false, none, .func⟩
def ty119 : TyI := ⟨22, 192, [.int .i64 0, .int .i64 0, .int .i64 0, .int .i64 0, .int .i64 0, .int .i64 0, .nils, .int .i64 0, .int .i64 0, .int .i64 0, .int .i64 0, .int .i64 0, .int .i64 0, .int .i64 0, .int .i64 0, .int .i64 0, .int .i64 0, .int .i64 0, .int .i64 0, .int .i64 0, .int .i64 0, .int .i64 0], true, none, .struct [(0, 35)]⟩
def ty120 : TyI := ⟨22, 192, [.int .i64 0, .int .i64 0, .int .i64 0, .int .i64 0, .int .i64 0, .int .i64 0, .nils, .int .i64 0, .int .i64 0, .int .i64 0, .int .i64 0, .int .i64 0, .int .i64 0, .int .i64 0, .int .i64 0, .int .i64 0, .int .i64 0, .int .i64 0, .int .i64 0, .int .i64 0, .int .i64 0, .int .i64 0], true, none, .struct [(0, 35)]⟩
def ty121 : TyI := ⟨1, 8, [.nilp], false, none, .ptr 157⟩
def ty123 : TyI := ⟨1, 8, [.nilf], false, none, .func⟩
def ty125 : TyI := ⟨1, 8, [.nilf], false, none, .func⟩
def ty126 : TyI := ⟨1, 8, [.nilf], false, none, .func⟩
def ty128 : TyI := ⟨1, 8, [.nilf], false, none, .func⟩
def ty129 : TyI := ⟨1, 8, [.nilf], false, none, .func⟩
def ty130 : TyI := ⟨1, 8, [.nilf], false, none, .func⟩
def ty131 : TyI := ⟨1, 8, [.nilf], false, none, .func⟩
def ty132 : TyI := ⟨1, 8, [.nilf], false, none, .func⟩
def ty133 : TyI := ⟨1, 8, [.nilf], false, none, .func⟩
def ty134 : TyI := ⟨1, 8, [.nilf], false, none, .func⟩
def ty135 : TyI := ⟨1, 8, [.nilf], false, none, .func⟩
def ty136 : TyI := ⟨1, 8, [.nilf], false, none, .func⟩
def ty137 : TyI := ⟨1, 8, [.nilf], false, none, .func⟩
def ty138 : TyI := ⟨1, 8, [.nilf], false, none, .func⟩
def ty139 : TyI := ⟨1, 24, [.nils], false, none, .slice 39⟩
def ty140 : TyI := ⟨1, 8, [.int .u64 0], false, none, .int .u64⟩
def ty141 : TyI := ⟨8, 64, [.int .u64 0, .int .u64 0, .int .u64 0, .int .u64 0, .int .u64 0, .int .u64 0, .int .u64 0, .int .u64 0], true, some [.int .u64, .int .u64, .int .u64, .int .u64, .int .u64, .int .u64, .int .u64, .int .u64], .arr 8 140⟩
def ty142 : TyI := ⟨8, 64, [.int .u64 0, .int .u64 0, .int .u64 0, .int .u64 0, .int .u64 0, .int .u64 0, .int .u64 0, .int .u64 0], true, some [.int .u64, .int .u64, .int .u64, .int .u64, .int .u64, .int .u64, .int .u64, .int .u64], .struct [(0, 141)]⟩
def ty143 : TyI := ⟨8, 64, [.int .u64 0, .int .u64 0, .int .u64 0, .int .u64 0, .int .u64 0, .int .u64 0, .int .u64 0, .int .u64 0], true, some [.int .u64, .int .u64, .int .u64, .int .u64, .int .u64, .int .u64, .int .u64, .int .u64], .struct [(0, 141)]⟩
def ty145 : TyI := ⟨1, 8, [.nilf], false, none, .func⟩
def ty146 : TyI := ⟨1, 8, [.nilf], false, none, .func⟩
def ty147 : TyI := ⟨1, 8, [.nilf], false, none, .func⟩
def ty148 : TyI := ⟨1, 8, [.nilf], false, none, .func⟩
def ty149 : TyI := ⟨1, 8, [.nilf], false, none, .func⟩
def ty150 : TyI := ⟨1, 8, [.nilf], false, none, .func⟩
def ty151 : TyI := ⟨9, 72, [.int .i64 0, .int .i64 0, .int .i64 0, .int .i64 0, .int .i64 0, .int .i64 0, .int .i64 0, .int .i64 0, .int .i64 0], true, some [.int .i64, .int .i64, .int .i64, .int .i64, .int .i64, .int .i64, .int .i64, .int .i64, .int .i64], .arr 3 24⟩
def ty152 : TyI := ⟨9, 72, [.int .i64 0, .int .i64 0, .int .i64 0, .int .i64 0, .int .i64 0, .int .i64 0, .int .i64 0, .int .i64 0, .int .i64 0], true, some [.int .i64, .int .i64, .int .i64, .int .i64, .int .i64, .int .i64, .int .i64, .int .i64, .int .i64], .struct [(0, 151)]⟩
def ty153 : TyI := ⟨9, 72, [.int .i64 0, .int .i64 0, .int .i64 0, .int .i64 0, .int .i64 0, .int .i64 0, .int .i64 0, .int .i64 0, .int .i64 0], true, some [.int .i64, .int .i64, .int .i64, .int .i64, .int .i64, .int .i64, .int .i64, .int .i64, .int .i64], .struct [(0, 151)]⟩
def ty155 : TyI := ⟨1, 8, [.nilf], false, none, .func⟩
def ty156 : TyI := ⟨16, 128, [.int .i64 0, .int .i64 0, .int .i64 0, .int .i64 0, .int .i64 0, .int .i64 0, .int .i64 0, .int .i64 0, .int .i64 0, .int .i64 0, .int .i64 0, .int .i64 0, .int .i64 0, .int .i64 0, .int .i64 0, .int .i64 0], true, some [.int .i64, .int .i64, .int .i64, .int .i64, .int .i64, .int .i64, .int .i64, .int .i64, .int .i64, .int .i64, .int .i64, .int .i64, .int .i64, .int .i64, .int .i64, .int .i64], .struct [(0, 31), (7, 153)]⟩
def ty157 : TyI := ⟨16, 128, [.int .i64 0, .int .i64 0, .int .i64 0, .int .i64 0, .int .i64 0, .int .i64 0, .int .i64 0, .int .i64 0, .int .i64 0, .int .i64 0, .int .i64 0, .int .i64 0, .int .i64 0, .int .i64 0, .int .i64 0, .int .i64 0], true, some [.int .i64, .int .i64, .int .i64, .int .i64, .int .i64, .int .i64, .int .i64, .int .i64, .int .i64, .int .i64, .int .i64, .int .i64, .int .i64, .int .i64, .int .i64, .int .i64], .struct [(0, 31), (7, 153)]⟩
def ty158 : TyI := ⟨1, 8, [.nilf], false, none, .func⟩
def ty159 : TyI := ⟨1, 8, [.nilf], false, none, .func⟩
def ty160 : TyI := ⟨2, 16, [.nilf, .nilf], true, none, .struct [(0, 158), (1, 159)]⟩
def ty161 : TyI := ⟨2, 16, [.nilf, .nilf], true, none, .struct [(0, 158), (1, 159)]⟩
def ty162 : TyI := ⟨10, 80, [.nilf, .nilf, .nilf, .nilf, .nilf, .nilf, .nilf, .nilf, .nilf, .nilf], true, none, .arr 5 161⟩
def ty163 : TyI := ⟨1, 8, [.nilf], false, none, .func⟩
def ty164 : TyI := ⟨1, 8, [.nilf], false, none, .func⟩
def ty165 : TyI := ⟨1, 8, [.nilf], false, none, .func⟩
def ty166 : TyI := ⟨1, 8, [.nilf], false, none, .func⟩
def ty167 : TyI := ⟨1, 8, [.nilf], false, none, .func⟩
def ty168 : TyI := ⟨1, 8, [.nilf], false, none, .func⟩
def ty169 : TyI := ⟨1, 8, [.nilf], false, none, .func⟩
def ty170 : TyI := ⟨1, 8, [.nilf], false, none, .func⟩
def ty171 : TyI := ⟨1, 8, [.nilf], false, none, .func⟩
def ty172 : TyI := ⟨1, 8, [.nilf], false, none, .func⟩
def ty173 : TyI := ⟨1, 8, [.int .i64 0], false, none, .int .i64⟩
def ty175 : TyI := ⟨1, 8, [.nilf], false, none, .func⟩
def ty176 : TyI := ⟨1, 8, [.nilf], false, none, .func⟩
def ty177 : TyI := ⟨1, 8, [.nilf], false, none, .func⟩
def ty178 : TyI := ⟨1, 8, [.nilf], false, none, .func⟩
def ty179 : TyI := ⟨1, 8, [.nilf], false, none, .func⟩
def ty180 : TyI := ⟨1, 8, [.nilf], false, none, .func⟩
def ty181 : TyI := ⟨1, 4, [.int .u32 0], false, none, .int .u32⟩
def ty182 : TyI := ⟨1, 8, [.nilf], false, none, .func⟩
def ty183 : TyI := ⟨1, 8, [.nilf], false, none, .func⟩
def ty184 : TyI := ⟨1, 8, [.nilf], false, none, .func⟩
def ty185 : TyI := ⟨1, 8, [.nilf], false, none, .func⟩
def ty186 : TyI := ⟨1, 8, [.nilf], false, none, .func⟩
def ty187 : TyI := ⟨1, 8, [.nilf], false, none, .func⟩
def ty188 : TyI := ⟨8, 64, [.int .u64 0, .int .u64 0, .int .u64 0, .int .u64 0, .int .u64 0, .int .u64 0, .int .u64 0, .int .u64 0], true, some [.int .u64, .int .u64, .int .u64, .int .u64, .int .u64, .int .u64, .int .u64, .int .u64], .arr 8 140⟩
def ty189 : TyI := ⟨1, 8, [.nilf], false, none, .func⟩
def ty191 : TyI := ⟨1, 8, [.nilf], false, none, .func⟩
def ty192 : TyI := ⟨1, 8, [.nilf], false, none, .func⟩
def ty193 : TyI := ⟨0, 0, [], true, some [], .struct []⟩
def ty194 : TyI := ⟨0, 0, [], true, some [], .struct []⟩
def ty195 : TyI := ⟨1, 8, [.nilf], false, none, .func⟩
def ty196 : TyI := ⟨1, 8, [.nilf], false, none, .func⟩
def ty197 : TyI := ⟨1, 8, [.nilf], false, none, .func⟩
def ty198 : TyI := ⟨1, 8, [.nilf], false, none, .func⟩
def ty200 : TyI := ⟨1, 8, [.nilf], false, none, .func⟩
def ty201 : TyI := ⟨32, 256, [.int .u64 0, .int .u64 0, .int .u64 0, .int .u64 0, .int .u64 0, .int .u64 0, .int .u64 0, .int .u64 0, .int .u64 0, .int .u64 0, .int .u64 0, .int .u64 0, .int .u64 0, .int .u64 0, .int .u64 0, .int .u64 0, .int .u64 0, .int .u64 0, .int .u64 0, .int .u64 0, .int .u64 0, .int .u64 0, .int .u64 0, .int .u64 0, .int .u64 0, .int .u64 0, .int .u64 0, .int .u64 0, .int .u64 0, .int .u64 0, .int .u64 0, .int .u64 0], true, some [.int .u64, .int .u64, .int .u64, .int .u64, .int .u64, .int .u64, .int .u64, .int .u64, .int .u64, .int .u64, .int .u64, .int .u64, .int .u64, .int .u64, .int .u64, .int .u64, .int .u64, .int .u64, .int .u64, .int .u64, .int .u64, .int .u64, .int .u64, .int .u64, .int .u64, .int .u64, .int .u64, .int .u64, .int .u64, .int .u64, .int .u64, .int .u64], .arr 4 143⟩
def ty202 : TyI := ⟨32, 256, [.int .u64 0, .int .u64 0, .int .u64 0, .int .u64 0, .int .u64 0, .int .u64 0, .int .u64 0, .int .u64 0, .int .u64 0, .int .u64 0, .int .u64 0, .int .u64 0, .int .u64 0, .int .u64 0, .int .u64 0, .int .u64 0, .int .u64 0, .int .u64 0, .int .u64 0, .int .u64 0, .int .u64 0, .int .u64 0, .int .u64 0, .int .u64 0, .int .u64 0, .int .u64 0, .int .u64 0, .int .u64 0, .int .u64 0, .int .u64 0, .int .u64 0, .int .u64 0], true, some [.int .u64, .int .u64, .int .u64, .int .u64, .int .u64, .int .u64, .int .u64, .int .u64, .int .u64, .int .u64, .int .u64, .int .u64, .int .u64, .int .u64, .int .u64, .int .u64, .int .u64, .int .u64, .int .u64, .int .u64, .int .u64, .int .u64, .int .u64, .int .u64, .int .u64, .int .u64, .int .u64, .int .u64, .int .u64, .int .u64, .int .u64, .int .u64], .arr 4 143⟩
def ty203 : TyI := ⟨1, 8, [.nilf], false, none, .func⟩
def ty204 : TyI := ⟨1, 8, [.nilf], false, none, .func⟩
def ty205 : TyI := ⟨3, 24, [.int .i64 0, .int .i64 0, .int .i64 0], true, some [.int .i64, .int .i64, .int .i64], .struct [(0, 3), (1, 3), (2, 3)]⟩
def ty206 : TyI := ⟨3, 24, [.int .i64 0, .int .i64 0, .int .i64 0], true, some [.int .i64, .int .i64, .int .i64], .struct [(0, 3), (1, 3), (2, 3)]⟩
def ty207 : TyI := ⟨1, 24, [.nils], false, none, .slice 206⟩
def ty208 : TyI := ⟨3, 72, [.nils, .nils, .nils], true, none, .arr 3 207⟩
def ty209 : TyI := ⟨9, 216, [.nils, .nils, .nils, .nils, .nils, .nils, .nils, .nils, .nils], true, none, .arr 3 208⟩
def ty210 : TyI := ⟨1, 8, [.nilf], false, none, .func⟩
def ty212 : TyI := ⟨1, 8, [.nilf], false, none, .func⟩
def ty213 : TyI := ⟨1, 8, [.nilf], false, none, .func⟩
def ty214 : TyI := ⟨1, 8, [.nilf], false, none, .func⟩
def ty215 : TyI := ⟨1, 8, [.nilf], false, none, .func⟩
def ty216 : TyI := ⟨1, 8, [.nilf], false, none, .func⟩
def ty217 : TyI := ⟨1, 24, [.nils], false, none, .slice 143⟩
def ty218 : TyI := ⟨1, 8, [.nilp], false, none, .ptr 99⟩
def ty219 : TyI := ⟨1, 8, [.int .u64 0], false, none, .int .u64⟩
def ty220 : TyI := ⟨1, 8, [.nilf], false, none, .func⟩
def ty221 : TyI := ⟨1, 8, [.nilf], false, none, .func⟩
def ty222 : TyI := ⟨1, 8, [.nilf], false, none, .func⟩
def ty223 : TyI := ⟨1, 8, [.nilp], false, none, .ptr 3⟩
def ty224 : TyI := ⟨1, 8, [.nilf], false, none, .func⟩
def ty225 : TyI := ⟨1, 8, [.nilf], false, none, .func⟩
def ty226 : TyI := ⟨1, 8, [.nilf], false, none, .func⟩
def ty227 : TyI := ⟨1, 8, [.nilf], false, none, .func⟩
def ty228 : TyI := ⟨1, 8, [.nilf], false, none, .func⟩
def ty229 : TyI := ⟨1, 8, [.nilf], false, none, .func⟩
def ty231 : TyI := ⟨1, 8, [.nilf], false, none, .func⟩
def ty232 : TyI := ⟨1, 8, [.nilf], false, none, .func⟩
def ty233 : TyI := ⟨1, 8, [.nilf], false, none, .func⟩
def ty234 : TyI := ⟨1, 8, [.nilf], false, none, .func⟩
def ty236 : TyI := ⟨1, 8, [.nilf], false, none, .func⟩
def ty237 : TyI := ⟨1, 8, [.nilf], false, none, .func⟩
def ty238 : TyI := ⟨1, 8, [.nilp], false, none, .ptr 219⟩
def ty240 : TyI := ⟨1, 8, [.nilf], false, none, .func⟩
def ty241 : TyI := ⟨1, 8, [.nilf], false, none, .func⟩
def ty242 : TyI := ⟨1, 24, [.nils], true, none, .struct [(0, 86)]⟩
def ty243 : TyI := ⟨1, 24, [.nils], true, none, .struct [(0, 86)]⟩
def ty244 : TyI := ⟨1, 8, [.nilf], false, none, .func⟩
def ty245 : TyI := ⟨1, 8, [.nilf], false, none, .func⟩
def ty246 : TyI := ⟨1, 8, [.nilf], false, none, .func⟩
def ty247 : TyI := ⟨1, 8, [.nilf], false, none, .func⟩
def ty248 : TyI := ⟨1, 8, [.nilf], false, none, .func⟩
def ty249 : TyI := ⟨1, 8, [.nilp], false, none, .ptr 243⟩
def ty250 : TyI := ⟨24, 192, [.int .u64 0, .int .u64 0, .int .u64 0, .int .u64 0, .int .u64 0, .int .u64 0, .int .u64 0, .int .u64 0, .int .u64 0, .int .u64 0, .int .u64 0, .int .u64 0, .int .u64 0, .int .u64 0, .int .u64 0, .int .u64 0, .int .u64 0, .int .u64 0, .int .u64 0, .int .u64 0, .int .u64 0, .int .u64 0, .int .u64 0, .int .u64 0], true, some [.int .u64, .int .u64, .int .u64, .int .u64, .int .u64, .int .u64, .int .u64, .int .u64, .int .u64, .int .u64, .int .u64, .int .u64, .int .u64, .int .u64, .int .u64, .int .u64, .int .u64, .int .u64, .int .u64, .int .u64, .int .u64, .int .u64, .int .u64, .int .u64], .struct [(0, 143), (8, 143), (16, 143)]⟩
def ty251 : TyI := ⟨24, 192, [.int .u64 0, .int .u64 0, .int .u64 0, .int .u64 0, .int .u64 0, .int .u64 0, .int .u64 0, .int .u64 0, .int .u64 0, .int .u64 0, .int .u64 0, .int .u64 0, .int .u64 0, .int .u64 0, .int .u64 0, .int .u64 0, .int .u64 0, .int .u64 0, .int .u64 0, .int .u64 0, .int .u64 0, .int .u64 0, .int .u64 0, .int .u64 0], true, some [.int .u64, .int .u64, .int .u64, .int .u64, .int .u64, .int .u64, .int .u64, .int .u64, .int .u64, .int .u64, .int .u64, .int .u64, .int .u64, .int .u64, .int .u64, .int .u64, .int .u64, .int .u64, .int .u64, .int .u64, .int .u64, .int .u64, .int .u64, .int .u64], .struct [(0, 143), (8, 143), (16, 143)]⟩
def ty252 : TyI := ⟨1, 8, [.nilf], false, none, .func⟩
def ty253 : TyI := ⟨1, 8, [.nilf], false, none, .func⟩
def ty254 : TyI := ⟨1, 8, [.nilf], false, none, .func⟩
def ty255 : TyI := ⟨1, 8, [.nilf], false, none, .func⟩
def ty256 : TyI := ⟨1, 8, [.nilf], false, none, .func⟩
def ty257 : TyI := ⟨1, 8, [.nilf], false, none, .func⟩
def ty258 : TyI := ⟨1, 8, [.nilf], false, none, .func⟩
def ty259 : TyI := ⟨1, 8, [.nilf], false, none, .func⟩
def ty260 : TyI := ⟨1, 8, [.nilf], false, none, .func⟩
def ty261 : TyI := ⟨4, 40, [.nilp, .nilp, .nilp, .str ⟨#[]⟩], true, none, .struct [(0, 17), (1, 17), (2, 17), (3, 9)]⟩
def ty262 : TyI := ⟨4, 40, [.nilp, .nilp, .nilp, .str ⟨#[]⟩], true, none, .struct [(0, 17), (1, 17), (2, 17), (3, 9)]⟩
def ty263 : TyI := ⟨0, 0, [], true, none, .arr 0 16⟩
def ty264 : TyI := ⟨0, 0, [], true, none, .struct [(0, 263)]⟩
def ty265 : TyI := ⟨0, 0, [], true, none, .struct [(0, 263)]⟩
def ty266 : TyI := ⟨1, 1, [.int .u8 0], false, none, .int .u8⟩
def ty267 : TyI := ⟨1, 1, [.int .u8 0], false, none, .int .u8⟩
def ty268 : TyI := ⟨1, 8, [.nilf], false, none, .func⟩
def ty269 : TyI := ⟨1, 8, [.nilp], false, none, .ptr 5⟩
def ty270 : TyI := ⟨1, 4, [.int .i32 0], false, none, .int .i32⟩
def ty271 : TyI := ⟨1, 4, [.int .i32 0], false, none, .int .i32⟩
def ty272 : TyI := ⟨11, 48, [.int .u64 0, .int .u64 0, .int .u32 0, .int .u8 0, .int .u8 0, .int .u8 0, .int .u8 0, .nilf, .nilp, .int .i32 0, .int .i32 0], true, none, .struct [(0, 12), (1, 12), (2, 181), (3, 266), (4, 5), (5, 5), (6, 267), (7, 268), (8, 269), (9, 270), (10, 271)]⟩
def ty273 : TyI := ⟨11, 48, [.int .u64 0, .int .u64 0, .int .u32 0, .int .u8 0, .int .u8 0, .int .u8 0, .int .u8 0, .nilf, .nilp, .int .i32 0, .int .i32 0], true, none, .struct [(0, 12), (1, 12), (2, 181), (3, 266), (4, 5), (5, 5), (6, 267), (7, 268), (8, 269), (9, 270), (10, 271)]⟩
theorem tab_leaf {P : Program} {k : Nat} {ty : TyI} (h : TyOk P k ty) {t : Nat} {i : TyI} (e : cond (Nat.beq t k) (some ty) none = some i) : TyOk P t i := by
  cases hb : Nat.beq t k with
  | false => rw [hb] at e; cases e
  | true => rw [hb] at e; cases e; rw [Nat.eq_of_beq_eq_true hb]; exact h
theorem tab_node {P : Program} {a b : Option TyI} {c : Bool} {t : Nat} {i : TyI} (h1 : a = some i → TyOk P t i) (h2 : b = some i → TyOk P t i) (e : cond c a b = some i) : TyOk P t i := by
  cases c with
  | true => exact h1 e
  | false => exact h2 e
def tyTab : TTab := fun t => (cond (Nat.blt t 138) (cond (Nat.blt t 69) (cond (Nat.blt t 32) (cond (Nat.blt t 16) (cond (Nat.blt t 8) (cond (Nat.blt t 4) (cond (Nat.blt t 2) (cond (Nat.beq t 1) (some ty1) none) (cond (Nat.blt t 3) (cond (Nat.beq t 2) (some ty2) none) (cond (Nat.beq t 3) (some ty3) none))) (cond (Nat.blt t 6) (cond (Nat.blt t 5) (cond (Nat.beq t 4) (some ty4) none) (cond (Nat.beq t 5) (some ty5) none)) (cond (Nat.blt t 7) (cond (Nat.beq t 6) (some ty6) none) (cond (Nat.beq t 7) (some ty7) none)))) (cond (Nat.blt t 12) (cond (Nat.blt t 10) (cond (Nat.blt t 9) (cond (Nat.beq t 8) (some ty8) none) (cond (Nat.beq t 9) (some ty9) none)) (cond (Nat.blt t 11) (cond (Nat.beq t 10) (some ty10) none) (cond (Nat.beq t 11) (some ty11) none))) (cond (Nat.blt t 14) (cond (Nat.blt t 13) (cond (Nat.beq t 12) (some ty12) none) (cond (Nat.beq t 13) (some ty13) none)) (cond (Nat.blt t 15) (cond (Nat.beq t 14) (some ty14) none) (cond (Nat.beq t 15) (some ty15) none))))) (cond (Nat.blt t 24) (cond (Nat.blt t 20) (cond (Nat.blt t 18) (cond (Nat.blt t 17) (cond (Nat.beq t 16) (some ty16) none) (cond (Nat.beq t 17) (some ty17) none)) (cond (Nat.blt t 19) (cond (Nat.beq t 18) (some ty18) none) (cond (Nat.beq t 19) (some ty19) none))) (cond (Nat.blt t 22) (cond (Nat.blt t 21) (cond (Nat.beq t 20) (some ty20) none) (cond (Nat.beq t 21) (some ty21) none)) (cond (Nat.blt t 23) (cond (Nat.beq t 22) (some ty22) none) (cond (Nat.beq t 23) (some ty23) none)))) (cond (Nat.blt t 28) (cond (Nat.blt t 26) (cond (Nat.blt t 25) (cond (Nat.beq t 24) (some ty24) none) (cond (Nat.beq t 25) (some ty25) none)) (cond (Nat.blt t 27) (cond (Nat.beq t 26) (some ty26) none) (cond (Nat.beq t 27) (some ty27) none))) (cond (Nat.blt t 30) (cond (Nat.blt t 29) (cond (Nat.beq t 28) (some ty28) none) (cond (Nat.beq t 29) (some ty29) none)) (cond (Nat.blt t 31) (cond (Nat.beq t 30) (some ty30) none) (cond (Nat.beq t 31) (some ty31) none)))))) (cond (Nat.blt t 49) (cond (Nat.blt t 40) (cond (Nat.blt t 36) (cond (Nat.blt t 34) (cond (Nat.blt t 33) (cond (Nat.beq t 32) (some ty32) none) (cond (Nat.beq t 33) (some ty33) none)) (cond (Nat.blt t 35) (cond (Nat.beq t 34) (some ty34) none) (cond (Nat.beq t 35) (some ty35) none))) (cond (Nat.blt t 38) (cond (Nat.blt t 37) (cond (Nat.beq t 36) (some ty36) none) (cond (Nat.beq t 37) (some ty37) none)) (cond (Nat.blt t 39) (cond (Nat.beq t 38) (some ty38) none) (cond (Nat.beq t 39) (some ty39) none)))) (cond (Nat.blt t 44) (cond (Nat.blt t 42) (cond (Nat.blt t 41) (cond (Nat.beq t 40) (some ty40) none) (cond (Nat.beq t 41) (some ty41) none)) (cond (Nat.blt t 43) (cond (Nat.beq t 42) (some ty42) none) (cond (Nat.beq t 43) (some ty43) none))) (cond (Nat.blt t 46) (cond (Nat.blt t 45) (cond (Nat.beq t 44) (some ty44) none) (cond (Nat.beq t 45) (some ty45) none)) (cond (Nat.blt t 47) (cond (Nat.beq t 46) (some ty46) none) (cond (Nat.beq t 47) (some ty47) none))))) (cond (Nat.blt t 58) (cond (Nat.blt t 54) (cond (Nat.blt t 52) (cond (Nat.blt t 50) (cond (Nat.beq t 49) (some ty49) none) (cond (Nat.beq t 50) (some ty50) none)) (cond (Nat.blt t 53) (cond (Nat.beq t 52) (some ty52) none) (cond (Nat.beq t 53) (some ty53) none))) (cond (Nat.blt t 56) (cond (Nat.blt t 55) (cond (Nat.beq t 54) (some ty54) none) (cond (Nat.beq t 55) (some ty55) none)) (cond (Nat.blt t 57) (cond (Nat.beq t 56) (some ty56) none) (cond (Nat.beq t 57) (some ty57) none)))) (cond (Nat.blt t 62) (cond (Nat.blt t 60) (cond (Nat.blt t 59) (cond (Nat.beq t 58) (some ty58) none) (cond (Nat.beq t 59) (some ty59) none)) (cond (Nat.blt t 61) (cond (Nat.beq t 60) (some ty60) none) (cond (Nat.beq t 61) (some ty61) none))) (cond (Nat.blt t 66) (cond (Nat.blt t 64) (cond (Nat.beq t 62) (some ty62) none) (cond (Nat.beq t 64) (some ty64) none)) (cond (Nat.blt t 67) (cond (Nat.beq t 66) (some ty66) none) (cond (Nat.beq t 67) (some ty67) none))))))) (cond (Nat.blt t 102) (cond (Nat.blt t 84) (cond (Nat.blt t 76) (cond (Nat.blt t 72) (cond (Nat.blt t 70) (cond (Nat.beq t 69) (some ty69) none) (cond (Nat.blt t 71) (cond (Nat.beq t 70) (some ty70) none) (cond (Nat.beq t 71) (some ty71) none))) (cond (Nat.blt t 74) (cond (Nat.blt t 73) (cond (Nat.beq t 72) (some ty72) none) (cond (Nat.beq t 73) (some ty73) none)) (cond (Nat.blt t 75) (cond (Nat.beq t 74) (some ty74) none) (cond (Nat.beq t 75) (some ty75) none)))) (cond (Nat.blt t 80) (cond (Nat.blt t 78) (cond (Nat.blt t 77) (cond (Nat.beq t 76) (some ty76) none) (cond (Nat.beq t 77) (some ty77) none)) (cond (Nat.blt t 79) (cond (Nat.beq t 78) (some ty78) none) (cond (Nat.beq t 79) (some ty79) none))) (cond (Nat.blt t 82) (cond (Nat.blt t 81) (cond (Nat.beq t 80) (some ty80) none) (cond (Nat.beq t 81) (some ty81) none)) (cond (Nat.blt t 83) (cond (Nat.beq t 82) (some ty82) none) (cond (Nat.beq t 83) (some ty83) none))))) (cond (Nat.blt t 94) (cond (Nat.blt t 89) (cond (Nat.blt t 86) (cond (Nat.blt t 85) (cond (Nat.beq t 84) (some ty84) none) (cond (Nat.beq t 85) (some ty85) none)) (cond (Nat.blt t 88) (cond (Nat.beq t 86) (some ty86) none) (cond (Nat.beq t 88) (some ty88) none))) (cond (Nat.blt t 92) (cond (Nat.blt t 90) (cond (Nat.beq t 89) (some ty89) none) (cond (Nat.beq t 90) (some ty90) none)) (cond (Nat.blt t 93) (cond (Nat.beq t 92) (some ty92) none) (cond (Nat.beq t 93) (some ty93) none)))) (cond (Nat.blt t 98) (cond (Nat.blt t 96) (cond (Nat.blt t 95) (cond (Nat.beq t 94) (some ty94) none) (cond (Nat.beq t 95) (some ty95) none)) (cond (Nat.blt t 97) (cond (Nat.beq t 96) (some ty96) none) (cond (Nat.beq t 97) (some ty97) none))) (cond (Nat.blt t 100) (cond (Nat.blt t 99) (cond (Nat.beq t 98) (some ty98) none) (cond (Nat.beq t 99) (some ty99) none)) (cond (Nat.blt t 101) (cond (Nat.beq t 100) (some ty100) none) (cond (Nat.beq t 101) (some ty101) none)))))) (cond (Nat.blt t 119) (cond (Nat.blt t 111) (cond (Nat.blt t 106) (cond (Nat.blt t 104) (cond (Nat.blt t 103) (cond (Nat.beq t 102) (some ty102) none) (cond (Nat.beq t 103) (some ty103) none)) (cond (Nat.blt t 105) (cond (Nat.beq t 104) (some ty104) none) (cond (Nat.beq t 105) (some ty105) none))) (cond (Nat.blt t 109) (cond (Nat.blt t 108) (cond (Nat.beq t 106) (some ty106) none) (cond (Nat.beq t 108) (some ty108) none)) (cond (Nat.blt t 110) (cond (Nat.beq t 109) (some ty109) none) (cond (Nat.beq t 110) (some ty110) none)))) (cond (Nat.blt t 115) (cond (Nat.blt t 113) (cond (Nat.blt t 112) (cond (Nat.beq t 111) (some ty111) none) (cond (Nat.beq t 112) (some ty112) none)) (cond (Nat.blt t 114) (cond (Nat.beq t 113) (some ty113) none) (cond (Nat.beq t 114) (some ty114) none))) (cond (Nat.blt t 117) (cond (Nat.blt t 116) (cond (Nat.beq t 115) (some ty115) none) (cond (Nat.beq t 116) (some ty116) none)) (cond (Nat.blt t 118) (cond (Nat.beq t 117) (some ty117) none) (cond (Nat.beq t 118) (some ty118) none))))) (cond (Nat.blt t 130) (cond (Nat.blt t 125) (cond (Nat.blt t 121) (cond (Nat.blt t 120) (cond (Nat.beq t 119) (some ty119) none) (cond (Nat.beq t 120) (some ty120) none)) (cond (Nat.blt t 123) (cond (Nat.beq t 121) (some ty121) none) (cond (Nat.beq t 123) (some ty123) none))) (cond (Nat.blt t 128) (cond (Nat.blt t 126) (cond (Nat.beq t 125) (some ty125) none) (cond (Nat.beq t 126) (some ty126) none)) (cond (Nat.blt t 129) (cond (Nat.beq t 128) (some ty128) none) (cond (Nat.beq t 129) (some ty129) none)))) (cond (Nat.blt t 134) (cond (Nat.blt t 132) (cond (Nat.blt t 131) (cond (Nat.beq t 130) (some ty130) none) (cond (Nat.beq t 131) (some ty131) none)) (cond (Nat.blt t 133) (cond (Nat.beq t 132) (some ty132) none) (cond (Nat.beq t 133) (some ty133) none))) (cond (Nat.blt t 136) (cond (Nat.blt t 135) (cond (Nat.beq t 134) (some ty134) none) (cond (Nat.beq t 135) (some ty135) none)) (cond (Nat.blt t 137) (cond (Nat.beq t 136) (some ty136) none) (cond (Nat.beq t 137) (some ty137) none)))))))) (cond (Nat.blt t 206) (cond (Nat.blt t 171) (cond (Nat.blt t 155) (cond (Nat.blt t 146) (cond (Nat.blt t 141) (cond (Nat.blt t 139) (cond (Nat.beq t 138) (some ty138) none) (cond (Nat.blt t 140) (cond (Nat.beq t 139) (some ty139) none) (cond (Nat.beq t 140) (some ty140) none))) (cond (Nat.blt t 143) (cond (Nat.blt t 142) (cond (Nat.beq t 141) (some ty141) none) (cond (Nat.beq t 142) (some ty142) none)) (cond (Nat.blt t 145) (cond (Nat.beq t 143) (some ty143) none) (cond (Nat.beq t 145) (some ty145) none)))) (cond (Nat.blt t 150) (cond (Nat.blt t 148) (cond (Nat.blt t 147) (cond (Nat.beq t 146) (some ty146) none) (cond (Nat.beq t 147) (some ty147) none)) (cond (Nat.blt t 149) (cond (Nat.beq t 148) (some ty148) none) (cond (Nat.beq t 149) (some ty149) none))) (cond (Nat.blt t 152) (cond (Nat.blt t 151) (cond (Nat.beq t 150) (some ty150) none) (cond (Nat.beq t 151) (some ty151) none)) (cond (Nat.blt t 153) (cond (Nat.beq t 152) (some ty152) none) (cond (Nat.beq t 153) (some ty153) none))))) (cond (Nat.blt t 163) (cond (Nat.blt t 159) (cond (Nat.blt t 157) (cond (Nat.blt t 156) (cond (Nat.beq t 155) (some ty155) none) (cond (Nat.beq t 156) (some ty156) none)) (cond (Nat.blt t 158) (cond (Nat.beq t 157) (some ty157) none) (cond (Nat.beq t 158) (some ty158) none))) (cond (Nat.blt t 161) (cond (Nat.blt t 160) (cond (Nat.beq t 159) (some ty159) none) (cond (Nat.beq t 160) (some ty160) none)) (cond (Nat.blt t 162) (cond (Nat.beq t 161) (some ty161) none) (cond (Nat.beq t 162) (some ty162) none)))) (cond (Nat.blt t 167) (cond (Nat.blt t 165) (cond (Nat.blt t 164) (cond (Nat.beq t 163) (some ty163) none) (cond (Nat.beq t 164) (some ty164) none)) (cond (Nat.blt t 166) (cond (Nat.beq t 165) (some ty165) none) (cond (Nat.beq t 166) (some ty166) none))) (cond (Nat.blt t 169) (cond (Nat.blt t 168) (cond (Nat.beq t 167) (some ty167) none) (cond (Nat.beq t 168) (some ty168) none)) (cond (Nat.blt t 170) (cond (Nat.beq t 169) (some ty169) none) (cond (Nat.beq t 170) (some ty170) none)))))) (cond (Nat.blt t 188) (cond (Nat.blt t 180) (cond (Nat.blt t 176) (cond (Nat.blt t 173) (cond (Nat.blt t 172) (cond (Nat.beq t 171) (some ty171) none) (cond (Nat.beq t 172) (some ty172) none)) (cond (Nat.blt t 175) (cond (Nat.beq t 173) (some ty173) none) (cond (Nat.beq t 175) (some ty175) none))) (cond (Nat.blt t 178) (cond (Nat.blt t 177) (cond (Nat.beq t 176) (some ty176) none) (cond (Nat.beq t 177) (some ty177) none)) (cond (Nat.blt t 179) (cond (Nat.beq t 178) (some ty178) none) (cond (Nat.beq t 179) (some ty179) none)))) (cond (Nat.blt t 184) (cond (Nat.blt t 182) (cond (Nat.blt t 181) (cond (Nat.beq t 180) (some ty180) none) (cond (Nat.beq t 181) (some ty181) none)) (cond (Nat.blt t 183) (cond (Nat.beq t 182) (some ty182) none) (cond (Nat.beq t 183) (some ty183) none))) (cond (Nat.blt t 186) (cond (Nat.blt t 185) (cond (Nat.beq t 184) (some ty184) none) (cond (Nat.beq t 185) (some ty185) none)) (cond (Nat.blt t 187) (cond (Nat.beq t 186) (some ty186) none) (cond (Nat.beq t 187) (some ty187) none))))) (cond (Nat.blt t 197) (cond (Nat.blt t 193) (cond (Nat.blt t 191) (cond (Nat.blt t 189) (cond (Nat.beq t 188) (some ty188) none) (cond (Nat.beq t 189) (some ty189) none)) (cond (Nat.blt t 192) (cond (Nat.beq t 191) (some ty191) none) (cond (Nat.beq t 192) (some ty192) none))) (cond (Nat.blt t 195) (cond (Nat.blt t 194) (cond (Nat.beq t 193) (some ty193) none) (cond (Nat.beq t 194) (some ty194) none)) (cond (Nat.blt t 196) (cond (Nat.beq t 195) (some ty195) none) (cond (Nat.beq t 196) (some ty196) none)))) (cond (Nat.blt t 202) (cond (Nat.blt t 200) (cond (Nat.blt t 198) (cond (Nat.beq t 197) (some ty197) none) (cond (Nat.beq t 198) (some ty198) none)) (cond (Nat.blt t 201) (cond (Nat.beq t 200) (some ty200) none) (cond (Nat.beq t 201) (some ty201) none))) (cond (Nat.blt t 204) (cond (Nat.blt t 203) (cond (Nat.beq t 202) (some ty202) none) (cond (Nat.beq t 203) (some ty203) none)) (cond (Nat.blt t 205) (cond (Nat.beq t 204) (some ty204) none) (cond (Nat.beq t 205) (some ty205) none))))))) (cond (Nat.blt t 242) (cond (Nat.blt t 223) (cond (Nat.blt t 215) (cond (Nat.blt t 210) (cond (Nat.blt t 208) (cond (Nat.blt t 207) (cond (Nat.beq t 206) (some ty206) none) (cond (Nat.beq t 207) (some ty207) none)) (cond (Nat.blt t 209) (cond (Nat.beq t 208) (some ty208) none) (cond (Nat.beq t 209) (some ty209) none))) (cond (Nat.blt t 213) (cond (Nat.blt t 212) (cond (Nat.beq t 210) (some ty210) none) (cond (Nat.beq t 212) (some ty212) none)) (cond (Nat.blt t 214) (cond (Nat.beq t 213) (some ty213) none) (cond (Nat.beq t 214) (some ty214) none)))) (cond (Nat.blt t 219) (cond (Nat.blt t 217) (cond (Nat.blt t 216) (cond (Nat.beq t 215) (some ty215) none) (cond (Nat.beq t 216) (some ty216) none)) (cond (Nat.blt t 218) (cond (Nat.beq t 217) (some ty217) none) (cond (Nat.beq t 218) (some ty218) none))) (cond (Nat.blt t 221) (cond (Nat.blt t 220) (cond (Nat.beq t 219) (some ty219) none) (cond (Nat.beq t 220) (some ty220) none)) (cond (Nat.blt t 222) (cond (Nat.beq t 221) (some ty221) none) (cond (Nat.beq t 222) (some ty222) none))))) (cond (Nat.blt t 232) (cond (Nat.blt t 227) (cond (Nat.blt t 225) (cond (Nat.blt t 224) (cond (Nat.beq t 223) (some ty223) none) (cond (Nat.beq t 224) (some ty224) none)) (cond (Nat.blt t 226) (cond (Nat.beq t 225) (some ty225) none) (cond (Nat.beq t 226) (some ty226) none))) (cond (Nat.blt t 229) (cond (Nat.blt t 228) (cond (Nat.beq t 227) (some ty227) none) (cond (Nat.beq t 228) (some ty228) none)) (cond (Nat.blt t 231) (cond (Nat.beq t 229) (some ty229) none) (cond (Nat.beq t 231) (some ty231) none)))) (cond (Nat.blt t 237) (cond (Nat.blt t 234) (cond (Nat.blt t 233) (cond (Nat.beq t 232) (some ty232) none) (cond (Nat.beq t 233) (some ty233) none)) (cond (Nat.blt t 236) (cond (Nat.beq t 234) (some ty234) none) (cond (Nat.beq t 236) (some ty236) none))) (cond (Nat.blt t 240) (cond (Nat.blt t 238) (cond (Nat.beq t 237) (some ty237) none) (cond (Nat.beq t 238) (some ty238) none)) (cond (Nat.blt t 241) (cond (Nat.beq t 240) (some ty240) none) (cond (Nat.beq t 241) (some ty241) none)))))) (cond (Nat.blt t 258) (cond (Nat.blt t 250) (cond (Nat.blt t 246) (cond (Nat.blt t 244) (cond (Nat.blt t 243) (cond (Nat.beq t 242) (some ty242) none) (cond (Nat.beq t 243) (some ty243) none)) (cond (Nat.blt t 245) (cond (Nat.beq t 244) (some ty244) none) (cond (Nat.beq t 245) (some ty245) none))) (cond (Nat.blt t 248) (cond (Nat.blt t 247) (cond (Nat.beq t 246) (some ty246) none) (cond (Nat.beq t 247) (some ty247) none)) (cond (Nat.blt t 249) (cond (Nat.beq t 248) (some ty248) none) (cond (Nat.beq t 249) (some ty249) none)))) (cond (Nat.blt t 254) (cond (Nat.blt t 252) (cond (Nat.blt t 251) (cond (Nat.beq t 250) (some ty250) none) (cond (Nat.beq t 251) (some ty251) none)) (cond (Nat.blt t 253) (cond (Nat.beq t 252) (some ty252) none) (cond (Nat.beq t 253) (some ty253) none))) (cond (Nat.blt t 256) (cond (Nat.blt t 255) (cond (Nat.beq t 254) (some ty254) none) (cond (Nat.beq t 255) (some ty255) none)) (cond (Nat.blt t 257) (cond (Nat.beq t 256) (some ty256) none) (cond (Nat.beq t 257) (some ty257) none))))) (cond (Nat.blt t 266) (cond (Nat.blt t 262) (cond (Nat.blt t 260) (cond (Nat.blt t 259) (cond (Nat.beq t 258) (some ty258) none) (cond (Nat.beq t 259) (some ty259) none)) (cond (Nat.blt t 261) (cond (Nat.beq t 260) (some ty260) none) (cond (Nat.beq t 261) (some ty261) none))) (cond (Nat.blt t 264) (cond (Nat.blt t 263) (cond (Nat.beq t 262) (some ty262) none) (cond (Nat.beq t 263) (some ty263) none)) (cond (Nat.blt t 265) (cond (Nat.beq t 264) (some ty264) none) (cond (Nat.beq t 265) (some ty265) none)))) (cond (Nat.blt t 270) (cond (Nat.blt t 268) (cond (Nat.blt t 267) (cond (Nat.beq t 266) (some ty266) none) (cond (Nat.beq t 267) (some ty267) none)) (cond (Nat.blt t 269) (cond (Nat.beq t 268) (some ty268) none) (cond (Nat.beq t 269) (some ty269) none))) (cond (Nat.blt t 272) (cond (Nat.blt t 271) (cond (Nat.beq t 270) (some ty270) none) (cond (Nat.beq t 271) (some ty271) none)) (cond (Nat.blt t 273) (cond (Nat.beq t 272) (some ty272) none) (cond (Nat.beq t 273) (some ty273) none)))))))))
theorem ty1_ok : TyOk Tryz.prog 1 ty1 :=
  ⟨⟨Tryz.t1, by kernel_rfl, rfl, rfl, _, rfl, fun ρ => by simp [ty1, γ]⟩, rfl, by first | (intro h; cases h; done) | (intro _; rfl), rfl, ⟨_, _, _, Tryz.underlying1⟩, rfl, fun ks h => by cases h⟩
theorem ty2_ok : TyOk Tryz.prog 2 ty2 :=
  ⟨⟨Tryz.t2, by kernel_rfl, rfl, rfl, _, rfl, fun ρ => by simp [ty2, γ]⟩, rfl, by first | (intro h; cases h; done) | (intro _; rfl), rfl, Tryz.underlying2, rfl, fun ks h => by cases h⟩
theorem ty3_ok : TyOk Tryz.prog 3 ty3 :=
  ⟨⟨Tryz.t3, by kernel_rfl, rfl, rfl, _, rfl, fun ρ => by simp [ty3, γ]⟩, rfl, by first | (intro h; cases h; done) | (intro _; rfl), rfl, Tryz.underlying3, rfl, fun ks h => by cases h⟩
theorem ty4_ok : TyOk Tryz.prog 4 ty4 :=
  ⟨⟨Tryz.t4, by kernel_rfl, rfl, rfl, _, rfl, fun ρ => by simp [ty4, γ]⟩, rfl, by first | (intro h; cases h; done) | (intro _; rfl), rfl, Tryz.underlying4, rfl, fun ks h => by cases h⟩
theorem ty5_ok : TyOk Tryz.prog 5 ty5 :=
  ⟨⟨Tryz.t5, by kernel_rfl, rfl, rfl, _, rfl, fun ρ => by simp [ty5, γ]⟩, rfl, by first | (intro h; cases h; done) | (intro _; rfl), rfl, Tryz.underlying5, rfl, fun ks h => by cases h⟩
theorem ty6_ok : TyOk Tryz.prog 6 ty6 :=
  ⟨⟨Tryz.t6, by kernel_rfl, rfl, rfl, _, rfl, fun ρ => by simp [ty6, γ]⟩, rfl, by first | (intro h; cases h; done) | (intro _; rfl), rfl, Tryz.underlying6, rfl, fun ks h => by cases h⟩
theorem ty7_ok : TyOk Tryz.prog 7 ty7 :=
  ⟨⟨Tryz.t7, by kernel_rfl, rfl, rfl, _, rfl, fun ρ => by simp [ty7, γ, γL]⟩, rfl, by first | (intro h; cases h; done) | (intro _; rfl), rfl, ⟨_, Tryz.underlying7, rfl⟩, rfl, fun ks h => flatOk_of (d := 12) (by decide) (by cases h; kernel_rfl) Tryz.eqGuardType7 (by rw [Tryz.underlying7])⟩
theorem ty8_ok : TyOk Tryz.prog 8 ty8 :=
  ⟨⟨Tryz.t8, by kernel_rfl, rfl, rfl, _, rfl, fun ρ => by simp [ty8, γ, γL]⟩, rfl, by first | (intro h; cases h; done) | (intro _; rfl), rfl, ⟨_, Tryz.underlying8, rfl⟩, rfl, fun ks h => flatOk_of (d := 12) (by decide) (by cases h; kernel_rfl) Tryz.eqGuardType8 (by rw [Tryz.underlying8])⟩
theorem ty9_ok : TyOk Tryz.prog 9 ty9 :=
  ⟨⟨Tryz.t9, by kernel_rfl, rfl, rfl, _, rfl, fun ρ => by simp [ty9, γ]⟩, rfl, by first | (intro h; cases h; done) | (intro _; rfl), rfl, Tryz.underlying9, rfl, fun ks h => by cases h⟩
theorem ty10_ok : TyOk Tryz.prog 10 ty10 :=
  ⟨⟨Tryz.t10, by kernel_rfl, rfl, rfl, _, rfl, fun ρ => by simp [ty10, γ]⟩, rfl, by first | (intro h; cases h; done) | (intro _; rfl), rfl, Tryz.underlying10, rfl, fun ks h => by cases h⟩
theorem ty11_ok : TyOk Tryz.prog 11 ty11 :=
  ⟨⟨Tryz.t11, by kernel_rfl, rfl, rfl, _, rfl, fun ρ => by simp [ty11, γ]⟩, rfl, by first | (intro h; cases h; done) | (intro _; rfl), rfl, Tryz.underlying11, rfl, fun ks h => by cases h⟩
theorem ty12_ok : TyOk Tryz.prog 12 ty12 :=
  ⟨⟨Tryz.t12, by kernel_rfl, rfl, rfl, _, rfl, fun ρ => by simp [ty12, γ]⟩, rfl, by first | (intro h; cases h; done) | (intro _; rfl), rfl, Tryz.underlying12, rfl, fun ks h => by cases h⟩
theorem ty13_ok : TyOk Tryz.prog 13 ty13 :=
  ⟨⟨Tryz.t13, by kernel_rfl, rfl, rfl, _, rfl, fun ρ => by simp [ty13, γ, γL]⟩, rfl, by first | (intro h; cases h; done) | (intro _; rfl), rfl, ⟨_, Tryz.underlying13, rfl⟩, rfl, fun ks h => by cases h⟩
theorem ty14_ok : TyOk Tryz.prog 14 ty14 :=
  ⟨⟨Tryz.t14, by kernel_rfl, rfl, rfl, _, rfl, fun ρ => by simp [ty14, γ, γL]⟩, rfl, by first | (intro h; cases h; done) | (intro _; rfl), rfl, ⟨_, Tryz.underlying14, rfl⟩, rfl, fun ks h => by cases h⟩
theorem ty15_ok : TyOk Tryz.prog 15 ty15 :=
  ⟨⟨Tryz.t15, by kernel_rfl, rfl, rfl, _, rfl, fun ρ => by simp [ty15, γ]⟩, rfl, by first | (intro h; cases h; done) | (intro _; rfl), rfl, Tryz.underlying15, rfl, fun ks h => by cases h⟩
theorem ty16_ok : TyOk Tryz.prog 16 ty16 :=
  ⟨⟨Tryz.t16, by kernel_rfl, rfl, rfl, _, rfl, fun ρ => by simp [ty16, γ]⟩, rfl, by first | (intro h; cases h; done) | (intro _; rfl), rfl, Tryz.underlying16, rfl, fun ks h => by cases h⟩
theorem ty17_ok : TyOk Tryz.prog 17 ty17 :=
  ⟨⟨Tryz.t17, by kernel_rfl, rfl, rfl, _, rfl, fun ρ => by simp [ty17, γ]⟩, rfl, by first | (intro h; cases h; done) | (intro _; rfl), rfl, Tryz.underlying17, rfl, fun ks h => by cases h⟩
theorem ty18_ok : TyOk Tryz.prog 18 ty18 :=
  ⟨⟨Tryz.t18, by kernel_rfl, rfl, rfl, _, rfl, fun ρ => by simp [ty18, γ, γL]⟩, rfl, by first | (intro h; cases h; done) | (intro _; rfl), rfl, ⟨_, Tryz.underlying18, rfl⟩, rfl, fun ks h => by cases h⟩
theorem ty19_ok : TyOk Tryz.prog 19 ty19 :=
  ⟨⟨Tryz.t19, by kernel_rfl, rfl, rfl, _, rfl, fun ρ => by simp [ty19, γ, γL]⟩, rfl, by first | (intro h; cases h; done) | (intro _; rfl), rfl, ⟨_, Tryz.underlying19, rfl⟩, rfl, fun ks h => by cases h⟩
theorem ty20_ok : TyOk Tryz.prog 20 ty20 :=
  ⟨⟨Tryz.t20, by kernel_rfl, rfl, rfl, _, rfl, fun ρ => by simp [ty20, γ]⟩, rfl, by first | (intro h; cases h; done) | (intro _; rfl), rfl, ⟨_, Tryz.underlying20⟩, rfl, fun ks h => by cases h⟩
theorem ty21_ok : TyOk Tryz.prog 21 ty21 :=
  ⟨⟨Tryz.t21, by kernel_rfl, rfl, rfl, _, rfl, fun ρ => by simp [ty21, γ]⟩, rfl, by first | (intro h; cases h; done) | (intro _; rfl), rfl, Tryz.underlying21, rfl, fun ks h => by cases h⟩
theorem ty22_ok : TyOk Tryz.prog 22 ty22 :=
  ⟨⟨Tryz.t22, by kernel_rfl, rfl, rfl, _, rfl, fun ρ => by simp [ty22, γ]⟩, rfl, by first | (intro h; cases h; done) | (intro _; rfl), rfl, Tryz.underlying22, rfl, fun ks h => by cases h⟩
theorem ty23_ok : TyOk Tryz.prog 23 ty23 :=
  ⟨⟨Tryz.t23, by kernel_rfl, rfl, rfl, _, rfl, fun ρ => by simp [ty23, γ, γL]⟩, rfl, by first | (intro h; cases h; done) | (intro _; rfl), rfl, ⟨_, Tryz.underlying23, rfl⟩, rfl, fun ks h => flatOk_of (d := 12) (by decide) (by cases h; kernel_rfl) Tryz.eqGuardType23 (by rw [Tryz.underlying23])⟩
theorem ty24_ok : TyOk Tryz.prog 24 ty24 :=
  ⟨⟨Tryz.t24, by kernel_rfl, rfl, rfl, _, rfl, fun ρ => by simp [ty24, γ, γL]⟩, rfl, by first | (intro h; cases h; done) | (intro _; rfl), rfl, ⟨_, Tryz.underlying24, rfl⟩, rfl, fun ks h => flatOk_of (d := 12) (by decide) (by cases h; kernel_rfl) Tryz.eqGuardType24 (by rw [Tryz.underlying24])⟩
theorem ty25_ok : TyOk Tryz.prog 25 ty25 :=
  ⟨⟨Tryz.t25, by kernel_rfl, rfl, rfl, _, rfl, fun ρ => by simp [ty25, γ]⟩, rfl, by first | (intro h; cases h; done) | (intro _; rfl), rfl, Tryz.underlying25, rfl, fun ks h => by cases h⟩
theorem ty26_ok : TyOk Tryz.prog 26 ty26 :=
  ⟨⟨Tryz.t26, by kernel_rfl, rfl, rfl, _, rfl, fun ρ => by simp [ty26, γ, γL]⟩, rfl, by first | (intro h; cases h; done) | (intro _; rfl), rfl, ⟨_, Tryz.underlying26, rfl⟩, rfl, fun ks h => by cases h⟩
theorem ty27_ok : TyOk Tryz.prog 27 ty27 :=
  ⟨⟨Tryz.t27, by kernel_rfl, rfl, rfl, _, rfl, fun ρ => by simp [ty27, γ, γL]⟩, rfl, by first | (intro h; cases h; done) | (intro _; rfl), rfl, ⟨_, Tryz.underlying27, rfl⟩, rfl, fun ks h => by cases h⟩
theorem ty28_ok : TyOk Tryz.prog 28 ty28 :=
  ⟨⟨Tryz.t28, by kernel_rfl, rfl, rfl, _, rfl, fun ρ => by simp [ty28, γ, γL]⟩, rfl, by first | (intro h; cases h; done) | (intro _; rfl), rfl, ⟨_, Tryz.underlying28, rfl⟩, rfl, fun ks h => flatOk_of (d := 12) (by decide) (by cases h; kernel_rfl) Tryz.eqGuardType28 (by rw [Tryz.underlying28])⟩
theorem ty29_ok : TyOk Tryz.prog 29 ty29 :=
  ⟨⟨Tryz.t29, by kernel_rfl, rfl, rfl, _, rfl, fun ρ => by simp [ty29, γ, γL]⟩, rfl, by first | (intro h; cases h; done) | (intro _; rfl), rfl, ⟨_, Tryz.underlying29, rfl⟩, rfl, fun ks h => flatOk_of (d := 12) (by decide) (by cases h; kernel_rfl) Tryz.eqGuardType29 (by rw [Tryz.underlying29])⟩
theorem ty30_ok : TyOk Tryz.prog 30 ty30 :=
  ⟨⟨Tryz.t30, by kernel_rfl, rfl, rfl, _, rfl, fun ρ => by simp [ty30, γ, γL]⟩, rfl, by first | (intro h; cases h; done) | (intro _; rfl), rfl, ⟨_, Tryz.underlying30, rfl⟩, rfl, fun ks h => flatOk_of (d := 12) (by decide) (by cases h; kernel_rfl) Tryz.eqGuardType30 (by rw [Tryz.underlying30])⟩
theorem ty31_ok : TyOk Tryz.prog 31 ty31 :=
  ⟨⟨Tryz.t31, by kernel_rfl, rfl, rfl, _, rfl, fun ρ => by simp [ty31, γ, γL]⟩, rfl, by first | (intro h; cases h; done) | (intro _; rfl), rfl, ⟨_, Tryz.underlying31, rfl⟩, rfl, fun ks h => flatOk_of (d := 12) (by decide) (by cases h; kernel_rfl) Tryz.eqGuardType31 (by rw [Tryz.underlying31])⟩
theorem ty32_ok : TyOk Tryz.prog 32 ty32 :=
  ⟨⟨Tryz.t32, by kernel_rfl, rfl, rfl, _, rfl, fun ρ => by simp [ty32, γ, γL]⟩, rfl, by first | (intro h; cases h; done) | (intro _; rfl), rfl, ⟨_, Tryz.underlying32, rfl⟩, rfl, fun ks h => by cases h⟩
theorem ty33_ok : TyOk Tryz.prog 33 ty33 :=
  ⟨⟨Tryz.t33, by kernel_rfl, rfl, rfl, _, rfl, fun ρ => by simp [ty33, γ, γL]⟩, rfl, by first | (intro h; cases h; done) | (intro _; rfl), rfl, ⟨_, Tryz.underlying33, rfl⟩, rfl, fun ks h => by cases h⟩
theorem ty34_ok : TyOk Tryz.prog 34 ty34 :=
  ⟨⟨Tryz.t34, by kernel_rfl, rfl, rfl, _, rfl, fun ρ => by simp [ty34, γ, γL]⟩, rfl, by first | (intro h; cases h; done) | (intro _; rfl), rfl, ⟨_, Tryz.underlying34, rfl⟩, rfl, fun ks h => by cases h⟩
theorem ty35_ok : TyOk Tryz.prog 35 ty35 :=
  ⟨⟨Tryz.t35, by kernel_rfl, rfl, rfl, _, rfl, fun ρ => by simp [ty35, γ, γL]⟩, rfl, by first | (intro h; cases h; done) | (intro _; rfl), rfl, ⟨_, Tryz.underlying35, rfl⟩, rfl, fun ks h => by cases h⟩
theorem ty36_ok : TyOk Tryz.prog 36 ty36 :=
  ⟨⟨Tryz.t36, by kernel_rfl, rfl, rfl, _, rfl, fun ρ => by simp [ty36, γ, γL]⟩, rfl, by first | (intro h; cases h; done) | (intro _; rfl), rfl, ⟨_, Tryz.underlying36, rfl⟩, rfl, fun ks h => flatOk_of (d := 12) (by decide) (by cases h; kernel_rfl) Tryz.eqGuardType36 (by rw [Tryz.underlying36])⟩
theorem ty37_ok : TyOk Tryz.prog 37 ty37 :=
  ⟨⟨Tryz.t37, by kernel_rfl, rfl, rfl, _, rfl, fun ρ => by simp [ty37, γ, γL]⟩, rfl, by first | (intro h; cases h; done) | (intro _; rfl), rfl, ⟨_, Tryz.underlying37, rfl⟩, rfl, fun ks h => flatOk_of (d := 12) (by decide) (by cases h; kernel_rfl) Tryz.eqGuardType37 (by rw [Tryz.underlying37])⟩
theorem ty38_ok : TyOk Tryz.prog 38 ty38 :=
  ⟨⟨Tryz.t38, by kernel_rfl, rfl, rfl, _, rfl, fun ρ => by simp [ty38, γ, γL]⟩, rfl, by first | (intro h; cases h; done) | (intro _; rfl), rfl, ⟨_, Tryz.underlying38, rfl⟩, rfl, fun ks h => flatOk_of (d := 12) (by decide) (by cases h; kernel_rfl) Tryz.eqGuardType38 (by rw [Tryz.underlying38])⟩
theorem ty39_ok : TyOk Tryz.prog 39 ty39 :=
  ⟨⟨Tryz.t39, by kernel_rfl, rfl, rfl, _, rfl, fun ρ => by simp [ty39, γ, γL]⟩, rfl, by first | (intro h; cases h; done) | (intro _; rfl), rfl, ⟨_, Tryz.underlying39, rfl⟩, rfl, fun ks h => flatOk_of (d := 12) (by decide) (by cases h; kernel_rfl) Tryz.eqGuardType39 (by rw [Tryz.underlying39])⟩
theorem ty40_ok : TyOk Tryz.prog 40 ty40 :=
  ⟨⟨Tryz.t40, by kernel_rfl, rfl, rfl, _, rfl, fun ρ => by simp [ty40, γ]⟩, rfl, by first | (intro h; cases h; done) | (intro _; rfl), rfl, Tryz.underlying40, rfl, fun ks h => by cases h⟩
theorem ty41_ok : TyOk Tryz.prog 41 ty41 :=
  ⟨⟨Tryz.t41, by kernel_rfl, rfl, rfl, _, rfl, fun ρ => by simp [ty41, γ]⟩, rfl, by first | (intro h; cases h; done) | (intro _; rfl), rfl, Tryz.underlying41, rfl, fun ks h => by cases h⟩
theorem ty42_ok : TyOk Tryz.prog 42 ty42 :=
  ⟨⟨Tryz.t42, by kernel_rfl, rfl, rfl, _, rfl, fun ρ => by simp [ty42, γ, γL]⟩, rfl, by first | (intro h; cases h; done) | (intro _; rfl), rfl, ⟨_, Tryz.underlying42, rfl⟩, rfl, fun ks h => by cases h⟩
theorem ty43_ok : TyOk Tryz.prog 43 ty43 :=
  ⟨⟨Tryz.t43, by kernel_rfl, rfl, rfl, _, rfl, fun ρ => by simp [ty43, γ, γL]⟩, rfl, by first | (intro h; cases h; done) | (intro _; rfl), rfl, ⟨_, Tryz.underlying43, rfl⟩, rfl, fun ks h => by cases h⟩
theorem ty44_ok : TyOk Tryz.prog 44 ty44 :=
  ⟨⟨Tryz.t44, by kernel_rfl, rfl, rfl, _, rfl, fun ρ => by simp [ty44, γ]⟩, rfl, by first | (intro h; cases h; done) | (intro _; rfl), rfl, Tryz.underlying44, rfl, fun ks h => by cases h⟩
theorem ty45_ok : TyOk Tryz.prog 45 ty45 :=
  ⟨⟨Tryz.t45, by kernel_rfl, rfl, rfl, _, rfl, fun ρ => by simp [ty45, γ, γL]⟩, rfl, by first | (intro h; cases h; done) | (intro _; rfl), rfl, ⟨_, Tryz.underlying45, rfl⟩, rfl, fun ks h => by cases h⟩
theorem ty46_ok : TyOk Tryz.prog 46 ty46 :=
  ⟨⟨Tryz.t46, by kernel_rfl, rfl, rfl, _, rfl, fun ρ => by simp [ty46, γ, γL]⟩, rfl, by first | (intro h; cases h; done) | (intro _; rfl), rfl, ⟨_, Tryz.underlying46, rfl⟩, rfl, fun ks h => by cases h⟩
theorem ty47_ok : TyOk Tryz.prog 47 ty47 :=
  ⟨⟨Tryz.t47, by kernel_rfl, rfl, rfl, _, rfl, fun ρ => by simp [ty47, γ]⟩, rfl, by first | (intro h; cases h; done) | (intro _; rfl), rfl, Tryz.underlying47, rfl, fun ks h => by cases h⟩
theorem ty49_ok : TyOk Tryz.prog 49 ty49 :=
  ⟨⟨Tryz.t49, by kernel_rfl, rfl, rfl, _, rfl, fun ρ => by simp [ty49, γ]⟩, rfl, by first | (intro h; cases h; done) | (intro _; rfl), rfl, ⟨_, _, _, Tryz.underlying49⟩, rfl, fun ks h => by cases h⟩
theorem ty50_ok : TyOk Tryz.prog 50 ty50 :=
  ⟨⟨Tryz.t50, by kernel_rfl, rfl, rfl, _, rfl, fun ρ => by simp [ty50, γ]⟩, rfl, by first | (intro h; cases h; done) | (intro _; rfl), rfl, Tryz.underlying50, rfl, fun ks h => by cases h⟩
theorem ty52_ok : TyOk Tryz.prog 52 ty52 :=
  ⟨⟨Tryz.t52, by kernel_rfl, rfl, rfl, _, rfl, fun ρ => by simp [ty52, γ]⟩, rfl, by first | (intro h; cases h; done) | (intro _; rfl), rfl, ⟨_, _, _, Tryz.underlying52⟩, rfl, fun ks h => by cases h⟩
theorem ty53_ok : TyOk Tryz.prog 53 ty53 :=
  ⟨⟨Tryz.t53, by kernel_rfl, rfl, rfl, _, rfl, fun ρ => by simp [ty53, γ]⟩, rfl, by first | (intro h; cases h; done) | (intro _; rfl), rfl, ⟨_, _, _, Tryz.underlying53⟩, rfl, fun ks h => by cases h⟩
theorem ty54_ok : TyOk Tryz.prog 54 ty54 :=
  ⟨⟨Tryz.t54, by kernel_rfl, rfl, rfl, _, rfl, fun ρ => by simp [ty54, γ]⟩, rfl, by first | (intro h; cases h; done) | (intro _; rfl), rfl, ⟨_, _, _, Tryz.underlying54⟩, rfl, fun ks h => by cases h⟩
theorem ty55_ok : TyOk Tryz.prog 55 ty55 :=
  ⟨⟨Tryz.t55, by kernel_rfl, rfl, rfl, _, rfl, fun ρ => by simp [ty55, γ]⟩, rfl, by first | (intro h; cases h; done) | (intro _; rfl), rfl, ⟨_, _, _, Tryz.underlying55⟩, rfl, fun ks h => by cases h⟩
theorem ty56_ok : TyOk Tryz.prog 56 ty56 :=
  ⟨⟨Tryz.t56, by kernel_rfl, rfl, rfl, _, rfl, fun ρ => by simp [ty56, γ]⟩, rfl, by first | (intro h; cases h; done) | (intro _; rfl), rfl, Tryz.underlying56, rfl, fun ks h => by cases h⟩
theorem ty57_ok : TyOk Tryz.prog 57 ty57 :=
  ⟨⟨Tryz.t57, by kernel_rfl, rfl, rfl, _, rfl, fun ρ => by simp [ty57, γ]⟩, rfl, by first | (intro h; cases h; done) | (intro _; rfl), rfl, ⟨_, _, _, Tryz.underlying57⟩, rfl, fun ks h => by cases h⟩
theorem ty58_ok : TyOk Tryz.prog 58 ty58 :=
  ⟨⟨Tryz.t58, by kernel_rfl, rfl, rfl, _, rfl, fun ρ => by simp [ty58, γ]⟩, rfl, by first | (intro h; cases h; done) | (intro _; rfl), rfl, Tryz.underlying58, rfl, fun ks h => by cases h⟩
theorem ty59_ok : TyOk Tryz.prog 59 ty59 :=
  ⟨⟨Tryz.t59, by kernel_rfl, rfl, rfl, _, rfl, fun ρ => by simp [ty59, γ]⟩, rfl, by first | (intro h; cases h; done) | (intro _; rfl), rfl, ⟨_, _, _, Tryz.underlying59⟩, rfl, fun ks h => by cases h⟩
theorem ty60_ok : TyOk Tryz.prog 60 ty60 :=
  ⟨⟨Tryz.t60, by kernel_rfl, rfl, rfl, _, rfl, fun ρ => by simp [ty60, γ]⟩, rfl, by first | (intro h; cases h; done) | (intro _; rfl), rfl, ⟨_, _, _, Tryz.underlying60⟩, rfl, fun ks h => by cases h⟩
theorem ty61_ok : TyOk Tryz.prog 61 ty61 :=
  ⟨⟨Tryz.t61, by kernel_rfl, rfl, rfl, _, rfl, fun ρ => by simp [ty61, γ]⟩, rfl, by first | (intro h; cases h; done) | (intro _; rfl), rfl, ⟨_, _, _, Tryz.underlying61⟩, rfl, fun ks h => by cases h⟩
theorem ty62_ok : TyOk Tryz.prog 62 ty62 :=
  ⟨⟨Tryz.t62, by kernel_rfl, rfl, rfl, _, rfl, fun ρ => by simp [ty62, γ]⟩, rfl, by first | (intro h; cases h; done) | (intro _; rfl), rfl, ⟨_, _, _, Tryz.underlying62⟩, rfl, fun ks h => by cases h⟩
theorem ty64_ok : TyOk Tryz.prog 64 ty64 :=
  ⟨⟨Tryz.t64, by kernel_rfl, rfl, rfl, _, rfl, fun ρ => by simp [ty64, γ]⟩, rfl, by first | (intro h; cases h; done) | (intro _; rfl), rfl, ⟨_, _, _, Tryz.underlying64⟩, rfl, fun ks h => by cases h⟩
theorem ty66_ok : TyOk Tryz.prog 66 ty66 :=
  ⟨⟨Tryz.t66, by kernel_rfl, rfl, rfl, _, rfl, fun ρ => by simp [ty66, γ]⟩, rfl, by first | (intro h; cases h; done) | (intro _; rfl), rfl, ⟨_, _, _, Tryz.underlying66⟩, rfl, fun ks h => by cases h⟩
theorem ty67_ok : TyOk Tryz.prog 67 ty67 :=
  ⟨⟨Tryz.t67, by kernel_rfl, rfl, rfl, _, rfl, fun ρ => by simp [ty67, γ]⟩, rfl, by first | (intro h; cases h; done) | (intro _; rfl), rfl, ⟨_, _, _, Tryz.underlying67⟩, rfl, fun ks h => by cases h⟩
theorem ty69_ok : TyOk Tryz.prog 69 ty69 :=
  ⟨⟨Tryz.t69, by kernel_rfl, rfl, rfl, _, rfl, fun ρ => by simp [ty69, γ]⟩, rfl, by first | (intro h; cases h; done) | (intro _; rfl), rfl, ⟨_, _, _, Tryz.underlying69⟩, rfl, fun ks h => by cases h⟩
theorem ty70_ok : TyOk Tryz.prog 70 ty70 :=
  ⟨⟨Tryz.t70, by kernel_rfl, rfl, rfl, _, rfl, fun ρ => by simp [ty70, γ]⟩, rfl, by first | (intro h; cases h; done) | (intro _; rfl), rfl, ⟨_, _, _, Tryz.underlying70⟩, rfl, fun ks h => by cases h⟩
theorem ty71_ok : TyOk Tryz.prog 71 ty71 :=
  ⟨⟨Tryz.t71, by kernel_rfl, rfl, rfl, _, rfl, fun ρ => by simp [ty71, γ]⟩, rfl, by first | (intro h; cases h; done) | (intro _; rfl), rfl, ⟨_, _, _, Tryz.underlying71⟩, rfl, fun ks h => by cases h⟩
theorem ty72_ok : TyOk Tryz.prog 72 ty72 :=
  ⟨⟨Tryz.t72, by kernel_rfl, rfl, rfl, _, rfl, fun ρ => by simp [ty72, γ]⟩, rfl, by first | (intro h; cases h; done) | (intro _; rfl), rfl, ⟨_, _, _, Tryz.underlying72⟩, rfl, fun ks h => by cases h⟩
theorem ty73_ok : TyOk Tryz.prog 73 ty73 :=
  ⟨⟨Tryz.t73, by kernel_rfl, rfl, rfl, _, rfl, fun ρ => by simp [ty73, γ]⟩, rfl, by first | (intro h; cases h; done) | (intro _; rfl), rfl, ⟨_, _, _, Tryz.underlying73⟩, rfl, fun ks h => by cases h⟩
theorem ty74_ok : TyOk Tryz.prog 74 ty74 :=
  ⟨⟨Tryz.t74, by kernel_rfl, rfl, rfl, _, rfl, fun ρ => by simp [ty74, γ]⟩, rfl, by first | (intro h; cases h; done) | (intro _; rfl), rfl, ⟨_, _, _, Tryz.underlying74⟩, rfl, fun ks h => by cases h⟩
theorem ty75_ok : TyOk Tryz.prog 75 ty75 :=
  ⟨⟨Tryz.t75, by kernel_rfl, rfl, rfl, _, rfl, fun ρ => by simp [ty75, γ, γL]⟩, rfl, by first | (intro h; cases h; done) | (intro _; rfl), rfl, ⟨_, Tryz.underlying75, rfl⟩, rfl, fun ks h => flatOk_of (d := 12) (by decide) (by cases h; kernel_rfl) Tryz.eqGuardType75 (by rw [Tryz.underlying75])⟩
theorem ty76_ok : TyOk Tryz.prog 76 ty76 :=
  ⟨⟨Tryz.t76, by kernel_rfl, rfl, rfl, _, rfl, fun ρ => by simp [ty76, γ, γL]⟩, rfl, by first | (intro h; cases h; done) | (intro _; rfl), rfl, ⟨_, Tryz.underlying76, rfl⟩, rfl, fun ks h => flatOk_of (d := 12) (by decide) (by cases h; kernel_rfl) Tryz.eqGuardType76 (by rw [Tryz.underlying76])⟩
theorem ty77_ok : TyOk Tryz.prog 77 ty77 :=
  ⟨⟨Tryz.t77, by kernel_rfl, rfl, rfl, _, rfl, fun ρ => by simp [ty77, γ]⟩, rfl, by first | (intro h; cases h; done) | (intro _; rfl), rfl, ⟨_, _, _, Tryz.underlying77⟩, rfl, fun ks h => by cases h⟩
theorem ty78_ok : TyOk Tryz.prog 78 ty78 :=
  ⟨⟨Tryz.t78, by kernel_rfl, rfl, rfl, _, rfl, fun ρ => by simp [ty78, γ]⟩, rfl, by first | (intro h; cases h; done) | (intro _; rfl), rfl, ⟨_, _, _, Tryz.underlying78⟩, rfl, fun ks h => by cases h⟩
theorem ty79_ok : TyOk Tryz.prog 79 ty79 :=
  ⟨⟨Tryz.t79, by kernel_rfl, rfl, rfl, _, rfl, fun ρ => by simp [ty79, γ]⟩, rfl, by first | (intro h; cases h; done) | (intro _; rfl), rfl, ⟨_, _, _, Tryz.underlying79⟩, rfl, fun ks h => by cases h⟩
theorem ty80_ok : TyOk Tryz.prog 80 ty80 :=
  ⟨⟨Tryz.t80, by kernel_rfl, rfl, rfl, _, rfl, fun ρ => by simp [ty80, γ]⟩, rfl, by first | (intro h; cases h; done) | (intro _; rfl), rfl, ⟨_, _, _, Tryz.underlying80⟩, rfl, fun ks h => by cases h⟩
theorem ty81_ok : TyOk Tryz.prog 81 ty81 :=
  ⟨⟨Tryz.t81, by kernel_rfl, rfl, rfl, _, rfl, fun ρ => by simp [ty81, γ]⟩, rfl, by first | (intro h; cases h; done) | (intro _; rfl), rfl, ⟨_, _, _, Tryz.underlying81⟩, rfl, fun ks h => by cases h⟩
theorem ty82_ok : TyOk Tryz.prog 82 ty82 :=
  ⟨⟨Tryz.t82, by kernel_rfl, rfl, rfl, _, rfl, fun ρ => by simp [ty82, γ]⟩, rfl, by first | (intro h; cases h; done) | (intro _; rfl), rfl, ⟨_, _, _, Tryz.underlying82⟩, rfl, fun ks h => by cases h⟩
theorem ty83_ok : TyOk Tryz.prog 83 ty83 :=
  ⟨⟨Tryz.t83, by kernel_rfl, rfl, rfl, _, rfl, fun ρ => by simp [ty83, γ]⟩, rfl, by first | (intro h; cases h; done) | (intro _; rfl), rfl, ⟨_, _, _, Tryz.underlying83⟩, rfl, fun ks h => by cases h⟩
theorem ty84_ok : TyOk Tryz.prog 84 ty84 :=
  ⟨⟨Tryz.t84, by kernel_rfl, rfl, rfl, _, rfl, fun ρ => by simp [ty84, γ]⟩, rfl, by first | (intro h; cases h; done) | (intro _; rfl), rfl, ⟨_, _, _, Tryz.underlying84⟩, rfl, fun ks h => by cases h⟩
theorem ty85_ok : TyOk Tryz.prog 85 ty85 :=
  ⟨⟨Tryz.t85, by kernel_rfl, rfl, rfl, _, rfl, fun ρ => by simp [ty85, γ]⟩, rfl, by first | (intro h; cases h; done) | (intro _; rfl), rfl, ⟨_, _, _, Tryz.underlying85⟩, rfl, fun ks h => by cases h⟩
theorem ty86_ok : TyOk Tryz.prog 86 ty86 :=
  ⟨⟨Tryz.t86, by kernel_rfl, rfl, rfl, _, rfl, fun ρ => by simp [ty86, γ]⟩, rfl, by first | (intro h; cases h; done) | (intro _; rfl), rfl, Tryz.underlying86, rfl, fun ks h => by cases h⟩
theorem ty88_ok : TyOk Tryz.prog 88 ty88 :=
  ⟨⟨Tryz.t88, by kernel_rfl, rfl, rfl, _, rfl, fun ρ => by simp [ty88, γ]⟩, rfl, by first | (intro h; cases h; done) | (intro _; rfl), rfl, ⟨_, _, _, Tryz.underlying88⟩, rfl, fun ks h => by cases h⟩
theorem ty89_ok : TyOk Tryz.prog 89 ty89 :=
  ⟨⟨Tryz.t89, by kernel_rfl, rfl, rfl, _, rfl, fun ρ => by simp [ty89, γ]⟩, rfl, by first | (intro h; cases h; done) | (intro _; rfl), rfl, ⟨_, _, _, Tryz.underlying89⟩, rfl, fun ks h => by cases h⟩
theorem ty90_ok : TyOk Tryz.prog 90 ty90 :=
  ⟨⟨Tryz.t90, by kernel_rfl, rfl, rfl, _, rfl, fun ρ => by simp [ty90, γ]⟩, rfl, by first | (intro h; cases h; done) | (intro _; rfl), rfl, Tryz.underlying90, rfl, fun ks h => by cases h⟩
theorem ty92_ok : TyOk Tryz.prog 92 ty92 :=
  ⟨⟨Tryz.t92, by kernel_rfl, rfl, rfl, _, rfl, fun ρ => by simp [ty92, γ]⟩, rfl, by first | (intro h; cases h; done) | (intro _; rfl), rfl, Tryz.underlying92, rfl, fun ks h => by cases h⟩
theorem ty93_ok : TyOk Tryz.prog 93 ty93 :=
  ⟨⟨Tryz.t93, by kernel_rfl, rfl, rfl, _, rfl, fun ρ => by simp [ty93, γ]⟩, rfl, by first | (intro h; cases h; done) | (intro _; rfl), rfl, Tryz.underlying93, rfl, fun ks h => by cases h⟩
theorem ty94_ok : TyOk Tryz.prog 94 ty94 :=
  ⟨⟨Tryz.t94, by kernel_rfl, rfl, rfl, _, rfl, fun ρ => by simp [ty94, γ, γL]⟩, rfl, by first | (intro h; cases h; done) | (intro _; rfl), rfl, ⟨_, Tryz.underlying94, rfl⟩, rfl, fun ks h => by cases h⟩
theorem ty95_ok : TyOk Tryz.prog 95 ty95 :=
  ⟨⟨Tryz.t95, by kernel_rfl, rfl, rfl, _, rfl, fun ρ => by simp [ty95, γ, γL]⟩, rfl, by first | (intro h; cases h; done) | (intro _; rfl), rfl, ⟨_, Tryz.underlying95, rfl⟩, rfl, fun ks h => by cases h⟩
theorem ty96_ok : TyOk Tryz.prog 96 ty96 :=
  ⟨⟨Tryz.t96, by kernel_rfl, rfl, rfl, _, rfl, fun ρ => by simp [ty96, γ]⟩, rfl, by first | (intro h; cases h; done) | (intro _; rfl), rfl, ⟨_, _, _, Tryz.underlying96⟩, rfl, fun ks h => by cases h⟩
theorem ty97_ok : TyOk Tryz.prog 97 ty97 :=
  ⟨⟨Tryz.t97, by kernel_rfl, rfl, rfl, _, rfl, fun ρ => by simp [ty97, γ]⟩, rfl, by first | (intro h; cases h; done) | (intro _; rfl), rfl, ⟨_, _, _, Tryz.underlying97⟩, rfl, fun ks h => by cases h⟩
theorem ty98_ok : TyOk Tryz.prog 98 ty98 :=
  ⟨⟨Tryz.t98, by kernel_rfl, rfl, rfl, _, rfl, fun ρ => by simp [ty98, γ, γL]⟩, rfl, by first | (intro h; cases h; done) | (intro _; rfl), rfl, ⟨_, Tryz.underlying98, rfl⟩, rfl, fun ks h => flatOk_of (d := 12) (by decide) (by cases h; kernel_rfl) Tryz.eqGuardType98 (by rw [Tryz.underlying98])⟩
theorem ty99_ok : TyOk Tryz.prog 99 ty99 :=
  ⟨⟨Tryz.t99, by kernel_rfl, rfl, rfl, _, rfl, fun ρ => by simp [ty99, γ, γL]⟩, rfl, by first | (intro h; cases h; done) | (intro _; rfl), rfl, ⟨_, Tryz.underlying99, rfl⟩, rfl, fun ks h => flatOk_of (d := 12) (by decide) (by cases h; kernel_rfl) Tryz.eqGuardType99 (by rw [Tryz.underlying99])⟩
theorem ty100_ok : TyOk Tryz.prog 100 ty100 :=
  ⟨⟨Tryz.t100, by kernel_rfl, rfl, rfl, _, rfl, fun ρ => by simp [ty100, γ]⟩, rfl, by first | (intro h; cases h; done) | (intro _; rfl), rfl, ⟨_, _, _, Tryz.underlying100⟩, rfl, fun ks h => by cases h⟩
theorem ty101_ok : TyOk Tryz.prog 101 ty101 :=
  ⟨⟨Tryz.t101, by kernel_rfl, rfl, rfl, _, rfl, fun ρ => by simp [ty101, γ]⟩, rfl, by first | (intro h; cases h; done) | (intro _; rfl), rfl, ⟨_, _, _, Tryz.underlying101⟩, rfl, fun ks h => by cases h⟩
theorem ty102_ok : TyOk Tryz.prog 102 ty102 :=
  ⟨⟨Tryz.t102, by kernel_rfl, rfl, rfl, _, rfl, fun ρ => by simp [ty102, γ]⟩, rfl, by first | (intro h; cases h; done) | (intro _; rfl), rfl, ⟨_, _, _, Tryz.underlying102⟩, rfl, fun ks h => by cases h⟩
theorem ty103_ok : TyOk Tryz.prog 103 ty103 :=
  ⟨⟨Tryz.t103, by kernel_rfl, rfl, rfl, _, rfl, fun ρ => by simp [ty103, γ]⟩, rfl, by first | (intro h; cases h; done) | (intro _; rfl), rfl, ⟨_, _, _, Tryz.underlying103⟩, rfl, fun ks h => by cases h⟩
theorem ty104_ok : TyOk Tryz.prog 104 ty104 :=
  ⟨⟨Tryz.t104, by kernel_rfl, rfl, rfl, _, rfl, fun ρ => by simp [ty104, γ]⟩, rfl, by first | (intro h; cases h; done) | (intro _; rfl), rfl, ⟨_, _, _, Tryz.underlying104⟩, rfl, fun ks h => by cases h⟩
theorem ty105_ok : TyOk Tryz.prog 105 ty105 :=
  ⟨⟨Tryz.t105, by kernel_rfl, rfl, rfl, _, rfl, fun ρ => by simp [ty105, γ]⟩, rfl, by first | (intro h; cases h; done) | (intro _; rfl), rfl, ⟨_, _, _, Tryz.underlying105⟩, rfl, fun ks h => by cases h⟩
theorem ty106_ok : TyOk Tryz.prog 106 ty106 :=
  ⟨⟨Tryz.t106, by kernel_rfl, rfl, rfl, _, rfl, fun ρ => by simp [ty106, γ]⟩, rfl, by first | (intro h; cases h; done) | (intro _; rfl), rfl, ⟨_, _, _, Tryz.underlying106⟩, rfl, fun ks h => by cases h⟩
theorem ty108_ok : TyOk Tryz.prog 108 ty108 :=
  ⟨⟨Tryz.t108, by kernel_rfl, rfl, rfl, _, rfl, fun ρ => by simp [ty108, γ]⟩, rfl, by first | (intro h; cases h; done) | (intro _; rfl), rfl, ⟨_, _, _, Tryz.underlying108⟩, rfl, fun ks h => by cases h⟩
theorem ty109_ok : TyOk Tryz.prog 109 ty109 :=
  ⟨⟨Tryz.t109, by kernel_rfl, rfl, rfl, _, rfl, fun ρ => by simp [ty109, γ]⟩, rfl, by first | (intro h; cases h; done) | (intro _; rfl), rfl, ⟨_, _, _, Tryz.underlying109⟩, rfl, fun ks h => by cases h⟩
theorem ty110_ok : TyOk Tryz.prog 110 ty110 :=
  ⟨⟨Tryz.t110, by kernel_rfl, rfl, rfl, _, rfl, fun ρ => by simp [ty110, γ]⟩, rfl, by first | (intro h; cases h; done) | (intro _; rfl), rfl, ⟨_, _, _, Tryz.underlying110⟩, rfl, fun ks h => by cases h⟩
theorem ty111_ok : TyOk Tryz.prog 111 ty111 :=
  ⟨⟨Tryz.t111, by kernel_rfl, rfl, rfl, _, rfl, fun ρ => by simp [ty111, γ]⟩, rfl, by first | (intro h; cases h; done) | (intro _; rfl), rfl, ⟨_, _, _, Tryz.underlying111⟩, rfl, fun ks h => by cases h⟩
theorem ty112_ok : TyOk Tryz.prog 112 ty112 :=
  ⟨⟨Tryz.t112, by kernel_rfl, rfl, rfl, _, rfl, fun ρ => by simp [ty112, γ]⟩, rfl, by first | (intro h; cases h; done) | (intro _; rfl), rfl, ⟨_, _, _, Tryz.underlying112⟩, rfl, fun ks h => by cases h⟩
theorem ty113_ok : TyOk Tryz.prog 113 ty113 :=
  ⟨⟨Tryz.t113, by kernel_rfl, rfl, rfl, _, rfl, fun ρ => by simp [ty113, γ, γL]⟩, rfl, by first | (intro h; cases h; done) | (intro _; rfl), rfl, Tryz.underlying113, rfl, fun ks h => flatOk_of (d := 12) (by decide) (by cases h; kernel_rfl) Tryz.eqGuardType113 (by rw [Tryz.underlying113])⟩
theorem ty114_ok : TyOk Tryz.prog 114 ty114 :=
  ⟨⟨Tryz.t114, by kernel_rfl, rfl, rfl, _, rfl, fun ρ => by simp [ty114, γ, γL]⟩, rfl, by first | (intro h; cases h; done) | (intro _; rfl), rfl, ⟨_, Tryz.underlying114, rfl⟩, rfl, fun ks h => flatOk_of (d := 12) (by decide) (by cases h; kernel_rfl) Tryz.eqGuardType114 (by rw [Tryz.underlying114])⟩
theorem ty115_ok : TyOk Tryz.prog 115 ty115 :=
  ⟨⟨Tryz.t115, by kernel_rfl, rfl, rfl, _, rfl, fun ρ => by simp [ty115, γ, γL]⟩, rfl, by first | (intro h; cases h; done) | (intro _; rfl), rfl, ⟨_, Tryz.underlying115, rfl⟩, rfl, fun ks h => flatOk_of (d := 12) (by decide) (by cases h; kernel_rfl) Tryz.eqGuardType115 (by rw [Tryz.underlying115])⟩
theorem ty116_ok : TyOk Tryz.prog 116 ty116 :=
  ⟨⟨Tryz.t116, by kernel_rfl, rfl, rfl, _, rfl, fun ρ => by simp [ty116, γ]⟩, rfl, by first | (intro h; cases h; done) | (intro _; rfl), rfl, ⟨_, _, _, Tryz.underlying116⟩, rfl, fun ks h => by cases h⟩
theorem ty117_ok : TyOk Tryz.prog 117 ty117 :=
  ⟨⟨Tryz.t117, by kernel_rfl, rfl, rfl, _, rfl, fun ρ => by simp [ty117, γ]⟩, rfl, by first | (intro h; cases h; done) | (intro _; rfl), rfl, ⟨_, _, _, Tryz.underlying117⟩, rfl, fun ks h => by cases h⟩
theorem ty118_ok : TyOk Tryz.prog 118 ty118 :=
  ⟨⟨Tryz.t118, by kernel_rfl, rfl, rfl, _, rfl, fun ρ => by simp [ty118, γ]⟩, rfl, by first | (intro h; cases h; done) | (intro _; rfl), rfl, ⟨_, _, _, Tryz.underlying118⟩, rfl, fun ks h => by cases h⟩
theorem ty119_ok : TyOk Tryz.prog 119 ty119 :=
  ⟨⟨Tryz.t119, by kernel_rfl, rfl, rfl, _, rfl, fun ρ => by simp [ty119, γ, γL]⟩, rfl, by first | (intro h; cases h; done) | (intro _; rfl), rfl, ⟨_, Tryz.underlying119, rfl⟩, rfl, fun ks h => by cases h⟩
theorem ty120_ok : TyOk Tryz.prog 120 ty120 :=
  ⟨⟨Tryz.t120, by kernel_rfl, rfl, rfl, _, rfl, fun ρ => by simp [ty120, γ, γL]⟩, rfl, by first | (intro h; cases h; done) | (intro _; rfl), rfl, ⟨_, Tryz.underlying120, rfl⟩, rfl, fun ks h => by cases h⟩
theorem ty121_ok : TyOk Tryz.prog 121 ty121 :=
  ⟨⟨Tryz.t121, by kernel_rfl, rfl, rfl, _, rfl, fun ρ => by simp [ty121, γ]⟩, rfl, by first | (intro h; cases h; done) | (intro _; rfl), rfl, Tryz.underlying121, rfl, fun ks h => by cases h⟩
theorem ty123_ok : TyOk Tryz.prog 123 ty123 :=
  ⟨⟨Tryz.t123, by kernel_rfl, rfl, rfl, _, rfl, fun ρ => by simp [ty123, γ]⟩, rfl, by first | (intro h; cases h; done) | (intro _; rfl), rfl, ⟨_, _, _, Tryz.underlying123⟩, rfl, fun ks h => by cases h⟩
theorem ty125_ok : TyOk Tryz.prog 125 ty125 :=
  ⟨⟨Tryz.t125, by kernel_rfl, rfl, rfl, _, rfl, fun ρ => by simp [ty125, γ]⟩, rfl, by first | (intro h; cases h; done) | (intro _; rfl), rfl, ⟨_, _, _, Tryz.underlying125⟩, rfl, fun ks h => by cases h⟩
theorem ty126_ok : TyOk Tryz.prog 126 ty126 :=
  ⟨⟨Tryz.t126, by kernel_rfl, rfl, rfl, _, rfl, fun ρ => by simp [ty126, γ]⟩, rfl, by first | (intro h; cases h; done) | (intro _; rfl), rfl, ⟨_, _, _, Tryz.underlying126⟩, rfl, fun ks h => by cases h⟩
theorem ty128_ok : TyOk Tryz.prog 128 ty128 :=
  ⟨⟨Tryz.t128, by kernel_rfl, rfl, rfl, _, rfl, fun ρ => by simp [ty128, γ]⟩, rfl, by first | (intro h; cases h; done) | (intro _; rfl), rfl, ⟨_, _, _, Tryz.underlying128⟩, rfl, fun ks h => by cases h⟩
theorem ty129_ok : TyOk Tryz.prog 129 ty129 :=
  ⟨⟨Tryz.t129, by kernel_rfl, rfl, rfl, _, rfl, fun ρ => by simp [ty129, γ]⟩, rfl, by first | (intro h; cases h; done) | (intro _; rfl), rfl, ⟨_, _, _, Tryz.underlying129⟩, rfl, fun ks h => by cases h⟩
theorem ty130_ok : TyOk Tryz.prog 130 ty130 :=
  ⟨⟨Tryz.t130, by kernel_rfl, rfl, rfl, _, rfl, fun ρ => by simp [ty130, γ]⟩, rfl, by first | (intro h; cases h; done) | (intro _; rfl), rfl, ⟨_, _, _, Tryz.underlying130⟩, rfl, fun ks h => by cases h⟩
theorem ty131_ok : TyOk Tryz.prog 131 ty131 :=
  ⟨⟨Tryz.t131, by kernel_rfl, rfl, rfl, _, rfl, fun ρ => by simp [ty131, γ]⟩, rfl, by first | (intro h; cases h; done) | (intro _; rfl), rfl, ⟨_, _, _, Tryz.underlying131⟩, rfl, fun ks h => by cases h⟩
theorem ty132_ok : TyOk Tryz.prog 132 ty132 :=
  ⟨⟨Tryz.t132, by kernel_rfl, rfl, rfl, _, rfl, fun ρ => by simp [ty132, γ]⟩, rfl, by first | (intro h; cases h; done) | (intro _; rfl), rfl, ⟨_, _, _, Tryz.underlying132⟩, rfl, fun ks h => by cases h⟩
theorem ty133_ok : TyOk Tryz.prog 133 ty133 :=
  ⟨⟨Tryz.t133, by kernel_rfl, rfl, rfl, _, rfl, fun ρ => by simp [ty133, γ]⟩, rfl, by first | (intro h; cases h; done) | (intro _; rfl), rfl, ⟨_, _, _, Tryz.underlying133⟩, rfl, fun ks h => by cases h⟩
theorem ty134_ok : TyOk Tryz.prog 134 ty134 :=
  ⟨⟨Tryz.t134, by kernel_rfl, rfl, rfl, _, rfl, fun ρ => by simp [ty134, γ]⟩, rfl, by first | (intro h; cases h; done) | (intro _; rfl), rfl, ⟨_, _, _, Tryz.underlying134⟩, rfl, fun ks h => by cases h⟩
theorem ty135_ok : TyOk Tryz.prog 135 ty135 :=
  ⟨⟨Tryz.t135, by kernel_rfl, rfl, rfl, _, rfl, fun ρ => by simp [ty135, γ]⟩, rfl, by first | (intro h; cases h; done) | (intro _; rfl), rfl, ⟨_, _, _, Tryz.underlying135⟩, rfl, fun ks h => by cases h⟩
theorem ty136_ok : TyOk Tryz.prog 136 ty136 :=
  ⟨⟨Tryz.t136, by kernel_rfl, rfl, rfl, _, rfl, fun ρ => by simp [ty136, γ]⟩, rfl, by first | (intro h; cases h; done) | (intro _; rfl), rfl, ⟨_, _, _, Tryz.underlying136⟩, rfl, fun ks h => by cases h⟩
theorem ty137_ok : TyOk Tryz.prog 137 ty137 :=
  ⟨⟨Tryz.t137, by kernel_rfl, rfl, rfl, _, rfl, fun ρ => by simp [ty137, γ]⟩, rfl, by first | (intro h; cases h; done) | (intro _; rfl), rfl, ⟨_, _, _, Tryz.underlying137⟩, rfl, fun ks h => by cases h⟩
theorem ty138_ok : TyOk Tryz.prog 138 ty138 :=
  ⟨⟨Tryz.t138, by kernel_rfl, rfl, rfl, _, rfl, fun ρ => by simp [ty138, γ]⟩, rfl, by first | (intro h; cases h; done) | (intro _; rfl), rfl, ⟨_, _, _, Tryz.underlying138⟩, rfl, fun ks h => by cases h⟩
theorem ty139_ok : TyOk Tryz.prog 139 ty139 :=
  ⟨⟨Tryz.t139, by kernel_rfl, rfl, rfl, _, rfl, fun ρ => by simp [ty139, γ]⟩, rfl, by first | (intro h; cases h; done) | (intro _; rfl), rfl, Tryz.underlying139, rfl, fun ks h => by cases h⟩
theorem ty140_ok : TyOk Tryz.prog 140 ty140 :=
  ⟨⟨Tryz.t140, by kernel_rfl, rfl, rfl, _, rfl, fun ρ => by simp [ty140, γ]⟩, rfl, by first | (intro h; cases h; done) | (intro _; rfl), rfl, Tryz.underlying140, rfl, fun ks h => by cases h⟩
theorem ty141_ok : TyOk Tryz.prog 141 ty141 :=
  ⟨⟨Tryz.t141, by kernel_rfl, rfl, rfl, _, rfl, fun ρ => by simp [ty141, γ, γL]⟩, rfl, by first | (intro h; cases h; done) | (intro _; rfl), rfl, Tryz.underlying141, rfl, fun ks h => flatOk_of (d := 12) (by decide) (by cases h; kernel_rfl) Tryz.eqGuardType141 (by rw [Tryz.underlying141])⟩
theorem ty142_ok : TyOk Tryz.prog 142 ty142 :=
  ⟨⟨Tryz.t142, by kernel_rfl, rfl, rfl, _, rfl, fun ρ => by simp [ty142, γ, γL]⟩, rfl, by first | (intro h; cases h; done) | (intro _; rfl), rfl, ⟨_, Tryz.underlying142, rfl⟩, rfl, fun ks h => flatOk_of (d := 12) (by decide) (by cases h; kernel_rfl) Tryz.eqGuardType142 (by rw [Tryz.underlying142])⟩
theorem ty143_ok : TyOk Tryz.prog 143 ty143 :=
  ⟨⟨Tryz.t143, by kernel_rfl, rfl, rfl, _, rfl, fun ρ => by simp [ty143, γ, γL]⟩, rfl, by first | (intro h; cases h; done) | (intro _; rfl), rfl, ⟨_, Tryz.underlying143, rfl⟩, rfl, fun ks h => flatOk_of (d := 12) (by decide) (by cases h; kernel_rfl) Tryz.eqGuardType143 (by rw [Tryz.underlying143])⟩
theorem ty145_ok : TyOk Tryz.prog 145 ty145 :=
  ⟨⟨Tryz.t145, by kernel_rfl, rfl, rfl, _, rfl, fun ρ => by simp [ty145, γ]⟩, rfl, by first | (intro h; cases h; done) | (intro _; rfl), rfl, ⟨_, _, _, Tryz.underlying145⟩, rfl, fun ks h => by cases h⟩
theorem ty146_ok : TyOk Tryz.prog 146 ty146 :=
  ⟨⟨Tryz.t146, by kernel_rfl, rfl, rfl, _, rfl, fun ρ => by simp [ty146, γ]⟩, rfl, by first | (intro h; cases h; done) | (intro _; rfl), rfl, ⟨_, _, _, Tryz.underlying146⟩, rfl, fun ks h => by cases h⟩
theorem ty147_ok : TyOk Tryz.prog 147 ty147 :=
  ⟨⟨Tryz.t147, by kernel_rfl, rfl, rfl, _, rfl, fun ρ => by simp [ty147, γ]⟩, rfl, by first | (intro h; cases h; done) | (intro _; rfl), rfl, ⟨_, _, _, Tryz.underlying147⟩, rfl, fun ks h => by cases h⟩
theorem ty148_ok : TyOk Tryz.prog 148 ty148 :=
  ⟨⟨Tryz.t148, by kernel_rfl, rfl, rfl, _, rfl, fun ρ => by simp [ty148, γ]⟩, rfl, by first | (intro h; cases h; done) | (intro _; rfl), rfl, ⟨_, _, _, Tryz.underlying148⟩, rfl, fun ks h => by cases h⟩
theorem ty149_ok : TyOk Tryz.prog 149 ty149 :=
  ⟨⟨Tryz.t149, by kernel_rfl, rfl, rfl, _, rfl, fun ρ => by simp [ty149, γ]⟩, rfl, by first | (intro h; cases h; done) | (intro _; rfl), rfl, ⟨_, _, _, Tryz.underlying149⟩, rfl, fun ks h => by cases h⟩
theorem ty150_ok : TyOk Tryz.prog 150 ty150 :=
  ⟨⟨Tryz.t150, by kernel_rfl, rfl, rfl, _, rfl, fun ρ => by simp [ty150, γ]⟩, rfl, by first | (intro h; cases h; done) | (intro _; rfl), rfl, ⟨_, _, _, Tryz.underlying150⟩, rfl, fun ks h => by cases h⟩
theorem ty151_ok : TyOk Tryz.prog 151 ty151 :=
  ⟨⟨Tryz.t151, by kernel_rfl, rfl, rfl, _, rfl, fun ρ => by simp [ty151, γ, γL]⟩, rfl, by first | (intro h; cases h; done) | (intro _; rfl), rfl, Tryz.underlying151, rfl, fun ks h => flatOk_of (d := 12) (by decide) (by cases h; kernel_rfl) Tryz.eqGuardType151 (by rw [Tryz.underlying151])⟩
theorem ty152_ok : TyOk Tryz.prog 152 ty152 :=
  ⟨⟨Tryz.t152, by kernel_rfl, rfl, rfl, _, rfl, fun ρ => by simp [ty152, γ, γL]⟩, rfl, by first | (intro h; cases h; done) | (intro _; rfl), rfl, ⟨_, Tryz.underlying152, rfl⟩, rfl, fun ks h => flatOk_of (d := 12) (by decide) (by cases h; kernel_rfl) Tryz.eqGuardType152 (by rw [Tryz.underlying152])⟩
theorem ty153_ok : TyOk Tryz.prog 153 ty153 :=
  ⟨⟨Tryz.t153, by kernel_rfl, rfl, rfl, _, rfl, fun ρ => by simp [ty153, γ, γL]⟩, rfl, by first | (intro h; cases h; done) | (intro _; rfl), rfl, ⟨_, Tryz.underlying153, rfl⟩, rfl, fun ks h => flatOk_of (d := 12) (by decide) (by cases h; kernel_rfl) Tryz.eqGuardType153 (by rw [Tryz.underlying153])⟩
theorem ty155_ok : TyOk Tryz.prog 155 ty155 :=
  ⟨⟨Tryz.t155, by kernel_rfl, rfl, rfl, _, rfl, fun ρ => by simp [ty155, γ]⟩, rfl, by first | (intro h; cases h; done) | (intro _; rfl), rfl, ⟨_, _, _, Tryz.underlying155⟩, rfl, fun ks h => by cases h⟩
theorem ty156_ok : TyOk Tryz.prog 156 ty156 :=
  ⟨⟨Tryz.t156, by kernel_rfl, rfl, rfl, _, rfl, fun ρ => by simp [ty156, γ, γL]⟩, rfl, by first | (intro h; cases h; done) | (intro _; rfl), rfl, ⟨_, Tryz.underlying156, rfl⟩, rfl, fun ks h => flatOk_of (d := 12) (by decide) (by cases h; kernel_rfl) Tryz.eqGuardType156 (by rw [Tryz.underlying156])⟩
theorem ty157_ok : TyOk Tryz.prog 157 ty157 :=
  ⟨⟨Tryz.t157, by kernel_rfl, rfl, rfl, _, rfl, fun ρ => by simp [ty157, γ, γL]⟩, rfl, by first | (intro h; cases h; done) | (intro _; rfl), rfl, ⟨_, Tryz.underlying157, rfl⟩, rfl, fun ks h => flatOk_of (d := 12) (by decide) (by cases h; kernel_rfl) Tryz.eqGuardType157 (by rw [Tryz.underlying157])⟩
theorem ty158_ok : TyOk Tryz.prog 158 ty158 :=
  ⟨⟨Tryz.t158, by kernel_rfl, rfl, rfl, _, rfl, fun ρ => by simp [ty158, γ]⟩, rfl, by first | (intro h; cases h; done) | (intro _; rfl), rfl, ⟨_, _, _, Tryz.underlying158⟩, rfl, fun ks h => by cases h⟩
theorem ty159_ok : TyOk Tryz.prog 159 ty159 :=
  ⟨⟨Tryz.t159, by kernel_rfl, rfl, rfl, _, rfl, fun ρ => by simp [ty159, γ]⟩, rfl, by first | (intro h; cases h; done) | (intro _; rfl), rfl, ⟨_, _, _, Tryz.underlying159⟩, rfl, fun ks h => by cases h⟩
theorem ty160_ok : TyOk Tryz.prog 160 ty160 :=
  ⟨⟨Tryz.t160, by kernel_rfl, rfl, rfl, _, rfl, fun ρ => by simp [ty160, γ, γL]⟩, rfl, by first | (intro h; cases h; done) | (intro _; rfl), rfl, ⟨_, Tryz.underlying160, rfl⟩, rfl, fun ks h => by cases h⟩
theorem ty161_ok : TyOk Tryz.prog 161 ty161 :=
  ⟨⟨Tryz.t161, by kernel_rfl, rfl, rfl, _, rfl, fun ρ => by simp [ty161, γ, γL]⟩, rfl, by first | (intro h; cases h; done) | (intro _; rfl), rfl, ⟨_, Tryz.underlying161, rfl⟩, rfl, fun ks h => by cases h⟩
theorem ty162_ok : TyOk Tryz.prog 162 ty162 :=
  ⟨⟨Tryz.t162, by kernel_rfl, rfl, rfl, _, rfl, fun ρ => by simp [ty162, γ, γL]⟩, rfl, by first | (intro h; cases h; done) | (intro _; rfl), rfl, Tryz.underlying162, rfl, fun ks h => by cases h⟩
theorem ty163_ok : TyOk Tryz.prog 163 ty163 :=
  ⟨⟨Tryz.t163, by kernel_rfl, rfl, rfl, _, rfl, fun ρ => by simp [ty163, γ]⟩, rfl, by first | (intro h; cases h; done) | (intro _; rfl), rfl, ⟨_, _, _, Tryz.underlying163⟩, rfl, fun ks h => by cases h⟩
theorem ty164_ok : TyOk Tryz.prog 164 ty164 :=
  ⟨⟨Tryz.t164, by kernel_rfl, rfl, rfl, _, rfl, fun ρ => by simp [ty164, γ]⟩, rfl, by first | (intro h; cases h; done) | (intro _; rfl), rfl, ⟨_, _, _, Tryz.underlying164⟩, rfl, fun ks h => by cases h⟩
theorem ty165_ok : TyOk Tryz.prog 165 ty165 :=
  ⟨⟨Tryz.t165, by kernel_rfl, rfl, rfl, _, rfl, fun ρ => by simp [ty165, γ]⟩, rfl, by first | (intro h; cases h; done) | (intro _; rfl), rfl, ⟨_, _, _, Tryz.underlying165⟩, rfl, fun ks h => by cases h⟩
theorem ty166_ok : TyOk Tryz.prog 166 ty166 :=
  ⟨⟨Tryz.t166, by kernel_rfl, rfl, rfl, _, rfl, fun ρ => by simp [ty166, γ]⟩, rfl, by first | (intro h; cases h; done) | (intro _; rfl), rfl, ⟨_, _, _, Tryz.underlying166⟩, rfl, fun ks h => by cases h⟩
theorem ty167_ok : TyOk Tryz.prog 167 ty167 :=
  ⟨⟨Tryz.t167, by kernel_rfl, rfl, rfl, _, rfl, fun ρ => by simp [ty167, γ]⟩, rfl, by first | (intro h; cases h; done) | (intro _; rfl), rfl, ⟨_, _, _, Tryz.underlying167⟩, rfl, fun ks h => by cases h⟩
theorem ty168_ok : TyOk Tryz.prog 168 ty168 :=
  ⟨⟨Tryz.t168, by kernel_rfl, rfl, rfl, _, rfl, fun ρ => by simp [ty168, γ]⟩, rfl, by first | (intro h; cases h; done) | (intro _; rfl), rfl, ⟨_, _, _, Tryz.underlying168⟩, rfl, fun ks h => by cases h⟩
theorem ty169_ok : TyOk Tryz.prog 169 ty169 :=
  ⟨⟨Tryz.t169, by kernel_rfl, rfl, rfl, _, rfl, fun ρ => by simp [ty169, γ]⟩, rfl, by first | (intro h; cases h; done) | (intro _; rfl), rfl, ⟨_, _, _, Tryz.underlying169⟩, rfl, fun ks h => by cases h⟩
theorem ty170_ok : TyOk Tryz.prog 170 ty170 :=
  ⟨⟨Tryz.t170, by kernel_rfl, rfl, rfl, _, rfl, fun ρ => by simp [ty170, γ]⟩, rfl, by first | (intro h; cases h; done) | (intro _; rfl), rfl, ⟨_, _, _, Tryz.underlying170⟩, rfl, fun ks h => by cases h⟩
theorem ty171_ok : TyOk Tryz.prog 171 ty171 :=
  ⟨⟨Tryz.t171, by kernel_rfl, rfl, rfl, _, rfl, fun ρ => by simp [ty171, γ]⟩, rfl, by first | (intro h; cases h; done) | (intro _; rfl), rfl, ⟨_, _, _, Tryz.underlying171⟩, rfl, fun ks h => by cases h⟩
theorem ty172_ok : TyOk Tryz.prog 172 ty172 :=
  ⟨⟨Tryz.t172, by kernel_rfl, rfl, rfl, _, rfl, fun ρ => by simp [ty172, γ]⟩, rfl, by first | (intro h; cases h; done) | (intro _; rfl), rfl, ⟨_, _, _, Tryz.underlying172⟩, rfl, fun ks h => by cases h⟩
theorem ty173_ok : TyOk Tryz.prog 173 ty173 :=
  ⟨⟨Tryz.t173, by kernel_rfl, rfl, rfl, _, rfl, fun ρ => by simp [ty173, γ]⟩, rfl, by first | (intro h; cases h; done) | (intro _; rfl), rfl, Tryz.underlying173, rfl, fun ks h => by cases h⟩
theorem ty175_ok : TyOk Tryz.prog 175 ty175 :=
  ⟨⟨Tryz.t175, by kernel_rfl, rfl, rfl, _, rfl, fun ρ => by simp [ty175, γ]⟩, rfl, by first | (intro h; cases h; done) | (intro _; rfl), rfl, ⟨_, _, _, Tryz.underlying175⟩, rfl, fun ks h => by cases h⟩
theorem ty176_ok : TyOk Tryz.prog 176 ty176 :=
  ⟨⟨Tryz.t176, by kernel_rfl, rfl, rfl, _, rfl, fun ρ => by simp [ty176, γ]⟩, rfl, by first | (intro h; cases h; done) | (intro _; rfl), rfl, ⟨_, _, _, Tryz.underlying176⟩, rfl, fun ks h => by cases h⟩
theorem ty177_ok : TyOk Tryz.prog 177 ty177 :=
  ⟨⟨Tryz.t177, by kernel_rfl, rfl, rfl, _, rfl, fun ρ => by simp [ty177, γ]⟩, rfl, by first | (intro h; cases h; done) | (intro _; rfl), rfl, ⟨_, _, _, Tryz.underlying177⟩, rfl, fun ks h => by cases h⟩
theorem ty178_ok : TyOk Tryz.prog 178 ty178 :=
  ⟨⟨Tryz.t178, by kernel_rfl, rfl, rfl, _, rfl, fun ρ => by simp [ty178, γ]⟩, rfl, by first | (intro h; cases h; done) | (intro _; rfl), rfl, ⟨_, _, _, Tryz.underlying178⟩, rfl, fun ks h => by cases h⟩
theorem ty179_ok : TyOk Tryz.prog 179 ty179 :=
  ⟨⟨Tryz.t179, by kernel_rfl, rfl, rfl, _, rfl, fun ρ => by simp [ty179, γ]⟩, rfl, by first | (intro h; cases h; done) | (intro _; rfl), rfl, ⟨_, _, _, Tryz.underlying179⟩, rfl, fun ks h => by cases h⟩
theorem ty180_ok : TyOk Tryz.prog 180 ty180 :=
  ⟨⟨Tryz.t180, by kernel_rfl, rfl, rfl, _, rfl, fun ρ => by simp [ty180, γ]⟩, rfl, by first | (intro h; cases h; done) | (intro _; rfl), rfl, ⟨_, _, _, Tryz.underlying180⟩, rfl, fun ks h => by cases h⟩
theorem ty181_ok : TyOk Tryz.prog 181 ty181 :=
  ⟨⟨Tryz.t181, by kernel_rfl, rfl, rfl, _, rfl, fun ρ => by simp [ty181, γ]⟩, rfl, by first | (intro h; cases h; done) | (intro _; rfl), rfl, Tryz.underlying181, rfl, fun ks h => by cases h⟩
theorem ty182_ok : TyOk Tryz.prog 182 ty182 :=
  ⟨⟨Tryz.t182, by kernel_rfl, rfl, rfl, _, rfl, fun ρ => by simp [ty182, γ]⟩, rfl, by first | (intro h; cases h; done) | (intro _; rfl), rfl, ⟨_, _, _, Tryz.underlying182⟩, rfl, fun ks h => by cases h⟩
theorem ty183_ok : TyOk Tryz.prog 183 ty183 :=
  ⟨⟨Tryz.t183, by kernel_rfl, rfl, rfl, _, rfl, fun ρ => by simp [ty183, γ]⟩, rfl, by first | (intro h; cases h; done) | (intro _; rfl), rfl, ⟨_, _, _, Tryz.underlying183⟩, rfl, fun ks h => by cases h⟩
theorem ty184_ok : TyOk Tryz.prog 184 ty184 :=
  ⟨⟨Tryz.t184, by kernel_rfl, rfl, rfl, _, rfl, fun ρ => by simp [ty184, γ]⟩, rfl, by first | (intro h; cases h; done) | (intro _; rfl), rfl, ⟨_, _, _, Tryz.underlying184⟩, rfl, fun ks h => by cases h⟩
theorem ty185_ok : TyOk Tryz.prog 185 ty185 :=
  ⟨⟨Tryz.t185, by kernel_rfl, rfl, rfl, _, rfl, fun ρ => by simp [ty185, γ]⟩, rfl, by first | (intro h; cases h; done) | (intro _; rfl), rfl, ⟨_, _, _, Tryz.underlying185⟩, rfl, fun ks h => by cases h⟩
theorem ty186_ok : TyOk Tryz.prog 186 ty186 :=
  ⟨⟨Tryz.t186, by kernel_rfl, rfl, rfl, _, rfl, fun ρ => by simp [ty186, γ]⟩, rfl, by first | (intro h; cases h; done) | (intro _; rfl), rfl, ⟨_, _, _, Tryz.underlying186⟩, rfl, fun ks h => by cases h⟩
theorem ty187_ok : TyOk Tryz.prog 187 ty187 :=
  ⟨⟨Tryz.t187, by kernel_rfl, rfl, rfl, _, rfl, fun ρ => by simp [ty187, γ]⟩, rfl, by first | (intro h; cases h; done) | (intro _; rfl), rfl, ⟨_, _, _, Tryz.underlying187⟩, rfl, fun ks h => by cases h⟩
theorem ty188_ok : TyOk Tryz.prog 188 ty188 :=
  ⟨⟨Tryz.t188, by kernel_rfl, rfl, rfl, _, rfl, fun ρ => by simp [ty188, γ, γL]⟩, rfl, by first | (intro h; cases h; done) | (intro _; rfl), rfl, Tryz.underlying188, rfl, fun ks h => flatOk_of (d := 12) (by decide) (by cases h; kernel_rfl) Tryz.eqGuardType188 (by rw [Tryz.underlying188])⟩
theorem ty189_ok : TyOk Tryz.prog 189 ty189 :=
  ⟨⟨Tryz.t189, by kernel_rfl, rfl, rfl, _, rfl, fun ρ => by simp [ty189, γ]⟩, rfl, by first | (intro h; cases h; done) | (intro _; rfl), rfl, ⟨_, _, _, Tryz.underlying189⟩, rfl, fun ks h => by cases h⟩
theorem ty191_ok : TyOk Tryz.prog 191 ty191 :=
  ⟨⟨Tryz.t191, by kernel_rfl, rfl, rfl, _, rfl, fun ρ => by simp [ty191, γ]⟩, rfl, by first | (intro h; cases h; done) | (intro _; rfl), rfl, ⟨_, _, _, Tryz.underlying191⟩, rfl, fun ks h => by cases h⟩
theorem ty192_ok : TyOk Tryz.prog 192 ty192 :=
  ⟨⟨Tryz.t192, by kernel_rfl, rfl, rfl, _, rfl, fun ρ => by simp [ty192, γ]⟩, rfl, by first | (intro h; cases h; done) | (intro _; rfl), rfl, ⟨_, _, _, Tryz.underlying192⟩, rfl, fun ks h => by cases h⟩
theorem ty193_ok : TyOk Tryz.prog 193 ty193 :=
  ⟨⟨Tryz.t193, by kernel_rfl, rfl, rfl, _, rfl, fun ρ => by simp [ty193, γ, γL]⟩, rfl, by first | (intro h; cases h; done) | (intro _; rfl), rfl, ⟨_, Tryz.underlying193, rfl⟩, rfl, fun ks h => flatOk_of (d := 12) (by decide) (by cases h; kernel_rfl) Tryz.eqGuardType193 (by rw [Tryz.underlying193])⟩
theorem ty194_ok : TyOk Tryz.prog 194 ty194 :=
  ⟨⟨Tryz.t194, by kernel_rfl, rfl, rfl, _, rfl, fun ρ => by simp [ty194, γ, γL]⟩, rfl, by first | (intro h; cases h; done) | (intro _; rfl), rfl, ⟨_, Tryz.underlying194, rfl⟩, rfl, fun ks h => flatOk_of (d := 12) (by decide) (by cases h; kernel_rfl) Tryz.eqGuardType194 (by rw [Tryz.underlying194])⟩
theorem ty195_ok : TyOk Tryz.prog 195 ty195 :=
  ⟨⟨Tryz.t195, by kernel_rfl, rfl, rfl, _, rfl, fun ρ => by simp [ty195, γ]⟩, rfl, by first | (intro h; cases h; done) | (intro _; rfl), rfl, ⟨_, _, _, Tryz.underlying195⟩, rfl, fun ks h => by cases h⟩
theorem ty196_ok : TyOk Tryz.prog 196 ty196 :=
  ⟨⟨Tryz.t196, by kernel_rfl, rfl, rfl, _, rfl, fun ρ => by simp [ty196, γ]⟩, rfl, by first | (intro h; cases h; done) | (intro _; rfl), rfl, ⟨_, _, _, Tryz.underlying196⟩, rfl, fun ks h => by cases h⟩
theorem ty197_ok : TyOk Tryz.prog 197 ty197 :=
  ⟨⟨Tryz.t197, by kernel_rfl, rfl, rfl, _, rfl, fun ρ => by simp [ty197, γ]⟩, rfl, by first | (intro h; cases h; done) | (intro _; rfl), rfl, ⟨_, _, _, Tryz.underlying197⟩, rfl, fun ks h => by cases h⟩
theorem ty198_ok : TyOk Tryz.prog 198 ty198 :=
  ⟨⟨Tryz.t198, by kernel_rfl, rfl, rfl, _, rfl, fun ρ => by simp [ty198, γ]⟩, rfl, by first | (intro h; cases h; done) | (intro _; rfl), rfl, ⟨_, _, _, Tryz.underlying198⟩, rfl, fun ks h => by cases h⟩
theorem ty200_ok : TyOk Tryz.prog 200 ty200 :=
  ⟨⟨Tryz.t200, by kernel_rfl, rfl, rfl, _, rfl, fun ρ => by simp [ty200, γ]⟩, rfl, by first | (intro h; cases h; done) | (intro _; rfl), rfl, ⟨_, _, _, Tryz.underlying200⟩, rfl, fun ks h => by cases h⟩
theorem ty201_ok : TyOk Tryz.prog 201 ty201 :=
  ⟨⟨Tryz.t201, by kernel_rfl, rfl, rfl, _, rfl, fun ρ => by simp [ty201, γ, γL]⟩, rfl, by first | (intro h; cases h; done) | (intro _; rfl), rfl, Tryz.underlying201, rfl, fun ks h => flatOk_of (d := 12) (by decide) (by cases h; kernel_rfl) Tryz.eqGuardType201 (by rw [Tryz.underlying201])⟩
theorem ty202_ok : TyOk Tryz.prog 202 ty202 :=
  ⟨⟨Tryz.t202, by kernel_rfl, rfl, rfl, _, rfl, fun ρ => by simp [ty202, γ, γL]⟩, rfl, by first | (intro h; cases h; done) | (intro _; rfl), rfl, Tryz.underlying202, rfl, fun ks h => flatOk_of (d := 12) (by decide) (by cases h; kernel_rfl) Tryz.eqGuardType202 (by rw [Tryz.underlying202])⟩
theorem ty203_ok : TyOk Tryz.prog 203 ty203 :=
  ⟨⟨Tryz.t203, by kernel_rfl, rfl, rfl, _, rfl, fun ρ => by simp [ty203, γ]⟩, rfl, by first | (intro h; cases h; done) | (intro _; rfl), rfl, ⟨_, _, _, Tryz.underlying203⟩, rfl, fun ks h => by cases h⟩
theorem ty204_ok : TyOk Tryz.prog 204 ty204 :=
  ⟨⟨Tryz.t204, by kernel_rfl, rfl, rfl, _, rfl, fun ρ => by simp [ty204, γ]⟩, rfl, by first | (intro h; cases h; done) | (intro _; rfl), rfl, ⟨_, _, _, Tryz.underlying204⟩, rfl, fun ks h => by cases h⟩
theorem ty205_ok : TyOk Tryz.prog 205 ty205 :=
  ⟨⟨Tryz.t205, by kernel_rfl, rfl, rfl, _, rfl, fun ρ => by simp [ty205, γ, γL]⟩, rfl, by first | (intro h; cases h; done) | (intro _; rfl), rfl, ⟨_, Tryz.underlying205, rfl⟩, rfl, fun ks h => flatOk_of (d := 12) (by decide) (by cases h; kernel_rfl) Tryz.eqGuardType205 (by rw [Tryz.underlying205])⟩
theorem ty206_ok : TyOk Tryz.prog 206 ty206 :=
  ⟨⟨Tryz.t206, by kernel_rfl, rfl, rfl, _, rfl, fun ρ => by simp [ty206, γ, γL]⟩, rfl, by first | (intro h; cases h; done) | (intro _; rfl), rfl, ⟨_, Tryz.underlying206, rfl⟩, rfl, fun ks h => flatOk_of (d := 12) (by decide) (by cases h; kernel_rfl) Tryz.eqGuardType206 (by rw [Tryz.underlying206])⟩
theorem ty207_ok : TyOk Tryz.prog 207 ty207 :=
  ⟨⟨Tryz.t207, by kernel_rfl, rfl, rfl, _, rfl, fun ρ => by simp [ty207, γ]⟩, rfl, by first | (intro h; cases h; done) | (intro _; rfl), rfl, Tryz.underlying207, rfl, fun ks h => by cases h⟩
theorem ty208_ok : TyOk Tryz.prog 208 ty208 :=
  ⟨⟨Tryz.t208, by kernel_rfl, rfl, rfl, _, rfl, fun ρ => by simp [ty208, γ, γL]⟩, rfl, by first | (intro h; cases h; done) | (intro _; rfl), rfl, Tryz.underlying208, rfl, fun ks h => by cases h⟩
theorem ty209_ok : TyOk Tryz.prog 209 ty209 :=
  ⟨⟨Tryz.t209, by kernel_rfl, rfl, rfl, _, rfl, fun ρ => by simp [ty209, γ, γL]⟩, rfl, by first | (intro h; cases h; done) | (intro _; rfl), rfl, Tryz.underlying209, rfl, fun ks h => by cases h⟩
theorem ty210_ok : TyOk Tryz.prog 210 ty210 :=
  ⟨⟨Tryz.t210, by kernel_rfl, rfl, rfl, _, rfl, fun ρ => by simp [ty210, γ]⟩, rfl, by first | (intro h; cases h; done) | (intro _; rfl), rfl, ⟨_, _, _, Tryz.underlying210⟩, rfl, fun ks h => by cases h⟩
theorem ty212_ok : TyOk Tryz.prog 212 ty212 :=
  ⟨⟨Tryz.t212, by kernel_rfl, rfl, rfl, _, rfl, fun ρ => by simp [ty212, γ]⟩, rfl, by first | (intro h; cases h; done) | (intro _; rfl), rfl, ⟨_, _, _, Tryz.underlying212⟩, rfl, fun ks h => by cases h⟩
theorem ty213_ok : TyOk Tryz.prog 213 ty213 :=
  ⟨⟨Tryz.t213, by kernel_rfl, rfl, rfl, _, rfl, fun ρ => by simp [ty213, γ]⟩, rfl, by first | (intro h; cases h; done) | (intro _; rfl), rfl, ⟨_, _, _, Tryz.underlying213⟩, rfl, fun ks h => by cases h⟩
theorem ty214_ok : TyOk Tryz.prog 214 ty214 :=
  ⟨⟨Tryz.t214, by kernel_rfl, rfl, rfl, _, rfl, fun ρ => by simp [ty214, γ]⟩, rfl, by first | (intro h; cases h; done) | (intro _; rfl), rfl, ⟨_, _, _, Tryz.underlying214⟩, rfl, fun ks h => by cases h⟩
theorem ty215_ok : TyOk Tryz.prog 215 ty215 :=
  ⟨⟨Tryz.t215, by kernel_rfl, rfl, rfl, _, rfl, fun ρ => by simp [ty215, γ]⟩, rfl, by first | (intro h; cases h; done) | (intro _; rfl), rfl, ⟨_, _, _, Tryz.underlying215⟩, rfl, fun ks h => by cases h⟩
theorem ty216_ok : TyOk Tryz.prog 216 ty216 :=
  ⟨⟨Tryz.t216, by kernel_rfl, rfl, rfl, _, rfl, fun ρ => by simp [ty216, γ]⟩, rfl, by first | (intro h; cases h; done) | (intro _; rfl), rfl, ⟨_, _, _, Tryz.underlying216⟩, rfl, fun ks h => by cases h⟩
theorem ty217_ok : TyOk Tryz.prog 217 ty217 :=
  ⟨⟨Tryz.t217, by kernel_rfl, rfl, rfl, _, rfl, fun ρ => by simp [ty217, γ]⟩, rfl, by first | (intro h; cases h; done) | (intro _; rfl), rfl, Tryz.underlying217, rfl, fun ks h => by cases h⟩
theorem ty218_ok : TyOk Tryz.prog 218 ty218 :=
  ⟨⟨Tryz.t218, by kernel_rfl, rfl, rfl, _, rfl, fun ρ => by simp [ty218, γ]⟩, rfl, by first | (intro h; cases h; done) | (intro _; rfl), rfl, Tryz.underlying218, rfl, fun ks h => by cases h⟩
theorem ty219_ok : TyOk Tryz.prog 219 ty219 :=
  ⟨⟨Tryz.t219, by kernel_rfl, rfl, rfl, _, rfl, fun ρ => by simp [ty219, γ]⟩, rfl, by first | (intro h; cases h; done) | (intro _; rfl), rfl, Tryz.underlying219, rfl, fun ks h => by cases h⟩
theorem ty220_ok : TyOk Tryz.prog 220 ty220 :=
  ⟨⟨Tryz.t220, by kernel_rfl, rfl, rfl, _, rfl, fun ρ => by simp [ty220, γ]⟩, rfl, by first | (intro h; cases h; done) | (intro _; rfl), rfl, ⟨_, _, _, Tryz.underlying220⟩, rfl, fun ks h => by cases h⟩
theorem ty221_ok : TyOk Tryz.prog 221 ty221 :=
  ⟨⟨Tryz.t221, by kernel_rfl, rfl, rfl, _, rfl, fun ρ => by simp [ty221, γ]⟩, rfl, by first | (intro h; cases h; done) | (intro _; rfl), rfl, ⟨_, _, _, Tryz.underlying221⟩, rfl, fun ks h => by cases h⟩
theorem ty222_ok : TyOk Tryz.prog 222 ty222 :=
  ⟨⟨Tryz.t222, by kernel_rfl, rfl, rfl, _, rfl, fun ρ => by simp [ty222, γ]⟩, rfl, by first | (intro h; cases h; done) | (intro _; rfl), rfl, ⟨_, _, _, Tryz.underlying222⟩, rfl, fun ks h => by cases h⟩
theorem ty223_ok : TyOk Tryz.prog 223 ty223 :=
  ⟨⟨Tryz.t223, by kernel_rfl, rfl, rfl, _, rfl, fun ρ => by simp [ty223, γ]⟩, rfl, by first | (intro h; cases h; done) | (intro _; rfl), rfl, Tryz.underlying223, rfl, fun ks h => by cases h⟩
theorem ty224_ok : TyOk Tryz.prog 224 ty224 :=
  ⟨⟨Tryz.t224, by kernel_rfl, rfl, rfl, _, rfl, fun ρ => by simp [ty224, γ]⟩, rfl, by first | (intro h; cases h; done) | (intro _; rfl), rfl, ⟨_, _, _, Tryz.underlying224⟩, rfl, fun ks h => by cases h⟩
theorem ty225_ok : TyOk Tryz.prog 225 ty225 :=
  ⟨⟨Tryz.t225, by kernel_rfl, rfl, rfl, _, rfl, fun ρ => by simp [ty225, γ]⟩, rfl, by first | (intro h; cases h; done) | (intro _; rfl), rfl, ⟨_, _, _, Tryz.underlying225⟩, rfl, fun ks h => by cases h⟩
theorem ty226_ok : TyOk Tryz.prog 226 ty226 :=
  ⟨⟨Tryz.t226, by kernel_rfl, rfl, rfl, _, rfl, fun ρ => by simp [ty226, γ]⟩, rfl, by first | (intro h; cases h; done) | (intro _; rfl), rfl, ⟨_, _, _, Tryz.underlying226⟩, rfl, fun ks h => by cases h⟩
theorem ty227_ok : TyOk Tryz.prog 227 ty227 :=
  ⟨⟨Tryz.t227, by kernel_rfl, rfl, rfl, _, rfl, fun ρ => by simp [ty227, γ]⟩, rfl, by first | (intro h; cases h; done) | (intro _; rfl), rfl, ⟨_, _, _, Tryz.underlying227⟩, rfl, fun ks h => by cases h⟩
theorem ty228_ok : TyOk Tryz.prog 228 ty228 :=
  ⟨⟨Tryz.t228, by kernel_rfl, rfl, rfl, _, rfl, fun ρ => by simp [ty228, γ]⟩, rfl, by first | (intro h; cases h; done) | (intro _; rfl), rfl, ⟨_, _, _, Tryz.underlying228⟩, rfl, fun ks h => by cases h⟩
theorem ty229_ok : TyOk Tryz.prog 229 ty229 :=
  ⟨⟨Tryz.t229, by kernel_rfl, rfl, rfl, _, rfl, fun ρ => by simp [ty229, γ]⟩, rfl, by first | (intro h; cases h; done) | (intro _; rfl), rfl, ⟨_, _, _, Tryz.underlying229⟩, rfl, fun ks h => by cases h⟩
theorem ty231_ok : TyOk Tryz.prog 231 ty231 :=
  ⟨⟨Tryz.t231, by kernel_rfl, rfl, rfl, _, rfl, fun ρ => by simp [ty231, γ]⟩, rfl, by first | (intro h; cases h; done) | (intro _; rfl), rfl, ⟨_, _, _, Tryz.underlying231⟩, rfl, fun ks h => by cases h⟩
theorem ty232_ok : TyOk Tryz.prog 232 ty232 :=
  ⟨⟨Tryz.t232, by kernel_rfl, rfl, rfl, _, rfl, fun ρ => by simp [ty232, γ]⟩, rfl, by first | (intro h; cases h; done) | (intro _; rfl), rfl, ⟨_, _, _, Tryz.underlying232⟩, rfl, fun ks h => by cases h⟩
theorem ty233_ok : TyOk Tryz.prog 233 ty233 :=
  ⟨⟨Tryz.t233, by kernel_rfl, rfl, rfl, _, rfl, fun ρ => by simp [ty233, γ]⟩, rfl, by first | (intro h; cases h; done) | (intro _; rfl), rfl, ⟨_, _, _, Tryz.underlying233⟩, rfl, fun ks h => by cases h⟩
theorem ty234_ok : TyOk Tryz.prog 234 ty234 :=
  ⟨⟨Tryz.t234, by kernel_rfl, rfl, rfl, _, rfl, fun ρ => by simp [ty234, γ]⟩, rfl, by first | (intro h; cases h; done) | (intro _; rfl), rfl, ⟨_, _, _, Tryz.underlying234⟩, rfl, fun ks h => by cases h⟩
theorem ty236_ok : TyOk Tryz.prog 236 ty236 :=
  ⟨⟨Tryz.t236, by kernel_rfl, rfl, rfl, _, rfl, fun ρ => by simp [ty236, γ]⟩, rfl, by first | (intro h; cases h; done) | (intro _; rfl), rfl, ⟨_, _, _, Tryz.underlying236⟩, rfl, fun ks h => by cases h⟩
theorem ty237_ok : TyOk Tryz.prog 237 ty237 :=
  ⟨⟨Tryz.t237, by kernel_rfl, rfl, rfl, _, rfl, fun ρ => by simp [ty237, γ]⟩, rfl, by first | (intro h; cases h; done) | (intro _; rfl), rfl, ⟨_, _, _, Tryz.underlying237⟩, rfl, fun ks h => by cases h⟩
theorem ty238_ok : TyOk Tryz.prog 238 ty238 :=
  ⟨⟨Tryz.t238, by kernel_rfl, rfl, rfl, _, rfl, fun ρ => by simp [ty238, γ]⟩, rfl, by first | (intro h; cases h; done) | (intro _; rfl), rfl, Tryz.underlying238, rfl, fun ks h => by cases h⟩
theorem ty240_ok : TyOk Tryz.prog 240 ty240 :=
  ⟨⟨Tryz.t240, by kernel_rfl, rfl, rfl, _, rfl, fun ρ => by simp [ty240, γ]⟩, rfl, by first | (intro h; cases h; done) | (intro _; rfl), rfl, ⟨_, _, _, Tryz.underlying240⟩, rfl, fun ks h => by cases h⟩
theorem ty241_ok : TyOk Tryz.prog 241 ty241 :=
  ⟨⟨Tryz.t241, by kernel_rfl, rfl, rfl, _, rfl, fun ρ => by simp [ty241, γ]⟩, rfl, by first | (intro h; cases h; done) | (intro _; rfl), rfl, ⟨_, _, _, Tryz.underlying241⟩, rfl, fun ks h => by cases h⟩
theorem ty242_ok : TyOk Tryz.prog 242 ty242 :=
  ⟨⟨Tryz.t242, by kernel_rfl, rfl, rfl, _, rfl, fun ρ => by simp [ty242, γ, γL]⟩, rfl, by first | (intro h; cases h; done) | (intro _; rfl), rfl, ⟨_, Tryz.underlying242, rfl⟩, rfl, fun ks h => by cases h⟩
theorem ty243_ok : TyOk Tryz.prog 243 ty243 :=
  ⟨⟨Tryz.t243, by kernel_rfl, rfl, rfl, _, rfl, fun ρ => by simp [ty243, γ, γL]⟩, rfl, by first | (intro h; cases h; done) | (intro _; rfl), rfl, ⟨_, Tryz.underlying243, rfl⟩, rfl, fun ks h => by cases h⟩
theorem ty244_ok : TyOk Tryz.prog 244 ty244 :=
  ⟨⟨Tryz.t244, by kernel_rfl, rfl, rfl, _, rfl, fun ρ => by simp [ty244, γ]⟩, rfl, by first | (intro h; cases h; done) | (intro _; rfl), rfl, ⟨_, _, _, Tryz.underlying244⟩, rfl, fun ks h => by cases h⟩
theorem ty245_ok : TyOk Tryz.prog 245 ty245 :=
  ⟨⟨Tryz.t245, by kernel_rfl, rfl, rfl, _, rfl, fun ρ => by simp [ty245, γ]⟩, rfl, by first | (intro h; cases h; done) | (intro _; rfl), rfl, ⟨_, _, _, Tryz.underlying245⟩, rfl, fun ks h => by cases h⟩
theorem ty246_ok : TyOk Tryz.prog 246 ty246 :=
  ⟨⟨Tryz.t246, by kernel_rfl, rfl, rfl, _, rfl, fun ρ => by simp [ty246, γ]⟩, rfl, by first | (intro h; cases h; done) | (intro _; rfl), rfl, ⟨_, _, _, Tryz.underlying246⟩, rfl, fun ks h => by cases h⟩
theorem ty247_ok : TyOk Tryz.prog 247 ty247 :=
  ⟨⟨Tryz.t247, by kernel_rfl, rfl, rfl, _, rfl, fun ρ => by simp [ty247, γ]⟩, rfl, by first | (intro h; cases h; done) | (intro _; rfl), rfl, ⟨_, _, _, Tryz.underlying247⟩, rfl, fun ks h => by cases h⟩
theorem ty248_ok : TyOk Tryz.prog 248 ty248 :=
  ⟨⟨Tryz.t248, by kernel_rfl, rfl, rfl, _, rfl, fun ρ => by simp [ty248, γ]⟩, rfl, by first | (intro h; cases h; done) | (intro _; rfl), rfl, ⟨_, _, _, Tryz.underlying248⟩, rfl, fun ks h => by cases h⟩
theorem ty249_ok : TyOk Tryz.prog 249 ty249 :=
  ⟨⟨Tryz.t249, by kernel_rfl, rfl, rfl, _, rfl, fun ρ => by simp [ty249, γ]⟩, rfl, by first | (intro h; cases h; done) | (intro _; rfl), rfl, Tryz.underlying249, rfl, fun ks h => by cases h⟩
theorem ty250_ok : TyOk Tryz.prog 250 ty250 :=
  ⟨⟨Tryz.t250, by kernel_rfl, rfl, rfl, _, rfl, fun ρ => by simp [ty250, γ, γL]⟩, rfl, by first | (intro h; cases h; done) | (intro _; rfl), rfl, ⟨_, Tryz.underlying250, rfl⟩, rfl, fun ks h => flatOk_of (d := 12) (by decide) (by cases h; kernel_rfl) Tryz.eqGuardType250 (by rw [Tryz.underlying250])⟩
theorem ty251_ok : TyOk Tryz.prog 251 ty251 :=
  ⟨⟨Tryz.t251, by kernel_rfl, rfl, rfl, _, rfl, fun ρ => by simp [ty251, γ, γL]⟩, rfl, by first | (intro h; cases h; done) | (intro _; rfl), rfl, ⟨_, Tryz.underlying251, rfl⟩, rfl, fun ks h => flatOk_of (d := 12) (by decide) (by cases h; kernel_rfl) Tryz.eqGuardType251 (by rw [Tryz.underlying251])⟩
theorem ty252_ok : TyOk Tryz.prog 252 ty252 :=
  ⟨⟨Tryz.t252, by kernel_rfl, rfl, rfl, _, rfl, fun ρ => by simp [ty252, γ]⟩, rfl, by first | (intro h; cases h; done) | (intro _; rfl), rfl, ⟨_, _, _, Tryz.underlying252⟩, rfl, fun ks h => by cases h⟩
theorem ty253_ok : TyOk Tryz.prog 253 ty253 :=
  ⟨⟨Tryz.t253, by kernel_rfl, rfl, rfl, _, rfl, fun ρ => by simp [ty253, γ]⟩, rfl, by first | (intro h; cases h; done) | (intro _; rfl), rfl, ⟨_, _, _, Tryz.underlying253⟩, rfl, fun ks h => by cases h⟩
theorem ty254_ok : TyOk Tryz.prog 254 ty254 :=
  ⟨⟨Tryz.t254, by kernel_rfl, rfl, rfl, _, rfl, fun ρ => by simp [ty254, γ]⟩, rfl, by first | (intro h; cases h; done) | (intro _; rfl), rfl, ⟨_, _, _, Tryz.underlying254⟩, rfl, fun ks h => by cases h⟩
theorem ty255_ok : TyOk Tryz.prog 255 ty255 :=
  ⟨⟨Tryz.t255, by kernel_rfl, rfl, rfl, _, rfl, fun ρ => by simp [ty255, γ]⟩, rfl, by first | (intro h; cases h; done) | (intro _; rfl), rfl, ⟨_, _, _, Tryz.underlying255⟩, rfl, fun ks h => by cases h⟩
theorem ty256_ok : TyOk Tryz.prog 256 ty256 :=
  ⟨⟨Tryz.t256, by kernel_rfl, rfl, rfl, _, rfl, fun ρ => by simp [ty256, γ]⟩, rfl, by first | (intro h; cases h; done) | (intro _; rfl), rfl, ⟨_, _, _, Tryz.underlying256⟩, rfl, fun ks h => by cases h⟩
theorem ty257_ok : TyOk Tryz.prog 257 ty257 :=
  ⟨⟨Tryz.t257, by kernel_rfl, rfl, rfl, _, rfl, fun ρ => by simp [ty257, γ]⟩, rfl, by first | (intro h; cases h; done) | (intro _; rfl), rfl, ⟨_, _, _, Tryz.underlying257⟩, rfl, fun ks h => by cases h⟩
theorem ty258_ok : TyOk Tryz.prog 258 ty258 :=
  ⟨⟨Tryz.t258, by kernel_rfl, rfl, rfl, _, rfl, fun ρ => by simp [ty258, γ]⟩, rfl, by first | (intro h; cases h; done) | (intro _; rfl), rfl, ⟨_, _, _, Tryz.underlying258⟩, rfl, fun ks h => by cases h⟩
theorem ty259_ok : TyOk Tryz.prog 259 ty259 :=
  ⟨⟨Tryz.t259, by kernel_rfl, rfl, rfl, _, rfl, fun ρ => by simp [ty259, γ]⟩, rfl, by first | (intro h; cases h; done) | (intro _; rfl), rfl, ⟨_, _, _, Tryz.underlying259⟩, rfl, fun ks h => by cases h⟩
theorem ty260_ok : TyOk Tryz.prog 260 ty260 :=
  ⟨⟨Tryz.t260, by kernel_rfl, rfl, rfl, _, rfl, fun ρ => by simp [ty260, γ]⟩, rfl, by first | (intro h; cases h; done) | (intro _; rfl), rfl, ⟨_, _, _, Tryz.underlying260⟩, rfl, fun ks h => by cases h⟩
theorem ty261_ok : TyOk Tryz.prog 261 ty261 :=
  ⟨⟨Tryz.t261, by kernel_rfl, rfl, rfl, _, rfl, fun ρ => by simp [ty261, γ, γL]⟩, rfl, by first | (intro h; cases h; done) | (intro _; rfl), rfl, ⟨_, Tryz.underlying261, rfl⟩, rfl, fun ks h => by cases h⟩
theorem ty262_ok : TyOk Tryz.prog 262 ty262 :=
  ⟨⟨Tryz.t262, by kernel_rfl, rfl, rfl, _, rfl, fun ρ => by simp [ty262, γ, γL]⟩, rfl, by first | (intro h; cases h; done) | (intro _; rfl), rfl, ⟨_, Tryz.underlying262, rfl⟩, rfl, fun ks h => by cases h⟩
theorem ty263_ok : TyOk Tryz.prog 263 ty263 :=
  ⟨⟨Tryz.t263, by kernel_rfl, rfl, rfl, _, rfl, fun ρ => by simp [ty263, γ, γL]⟩, rfl, by first | (intro h; cases h; done) | (intro _; rfl), rfl, Tryz.underlying263, rfl, fun ks h => by cases h⟩
theorem ty264_ok : TyOk Tryz.prog 264 ty264 :=
  ⟨⟨Tryz.t264, by kernel_rfl, rfl, rfl, _, rfl, fun ρ => by simp [ty264, γ, γL]⟩, rfl, by first | (intro h; cases h; done) | (intro _; rfl), rfl, ⟨_, Tryz.underlying264, rfl⟩, rfl, fun ks h => by cases h⟩
theorem ty265_ok : TyOk Tryz.prog 265 ty265 :=
  ⟨⟨Tryz.t265, by kernel_rfl, rfl, rfl, _, rfl, fun ρ => by simp [ty265, γ, γL]⟩, rfl, by first | (intro h; cases h; done) | (intro _; rfl), rfl, ⟨_, Tryz.underlying265, rfl⟩, rfl, fun ks h => by cases h⟩
theorem ty266_ok : TyOk Tryz.prog 266 ty266 :=
  ⟨⟨Tryz.t266, by kernel_rfl, rfl, rfl, _, rfl, fun ρ => by simp [ty266, γ]⟩, rfl, by first | (intro h; cases h; done) | (intro _; rfl), rfl, Tryz.underlying266, rfl, fun ks h => by cases h⟩
theorem ty267_ok : TyOk Tryz.prog 267 ty267 :=
  ⟨⟨Tryz.t267, by kernel_rfl, rfl, rfl, _, rfl, fun ρ => by simp [ty267, γ]⟩, rfl, by first | (intro h; cases h; done) | (intro _; rfl), rfl, Tryz.underlying267, rfl, fun ks h => by cases h⟩
theorem ty268_ok : TyOk Tryz.prog 268 ty268 :=
  ⟨⟨Tryz.t268, by kernel_rfl, rfl, rfl, _, rfl, fun ρ => by simp [ty268, γ]⟩, rfl, by first | (intro h; cases h; done) | (intro _; rfl), rfl, ⟨_, _, _, Tryz.underlying268⟩, rfl, fun ks h => by cases h⟩
theorem ty269_ok : TyOk Tryz.prog 269 ty269 :=
  ⟨⟨Tryz.t269, by kernel_rfl, rfl, rfl, _, rfl, fun ρ => by simp [ty269, γ]⟩, rfl, by first | (intro h; cases h; done) | (intro _; rfl), rfl, Tryz.underlying269, rfl, fun ks h => by cases h⟩
theorem ty270_ok : TyOk Tryz.prog 270 ty270 :=
  ⟨⟨Tryz.t270, by kernel_rfl, rfl, rfl, _, rfl, fun ρ => by simp [ty270, γ]⟩, rfl, by first | (intro h; cases h; done) | (intro _; rfl), rfl, Tryz.underlying270, rfl, fun ks h => by cases h⟩
theorem ty271_ok : TyOk Tryz.prog 271 ty271 :=
  ⟨⟨Tryz.t271, by kernel_rfl, rfl, rfl, _, rfl, fun ρ => by simp [ty271, γ]⟩, rfl, by first | (intro h; cases h; done) | (intro _; rfl), rfl, Tryz.underlying271, rfl, fun ks h => by cases h⟩
theorem ty272_ok : TyOk Tryz.prog 272 ty272 :=
  ⟨⟨Tryz.t272, by kernel_rfl, rfl, rfl, _, rfl, fun ρ => by simp [ty272, γ, γL]⟩, rfl, by first | (intro h; cases h; done) | (intro _; rfl), rfl, ⟨_, Tryz.underlying272, rfl⟩, rfl, fun ks h => by cases h⟩
theorem ty273_ok : TyOk Tryz.prog 273 ty273 :=
  ⟨⟨Tryz.t273, by kernel_rfl, rfl, rfl, _, rfl, fun ρ => by simp [ty273, γ, γL]⟩, rfl, by first | (intro h; cases h; done) | (intro _; rfl), rfl, ⟨_, Tryz.underlying273, rfl⟩, rfl, fun ks h => by cases h⟩
theorem tab_ok : TabOk Tryz.prog tyTab := fun t i => (tab_node (tab_node (tab_node (tab_node (tab_node (tab_node (tab_node (tab_leaf ty1_ok) (tab_node (tab_leaf ty2_ok) (tab_leaf ty3_ok))) (tab_node (tab_node (tab_leaf ty4_ok) (tab_leaf ty5_ok)) (tab_node (tab_leaf ty6_ok) (tab_leaf ty7_ok)))) (tab_node (tab_node (tab_node (tab_leaf ty8_ok) (tab_leaf ty9_ok)) (tab_node (tab_leaf ty10_ok) (tab_leaf ty11_ok))) (tab_node (tab_node (tab_leaf ty12_ok) (tab_leaf ty13_ok)) (tab_node (tab_leaf ty14_ok) (tab_leaf ty15_ok))))) (tab_node (tab_node (tab_node (tab_node (tab_leaf ty16_ok) (tab_leaf ty17_ok)) (tab_node (tab_leaf ty18_ok) (tab_leaf ty19_ok))) (tab_node (tab_node (tab_leaf ty20_ok) (tab_leaf ty21_ok)) (tab_node (tab_leaf ty22_ok) (tab_leaf ty23_ok)))) (tab_node (tab_node (tab_node (tab_leaf ty24_ok) (tab_leaf ty25_ok)) (tab_node (tab_leaf ty26_ok) (tab_leaf ty27_ok))) (tab_node (tab_node (tab_leaf ty28_ok) (tab_leaf ty29_ok)) (tab_node (tab_leaf ty30_ok) (tab_leaf ty31_ok)))))) (tab_node (tab_node (tab_node (tab_node (tab_node (tab_leaf ty32_ok) (tab_leaf ty33_ok)) (tab_node (tab_leaf ty34_ok) (tab_leaf ty35_ok))) (tab_node (tab_node (tab_leaf ty36_ok) (tab_leaf ty37_ok)) (tab_node (tab_leaf ty38_ok) (tab_leaf ty39_ok)))) (tab_node (tab_node (tab_node (tab_leaf ty40_ok) (tab_leaf ty41_ok)) (tab_node (tab_leaf ty42_ok) (tab_leaf ty43_ok))) (tab_node (tab_node (tab_leaf ty44_ok) (tab_leaf ty45_ok)) (tab_node (tab_leaf ty46_ok) (tab_leaf ty47_ok))))) (tab_node (tab_node (tab_node (tab_node (tab_leaf ty49_ok) (tab_leaf ty50_ok)) (tab_node (tab_leaf ty52_ok) (tab_leaf ty53_ok))) (tab_node (tab_node (tab_leaf ty54_ok) (tab_leaf ty55_ok)) (tab_node (tab_leaf ty56_ok) (tab_leaf ty57_ok)))) (tab_node (tab_node (tab_node (tab_leaf ty58_ok) (tab_leaf ty59_ok)) (tab_node (tab_leaf ty60_ok) (tab_leaf ty61_ok))) (tab_node (tab_node (tab_leaf ty62_ok) (tab_leaf ty64_ok)) (tab_node (tab_leaf ty66_ok) (tab_leaf ty67_ok))))))) (tab_node (tab_node (tab_node (tab_node (tab_node (tab_leaf ty69_ok) (tab_node (tab_leaf ty70_ok) (tab_leaf ty71_ok))) (tab_node (tab_node (tab_leaf ty72_ok) (tab_leaf ty73_ok)) (tab_node (tab_leaf ty74_ok) (tab_leaf ty75_ok)))) (tab_node (tab_node (tab_node (tab_leaf ty76_ok) (tab_leaf ty77_ok)) (tab_node (tab_leaf ty78_ok) (tab_leaf ty79_ok))) (tab_node (tab_node (tab_leaf ty80_ok) (tab_leaf ty81_ok)) (tab_node (tab_leaf ty82_ok) (tab_leaf ty83_ok))))) (tab_node (tab_node (tab_node (tab_node (tab_leaf ty84_ok) (tab_leaf ty85_ok)) (tab_node (tab_leaf ty86_ok) (tab_leaf ty88_ok))) (tab_node (tab_node (tab_leaf ty89_ok) (tab_leaf ty90_ok)) (tab_node (tab_leaf ty92_ok) (tab_leaf ty93_ok)))) (tab_node (tab_node (tab_node (tab_leaf ty94_ok) (tab_leaf ty95_ok)) (tab_node (tab_leaf ty96_ok) (tab_leaf ty97_ok))) (tab_node (tab_node (tab_leaf ty98_ok) (tab_leaf ty99_ok)) (tab_node (tab_leaf ty100_ok) (tab_leaf ty101_ok)))))) (tab_node (tab_node (tab_node (tab_node (tab_node (tab_leaf ty102_ok) (tab_leaf ty103_ok)) (tab_node (tab_leaf ty104_ok) (tab_leaf ty105_ok))) (tab_node (tab_node (tab_leaf ty106_ok) (tab_leaf ty108_ok)) (tab_node (tab_leaf ty109_ok) (tab_leaf ty110_ok)))) (tab_node (tab_node (tab_node (tab_leaf ty111_ok) (tab_leaf ty112_ok)) (tab_node (tab_leaf ty113_ok) (tab_leaf ty114_ok))) (tab_node (tab_node (tab_leaf ty115_ok) (tab_leaf ty116_ok)) (tab_node (tab_leaf ty117_ok) (tab_leaf ty118_ok))))) (tab_node (tab_node (tab_node (tab_node (tab_leaf ty119_ok) (tab_leaf ty120_ok)) (tab_node (tab_leaf ty121_ok) (tab_leaf ty123_ok))) (tab_node (tab_node (tab_leaf ty125_ok) (tab_leaf ty126_ok)) (tab_node (tab_leaf ty128_ok) (tab_leaf ty129_ok)))) (tab_node (tab_node (tab_node (tab_leaf ty130_ok) (tab_leaf ty131_ok)) (tab_node (tab_leaf ty132_ok) (tab_leaf ty133_ok))) (tab_node (tab_node (tab_leaf ty134_ok) (tab_leaf ty135_ok)) (tab_node (tab_leaf ty136_ok) (tab_leaf ty137_ok)))))))) (tab_node (tab_node (tab_node (tab_node (tab_node (tab_node (tab_leaf ty138_ok) (tab_node (tab_leaf ty139_ok) (tab_leaf ty140_ok))) (tab_node (tab_node (tab_leaf ty141_ok) (tab_leaf ty142_ok)) (tab_node (tab_leaf ty143_ok) (tab_leaf ty145_ok)))) (tab_node (tab_node (tab_node (tab_leaf ty146_ok) (tab_leaf ty147_ok)) (tab_node (tab_leaf ty148_ok) (tab_leaf ty149_ok))) (tab_node (tab_node (tab_leaf ty150_ok) (tab_leaf ty151_ok)) (tab_node (tab_leaf ty152_ok) (tab_leaf ty153_ok))))) (tab_node (tab_node (tab_node (tab_node (tab_leaf ty155_ok) (tab_leaf ty156_ok)) (tab_node (tab_leaf ty157_ok) (tab_leaf ty158_ok))) (tab_node (tab_node (tab_leaf ty159_ok) (tab_leaf ty160_ok)) (tab_node (tab_leaf ty161_ok) (tab_leaf ty162_ok)))) (tab_node (tab_node (tab_node (tab_leaf ty163_ok) (tab_leaf ty164_ok)) (tab_node (tab_leaf ty165_ok) (tab_leaf ty166_ok))) (tab_node (tab_node (tab_leaf ty167_ok) (tab_leaf ty168_ok)) (tab_node (tab_leaf ty169_ok) (tab_leaf ty170_ok)))))) (tab_node (tab_node (tab_node (tab_node (tab_node (tab_leaf ty171_ok) (tab_leaf ty172_ok)) (tab_node (tab_leaf ty173_ok) (tab_leaf ty175_ok))) (tab_node (tab_node (tab_leaf ty176_ok) (tab_leaf ty177_ok)) (tab_node (tab_leaf ty178_ok) (tab_leaf ty179_ok)))) (tab_node (tab_node (tab_node (tab_leaf ty180_ok) (tab_leaf ty181_ok)) (tab_node (tab_leaf ty182_ok) (tab_leaf ty183_ok))) (tab_node (tab_node (tab_leaf ty184_ok) (tab_leaf ty185_ok)) (tab_node (tab_leaf ty186_ok) (tab_leaf ty187_ok))))) (tab_node (tab_node (tab_node (tab_node (tab_leaf ty188_ok) (tab_leaf ty189_ok)) (tab_node (tab_leaf ty191_ok) (tab_leaf ty192_ok))) (tab_node (tab_node (tab_leaf ty193_ok) (tab_leaf ty194_ok)) (tab_node (tab_leaf ty195_ok) (tab_leaf ty196_ok)))) (tab_node (tab_node (tab_node (tab_leaf ty197_ok) (tab_leaf ty198_ok)) (tab_node (tab_leaf ty200_ok) (tab_leaf ty201_ok))) (tab_node (tab_node (tab_leaf ty202_ok) (tab_leaf ty203_ok)) (tab_node (tab_leaf ty204_ok) (tab_leaf ty205_ok))))))) (tab_node (tab_node (tab_node (tab_node (tab_node (tab_node (tab_leaf ty206_ok) (tab_leaf ty207_ok)) (tab_node (tab_leaf ty208_ok) (tab_leaf ty209_ok))) (tab_node (tab_node (tab_leaf ty210_ok) (tab_leaf ty212_ok)) (tab_node (tab_leaf ty213_ok) (tab_leaf ty214_ok)))) (tab_node (tab_node (tab_node (tab_leaf ty215_ok) (tab_leaf ty216_ok)) (tab_node (tab_leaf ty217_ok) (tab_leaf ty218_ok))) (tab_node (tab_node (tab_leaf ty219_ok) (tab_leaf ty220_ok)) (tab_node (tab_leaf ty221_ok) (tab_leaf ty222_ok))))) (tab_node (tab_node (tab_node (tab_node (tab_leaf ty223_ok) (tab_leaf ty224_ok)) (tab_node (tab_leaf ty225_ok) (tab_leaf ty226_ok))) (tab_node (tab_node (tab_leaf ty227_ok) (tab_leaf ty228_ok)) (tab_node (tab_leaf ty229_ok) (tab_leaf ty231_ok)))) (tab_node (tab_node (tab_node (tab_leaf ty232_ok) (tab_leaf ty233_ok)) (tab_node (tab_leaf ty234_ok) (tab_leaf ty236_ok))) (tab_node (tab_node (tab_leaf ty237_ok) (tab_leaf ty238_ok)) (tab_node (tab_leaf ty240_ok) (tab_leaf ty241_ok)))))) (tab_node (tab_node (tab_node (tab_node (tab_node (tab_leaf ty242_ok) (tab_leaf ty243_ok)) (tab_node (tab_leaf ty244_ok) (tab_leaf ty245_ok))) (tab_node (tab_node (tab_leaf ty246_ok) (tab_leaf ty247_ok)) (tab_node (tab_leaf ty248_ok) (tab_leaf ty249_ok)))) (tab_node (tab_node (tab_node (tab_leaf ty250_ok) (tab_leaf ty251_ok)) (tab_node (tab_leaf ty252_ok) (tab_leaf ty253_ok))) (tab_node (tab_node (tab_leaf ty254_ok) (tab_leaf ty255_ok)) (tab_node (tab_leaf ty256_ok) (tab_leaf ty257_ok))))) (tab_node (tab_node (tab_node (tab_node (tab_leaf ty258_ok) (tab_leaf ty259_ok)) (tab_node (tab_leaf ty260_ok) (tab_leaf ty261_ok))) (tab_node (tab_node (tab_leaf ty262_ok) (tab_leaf ty263_ok)) (tab_node (tab_leaf ty264_ok) (tab_leaf ty265_ok)))) (tab_node (tab_node (tab_node (tab_leaf ty266_ok) (tab_leaf ty267_ok)) (tab_node (tab_leaf ty268_ok) (tab_leaf ty269_ok))) (tab_node (tab_node (tab_leaf ty270_ok) (tab_leaf ty271_ok)) (tab_node (tab_leaf ty272_ok) (tab_leaf ty273_ok)))))))))
theorem mixed : Tryz.prog.follows .mixedOrders = true := by kernel_rfl
theorem noNum : NoNum Tryz.prog := by
  intro g fn h
  have e : Tryz.prog.funcs.all (fun fn => !(fn.name == "runtime.NumGoroutine")) = true := by kernel_rfl
  rw [Array.all_eq_true_iff_forall_mem] at e
  have := e fn (Array.mem_of_getElem? h)
  simpa using this
end Go.Ev

