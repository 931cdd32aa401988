/- What the interpreter knows of this program's types, and that it is so. No statement is proved here. -/
import Derived.Test.YtjmefokfnehefaaGreatEvN
import Derived.Test.YtjmefokfnehefaaGreatProg
import Derived.KernelRfl
namespace Go.Ev
open Go.Proofs
set_option linter.unusedVariables false
set_option linter.unusedSimpArgs false
def ty1 : TyI := ⟨1, 8, [.nilf], false, none, .func⟩
def ty2 : TyI := ⟨1, 8, [.int .i64 0], false, none, .int .i64⟩
def ty3 : TyI := ⟨1, 8, [.int .i64 0], false, none, .int .i64⟩
def ty4 : TyI := ⟨1, 1, [.bool false], false, none, .bool⟩
def ty5 : TyI := ⟨1, 1, [.int .u8 0], false, none, .int .u8⟩
def ty6 : TyI := ⟨1, 1, [.int .u8 0], false, none, .int .u8⟩
def ty7 : TyI := ⟨4, 24, [.int .i64 0, .int .i64 0, .bool false, .int .u8 0], true, some [.int .i64, .int .i64, .bool, .int .u8], .struct [(0, 2), (1, 3), (2, 4), (3, 6)]⟩
def ty8 : TyI := ⟨4, 24, [.int .i64 0, .int .i64 0, .bool false, .int .u8 0], true, some [.int .i64, .int .i64, .bool, .int .u8], .struct [(0, 2), (1, 3), (2, 4), (3, 6)]⟩
def ty9 : TyI := ⟨1, 16, [.str ⟨#[]⟩], false, none, .str⟩
def ty10 : TyI := ⟨1, 16, [.str ⟨#[]⟩], false, none, .str⟩
def ty11 : TyI := ⟨1, 16, [.str ⟨#[]⟩], false, none, .str⟩
def ty12 : TyI := ⟨1, 8, [.int .u64 0], false, none, .int .u64⟩
def ty13 : TyI := ⟨2, 24, [.str ⟨#[]⟩, .int .u64 0], true, none, .struct [(0, 9), (1, 12)]⟩
def ty14 : TyI := ⟨2, 24, [.str ⟨#[]⟩, .int .u64 0], true, none, .struct [(0, 9), (1, 12)]⟩
def ty15 : TyI := ⟨1, 8, [.nilp], false, none, .ptr 341⟩
def ty16 : TyI := ⟨1, 8, [.nilp], false, none, .ptr 344⟩
def ty17 : TyI := ⟨1, 8, [.nilp], false, none, .ptr 353⟩
def ty18 : TyI := ⟨1, 8, [.nilp], true, none, .struct [(0, 17)]⟩
def ty19 : TyI := ⟨1, 8, [.nilp], true, none, .struct [(0, 17)]⟩
def ty20 : TyI := ⟨1, 16, [.nili], false, none, .iface⟩
def ty21 : TyI := ⟨1, 4, [.int .i32 0], false, none, .int .i32⟩
def ty22 : TyI := ⟨1, 8, [.int .i64 0], false, none, .int .i64⟩
def ty23 : TyI := ⟨3, 24, [.int .i64 0, .int .i64 0, .int .i64 0], true, some [.int .i64, .int .i64, .int .i64], .struct [(0, 22), (1, 22), (2, 22)]⟩
def ty24 : TyI := ⟨3, 24, [.int .i64 0, .int .i64 0, .int .i64 0], true, some [.int .i64, .int .i64, .int .i64], .struct [(0, 22), (1, 22), (2, 22)]⟩
def ty25 : TyI := ⟨1, 24, [.nils], false, none, .slice 24⟩
def ty26 : TyI := ⟨6, 64, [.int .i64 0, .int .i64 0, .int .i64 0, .int .i64 0, .int .i64 0, .nils], true, none, .struct [(0, 3), (1, 22), (2, 24), (5, 25)]⟩
def ty27 : TyI := ⟨6, 64, [.int .i64 0, .int .i64 0, .int .i64 0, .int .i64 0, .int .i64 0, .nils], true, none, .struct [(0, 3), (1, 22), (2, 24), (5, 25)]⟩
def ty28 : TyI := ⟨4, 32, [.int .i64 0, .int .i64 0, .int .i64 0, .int .i64 0], true, some [.int .i64, .int .i64, .int .i64, .int .i64], .struct [(0, 22), (1, 22), (2, 22), (3, 22)]⟩
def ty29 : TyI := ⟨4, 32, [.int .i64 0, .int .i64 0, .int .i64 0, .int .i64 0], true, some [.int .i64, .int .i64, .int .i64, .int .i64], .struct [(0, 22), (1, 22), (2, 22), (3, 22)]⟩
def ty30 : TyI := ⟨7, 56, [.int .i64 0, .int .i64 0, .int .i64 0, .int .i64 0, .int .i64 0, .int .i64 0, .int .i64 0], true, some [.int .i64, .int .i64, .int .i64, .int .i64, .int .i64, .int .i64, .int .i64], .struct [(0, 24), (3, 29)]⟩
def ty31 : TyI := ⟨7, 56, [.int .i64 0, .int .i64 0, .int .i64 0, .int .i64 0, .int .i64 0, .int .i64 0, .int .i64 0], true, some [.int .i64, .int .i64, .int .i64, .int .i64, .int .i64, .int .i64, .int .i64], .struct [(0, 24), (3, 29)]⟩
def ty32 : TyI := ⟨13, 120, [.int .i64 0, .int .i64 0, .int .i64 0, .int .i64 0, .int .i64 0, .nils, .int .i64 0, .int .i64 0, .int .i64 0, .int .i64 0, .int .i64 0, .int .i64 0, .int .i64 0], true, none, .struct [(0, 27), (6, 31)]⟩
def ty33 : TyI := ⟨13, 120, [.int .i64 0, .int .i64 0, .int .i64 0, .int .i64 0, .int .i64 0, .nils, .int .i64 0, .int .i64 0, .int .i64 0, .int .i64 0, .int .i64 0, .int .i64 0, .int .i64 0], true, none, .struct [(0, 27), (6, 31)]⟩
def ty34 : TyI := ⟨3, 24, [.int .i64 0, .int .i64 0, .int .i64 0], true, some [.int .i64, .int .i64, .int .i64], .struct [(0, 2), (1, 2), (2, 2)]⟩
def ty35 : TyI := ⟨3, 24, [.int .i64 0, .int .i64 0, .int .i64 0], true, some [.int .i64, .int .i64, .int .i64], .struct [(0, 2), (1, 2), (2, 2)]⟩
def ty36 : TyI := ⟨1, 24, [.nils], false, none, .slice 3⟩
def ty37 : TyI := ⟨1, 8, [.int .i64 0], false, none, .int .i64⟩
def ty39 : TyI := ⟨1, 8, [.nilf], false, none, .func⟩
def ty40 : TyI := ⟨1, 8, [.nilf], false, none, .func⟩
def ty42 : TyI := ⟨1, 8, [.nilf], false, none, .func⟩
def ty43 : TyI := ⟨1, 8, [.nilf], false, none, .func⟩
def ty44 : TyI := ⟨1, 8, [.nilf], false, none, .func⟩
def ty45 : TyI := ⟨1, 8, [.nilp], false, none, .ptr 130⟩
def ty46 : TyI := ⟨1, 8, [.nilf], false, none, .func⟩
def ty47 : TyI := ⟨1, 8, [.nilf], false, none, .func⟩
def ty48 : TyI := ⟨1, 24, [.nils], false, none, .slice 35⟩
def ty50 : TyI := ⟨1, 8, [.nilf], false, none, .func⟩
def ty51 : TyI := ⟨6, 48, [.int .i64 0, .int .i64 0, .int .i64 0, .int .i64 0, .int .i64 0, .int .i64 0], true, some [.int .i64, .int .i64, .int .i64, .int .i64, .int .i64, .int .i64], .struct [(0, 35), (3, 35)]⟩
def ty52 : TyI := ⟨6, 48, [.int .i64 0, .int .i64 0, .int .i64 0, .int .i64 0, .int .i64 0, .int .i64 0], true, some [.int .i64, .int .i64, .int .i64, .int .i64, .int .i64, .int .i64], .struct [(0, 35), (3, 35)]⟩
def ty54 : TyI := ⟨1, 8, [.nilf], false, none, .func⟩
def ty55 : TyI := ⟨1, 8, [.nilf], false, none, .func⟩
def ty56 : TyI := ⟨1, 8, [.nilf], false, none, .func⟩
def ty57 : TyI := ⟨22, 192, [.int .i64 0, .int .i64 0, .int .i64 0, .int .i64 0, .int .i64 0, .int .i64 0, .nils, .int .i64 0, .int .i64 0, .int .i64 0, .int .i64 0, .int .i64 0, .int .i64 0, .int .i64 0, .int .i64 0, .int .i64 0, .int .i64 0, .int .i64 0, .int .i64 0, .int .i64 0, .int .i64 0, .int .i64 0], true, none, .struct [(0, 3), (1, 33), (14, 22), (15, 24), (18, 24), (21, 22)]⟩
def ty58 : TyI := ⟨22, 192, [.int .i64 0, .int .i64 0, .int .i64 0, .int .i64 0, .int .i64 0, .int .i64 0, .nils, .int .i64 0, .int .i64 0, .int .i64 0, .int .i64 0, .int .i64 0, .int .i64 0, .int .i64 0, .int .i64 0, .int .i64 0, .int .i64 0, .int .i64 0, .int .i64 0, .int .i64 0, .int .i64 0, .int .i64 0], true, none, .struct [(0, 3), (1, 33), (14, 22), (15, 24), (18, 24), (21, 22)]⟩
def ty59 : TyI := ⟨4, 32, [.int .i64 0, .int .i64 0, .int .i64 0, .int .i64 0], true, some [.int .i64, .int .i64, .int .i64, .int .i64], .struct [(0, 22), (1, 24)]⟩
def ty60 : TyI := ⟨4, 32, [.int .i64 0, .int .i64 0, .int .i64 0, .int .i64 0], true, some [.int .i64, .int .i64, .int .i64, .int .i64], .struct [(0, 22), (1, 24)]⟩
def ty62 : TyI := ⟨1, 8, [.nilf], false, none, .func⟩
def ty63 : TyI := ⟨1, 8, [.nilf], false, none, .func⟩
def ty64 : TyI := ⟨1, 8, [.nilf], false, none, .func⟩
def ty65 : TyI := ⟨1, 8, [.int .u64 0], false, none, .int .u64⟩
def ty66 : TyI := ⟨8, 64, [.int .u64 0, .int .u64 0, .int .u64 0, .int .u64 0, .int .u64 0, .int .u64 0, .int .u64 0, .int .u64 0], true, some [.int .u64, .int .u64, .int .u64, .int .u64, .int .u64, .int .u64, .int .u64, .int .u64], .arr 8 65⟩
def ty67 : TyI := ⟨8, 64, [.int .u64 0, .int .u64 0, .int .u64 0, .int .u64 0, .int .u64 0, .int .u64 0, .int .u64 0, .int .u64 0], true, some [.int .u64, .int .u64, .int .u64, .int .u64, .int .u64, .int .u64, .int .u64, .int .u64], .struct [(0, 66)]⟩
def ty68 : TyI := ⟨8, 64, [.int .u64 0, .int .u64 0, .int .u64 0, .int .u64 0, .int .u64 0, .int .u64 0, .int .u64 0, .int .u64 0], true, some [.int .u64, .int .u64, .int .u64, .int .u64, .int .u64, .int .u64, .int .u64, .int .u64], .struct [(0, 66)]⟩
def ty69 : TyI := ⟨24, 192, [.int .u64 0, .int .u64 0, .int .u64 0, .int .u64 0, .int .u64 0, .int .u64 0, .int .u64 0, .int .u64 0, .int .u64 0, .int .u64 0, .int .u64 0, .int .u64 0, .int .u64 0, .int .u64 0, .int .u64 0, .int .u64 0, .int .u64 0, .int .u64 0, .int .u64 0, .int .u64 0, .int .u64 0, .int .u64 0, .int .u64 0, .int .u64 0], true, some [.int .u64, .int .u64, .int .u64, .int .u64, .int .u64, .int .u64, .int .u64, .int .u64, .int .u64, .int .u64, .int .u64, .int .u64, .int .u64, .int .u64, .int .u64, .int .u64, .int .u64, .int .u64, .int .u64, .int .u64, .int .u64, .int .u64, .int .u64, .int .u64], .struct [(0, 68), (8, 68), (16, 68)]⟩
def ty70 : TyI := ⟨24, 192, [.int .u64 0, .int .u64 0, .int .u64 0, .int .u64 0, .int .u64 0, .int .u64 0, .int .u64 0, .int .u64 0, .int .u64 0, .int .u64 0, .int .u64 0, .int .u64 0, .int .u64 0, .int .u64 0, .int .u64 0, .int .u64 0, .int .u64 0, .int .u64 0, .int .u64 0, .int .u64 0, .int .u64 0, .int .u64 0, .int .u64 0, .int .u64 0], true, some [.int .u64, .int .u64, .int .u64, .int .u64, .int .u64, .int .u64, .int .u64, .int .u64, .int .u64, .int .u64, .int .u64, .int .u64, .int .u64, .int .u64, .int .u64, .int .u64, .int .u64, .int .u64, .int .u64, .int .u64, .int .u64, .int .u64, .int .u64, .int .u64], .struct [(0, 68), (8, 68), (16, 68)]⟩
def ty71 : TyI := ⟨33, 280, [.int .u64 0, .int .u64 0, .int .u64 0, .int .u64 0, .int .u64 0, .int .u64 0, .int .u64 0, .int .u64 0, .int .u64 0, .int .u64 0, .int .u64 0, .int .u64 0, .int .u64 0, .int .u64 0, .int .u64 0, .int .u64 0, .int .u64 0, .int .u64 0, .int .u64 0, .int .u64 0, .int .u64 0, .int .u64 0, .int .u64 0, .int .u64 0, .int .u64 0, .int .u64 0, .int .u64 0, .int .u64 0, .int .u64 0, .int .u64 0, .int .u64 0, .int .u64 0, .nils], true, none, .struct [(0, 70), (24, 68), (32, 36)]⟩
def ty72 : TyI := ⟨33, 280, [.int .u64 0, .int .u64 0, .int .u64 0, .int .u64 0, .int .u64 0, .int .u64 0, .int .u64 0, .int .u64 0, .int .u64 0, .int .u64 0, .int .u64 0, .int .u64 0, .int .u64 0, .int .u64 0, .int .u64 0, .int .u64 0, .int .u64 0, .int .u64 0, .int .u64 0, .int .u64 0, .int .u64 0, .int .u64 0, .int .u64 0, .int .u64 0, .int .u64 0, .int .u64 0, .int .u64 0, .int .u64 0, .int .u64 0, .int .u64 0, .int .u64 0, .int .u64 0, .nils], true, none, .struct [(0, 70), (24, 68), (32, 36)]⟩
def ty74 : TyI := ⟨1, 8, [.nilf], false, none, .func⟩
def ty75 : TyI := ⟨1, 8, [.nilf], false, none, .func⟩
def ty76 : TyI := ⟨1, 8, [.nilf], false, none, .func⟩
def ty77 : TyI := ⟨1, 8, [.nilf], false, none, .func⟩
def ty79 : TyI := ⟨1, 8, [.nilf], false, none, .func⟩
def ty80 : TyI := ⟨2, 16, [.int .i64 0, .int .i64 0], true, some [.int .i64, .int .i64], .arr 2 2⟩
def ty81 : TyI := ⟨6, 48, [.int .i64 0, .int .i64 0, .int .i64 0, .int .i64 0, .int .i64 0, .int .i64 0], true, some [.int .i64, .int .i64, .int .i64, .int .i64, .int .i64, .int .i64], .arr 3 80⟩
def ty83 : TyI := ⟨1, 8, [.nilf], false, none, .func⟩
def ty84 : TyI := ⟨1, 8, [.nilf], false, none, .func⟩
def ty85 : TyI := ⟨1, 8, [.nilf], false, none, .func⟩
def ty86 : TyI := ⟨1, 8, [.nilf], false, none, .func⟩
def ty87 : TyI := ⟨1, 8, [.nilf], false, none, .func⟩
def ty88 : TyI := ⟨1, 24, [.nils], false, none, .slice 58⟩
def ty89 : TyI := ⟨1, 8, [.nilf], false, none, .func⟩
def ty90 : TyI := ⟨1, 8, [.nilf], false, none, .func⟩
def ty91 : TyI := ⟨1, 8, [.nilf], false, none, .func⟩
def ty92 : TyI := ⟨1, 8, [.nilp], false, none, .ptr 159⟩
def ty94 : TyI := ⟨1, 8, [.nilf], false, none, .func⟩
def ty96 : TyI := ⟨1, 8, [.nilf], false, none, .func⟩
def ty97 : TyI := ⟨1, 8, [.nilf], false, none, .func⟩
def ty99 : TyI := ⟨1, 8, [.nilf], false, none, .func⟩
def ty100 : TyI := ⟨1, 8, [.nilf], false, none, .func⟩
def ty101 : TyI := ⟨1, 8, [.nilf], false, none, .func⟩
def ty102 : TyI := ⟨1, 8, [.nilf], false, none, .func⟩
def ty103 : TyI := ⟨1, 8, [.int .u64 0], false, none, .int .u64⟩
def ty104 : TyI := ⟨1, 8, [.nilf], false, none, .func⟩
def ty105 : TyI := ⟨1, 8, [.nilf], false, none, .func⟩
def ty106 : TyI := ⟨32, 256, [.int .u64 0, .int .u64 0, .int .u64 0, .int .u64 0, .int .u64 0, .int .u64 0, .int .u64 0, .int .u64 0, .int .u64 0, .int .u64 0, .int .u64 0, .int .u64 0, .int .u64 0, .int .u64 0, .int .u64 0, .int .u64 0, .int .u64 0, .int .u64 0, .int .u64 0, .int .u64 0, .int .u64 0, .int .u64 0, .int .u64 0, .int .u64 0, .int .u64 0, .int .u64 0, .int .u64 0, .int .u64 0, .int .u64 0, .int .u64 0, .int .u64 0, .int .u64 0], true, some [.int .u64, .int .u64, .int .u64, .int .u64, .int .u64, .int .u64, .int .u64, .int .u64, .int .u64, .int .u64, .int .u64, .int .u64, .int .u64, .int .u64, .int .u64, .int .u64, .int .u64, .int .u64, .int .u64, .int .u64, .int .u64, .int .u64, .int .u64, .int .u64, .int .u64, .int .u64, .int .u64, .int .u64, .int .u64, .int .u64, .int .u64, .int .u64], .struct [(0, 70), (24, 68)]⟩
def ty107 : TyI := ⟨32, 256, [.int .u64 0, .int .u64 0, .int .u64 0, .int .u64 0, .int .u64 0, .int .u64 0, .int .u64 0, .int .u64 0, .int .u64 0, .int .u64 0, .int .u64 0, .int .u64 0, .int .u64 0, .int .u64 0, .int .u64 0, .int .u64 0, .int .u64 0, .int .u64 0, .int .u64 0, .int .u64 0, .int .u64 0, .int .u64 0, .int .u64 0, .int .u64 0, .int .u64 0, .int .u64 0, .int .u64 0, .int .u64 0, .int .u64 0, .int .u64 0, .int .u64 0, .int .u64 0], true, some [.int .u64, .int .u64, .int .u64, .int .u64, .int .u64, .int .u64, .int .u64, .int .u64, .int .u64, .int .u64, .int .u64, .int .u64, .int .u64, .int .u64, .int .u64, .int .u64, .int .u64, .int .u64, .int .u64, .int .u64, .int .u64, .int .u64, .int .u64, .int .u64, .int .u64, .int .u64, .int .u64, .int .u64, .int .u64, .int .u64, .int .u64, .int .u64], .struct [(0, 70), (24, 68)]⟩
def ty108 : TyI := ⟨1, 8, [.nilf], false, none, .func⟩
def ty109 : TyI := ⟨1, 8, [.nilf], false, none, .func⟩
def ty110 : TyI := ⟨1, 8, [.nilf], false, none, .func⟩
def ty111 : TyI := ⟨1, 8, [.nilf], false, none, .func⟩
def ty112 : TyI := ⟨1, 8, [.nilf], false, none, .func⟩
def ty114 : TyI := ⟨1, 8, [.nilf], false, none, .func⟩
def ty115 : TyI := ⟨1, 8, [.nilf], false, none, .func⟩
def ty116 : TyI := ⟨1, 8, [.nilf], false, none, .func⟩
def ty117 : TyI := ⟨24, 192, [.int .u64 0, .int .u64 0, .int .u64 0, .int .u64 0, .int .u64 0, .int .u64 0, .int .u64 0, .int .u64 0, .int .u64 0, .int .u64 0, .int .u64 0, .int .u64 0, .int .u64 0, .int .u64 0, .int .u64 0, .int .u64 0, .int .u64 0, .int .u64 0, .int .u64 0, .int .u64 0, .int .u64 0, .int .u64 0, .int .u64 0, .int .u64 0], true, some [.int .u64, .int .u64, .int .u64, .int .u64, .int .u64, .int .u64, .int .u64, .int .u64, .int .u64, .int .u64, .int .u64, .int .u64, .int .u64, .int .u64, .int .u64, .int .u64, .int .u64, .int .u64, .int .u64, .int .u64, .int .u64, .int .u64, .int .u64, .int .u64], .arr 3 68⟩
def ty118 : TyI := ⟨1, 8, [.nilf], false, none, .func⟩
def ty119 : TyI := ⟨1, 8, [.nilf], false, none, .func⟩
def ty120 : TyI := ⟨1, 8, [.nilf], false, none, .func⟩
def ty121 : TyI := ⟨1, 8, [.nilf], false, none, .func⟩
def ty122 : TyI := ⟨1, 8, [.nilf], false, none, .func⟩
def ty123 : TyI := ⟨1, 8, [.nilf], false, none, .func⟩
def ty125 : TyI := ⟨1, 8, [.nilp], false, none, .ptr 231⟩
def ty126 : TyI := ⟨1, 8, [.nilp], true, none, .struct [(0, 125)]⟩
def ty127 : TyI := ⟨1, 8, [.nilp], true, none, .struct [(0, 125)]⟩
def ty128 : TyI := ⟨1, 8, [.nilm], false, none, .map 3 58⟩
def ty129 : TyI := ⟨2, 16, [.nilp, .nilm], true, none, .struct [(0, 127), (1, 128)]⟩
def ty130 : TyI := ⟨2, 16, [.nilp, .nilm], true, none, .struct [(0, 127), (1, 128)]⟩
def ty131 : TyI := ⟨1, 8, [.nilf], false, none, .func⟩
def ty132 : TyI := ⟨8, 64, [.int .u64 0, .int .u64 0, .int .u64 0, .int .u64 0, .int .u64 0, .int .u64 0, .int .u64 0, .int .u64 0], true, some [.int .u64, .int .u64, .int .u64, .int .u64, .int .u64, .int .u64, .int .u64, .int .u64], .arr 8 65⟩
def ty133 : TyI := ⟨1, 8, [.nilf], false, none, .func⟩
def ty135 : TyI := ⟨1, 8, [.nilf], false, none, .func⟩
def ty136 : TyI := ⟨1, 8, [.nilf], false, none, .func⟩
def ty137 : TyI := ⟨0, 0, [], true, some [], .struct []⟩
def ty138 : TyI := ⟨0, 0, [], true, some [], .struct []⟩
def ty139 : TyI := ⟨1, 8, [.nilf], false, none, .func⟩
def ty140 : TyI := ⟨1, 8, [.nilf], false, none, .func⟩
def ty141 : TyI := ⟨1, 8, [.nilf], false, none, .func⟩
def ty142 : TyI := ⟨1, 8, [.nilf], false, none, .func⟩
def ty143 : TyI := ⟨1, 8, [.nilf], false, none, .func⟩
def ty144 : TyI := ⟨1, 8, [.nilf], false, none, .func⟩
def ty145 : TyI := ⟨1, 8, [.nilf], false, none, .func⟩
def ty146 : TyI := ⟨1, 8, [.nilf], false, none, .func⟩
def ty147 : TyI := ⟨2, 16, [.nilf, .nilf], true, none, .struct [(0, 145), (1, 146)]⟩
def ty148 : TyI := ⟨2, 16, [.nilf, .nilf], true, none, .struct [(0, 145), (1, 146)]⟩
def ty149 : TyI := ⟨10, 80, [.nilf, .nilf, .nilf, .nilf, .nilf, .nilf, .nilf, .nilf, .nilf, .nilf], true, none, .arr 5 148⟩
def ty150 : TyI := ⟨1, 8, [.nilf], false, none, .func⟩
def ty151 : TyI := ⟨1, 8, [.nilf], false, none, .func⟩
def ty152 : TyI := ⟨1, 8, [.nilf], false, none, .func⟩
def ty153 : TyI := ⟨9, 72, [.int .i64 0, .int .i64 0, .int .i64 0, .int .i64 0, .int .i64 0, .int .i64 0, .int .i64 0, .int .i64 0, .int .i64 0], true, some [.int .i64, .int .i64, .int .i64, .int .i64, .int .i64, .int .i64, .int .i64, .int .i64, .int .i64], .arr 3 24⟩
def ty154 : TyI := ⟨9, 72, [.int .i64 0, .int .i64 0, .int .i64 0, .int .i64 0, .int .i64 0, .int .i64 0, .int .i64 0, .int .i64 0, .int .i64 0], true, some [.int .i64, .int .i64, .int .i64, .int .i64, .int .i64, .int .i64, .int .i64, .int .i64, .int .i64], .struct [(0, 153)]⟩
def ty155 : TyI := ⟨9, 72, [.int .i64 0, .int .i64 0, .int .i64 0, .int .i64 0, .int .i64 0, .int .i64 0, .int .i64 0, .int .i64 0, .int .i64 0], true, some [.int .i64, .int .i64, .int .i64, .int .i64, .int .i64, .int .i64, .int .i64, .int .i64, .int .i64], .struct [(0, 153)]⟩
def ty157 : TyI := ⟨1, 8, [.nilf], false, none, .func⟩
def ty158 : TyI := ⟨16, 128, [.int .i64 0, .int .i64 0, .int .i64 0, .int .i64 0, .int .i64 0, .int .i64 0, .int .i64 0, .int .i64 0, .int .i64 0, .int .i64 0, .int .i64 0, .int .i64 0, .int .i64 0, .int .i64 0, .int .i64 0, .int .i64 0], true, some [.int .i64, .int .i64, .int .i64, .int .i64, .int .i64, .int .i64, .int .i64, .int .i64, .int .i64, .int .i64, .int .i64, .int .i64, .int .i64, .int .i64, .int .i64, .int .i64], .struct [(0, 31), (7, 155)]⟩
def ty159 : TyI := ⟨16, 128, [.int .i64 0, .int .i64 0, .int .i64 0, .int .i64 0, .int .i64 0, .int .i64 0, .int .i64 0, .int .i64 0, .int .i64 0, .int .i64 0, .int .i64 0, .int .i64 0, .int .i64 0, .int .i64 0, .int .i64 0, .int .i64 0], true, some [.int .i64, .int .i64, .int .i64, .int .i64, .int .i64, .int .i64, .int .i64, .int .i64, .int .i64, .int .i64, .int .i64, .int .i64, .int .i64, .int .i64, .int .i64, .int .i64], .struct [(0, 31), (7, 155)]⟩
def ty160 : TyI := ⟨1, 8, [.nilf], false, none, .func⟩
def ty161 : TyI := ⟨1, 8, [.nilf], false, none, .func⟩
def ty162 : TyI := ⟨1, 8, [.nilf], false, none, .func⟩
def ty163 : TyI := ⟨3, 24, [.int .i64 0, .int .i64 0, .int .i64 0], true, some [.int .i64, .int .i64, .int .i64], .arr 3 2⟩
def ty164 : TyI := ⟨1, 8, [.nilf], false, none, .func⟩
def ty165 : TyI := ⟨1, 8, [.nilf], false, none, .func⟩
def ty166 : TyI := ⟨1, 8, [.nilf], false, none, .func⟩
def ty167 : TyI := ⟨1, 8, [.nilf], false, none, .func⟩
def ty169 : TyI := ⟨1, 8, [.nilf], false, none, .func⟩
def ty170 : TyI := ⟨1, 8, [.nilf], false, none, .func⟩
def ty171 : TyI := ⟨1, 8, [.nilf], false, none, .func⟩
def ty172 : TyI := ⟨1, 8, [.nilf], false, none, .func⟩
def ty173 : TyI := ⟨1, 8, [.nilf], false, none, .func⟩
def ty174 : TyI := ⟨3, 24, [.int .i64 0, .int .i64 0, .int .i64 0], true, some [.int .i64, .int .i64, .int .i64], .arr 3 37⟩
def ty176 : TyI := ⟨1, 8, [.nilf], false, none, .func⟩
def ty177 : TyI := ⟨1, 8, [.nilf], false, none, .func⟩
def ty178 : TyI := ⟨1, 8, [.nilf], false, none, .func⟩
def ty180 : TyI := ⟨1, 8, [.nilf], false, none, .func⟩
def ty181 : TyI := ⟨1, 8, [.nilf], false, none, .func⟩
def ty182 : TyI := ⟨1, 8, [.nilf], false, none, .func⟩
def ty183 : TyI := ⟨1, 8, [.nilf], false, none, .func⟩
def ty185 : TyI := ⟨1, 8, [.nilf], false, none, .func⟩
def ty186 : TyI := ⟨1, 8, [.nilf], false, none, .func⟩
def ty187 : TyI := ⟨1, 8, [.nilf], false, none, .func⟩
def ty188 : TyI := ⟨1, 8, [.nilf], false, none, .func⟩
def ty189 : TyI := ⟨1, 8, [.nilf], false, none, .func⟩
def ty190 : TyI := ⟨1, 8, [.nilf], false, none, .func⟩
def ty191 : TyI := ⟨1, 8, [.nilf], false, none, .func⟩
def ty192 : TyI := ⟨32, 256, [.int .u64 0, .int .u64 0, .int .u64 0, .int .u64 0, .int .u64 0, .int .u64 0, .int .u64 0, .int .u64 0, .int .u64 0, .int .u64 0, .int .u64 0, .int .u64 0, .int .u64 0, .int .u64 0, .int .u64 0, .int .u64 0, .int .u64 0, .int .u64 0, .int .u64 0, .int .u64 0, .int .u64 0, .int .u64 0, .int .u64 0, .int .u64 0, .int .u64 0, .int .u64 0, .int .u64 0, .int .u64 0, .int .u64 0, .int .u64 0, .int .u64 0, .int .u64 0], true, some [.int .u64, .int .u64, .int .u64, .int .u64, .int .u64, .int .u64, .int .u64, .int .u64, .int .u64, .int .u64, .int .u64, .int .u64, .int .u64, .int .u64, .int .u64, .int .u64, .int .u64, .int .u64, .int .u64, .int .u64, .int .u64, .int .u64, .int .u64, .int .u64, .int .u64, .int .u64, .int .u64, .int .u64, .int .u64, .int .u64, .int .u64, .int .u64], .arr 4 68⟩
def ty193 : TyI := ⟨32, 256, [.int .u64 0, .int .u64 0, .int .u64 0, .int .u64 0, .int .u64 0, .int .u64 0, .int .u64 0, .int .u64 0, .int .u64 0, .int .u64 0, .int .u64 0, .int .u64 0, .int .u64 0, .int .u64 0, .int .u64 0, .int .u64 0, .int .u64 0, .int .u64 0, .int .u64 0, .int .u64 0, .int .u64 0, .int .u64 0, .int .u64 0, .int .u64 0, .int .u64 0, .int .u64 0, .int .u64 0, .int .u64 0, .int .u64 0, .int .u64 0, .int .u64 0, .int .u64 0], true, some [.int .u64, .int .u64, .int .u64, .int .u64, .int .u64, .int .u64, .int .u64, .int .u64, .int .u64, .int .u64, .int .u64, .int .u64, .int .u64, .int .u64, .int .u64, .int .u64, .int .u64, .int .u64, .int .u64, .int .u64, .int .u64, .int .u64, .int .u64, .int .u64, .int .u64, .int .u64, .int .u64, .int .u64, .int .u64, .int .u64, .int .u64, .int .u64], .arr 4 68⟩
def ty194 : TyI := ⟨1, 8, [.nilf], false, none, .func⟩
def ty195 : TyI := ⟨1, 8, [.nilf], false, none, .func⟩
def ty196 : TyI := ⟨1, 8, [.nilf], false, none, .func⟩
def ty197 : TyI := ⟨3, 24, [.int .i64 0, .int .i64 0, .int .i64 0], true, some [.int .i64, .int .i64, .int .i64], .struct [(0, 3), (1, 3), (2, 3)]⟩
def ty198 : TyI := ⟨3, 24, [.int .i64 0, .int .i64 0, .int .i64 0], true, some [.int .i64, .int .i64, .int .i64], .struct [(0, 3), (1, 3), (2, 3)]⟩
def ty199 : TyI := ⟨1, 24, [.nils], false, none, .slice 198⟩
def ty200 : TyI := ⟨3, 72, [.nils, .nils, .nils], true, none, .arr 3 199⟩
def ty201 : TyI := ⟨9, 216, [.nils, .nils, .nils, .nils, .nils, .nils, .nils, .nils, .nils], true, none, .arr 3 200⟩
def ty202 : TyI := ⟨1, 8, [.nilf], false, none, .func⟩
def ty203 : TyI := ⟨1, 8, [.nilf], false, none, .func⟩
def ty204 : TyI := ⟨1, 24, [.nils], false, none, .slice 68⟩
def ty205 : TyI := ⟨1, 24, [.nils], false, none, .slice 52⟩
def ty206 : TyI := ⟨1, 8, [.nilf], false, none, .func⟩
def ty208 : TyI := ⟨1, 8, [.nilf], false, none, .func⟩
def ty209 : TyI := ⟨1, 8, [.nilf], false, none, .func⟩
def ty210 : TyI := ⟨1, 8, [.nilf], false, none, .func⟩
def ty211 : TyI := ⟨1, 8, [.nilf], false, none, .func⟩
def ty212 : TyI := ⟨1, 8, [.nilf], false, none, .func⟩
def ty213 : TyI := ⟨1, 24, [.nils], false, none, .slice 216⟩
def ty215 : TyI := ⟨1, 8, [.nilf], false, none, .func⟩
def ty216 : TyI := ⟨33, 280, [.int .u64 0, .int .u64 0, .int .u64 0, .int .u64 0, .int .u64 0, .int .u64 0, .int .u64 0, .int .u64 0, .int .u64 0, .int .u64 0, .int .u64 0, .int .u64 0, .int .u64 0, .int .u64 0, .int .u64 0, .int .u64 0, .int .u64 0, .int .u64 0, .int .u64 0, .int .u64 0, .int .u64 0, .int .u64 0, .int .u64 0, .int .u64 0, .int .u64 0, .int .u64 0, .int .u64 0, .int .u64 0, .int .u64 0, .int .u64 0, .int .u64 0, .int .u64 0, .nils], true, none, .struct [(0, 70), (24, 68), (32, 36)]⟩
def ty217 : TyI := ⟨1, 8, [.nilf], false, none, .func⟩
def ty218 : TyI := ⟨1, 8, [.nilf], false, none, .func⟩
def ty219 : TyI := ⟨1, 8, [.nilf], false, none, .func⟩
def ty221 : TyI := ⟨1, 8, [.nilf], false, none, .func⟩
def ty222 : TyI := ⟨1, 8, [.nilf], false, none, .func⟩
def ty223 : TyI := ⟨1, 8, [.nilf], false, none, .func⟩
def ty224 : TyI := ⟨1, 8, [.nilf], false, none, .func⟩
def ty226 : TyI := ⟨1, 8, [.nilf], false, none, .func⟩
def ty227 : TyI := ⟨1, 8, [.nilf], false, none, .func⟩
def ty228 : TyI := ⟨1, 8, [.nilm], false, none, .map 3 3⟩
def ty229 : TyI := ⟨1, 24, [.nils], false, none, .slice 235⟩
def ty230 : TyI := ⟨6, 80, [.bool false, .int .i64 0, .nils, .nils, .int .i64 0, .nilm], true, none, .struct [(0, 4), (1, 2), (2, 229), (3, 36), (4, 3), (5, 228)]⟩
def ty231 : TyI := ⟨6, 80, [.bool false, .int .i64 0, .nils, .nils, .int .i64 0, .nilm], true, none, .struct [(0, 4), (1, 2), (2, 229), (3, 36), (4, 3), (5, 228)]⟩
def ty233 : TyI := ⟨1, 8, [.nilf], false, none, .func⟩
def ty234 : TyI := ⟨17, 136, [.int .i64 0, .int .i64 0, .int .i64 0, .int .i64 0, .int .i64 0, .int .i64 0, .int .i64 0, .int .i64 0, .int .i64 0, .int .i64 0, .int .i64 0, .int .i64 0, .int .i64 0, .int .i64 0, .int .i64 0, .int .i64 0, .int .i64 0], true, some [.int .i64, .int .i64, .int .i64, .int .i64, .int .i64, .int .i64, .int .i64, .int .i64, .int .i64, .int .i64, .int .i64, .int .i64, .int .i64, .int .i64, .int .i64, .int .i64, .int .i64], .struct [(0, 52), (6, 52), (12, 3), (13, 3), (14, 3), (15, 3), (16, 3)]⟩
def ty235 : TyI := ⟨17, 136, [.int .i64 0, .int .i64 0, .int .i64 0, .int .i64 0, .int .i64 0, .int .i64 0, .int .i64 0, .int .i64 0, .int .i64 0, .int .i64 0, .int .i64 0, .int .i64 0, .int .i64 0, .int .i64 0, .int .i64 0, .int .i64 0, .int .i64 0], true, some [.int .i64, .int .i64, .int .i64, .int .i64, .int .i64, .int .i64, .int .i64, .int .i64, .int .i64, .int .i64, .int .i64, .int .i64, .int .i64, .int .i64, .int .i64, .int .i64, .int .i64], .struct [(0, 52), (6, 52), (12, 3), (13, 3), (14, 3), (15, 3), (16, 3)]⟩
def ty236 : TyI := ⟨1, 8, [.nilf], false, none, .func⟩
def ty237 : TyI := ⟨1, 8, [.nilf], false, none, .func⟩
def ty238 : TyI := ⟨1, 8, [.nilf], false, none, .func⟩
def ty239 : TyI := ⟨1, 24, [.nils], true, none, .struct [(0, 48)]⟩
def ty240 : TyI := ⟨1, 24, [.nils], true, none, .struct [(0, 48)]⟩
def ty241 : TyI := ⟨1, 8, [.nilf], false, none, .func⟩
def ty242 : TyI := ⟨1, 8, [.nilf], false, none, .func⟩
def ty243 : TyI := ⟨1, 8, [.nilf], false, none, .func⟩
def ty245 : TyI := ⟨1, 8, [.nilf], false, none, .func⟩
def ty246 : TyI := ⟨1, 8, [.nilf], false, none, .func⟩
def ty247 : TyI := ⟨1, 8, [.nilp], false, none, .ptr 252⟩
def ty249 : TyI := ⟨1, 8, [.nilf], false, none, .func⟩
def ty250 : TyI := ⟨1, 8, [.nilm], false, none, .map 70 216⟩
def ty251 : TyI := ⟨3, 56, [.nils, .nils, .nilm], true, none, .struct [(0, 48), (1, 36), (2, 250)]⟩
def ty252 : TyI := ⟨3, 56, [.nils, .nils, .nilm], true, none, .struct [(0, 48), (1, 36), (2, 250)]⟩
def ty253 : TyI := ⟨1, 8, [.nilf], false, none, .func⟩
def ty254 : TyI := ⟨1, 8, [.nilf], false, none, .func⟩
def ty255 : TyI := ⟨1, 8, [.nilf], false, none, .func⟩
def ty256 : TyI := ⟨1, 8, [.nilf], false, none, .func⟩
def ty257 : TyI := ⟨0, 0, [], true, some [], .struct []⟩
def ty258 : TyI := ⟨1, 8, [.nilf], false, none, .func⟩
def ty259 : TyI := ⟨1, 8, [.nilf], false, none, .func⟩
def ty260 : TyI := ⟨1, 8, [.nilf], false, none, .func⟩
def ty261 : TyI := ⟨1, 24, [.nils], false, none, .slice 36⟩
def ty262 : TyI := ⟨1, 8, [.nilf], false, none, .func⟩
def ty264 : TyI := ⟨1, 8, [.nilf], false, none, .func⟩
def ty265 : TyI := ⟨1, 8, [.nilf], false, none, .func⟩
def ty266 : TyI := ⟨22, 192, [.int .i64 0, .int .i64 0, .int .i64 0, .int .i64 0, .int .i64 0, .int .i64 0, .nils, .int .i64 0, .int .i64 0, .int .i64 0, .int .i64 0, .int .i64 0, .int .i64 0, .int .i64 0, .int .i64 0, .int .i64 0, .int .i64 0, .int .i64 0, .int .i64 0, .int .i64 0, .int .i64 0, .int .i64 0], true, none, .struct [(0, 58)]⟩
def ty267 : TyI := ⟨22, 192, [.int .i64 0, .int .i64 0, .int .i64 0, .int .i64 0, .int .i64 0, .int .i64 0, .nils, .int .i64 0, .int .i64 0, .int .i64 0, .int .i64 0, .int .i64 0, .int .i64 0, .int .i64 0, .int .i64 0, .int .i64 0, .int .i64 0, .int .i64 0, .int .i64 0, .int .i64 0, .int .i64 0, .int .i64 0], true, none, .struct [(0, 58)]⟩
def ty268 : TyI := ⟨1, 8, [.nilf], false, none, .func⟩
def ty269 : TyI := ⟨1, 8, [.nilf], false, none, .func⟩
def ty270 : TyI := ⟨1, 8, [.nilf], false, none, .func⟩
def ty271 : TyI := ⟨1, 8, [.nilf], false, none, .func⟩
def ty272 : TyI := ⟨1, 8, [.nilf], false, none, .func⟩
def ty273 : TyI := ⟨1, 8, [.nilf], false, none, .func⟩
def ty274 : TyI := ⟨1, 8, [.nilp], false, none, .ptr 240⟩
def ty275 : TyI := ⟨1, 8, [.nilf], false, none, .func⟩
def ty276 : TyI := ⟨1, 8, [.nilf], false, none, .func⟩
def ty277 : TyI := ⟨1, 8, [.nilf], false, none, .func⟩
def ty278 : TyI := ⟨1, 8, [.nilf], false, none, .func⟩
def ty279 : TyI := ⟨1, 8, [.nilf], false, none, .func⟩
def ty280 : TyI := ⟨1, 8, [.nilm], false, none, .map 35 3⟩
def ty281 : TyI := ⟨1, 8, [.nilf], false, none, .func⟩
def ty282 : TyI := ⟨9, 72, [.int .i64 0, .int .i64 0, .int .i64 0, .int .i64 0, .int .i64 0, .int .i64 0, .int .i64 0, .int .i64 0, .int .i64 0], true, some [.int .i64, .int .i64, .int .i64, .int .i64, .int .i64, .int .i64, .int .i64, .int .i64, .int .i64], .arr 3 35⟩
def ty283 : TyI := ⟨1, 8, [.nilf], false, none, .func⟩
def ty284 : TyI := ⟨1, 8, [.nilf], false, none, .func⟩
def ty285 : TyI := ⟨1, 8, [.nilf], false, none, .func⟩
def ty286 : TyI := ⟨1, 8, [.nilf], false, none, .func⟩
def ty287 : TyI := ⟨1, 8, [.int .i64 0], false, none, .int .i64⟩
def ty289 : TyI := ⟨1, 8, [.nilf], false, none, .func⟩
def ty290 : TyI := ⟨1, 8, [.nilf], false, none, .func⟩
def ty291 : TyI := ⟨1, 8, [.nilf], false, none, .func⟩
def ty292 : TyI := ⟨1, 8, [.nilf], false, none, .func⟩
def ty293 : TyI := ⟨1, 8, [.nilf], false, none, .func⟩
def ty294 : TyI := ⟨1, 8, [.nilf], false, none, .func⟩
def ty295 : TyI := ⟨1, 4, [.int .u32 0], false, none, .int .u32⟩
def ty296 : TyI := ⟨1, 8, [.nilf], false, none, .func⟩
def ty297 : TyI := ⟨1, 8, [.nilf], false, none, .func⟩
def ty298 : TyI := ⟨1, 24, [.nils], false, none, .slice 70⟩
def ty299 : TyI := ⟨1, 8, [.nilf], false, none, .func⟩
def ty301 : TyI := ⟨1, 8, [.nilf], false, none, .func⟩
def ty302 : TyI := ⟨1, 8, [.nilf], false, none, .func⟩
def ty303 : TyI := ⟨1, 8, [.nilf], false, none, .func⟩
def ty304 : TyI := ⟨1, 8, [.nilf], false, none, .func⟩
def ty305 : TyI := ⟨1, 8, [.nilf], false, none, .func⟩
def ty306 : TyI := ⟨1, 8, [.nilp], false, none, .ptr 235⟩
def ty307 : TyI := ⟨1, 8, [.int .u64 0], false, none, .int .u64⟩
def ty308 : TyI := ⟨1, 8, [.nilf], false, none, .func⟩
def ty309 : TyI := ⟨1, 8, [.nilf], false, none, .func⟩
def ty310 : TyI := ⟨1, 8, [.nilf], false, none, .func⟩
def ty311 : TyI := ⟨1, 8, [.nilp], false, none, .ptr 3⟩
def ty312 : TyI := ⟨1, 8, [.nilf], false, none, .func⟩
def ty313 : TyI := ⟨1, 8, [.nilf], false, none, .func⟩
def ty314 : TyI := ⟨1, 8, [.nilf], false, none, .func⟩
def ty315 : TyI := ⟨1, 8, [.nilf], false, none, .func⟩
def ty316 : TyI := ⟨1, 8, [.nilf], false, none, .func⟩
def ty317 : TyI := ⟨1, 8, [.nilf], false, none, .func⟩
def ty318 : TyI := ⟨1, 8, [.nilf], false, none, .func⟩
def ty319 : TyI := ⟨1, 8, [.nilf], false, none, .func⟩
def ty320 : TyI := ⟨1, 8, [.nilf], false, none, .func⟩
def ty321 : TyI := ⟨1, 8, [.nilf], false, none, .func⟩
def ty322 : TyI := ⟨1, 8, [.nilf], false, none, .func⟩
def ty323 : TyI := ⟨1, 8, [.nilf], false, none, .func⟩
def ty324 : TyI := ⟨1, 8, [.nilp], false, none, .ptr 307⟩
def ty326 : TyI := ⟨1, 8, [.nilf], false, none, .func⟩
def ty327 : TyI := ⟨1, 8, [.nilf], false, none, .func⟩
def ty328 : TyI := ⟨1, 8, [.nilf], false, none, .func⟩
def ty329 : TyI := ⟨1, 8, [.nilf], false, none, .func⟩
def ty330 : TyI := ⟨1, 8, [.nilf], false, none, .func⟩
def ty331 : TyI := ⟨1, 8, [.nilf], false, none, .func⟩
def ty332 : TyI := ⟨1, 8, [.nilf], false, none, .func⟩
def ty333 : TyI := ⟨1, 8, [.nilf], false, none, .func⟩
def ty334 : TyI := ⟨1, 8, [.nilf], false, none, .func⟩
def ty335 : TyI := ⟨1, 8, [.nilf], false, none, .func⟩
def ty336 : TyI := ⟨1, 8, [.nilf], false, none, .func⟩
def ty337 : TyI := ⟨16, 128, [.int .u64 0, .int .u64 0, .int .u64 0, .int .u64 0, .int .u64 0, .int .u64 0, .int .u64 0, .int .u64 0, .int .u64 0, .int .u64 0, .int .u64 0, .int .u64 0, .int .u64 0, .int .u64 0, .int .u64 0, .int .u64 0], true, some [.int .u64, .int .u64, .int .u64, .int .u64, .int .u64, .int .u64, .int .u64, .int .u64, .int .u64, .int .u64, .int .u64, .int .u64, .int .u64, .int .u64, .int .u64, .int .u64], .arr 2 68⟩
def ty338 : TyI := ⟨48, 384, [.int .u64 0, .int .u64 0, .int .u64 0, .int .u64 0, .int .u64 0, .int .u64 0, .int .u64 0, .int .u64 0, .int .u64 0, .int .u64 0, .int .u64 0, .int .u64 0, .int .u64 0, .int .u64 0, .int .u64 0, .int .u64 0, .int .u64 0, .int .u64 0, .int .u64 0, .int .u64 0, .int .u64 0, .int .u64 0, .int .u64 0, .int .u64 0, .int .u64 0, .int .u64 0, .int .u64 0, .int .u64 0, .int .u64 0, .int .u64 0, .int .u64 0, .int .u64 0, .int .u64 0, .int .u64 0, .int .u64 0, .int .u64 0, .int .u64 0, .int .u64 0, .int .u64 0, .int .u64 0, .int .u64 0, .int .u64 0, .int .u64 0, .int .u64 0, .int .u64 0, .int .u64 0, .int .u64 0, .int .u64 0], true, some [.int .u64, .int .u64, .int .u64, .int .u64, .int .u64, .int .u64, .int .u64, .int .u64, .int .u64, .int .u64, .int .u64, .int .u64, .int .u64, .int .u64, .int .u64, .int .u64, .int .u64, .int .u64, .int .u64, .int .u64, .int .u64, .int .u64, .int .u64, .int .u64, .int .u64, .int .u64, .int .u64, .int .u64, .int .u64, .int .u64, .int .u64, .int .u64, .int .u64, .int .u64, .int .u64, .int .u64, .int .u64, .int .u64, .int .u64, .int .u64, .int .u64, .int .u64, .int .u64, .int .u64, .int .u64, .int .u64, .int .u64, .int .u64], .arr 3 337⟩
def ty339 : TyI := ⟨1, 8, [.nilf], false, none, .func⟩
def ty340 : TyI := ⟨4, 40, [.nilp, .nilp, .nilp, .str ⟨#[]⟩], true, none, .struct [(0, 17), (1, 17), (2, 17), (3, 9)]⟩
def ty341 : TyI := ⟨4, 40, [.nilp, .nilp, .nilp, .str ⟨#[]⟩], true, none, .struct [(0, 17), (1, 17), (2, 17), (3, 9)]⟩
def ty342 : TyI := ⟨0, 0, [], true, none, .arr 0 16⟩
def ty343 : TyI := ⟨0, 0, [], true, none, .struct [(0, 342)]⟩
def ty344 : TyI := ⟨0, 0, [], true, none, .struct [(0, 342)]⟩
def ty345 : TyI := ⟨1, 8, [.nilf], false, none, .func⟩
def ty346 : TyI := ⟨1, 1, [.int .u8 0], false, none, .int .u8⟩
def ty347 : TyI := ⟨1, 1, [.int .u8 0], false, none, .int .u8⟩
def ty348 : TyI := ⟨1, 8, [.nilf], false, none, .func⟩
def ty349 : TyI := ⟨1, 8, [.nilp], false, none, .ptr 5⟩
def ty350 : TyI := ⟨1, 4, [.int .i32 0], false, none, .int .i32⟩
def ty351 : TyI := ⟨1, 4, [.int .i32 0], false, none, .int .i32⟩
def ty352 : TyI := ⟨11, 48, [.int .u64 0, .int .u64 0, .int .u32 0, .int .u8 0, .int .u8 0, .int .u8 0, .int .u8 0, .nilf, .nilp, .int .i32 0, .int .i32 0], true, none, .struct [(0, 12), (1, 12), (2, 295), (3, 346), (4, 5), (5, 5), (6, 347), (7, 348), (8, 349), (9, 350), (10, 351)]⟩
def ty353 : TyI := ⟨11, 48, [.int .u64 0, .int .u64 0, .int .u32 0, .int .u8 0, .int .u8 0, .int .u8 0, .int .u8 0, .nilf, .nilp, .int .i32 0, .int .i32 0], true, none, .struct [(0, 12), (1, 12), (2, 295), (3, 346), (4, 5), (5, 5), (6, 347), (7, 348), (8, 349), (9, 350), (10, 351)]⟩
theorem tab_leaf {P : Program} {k : Nat} {ty : TyI} (h : TyOk P k ty) {t : Nat} {i : TyI} (e : cond (Nat.beq t k) (some ty) none = some i) : TyOk P t i := by
  cases hb : Nat.beq t k with
  | false => rw [hb] at e; cases e
  | true => rw [hb] at e; cases e; rw [Nat.eq_of_beq_eq_true hb]; exact h
theorem tab_node {P : Program} {a b : Option TyI} {c : Bool} {t : Nat} {i : TyI} (h1 : a = some i → TyOk P t i) (h2 : b = some i → TyOk P t i) (e : cond c a b = some i) : TyOk P t i := by
  cases c with
  | true => exact h1 e
  | false => exact h2 e
def tyTab : TTab := fun t => (cond (Nat.blt t 180) (cond (Nat.blt t 89) (cond (Nat.blt t 43) (cond (Nat.blt t 21) (cond (Nat.blt t 11) (cond (Nat.blt t 6) (cond (Nat.blt t 3) (cond (Nat.blt t 2) (cond (Nat.beq t 1) (some ty1) none) (cond (Nat.beq t 2) (some ty2) none)) (cond (Nat.blt t 4) (cond (Nat.beq t 3) (some ty3) none) (cond (Nat.blt t 5) (cond (Nat.beq t 4) (some ty4) none) (cond (Nat.beq t 5) (some ty5) none)))) (cond (Nat.blt t 8) (cond (Nat.blt t 7) (cond (Nat.beq t 6) (some ty6) none) (cond (Nat.beq t 7) (some ty7) none)) (cond (Nat.blt t 9) (cond (Nat.beq t 8) (some ty8) none) (cond (Nat.blt t 10) (cond (Nat.beq t 9) (some ty9) none) (cond (Nat.beq t 10) (some ty10) none))))) (cond (Nat.blt t 16) (cond (Nat.blt t 13) (cond (Nat.blt t 12) (cond (Nat.beq t 11) (some ty11) none) (cond (Nat.beq t 12) (some ty12) none)) (cond (Nat.blt t 14) (cond (Nat.beq t 13) (some ty13) none) (cond (Nat.blt t 15) (cond (Nat.beq t 14) (some ty14) none) (cond (Nat.beq t 15) (some ty15) none)))) (cond (Nat.blt t 18) (cond (Nat.blt t 17) (cond (Nat.beq t 16) (some ty16) none) (cond (Nat.beq t 17) (some ty17) none)) (cond (Nat.blt t 19) (cond (Nat.beq t 18) (some ty18) none) (cond (Nat.blt t 20) (cond (Nat.beq t 19) (some ty19) none) (cond (Nat.beq t 20) (some ty20) none)))))) (cond (Nat.blt t 31) (cond (Nat.blt t 26) (cond (Nat.blt t 23) (cond (Nat.blt t 22) (cond (Nat.beq t 21) (some ty21) none) (cond (Nat.beq t 22) (some ty22) none)) (cond (Nat.blt t 24) (cond (Nat.beq t 23) (some ty23) none) (cond (Nat.blt t 25) (cond (Nat.beq t 24) (some ty24) none) (cond (Nat.beq t 25) (some ty25) none)))) (cond (Nat.blt t 28) (cond (Nat.blt t 27) (cond (Nat.beq t 26) (some ty26) none) (cond (Nat.beq t 27) (some ty27) none)) (cond (Nat.blt t 29) (cond (Nat.beq t 28) (some ty28) none) (cond (Nat.blt t 30) (cond (Nat.beq t 29) (some ty29) none) (cond (Nat.beq t 30) (some ty30) none))))) (cond (Nat.blt t 36) (cond (Nat.blt t 33) (cond (Nat.blt t 32) (cond (Nat.beq t 31) (some ty31) none) (cond (Nat.beq t 32) (some ty32) none)) (cond (Nat.blt t 34) (cond (Nat.beq t 33) (some ty33) none) (cond (Nat.blt t 35) (cond (Nat.beq t 34) (some ty34) none) (cond (Nat.beq t 35) (some ty35) none)))) (cond (Nat.blt t 39) (cond (Nat.blt t 37) (cond (Nat.beq t 36) (some ty36) none) (cond (Nat.beq t 37) (some ty37) none)) (cond (Nat.blt t 40) (cond (Nat.beq t 39) (some ty39) none) (cond (Nat.blt t 42) (cond (Nat.beq t 40) (some ty40) none) (cond (Nat.beq t 42) (some ty42) none))))))) (cond (Nat.blt t 66) (cond (Nat.blt t 55) (cond (Nat.blt t 48) (cond (Nat.blt t 45) (cond (Nat.blt t 44) (cond (Nat.beq t 43) (some ty43) none) (cond (Nat.beq t 44) (some ty44) none)) (cond (Nat.blt t 46) (cond (Nat.beq t 45) (some ty45) none) (cond (Nat.blt t 47) (cond (Nat.beq t 46) (some ty46) none) (cond (Nat.beq t 47) (some ty47) none)))) (cond (Nat.blt t 51) (cond (Nat.blt t 50) (cond (Nat.beq t 48) (some ty48) none) (cond (Nat.beq t 50) (some ty50) none)) (cond (Nat.blt t 52) (cond (Nat.beq t 51) (some ty51) none) (cond (Nat.blt t 54) (cond (Nat.beq t 52) (some ty52) none) (cond (Nat.beq t 54) (some ty54) none))))) (cond (Nat.blt t 60) (cond (Nat.blt t 57) (cond (Nat.blt t 56) (cond (Nat.beq t 55) (some ty55) none) (cond (Nat.beq t 56) (some ty56) none)) (cond (Nat.blt t 58) (cond (Nat.beq t 57) (some ty57) none) (cond (Nat.blt t 59) (cond (Nat.beq t 58) (some ty58) none) (cond (Nat.beq t 59) (some ty59) none)))) (cond (Nat.blt t 63) (cond (Nat.blt t 62) (cond (Nat.beq t 60) (some ty60) none) (cond (Nat.beq t 62) (some ty62) none)) (cond (Nat.blt t 64) (cond (Nat.beq t 63) (some ty63) none) (cond (Nat.blt t 65) (cond (Nat.beq t 64) (some ty64) none) (cond (Nat.beq t 65) (some ty65) none)))))) (cond (Nat.blt t 77) (cond (Nat.blt t 71) (cond (Nat.blt t 68) (cond (Nat.blt t 67) (cond (Nat.beq t 66) (some ty66) none) (cond (Nat.beq t 67) (some ty67) none)) (cond (Nat.blt t 69) (cond (Nat.beq t 68) (some ty68) none) (cond (Nat.blt t 70) (cond (Nat.beq t 69) (some ty69) none) (cond (Nat.beq t 70) (some ty70) none)))) (cond (Nat.blt t 74) (cond (Nat.blt t 72) (cond (Nat.beq t 71) (some ty71) none) (cond (Nat.beq t 72) (some ty72) none)) (cond (Nat.blt t 75) (cond (Nat.beq t 74) (some ty74) none) (cond (Nat.blt t 76) (cond (Nat.beq t 75) (some ty75) none) (cond (Nat.beq t 76) (some ty76) none))))) (cond (Nat.blt t 84) (cond (Nat.blt t 80) (cond (Nat.blt t 79) (cond (Nat.beq t 77) (some ty77) none) (cond (Nat.beq t 79) (some ty79) none)) (cond (Nat.blt t 81) (cond (Nat.beq t 80) (some ty80) none) (cond (Nat.blt t 83) (cond (Nat.beq t 81) (some ty81) none) (cond (Nat.beq t 83) (some ty83) none)))) (cond (Nat.blt t 86) (cond (Nat.blt t 85) (cond (Nat.beq t 84) (some ty84) none) (cond (Nat.beq t 85) (some ty85) none)) (cond (Nat.blt t 87) (cond (Nat.beq t 86) (some ty86) none) (cond (Nat.blt t 88) (cond (Nat.beq t 87) (some ty87) none) (cond (Nat.beq t 88) (some ty88) none)))))))) (cond (Nat.blt t 135) (cond (Nat.blt t 112) (cond (Nat.blt t 102) (cond (Nat.blt t 96) (cond (Nat.blt t 91) (cond (Nat.blt t 90) (cond (Nat.beq t 89) (some ty89) none) (cond (Nat.beq t 90) (some ty90) none)) (cond (Nat.blt t 92) (cond (Nat.beq t 91) (some ty91) none) (cond (Nat.blt t 94) (cond (Nat.beq t 92) (some ty92) none) (cond (Nat.beq t 94) (some ty94) none)))) (cond (Nat.blt t 99) (cond (Nat.blt t 97) (cond (Nat.beq t 96) (some ty96) none) (cond (Nat.beq t 97) (some ty97) none)) (cond (Nat.blt t 100) (cond (Nat.beq t 99) (some ty99) none) (cond (Nat.blt t 101) (cond (Nat.beq t 100) (some ty100) none) (cond (Nat.beq t 101) (some ty101) none))))) (cond (Nat.blt t 107) (cond (Nat.blt t 104) (cond (Nat.blt t 103) (cond (Nat.beq t 102) (some ty102) none) (cond (Nat.beq t 103) (some ty103) none)) (cond (Nat.blt t 105) (cond (Nat.beq t 104) (some ty104) none) (cond (Nat.blt t 106) (cond (Nat.beq t 105) (some ty105) none) (cond (Nat.beq t 106) (some ty106) none)))) (cond (Nat.blt t 109) (cond (Nat.blt t 108) (cond (Nat.beq t 107) (some ty107) none) (cond (Nat.beq t 108) (some ty108) none)) (cond (Nat.blt t 110) (cond (Nat.beq t 109) (some ty109) none) (cond (Nat.blt t 111) (cond (Nat.beq t 110) (some ty110) none) (cond (Nat.beq t 111) (some ty111) none)))))) (cond (Nat.blt t 123) (cond (Nat.blt t 118) (cond (Nat.blt t 115) (cond (Nat.blt t 114) (cond (Nat.beq t 112) (some ty112) none) (cond (Nat.beq t 114) (some ty114) none)) (cond (Nat.blt t 116) (cond (Nat.beq t 115) (some ty115) none) (cond (Nat.blt t 117) (cond (Nat.beq t 116) (some ty116) none) (cond (Nat.beq t 117) (some ty117) none)))) (cond (Nat.blt t 120) (cond (Nat.blt t 119) (cond (Nat.beq t 118) (some ty118) none) (cond (Nat.beq t 119) (some ty119) none)) (cond (Nat.blt t 121) (cond (Nat.beq t 120) (some ty120) none) (cond (Nat.blt t 122) (cond (Nat.beq t 121) (some ty121) none) (cond (Nat.beq t 122) (some ty122) none))))) (cond (Nat.blt t 129) (cond (Nat.blt t 126) (cond (Nat.blt t 125) (cond (Nat.beq t 123) (some ty123) none) (cond (Nat.beq t 125) (some ty125) none)) (cond (Nat.blt t 127) (cond (Nat.beq t 126) (some ty126) none) (cond (Nat.blt t 128) (cond (Nat.beq t 127) (some ty127) none) (cond (Nat.beq t 128) (some ty128) none)))) (cond (Nat.blt t 131) (cond (Nat.blt t 130) (cond (Nat.beq t 129) (some ty129) none) (cond (Nat.beq t 130) (some ty130) none)) (cond (Nat.blt t 132) (cond (Nat.beq t 131) (some ty131) none) (cond (Nat.blt t 133) (cond (Nat.beq t 132) (some ty132) none) (cond (Nat.beq t 133) (some ty133) none))))))) (cond (Nat.blt t 155) (cond (Nat.blt t 145) (cond (Nat.blt t 140) (cond (Nat.blt t 137) (cond (Nat.blt t 136) (cond (Nat.beq t 135) (some ty135) none) (cond (Nat.beq t 136) (some ty136) none)) (cond (Nat.blt t 138) (cond (Nat.beq t 137) (some ty137) none) (cond (Nat.blt t 139) (cond (Nat.beq t 138) (some ty138) none) (cond (Nat.beq t 139) (some ty139) none)))) (cond (Nat.blt t 142) (cond (Nat.blt t 141) (cond (Nat.beq t 140) (some ty140) none) (cond (Nat.beq t 141) (some ty141) none)) (cond (Nat.blt t 143) (cond (Nat.beq t 142) (some ty142) none) (cond (Nat.blt t 144) (cond (Nat.beq t 143) (some ty143) none) (cond (Nat.beq t 144) (some ty144) none))))) (cond (Nat.blt t 150) (cond (Nat.blt t 147) (cond (Nat.blt t 146) (cond (Nat.beq t 145) (some ty145) none) (cond (Nat.beq t 146) (some ty146) none)) (cond (Nat.blt t 148) (cond (Nat.beq t 147) (some ty147) none) (cond (Nat.blt t 149) (cond (Nat.beq t 148) (some ty148) none) (cond (Nat.beq t 149) (some ty149) none)))) (cond (Nat.blt t 152) (cond (Nat.blt t 151) (cond (Nat.beq t 150) (some ty150) none) (cond (Nat.beq t 151) (some ty151) none)) (cond (Nat.blt t 153) (cond (Nat.beq t 152) (some ty152) none) (cond (Nat.blt t 154) (cond (Nat.beq t 153) (some ty153) none) (cond (Nat.beq t 154) (some ty154) none)))))) (cond (Nat.blt t 166) (cond (Nat.blt t 161) (cond (Nat.blt t 158) (cond (Nat.blt t 157) (cond (Nat.beq t 155) (some ty155) none) (cond (Nat.beq t 157) (some ty157) none)) (cond (Nat.blt t 159) (cond (Nat.beq t 158) (some ty158) none) (cond (Nat.blt t 160) (cond (Nat.beq t 159) (some ty159) none) (cond (Nat.beq t 160) (some ty160) none)))) (cond (Nat.blt t 163) (cond (Nat.blt t 162) (cond (Nat.beq t 161) (some ty161) none) (cond (Nat.beq t 162) (some ty162) none)) (cond (Nat.blt t 164) (cond (Nat.beq t 163) (some ty163) none) (cond (Nat.blt t 165) (cond (Nat.beq t 164) (some ty164) none) (cond (Nat.beq t 165) (some ty165) none))))) (cond (Nat.blt t 172) (cond (Nat.blt t 169) (cond (Nat.blt t 167) (cond (Nat.beq t 166) (some ty166) none) (cond (Nat.beq t 167) (some ty167) none)) (cond (Nat.blt t 170) (cond (Nat.beq t 169) (some ty169) none) (cond (Nat.blt t 171) (cond (Nat.beq t 170) (some ty170) none) (cond (Nat.beq t 171) (some ty171) none)))) (cond (Nat.blt t 176) (cond (Nat.blt t 173) (cond (Nat.beq t 172) (some ty172) none) (cond (Nat.blt t 174) (cond (Nat.beq t 173) (some ty173) none) (cond (Nat.beq t 174) (some ty174) none))) (cond (Nat.blt t 177) (cond (Nat.beq t 176) (some ty176) none) (cond (Nat.blt t 178) (cond (Nat.beq t 177) (some ty177) none) (cond (Nat.beq t 178) (some ty178) none))))))))) (cond (Nat.blt t 270) (cond (Nat.blt t 224) (cond (Nat.blt t 201) (cond (Nat.blt t 191) (cond (Nat.blt t 186) (cond (Nat.blt t 182) (cond (Nat.blt t 181) (cond (Nat.beq t 180) (some ty180) none) (cond (Nat.beq t 181) (some ty181) none)) (cond (Nat.blt t 183) (cond (Nat.beq t 182) (some ty182) none) (cond (Nat.blt t 185) (cond (Nat.beq t 183) (some ty183) none) (cond (Nat.beq t 185) (some ty185) none)))) (cond (Nat.blt t 188) (cond (Nat.blt t 187) (cond (Nat.beq t 186) (some ty186) none) (cond (Nat.beq t 187) (some ty187) none)) (cond (Nat.blt t 189) (cond (Nat.beq t 188) (some ty188) none) (cond (Nat.blt t 190) (cond (Nat.beq t 189) (some ty189) none) (cond (Nat.beq t 190) (some ty190) none))))) (cond (Nat.blt t 196) (cond (Nat.blt t 193) (cond (Nat.blt t 192) (cond (Nat.beq t 191) (some ty191) none) (cond (Nat.beq t 192) (some ty192) none)) (cond (Nat.blt t 194) (cond (Nat.beq t 193) (some ty193) none) (cond (Nat.blt t 195) (cond (Nat.beq t 194) (some ty194) none) (cond (Nat.beq t 195) (some ty195) none)))) (cond (Nat.blt t 198) (cond (Nat.blt t 197) (cond (Nat.beq t 196) (some ty196) none) (cond (Nat.beq t 197) (some ty197) none)) (cond (Nat.blt t 199) (cond (Nat.beq t 198) (some ty198) none) (cond (Nat.blt t 200) (cond (Nat.beq t 199) (some ty199) none) (cond (Nat.beq t 200) (some ty200) none)))))) (cond (Nat.blt t 212) (cond (Nat.blt t 206) (cond (Nat.blt t 203) (cond (Nat.blt t 202) (cond (Nat.beq t 201) (some ty201) none) (cond (Nat.beq t 202) (some ty202) none)) (cond (Nat.blt t 204) (cond (Nat.beq t 203) (some ty203) none) (cond (Nat.blt t 205) (cond (Nat.beq t 204) (some ty204) none) (cond (Nat.beq t 205) (some ty205) none)))) (cond (Nat.blt t 209) (cond (Nat.blt t 208) (cond (Nat.beq t 206) (some ty206) none) (cond (Nat.beq t 208) (some ty208) none)) (cond (Nat.blt t 210) (cond (Nat.beq t 209) (some ty209) none) (cond (Nat.blt t 211) (cond (Nat.beq t 210) (some ty210) none) (cond (Nat.beq t 211) (some ty211) none))))) (cond (Nat.blt t 218) (cond (Nat.blt t 215) (cond (Nat.blt t 213) (cond (Nat.beq t 212) (some ty212) none) (cond (Nat.beq t 213) (some ty213) none)) (cond (Nat.blt t 216) (cond (Nat.beq t 215) (some ty215) none) (cond (Nat.blt t 217) (cond (Nat.beq t 216) (some ty216) none) (cond (Nat.beq t 217) (some ty217) none)))) (cond (Nat.blt t 221) (cond (Nat.blt t 219) (cond (Nat.beq t 218) (some ty218) none) (cond (Nat.beq t 219) (some ty219) none)) (cond (Nat.blt t 222) (cond (Nat.beq t 221) (some ty221) none) (cond (Nat.blt t 223) (cond (Nat.beq t 222) (some ty222) none) (cond (Nat.beq t 223) (some ty223) none))))))) (cond (Nat.blt t 247) (cond (Nat.blt t 236) (cond (Nat.blt t 230) (cond (Nat.blt t 227) (cond (Nat.blt t 226) (cond (Nat.beq t 224) (some ty224) none) (cond (Nat.beq t 226) (some ty226) none)) (cond (Nat.blt t 228) (cond (Nat.beq t 227) (some ty227) none) (cond (Nat.blt t 229) (cond (Nat.beq t 228) (some ty228) none) (cond (Nat.beq t 229) (some ty229) none)))) (cond (Nat.blt t 233) (cond (Nat.blt t 231) (cond (Nat.beq t 230) (some ty230) none) (cond (Nat.beq t 231) (some ty231) none)) (cond (Nat.blt t 234) (cond (Nat.beq t 233) (some ty233) none) (cond (Nat.blt t 235) (cond (Nat.beq t 234) (some ty234) none) (cond (Nat.beq t 235) (some ty235) none))))) (cond (Nat.blt t 241) (cond (Nat.blt t 238) (cond (Nat.blt t 237) (cond (Nat.beq t 236) (some ty236) none) (cond (Nat.beq t 237) (some ty237) none)) (cond (Nat.blt t 239) (cond (Nat.beq t 238) (some ty238) none) (cond (Nat.blt t 240) (cond (Nat.beq t 239) (some ty239) none) (cond (Nat.beq t 240) (some ty240) none)))) (cond (Nat.blt t 243) (cond (Nat.blt t 242) (cond (Nat.beq t 241) (some ty241) none) (cond (Nat.beq t 242) (some ty242) none)) (cond (Nat.blt t 245) (cond (Nat.beq t 243) (some ty243) none) (cond (Nat.blt t 246) (cond (Nat.beq t 245) (some ty245) none) (cond (Nat.beq t 246) (some ty246) none)))))) (cond (Nat.blt t 258) (cond (Nat.blt t 253) (cond (Nat.blt t 250) (cond (Nat.blt t 249) (cond (Nat.beq t 247) (some ty247) none) (cond (Nat.beq t 249) (some ty249) none)) (cond (Nat.blt t 251) (cond (Nat.beq t 250) (some ty250) none) (cond (Nat.blt t 252) (cond (Nat.beq t 251) (some ty251) none) (cond (Nat.beq t 252) (some ty252) none)))) (cond (Nat.blt t 255) (cond (Nat.blt t 254) (cond (Nat.beq t 253) (some ty253) none) (cond (Nat.beq t 254) (some ty254) none)) (cond (Nat.blt t 256) (cond (Nat.beq t 255) (some ty255) none) (cond (Nat.blt t 257) (cond (Nat.beq t 256) (some ty256) none) (cond (Nat.beq t 257) (some ty257) none))))) (cond (Nat.blt t 264) (cond (Nat.blt t 260) (cond (Nat.blt t 259) (cond (Nat.beq t 258) (some ty258) none) (cond (Nat.beq t 259) (some ty259) none)) (cond (Nat.blt t 261) (cond (Nat.beq t 260) (some ty260) none) (cond (Nat.blt t 262) (cond (Nat.beq t 261) (some ty261) none) (cond (Nat.beq t 262) (some ty262) none)))) (cond (Nat.blt t 267) (cond (Nat.blt t 265) (cond (Nat.beq t 264) (some ty264) none) (cond (Nat.blt t 266) (cond (Nat.beq t 265) (some ty265) none) (cond (Nat.beq t 266) (some ty266) none))) (cond (Nat.blt t 268) (cond (Nat.beq t 267) (some ty267) none) (cond (Nat.blt t 269) (cond (Nat.beq t 268) (some ty268) none) (cond (Nat.beq t 269) (some ty269) none)))))))) (cond (Nat.blt t 312) (cond (Nat.blt t 291) (cond (Nat.blt t 280) (cond (Nat.blt t 275) (cond (Nat.blt t 272) (cond (Nat.blt t 271) (cond (Nat.beq t 270) (some ty270) none) (cond (Nat.beq t 271) (some ty271) none)) (cond (Nat.blt t 273) (cond (Nat.beq t 272) (some ty272) none) (cond (Nat.blt t 274) (cond (Nat.beq t 273) (some ty273) none) (cond (Nat.beq t 274) (some ty274) none)))) (cond (Nat.blt t 277) (cond (Nat.blt t 276) (cond (Nat.beq t 275) (some ty275) none) (cond (Nat.beq t 276) (some ty276) none)) (cond (Nat.blt t 278) (cond (Nat.beq t 277) (some ty277) none) (cond (Nat.blt t 279) (cond (Nat.beq t 278) (some ty278) none) (cond (Nat.beq t 279) (some ty279) none))))) (cond (Nat.blt t 285) (cond (Nat.blt t 282) (cond (Nat.blt t 281) (cond (Nat.beq t 280) (some ty280) none) (cond (Nat.beq t 281) (some ty281) none)) (cond (Nat.blt t 283) (cond (Nat.beq t 282) (some ty282) none) (cond (Nat.blt t 284) (cond (Nat.beq t 283) (some ty283) none) (cond (Nat.beq t 284) (some ty284) none)))) (cond (Nat.blt t 287) (cond (Nat.blt t 286) (cond (Nat.beq t 285) (some ty285) none) (cond (Nat.beq t 286) (some ty286) none)) (cond (Nat.blt t 289) (cond (Nat.beq t 287) (some ty287) none) (cond (Nat.blt t 290) (cond (Nat.beq t 289) (some ty289) none) (cond (Nat.beq t 290) (some ty290) none)))))) (cond (Nat.blt t 302) (cond (Nat.blt t 296) (cond (Nat.blt t 293) (cond (Nat.blt t 292) (cond (Nat.beq t 291) (some ty291) none) (cond (Nat.beq t 292) (some ty292) none)) (cond (Nat.blt t 294) (cond (Nat.beq t 293) (some ty293) none) (cond (Nat.blt t 295) (cond (Nat.beq t 294) (some ty294) none) (cond (Nat.beq t 295) (some ty295) none)))) (cond (Nat.blt t 298) (cond (Nat.blt t 297) (cond (Nat.beq t 296) (some ty296) none) (cond (Nat.beq t 297) (some ty297) none)) (cond (Nat.blt t 299) (cond (Nat.beq t 298) (some ty298) none) (cond (Nat.blt t 301) (cond (Nat.beq t 299) (some ty299) none) (cond (Nat.beq t 301) (some ty301) none))))) (cond (Nat.blt t 307) (cond (Nat.blt t 304) (cond (Nat.blt t 303) (cond (Nat.beq t 302) (some ty302) none) (cond (Nat.beq t 303) (some ty303) none)) (cond (Nat.blt t 305) (cond (Nat.beq t 304) (some ty304) none) (cond (Nat.blt t 306) (cond (Nat.beq t 305) (some ty305) none) (cond (Nat.beq t 306) (some ty306) none)))) (cond (Nat.blt t 309) (cond (Nat.blt t 308) (cond (Nat.beq t 307) (some ty307) none) (cond (Nat.beq t 308) (some ty308) none)) (cond (Nat.blt t 310) (cond (Nat.beq t 309) (some ty309) none) (cond (Nat.blt t 311) (cond (Nat.beq t 310) (some ty310) none) (cond (Nat.beq t 311) (some ty311) none))))))) (cond (Nat.blt t 333) (cond (Nat.blt t 322) (cond (Nat.blt t 317) (cond (Nat.blt t 314) (cond (Nat.blt t 313) (cond (Nat.beq t 312) (some ty312) none) (cond (Nat.beq t 313) (some ty313) none)) (cond (Nat.blt t 315) (cond (Nat.beq t 314) (some ty314) none) (cond (Nat.blt t 316) (cond (Nat.beq t 315) (some ty315) none) (cond (Nat.beq t 316) (some ty316) none)))) (cond (Nat.blt t 319) (cond (Nat.blt t 318) (cond (Nat.beq t 317) (some ty317) none) (cond (Nat.beq t 318) (some ty318) none)) (cond (Nat.blt t 320) (cond (Nat.beq t 319) (some ty319) none) (cond (Nat.blt t 321) (cond (Nat.beq t 320) (some ty320) none) (cond (Nat.beq t 321) (some ty321) none))))) (cond (Nat.blt t 328) (cond (Nat.blt t 324) (cond (Nat.blt t 323) (cond (Nat.beq t 322) (some ty322) none) (cond (Nat.beq t 323) (some ty323) none)) (cond (Nat.blt t 326) (cond (Nat.beq t 324) (some ty324) none) (cond (Nat.blt t 327) (cond (Nat.beq t 326) (some ty326) none) (cond (Nat.beq t 327) (some ty327) none)))) (cond (Nat.blt t 330) (cond (Nat.blt t 329) (cond (Nat.beq t 328) (some ty328) none) (cond (Nat.beq t 329) (some ty329) none)) (cond (Nat.blt t 331) (cond (Nat.beq t 330) (some ty330) none) (cond (Nat.blt t 332) (cond (Nat.beq t 331) (some ty331) none) (cond (Nat.beq t 332) (some ty332) none)))))) (cond (Nat.blt t 343) (cond (Nat.blt t 338) (cond (Nat.blt t 335) (cond (Nat.blt t 334) (cond (Nat.beq t 333) (some ty333) none) (cond (Nat.beq t 334) (some ty334) none)) (cond (Nat.blt t 336) (cond (Nat.beq t 335) (some ty335) none) (cond (Nat.blt t 337) (cond (Nat.beq t 336) (some ty336) none) (cond (Nat.beq t 337) (some ty337) none)))) (cond (Nat.blt t 340) (cond (Nat.blt t 339) (cond (Nat.beq t 338) (some ty338) none) (cond (Nat.beq t 339) (some ty339) none)) (cond (Nat.blt t 341) (cond (Nat.beq t 340) (some ty340) none) (cond (Nat.blt t 342) (cond (Nat.beq t 341) (some ty341) none) (cond (Nat.beq t 342) (some ty342) none))))) (cond (Nat.blt t 348) (cond (Nat.blt t 345) (cond (Nat.blt t 344) (cond (Nat.beq t 343) (some ty343) none) (cond (Nat.beq t 344) (some ty344) none)) (cond (Nat.blt t 346) (cond (Nat.beq t 345) (some ty345) none) (cond (Nat.blt t 347) (cond (Nat.beq t 346) (some ty346) none) (cond (Nat.beq t 347) (some ty347) none)))) (cond (Nat.blt t 351) (cond (Nat.blt t 349) (cond (Nat.beq t 348) (some ty348) none) (cond (Nat.blt t 350) (cond (Nat.beq t 349) (some ty349) none) (cond (Nat.beq t 350) (some ty350) none))) (cond (Nat.blt t 352) (cond (Nat.beq t 351) (some ty351) none) (cond (Nat.blt t 353) (cond (Nat.beq t 352) (some ty352) none) (cond (Nat.beq t 353) (some ty353) none))))))))))
theorem ty1_ok : TyOk Tryz.prog 1 ty1 :=
  ⟨⟨Tryz.t1, by kernel_rfl, rfl, rfl, _, rfl, fun ρ => by simp [ty1, γ]⟩, rfl, by first | (intro h; cases h; done) | (intro _; rfl), rfl, ⟨_, _, _, Tryz.underlying1⟩, rfl, fun ks h => by cases h⟩
theorem ty2_ok : TyOk Tryz.prog 2 ty2 :=
  ⟨⟨Tryz.t2, by kernel_rfl, rfl, rfl, _, rfl, fun ρ => by simp [ty2, γ]⟩, rfl, by first | (intro h; cases h; done) | (intro _; rfl), rfl, Tryz.underlying2, rfl, fun ks h => by cases h⟩
theorem ty3_ok : TyOk Tryz.prog 3 ty3 :=
  ⟨⟨Tryz.t3, by kernel_rfl, rfl, rfl, _, rfl, fun ρ => by simp [ty3, γ]⟩, rfl, by first | (intro h; cases h; done) | (intro _; rfl), rfl, Tryz.underlying3, rfl, fun ks h => by cases h⟩
theorem ty4_ok : TyOk Tryz.prog 4 ty4 :=
  ⟨⟨Tryz.t4, by kernel_rfl, rfl, rfl, _, rfl, fun ρ => by simp [ty4, γ]⟩, rfl, by first | (intro h; cases h; done) | (intro _; rfl), rfl, Tryz.underlying4, rfl, fun ks h => by cases h⟩
theorem ty5_ok : TyOk Tryz.prog 5 ty5 :=
  ⟨⟨Tryz.t5, by kernel_rfl, rfl, rfl, _, rfl, fun ρ => by simp [ty5, γ]⟩, rfl, by first | (intro h; cases h; done) | (intro _; rfl), rfl, Tryz.underlying5, rfl, fun ks h => by cases h⟩
theorem ty6_ok : TyOk Tryz.prog 6 ty6 :=
  ⟨⟨Tryz.t6, by kernel_rfl, rfl, rfl, _, rfl, fun ρ => by simp [ty6, γ]⟩, rfl, by first | (intro h; cases h; done) | (intro _; rfl), rfl, Tryz.underlying6, rfl, fun ks h => by cases h⟩
theorem ty7_ok : TyOk Tryz.prog 7 ty7 :=
  ⟨⟨Tryz.t7, by kernel_rfl, rfl, rfl, _, rfl, fun ρ => by simp [ty7, γ, γL]⟩, rfl, by first | (intro h; cases h; done) | (intro _; rfl), rfl, ⟨_, Tryz.underlying7, rfl⟩, rfl, fun ks h => flatOk_of (d := 12) (by decide) (by cases h; kernel_rfl) Tryz.eqGuardType7 (by rw [Tryz.underlying7])⟩
theorem ty8_ok : TyOk Tryz.prog 8 ty8 :=
  ⟨⟨Tryz.t8, by kernel_rfl, rfl, rfl, _, rfl, fun ρ => by simp [ty8, γ, γL]⟩, rfl, by first | (intro h; cases h; done) | (intro _; rfl), rfl, ⟨_, Tryz.underlying8, rfl⟩, rfl, fun ks h => flatOk_of (d := 12) (by decide) (by cases h; kernel_rfl) Tryz.eqGuardType8 (by rw [Tryz.underlying8])⟩
theorem ty9_ok : TyOk Tryz.prog 9 ty9 :=
  ⟨⟨Tryz.t9, by kernel_rfl, rfl, rfl, _, rfl, fun ρ => by simp [ty9, γ]⟩, rfl, by first | (intro h; cases h; done) | (intro _; rfl), rfl, Tryz.underlying9, rfl, fun ks h => by cases h⟩
theorem ty10_ok : TyOk Tryz.prog 10 ty10 :=
  ⟨⟨Tryz.t10, by kernel_rfl, rfl, rfl, _, rfl, fun ρ => by simp [ty10, γ]⟩, rfl, by first | (intro h; cases h; done) | (intro _; rfl), rfl, Tryz.underlying10, rfl, fun ks h => by cases h⟩
theorem ty11_ok : TyOk Tryz.prog 11 ty11 :=
  ⟨⟨Tryz.t11, by kernel_rfl, rfl, rfl, _, rfl, fun ρ => by simp [ty11, γ]⟩, rfl, by first | (intro h; cases h; done) | (intro _; rfl), rfl, Tryz.underlying11, rfl, fun ks h => by cases h⟩
theorem ty12_ok : TyOk Tryz.prog 12 ty12 :=
  ⟨⟨Tryz.t12, by kernel_rfl, rfl, rfl, _, rfl, fun ρ => by simp [ty12, γ]⟩, rfl, by first | (intro h; cases h; done) | (intro _; rfl), rfl, Tryz.underlying12, rfl, fun ks h => by cases h⟩
theorem ty13_ok : TyOk Tryz.prog 13 ty13 :=
  ⟨⟨Tryz.t13, by kernel_rfl, rfl, rfl, _, rfl, fun ρ => by simp [ty13, γ, γL]⟩, rfl, by first | (intro h; cases h; done) | (intro _; rfl), rfl, ⟨_, Tryz.underlying13, rfl⟩, rfl, fun ks h => by cases h⟩
theorem ty14_ok : TyOk Tryz.prog 14 ty14 :=
  ⟨⟨Tryz.t14, by kernel_rfl, rfl, rfl, _, rfl, fun ρ => by simp [ty14, γ, γL]⟩, rfl, by first | (intro h; cases h; done) | (intro _; rfl), rfl, ⟨_, Tryz.underlying14, rfl⟩, rfl, fun ks h => by cases h⟩
theorem ty15_ok : TyOk Tryz.prog 15 ty15 :=
  ⟨⟨Tryz.t15, by kernel_rfl, rfl, rfl, _, rfl, fun ρ => by simp [ty15, γ]⟩, rfl, by first | (intro h; cases h; done) | (intro _; rfl), rfl, Tryz.underlying15, rfl, fun ks h => by cases h⟩
theorem ty16_ok : TyOk Tryz.prog 16 ty16 :=
  ⟨⟨Tryz.t16, by kernel_rfl, rfl, rfl, _, rfl, fun ρ => by simp [ty16, γ]⟩, rfl, by first | (intro h; cases h; done) | (intro _; rfl), rfl, Tryz.underlying16, rfl, fun ks h => by cases h⟩
theorem ty17_ok : TyOk Tryz.prog 17 ty17 :=
  ⟨⟨Tryz.t17, by kernel_rfl, rfl, rfl, _, rfl, fun ρ => by simp [ty17, γ]⟩, rfl, by first | (intro h; cases h; done) | (intro _; rfl), rfl, Tryz.underlying17, rfl, fun ks h => by cases h⟩
theorem ty18_ok : TyOk Tryz.prog 18 ty18 :=
  ⟨⟨Tryz.t18, by kernel_rfl, rfl, rfl, _, rfl, fun ρ => by simp [ty18, γ, γL]⟩, rfl, by first | (intro h; cases h; done) | (intro _; rfl), rfl, ⟨_, Tryz.underlying18, rfl⟩, rfl, fun ks h => by cases h⟩
theorem ty19_ok : TyOk Tryz.prog 19 ty19 :=
  ⟨⟨Tryz.t19, by kernel_rfl, rfl, rfl, _, rfl, fun ρ => by simp [ty19, γ, γL]⟩, rfl, by first | (intro h; cases h; done) | (intro _; rfl), rfl, ⟨_, Tryz.underlying19, rfl⟩, rfl, fun ks h => by cases h⟩
theorem ty20_ok : TyOk Tryz.prog 20 ty20 :=
  ⟨⟨Tryz.t20, by kernel_rfl, rfl, rfl, _, rfl, fun ρ => by simp [ty20, γ]⟩, rfl, by first | (intro h; cases h; done) | (intro _; rfl), rfl, ⟨_, Tryz.underlying20⟩, rfl, fun ks h => by cases h⟩
theorem ty21_ok : TyOk Tryz.prog 21 ty21 :=
  ⟨⟨Tryz.t21, by kernel_rfl, rfl, rfl, _, rfl, fun ρ => by simp [ty21, γ]⟩, rfl, by first | (intro h; cases h; done) | (intro _; rfl), rfl, Tryz.underlying21, rfl, fun ks h => by cases h⟩
theorem ty22_ok : TyOk Tryz.prog 22 ty22 :=
  ⟨⟨Tryz.t22, by kernel_rfl, rfl, rfl, _, rfl, fun ρ => by simp [ty22, γ]⟩, rfl, by first | (intro h; cases h; done) | (intro _; rfl), rfl, Tryz.underlying22, rfl, fun ks h => by cases h⟩
theorem ty23_ok : TyOk Tryz.prog 23 ty23 :=
  ⟨⟨Tryz.t23, by kernel_rfl, rfl, rfl, _, rfl, fun ρ => by simp [ty23, γ, γL]⟩, rfl, by first | (intro h; cases h; done) | (intro _; rfl), rfl, ⟨_, Tryz.underlying23, rfl⟩, rfl, fun ks h => flatOk_of (d := 12) (by decide) (by cases h; kernel_rfl) Tryz.eqGuardType23 (by rw [Tryz.underlying23])⟩
theorem ty24_ok : TyOk Tryz.prog 24 ty24 :=
  ⟨⟨Tryz.t24, by kernel_rfl, rfl, rfl, _, rfl, fun ρ => by simp [ty24, γ, γL]⟩, rfl, by first | (intro h; cases h; done) | (intro _; rfl), rfl, ⟨_, Tryz.underlying24, rfl⟩, rfl, fun ks h => flatOk_of (d := 12) (by decide) (by cases h; kernel_rfl) Tryz.eqGuardType24 (by rw [Tryz.underlying24])⟩
theorem ty25_ok : TyOk Tryz.prog 25 ty25 :=
  ⟨⟨Tryz.t25, by kernel_rfl, rfl, rfl, _, rfl, fun ρ => by simp [ty25, γ]⟩, rfl, by first | (intro h; cases h; done) | (intro _; rfl), rfl, Tryz.underlying25, rfl, fun ks h => by cases h⟩
theorem ty26_ok : TyOk Tryz.prog 26 ty26 :=
  ⟨⟨Tryz.t26, by kernel_rfl, rfl, rfl, _, rfl, fun ρ => by simp [ty26, γ, γL]⟩, rfl, by first | (intro h; cases h; done) | (intro _; rfl), rfl, ⟨_, Tryz.underlying26, rfl⟩, rfl, fun ks h => by cases h⟩
theorem ty27_ok : TyOk Tryz.prog 27 ty27 :=
  ⟨⟨Tryz.t27, by kernel_rfl, rfl, rfl, _, rfl, fun ρ => by simp [ty27, γ, γL]⟩, rfl, by first | (intro h; cases h; done) | (intro _; rfl), rfl, ⟨_, Tryz.underlying27, rfl⟩, rfl, fun ks h => by cases h⟩
theorem ty28_ok : TyOk Tryz.prog 28 ty28 :=
  ⟨⟨Tryz.t28, by kernel_rfl, rfl, rfl, _, rfl, fun ρ => by simp [ty28, γ, γL]⟩, rfl, by first | (intro h; cases h; done) | (intro _; rfl), rfl, ⟨_, Tryz.underlying28, rfl⟩, rfl, fun ks h => flatOk_of (d := 12) (by decide) (by cases h; kernel_rfl) Tryz.eqGuardType28 (by rw [Tryz.underlying28])⟩
theorem ty29_ok : TyOk Tryz.prog 29 ty29 :=
  ⟨⟨Tryz.t29, by kernel_rfl, rfl, rfl, _, rfl, fun ρ => by simp [ty29, γ, γL]⟩, rfl, by first | (intro h; cases h; done) | (intro _; rfl), rfl, ⟨_, Tryz.underlying29, rfl⟩, rfl, fun ks h => flatOk_of (d := 12) (by decide) (by cases h; kernel_rfl) Tryz.eqGuardType29 (by rw [Tryz.underlying29])⟩
theorem ty30_ok : TyOk Tryz.prog 30 ty30 :=
  ⟨⟨Tryz.t30, by kernel_rfl, rfl, rfl, _, rfl, fun ρ => by simp [ty30, γ, γL]⟩, rfl, by first | (intro h; cases h; done) | (intro _; rfl), rfl, ⟨_, Tryz.underlying30, rfl⟩, rfl, fun ks h => flatOk_of (d := 12) (by decide) (by cases h; kernel_rfl) Tryz.eqGuardType30 (by rw [Tryz.underlying30])⟩
theorem ty31_ok : TyOk Tryz.prog 31 ty31 :=
  ⟨⟨Tryz.t31, by kernel_rfl, rfl, rfl, _, rfl, fun ρ => by simp [ty31, γ, γL]⟩, rfl, by first | (intro h; cases h; done) | (intro _; rfl), rfl, ⟨_, Tryz.underlying31, rfl⟩, rfl, fun ks h => flatOk_of (d := 12) (by decide) (by cases h; kernel_rfl) Tryz.eqGuardType31 (by rw [Tryz.underlying31])⟩
theorem ty32_ok : TyOk Tryz.prog 32 ty32 :=
  ⟨⟨Tryz.t32, by kernel_rfl, rfl, rfl, _, rfl, fun ρ => by simp [ty32, γ, γL]⟩, rfl, by first | (intro h; cases h; done) | (intro _; rfl), rfl, ⟨_, Tryz.underlying32, rfl⟩, rfl, fun ks h => by cases h⟩
theorem ty33_ok : TyOk Tryz.prog 33 ty33 :=
  ⟨⟨Tryz.t33, by kernel_rfl, rfl, rfl, _, rfl, fun ρ => by simp [ty33, γ, γL]⟩, rfl, by first | (intro h; cases h; done) | (intro _; rfl), rfl, ⟨_, Tryz.underlying33, rfl⟩, rfl, fun ks h => by cases h⟩
theorem ty34_ok : TyOk Tryz.prog 34 ty34 :=
  ⟨⟨Tryz.t34, by kernel_rfl, rfl, rfl, _, rfl, fun ρ => by simp [ty34, γ, γL]⟩, rfl, by first | (intro h; cases h; done) | (intro _; rfl), rfl, ⟨_, Tryz.underlying34, rfl⟩, rfl, fun ks h => flatOk_of (d := 12) (by decide) (by cases h; kernel_rfl) Tryz.eqGuardType34 (by rw [Tryz.underlying34])⟩
theorem ty35_ok : TyOk Tryz.prog 35 ty35 :=
  ⟨⟨Tryz.t35, by kernel_rfl, rfl, rfl, _, rfl, fun ρ => by simp [ty35, γ, γL]⟩, rfl, by first | (intro h; cases h; done) | (intro _; rfl), rfl, ⟨_, Tryz.underlying35, rfl⟩, rfl, fun ks h => flatOk_of (d := 12) (by decide) (by cases h; kernel_rfl) Tryz.eqGuardType35 (by rw [Tryz.underlying35])⟩
theorem ty36_ok : TyOk Tryz.prog 36 ty36 :=
  ⟨⟨Tryz.t36, by kernel_rfl, rfl, rfl, _, rfl, fun ρ => by simp [ty36, γ]⟩, rfl, by first | (intro h; cases h; done) | (intro _; rfl), rfl, Tryz.underlying36, rfl, fun ks h => by cases h⟩
theorem ty37_ok : TyOk Tryz.prog 37 ty37 :=
  ⟨⟨Tryz.t37, by kernel_rfl, rfl, rfl, _, rfl, fun ρ => by simp [ty37, γ]⟩, rfl, by first | (intro h; cases h; done) | (intro _; rfl), rfl, Tryz.underlying37, rfl, fun ks h => by cases h⟩
theorem ty39_ok : TyOk Tryz.prog 39 ty39 :=
  ⟨⟨Tryz.t39, by kernel_rfl, rfl, rfl, _, rfl, fun ρ => by simp [ty39, γ]⟩, rfl, by first | (intro h; cases h; done) | (intro _; rfl), rfl, ⟨_, _, _, Tryz.underlying39⟩, rfl, fun ks h => by cases h⟩
theorem ty40_ok : TyOk Tryz.prog 40 ty40 :=
  ⟨⟨Tryz.t40, by kernel_rfl, rfl, rfl, _, rfl, fun ρ => by simp [ty40, γ]⟩, rfl, by first | (intro h; cases h; done) | (intro _; rfl), rfl, ⟨_, _, _, Tryz.underlying40⟩, rfl, fun ks h => by cases h⟩
theorem ty42_ok : TyOk Tryz.prog 42 ty42 :=
  ⟨⟨Tryz.t42, by kernel_rfl, rfl, rfl, _, rfl, fun ρ => by simp [ty42, γ]⟩, rfl, by first | (intro h; cases h; done) | (intro _; rfl), rfl, ⟨_, _, _, Tryz.underlying42⟩, rfl, fun ks h => by cases h⟩
theorem ty43_ok : TyOk Tryz.prog 43 ty43 :=
  ⟨⟨Tryz.t43, by kernel_rfl, rfl, rfl, _, rfl, fun ρ => by simp [ty43, γ]⟩, rfl, by first | (intro h; cases h; done) | (intro _; rfl), rfl, ⟨_, _, _, Tryz.underlying43⟩, rfl, fun ks h => by cases h⟩
theorem ty44_ok : TyOk Tryz.prog 44 ty44 :=
  ⟨⟨Tryz.t44, by kernel_rfl, rfl, rfl, _, rfl, fun ρ => by simp [ty44, γ]⟩, rfl, by first | (intro h; cases h; done) | (intro _; rfl), rfl, ⟨_, _, _, Tryz.underlying44⟩, rfl, fun ks h => by cases h⟩
theorem ty45_ok : TyOk Tryz.prog 45 ty45 :=
  ⟨⟨Tryz.t45, by kernel_rfl, rfl, rfl, _, rfl, fun ρ => by simp [ty45, γ]⟩, rfl, by first | (intro h; cases h; done) | (intro _; rfl), rfl, Tryz.underlying45, rfl, fun ks h => by cases h⟩
theorem ty46_ok : TyOk Tryz.prog 46 ty46 :=
  ⟨⟨Tryz.t46, by kernel_rfl, rfl, rfl, _, rfl, fun ρ => by simp [ty46, γ]⟩, rfl, by first | (intro h; cases h; done) | (intro _; rfl), rfl, ⟨_, _, _, Tryz.underlying46⟩, rfl, fun ks h => by cases h⟩
theorem ty47_ok : TyOk Tryz.prog 47 ty47 :=
  ⟨⟨Tryz.t47, by kernel_rfl, rfl, rfl, _, rfl, fun ρ => by simp [ty47, γ]⟩, rfl, by first | (intro h; cases h; done) | (intro _; rfl), rfl, ⟨_, _, _, Tryz.underlying47⟩, rfl, fun ks h => by cases h⟩
theorem ty48_ok : TyOk Tryz.prog 48 ty48 :=
  ⟨⟨Tryz.t48, by kernel_rfl, rfl, rfl, _, rfl, fun ρ => by simp [ty48, γ]⟩, rfl, by first | (intro h; cases h; done) | (intro _; rfl), rfl, Tryz.underlying48, rfl, fun ks h => by cases h⟩
theorem ty50_ok : TyOk Tryz.prog 50 ty50 :=
  ⟨⟨Tryz.t50, by kernel_rfl, rfl, rfl, _, rfl, fun ρ => by simp [ty50, γ]⟩, rfl, by first | (intro h; cases h; done) | (intro _; rfl), rfl, ⟨_, _, _, Tryz.underlying50⟩, rfl, fun ks h => by cases h⟩
theorem ty51_ok : TyOk Tryz.prog 51 ty51 :=
  ⟨⟨Tryz.t51, by kernel_rfl, rfl, rfl, _, rfl, fun ρ => by simp [ty51, γ, γL]⟩, rfl, by first | (intro h; cases h; done) | (intro _; rfl), rfl, ⟨_, Tryz.underlying51, rfl⟩, rfl, fun ks h => flatOk_of (d := 12) (by decide) (by cases h; kernel_rfl) Tryz.eqGuardType51 (by rw [Tryz.underlying51])⟩
theorem ty52_ok : TyOk Tryz.prog 52 ty52 :=
  ⟨⟨Tryz.t52, by kernel_rfl, rfl, rfl, _, rfl, fun ρ => by simp [ty52, γ, γL]⟩, rfl, by first | (intro h; cases h; done) | (intro _; rfl), rfl, ⟨_, Tryz.underlying52, rfl⟩, rfl, fun ks h => flatOk_of (d := 12) (by decide) (by cases h; kernel_rfl) Tryz.eqGuardType52 (by rw [Tryz.underlying52])⟩
theorem ty54_ok : TyOk Tryz.prog 54 ty54 :=
  ⟨⟨Tryz.t54, by kernel_rfl, rfl, rfl, _, rfl, fun ρ => by simp [ty54, γ]⟩, rfl, by first | (intro h; cases h; done) | (intro _; rfl), rfl, ⟨_, _, _, Tryz.underlying54⟩, rfl, fun ks h => by cases h⟩
theorem ty55_ok : TyOk Tryz.prog 55 ty55 :=
  ⟨⟨Tryz.t55, by kernel_rfl, rfl, rfl, _, rfl, fun ρ => by simp [ty55, γ]⟩, rfl, by first | (intro h; cases h; done) | (intro _; rfl), rfl, ⟨_, _, _, Tryz.underlying55⟩, rfl, fun ks h => by cases h⟩
theorem ty56_ok : TyOk Tryz.prog 56 ty56 :=
  ⟨⟨Tryz.t56, by kernel_rfl, rfl, rfl, _, rfl, fun ρ => by simp [ty56, γ]⟩, rfl, by first | (intro h; cases h; done) | (intro _; rfl), rfl, ⟨_, _, _, Tryz.underlying56⟩, rfl, fun ks h => by cases h⟩
theorem ty57_ok : TyOk Tryz.prog 57 ty57 :=
  ⟨⟨Tryz.t57, by kernel_rfl, rfl, rfl, _, rfl, fun ρ => by simp [ty57, γ, γL]⟩, rfl, by first | (intro h; cases h; done) | (intro _; rfl), rfl, ⟨_, Tryz.underlying57, rfl⟩, rfl, fun ks h => by cases h⟩
theorem ty58_ok : TyOk Tryz.prog 58 ty58 :=
  ⟨⟨Tryz.t58, by kernel_rfl, rfl, rfl, _, rfl, fun ρ => by simp [ty58, γ, γL]⟩, rfl, by first | (intro h; cases h; done) | (intro _; rfl), rfl, ⟨_, Tryz.underlying58, rfl⟩, rfl, fun ks h => by cases h⟩
theorem ty59_ok : TyOk Tryz.prog 59 ty59 :=
  ⟨⟨Tryz.t59, by kernel_rfl, rfl, rfl, _, rfl, fun ρ => by simp [ty59, γ, γL]⟩, rfl, by first | (intro h; cases h; done) | (intro _; rfl), rfl, ⟨_, Tryz.underlying59, rfl⟩, rfl, fun ks h => flatOk_of (d := 12) (by decide) (by cases h; kernel_rfl) Tryz.eqGuardType59 (by rw [Tryz.underlying59])⟩
theorem ty60_ok : TyOk Tryz.prog 60 ty60 :=
  ⟨⟨Tryz.t60, by kernel_rfl, rfl, rfl, _, rfl, fun ρ => by simp [ty60, γ, γL]⟩, rfl, by first | (intro h; cases h; done) | (intro _; rfl), rfl, ⟨_, Tryz.underlying60, rfl⟩, rfl, fun ks h => flatOk_of (d := 12) (by decide) (by cases h; kernel_rfl) Tryz.eqGuardType60 (by rw [Tryz.underlying60])⟩
theorem ty62_ok : TyOk Tryz.prog 62 ty62 :=
  ⟨⟨Tryz.t62, by kernel_rfl, rfl, rfl, _, rfl, fun ρ => by simp [ty62, γ]⟩, rfl, by first | (intro h; cases h; done) | (intro _; rfl), rfl, ⟨_, _, _, Tryz.underlying62⟩, rfl, fun ks h => by cases h⟩
theorem ty63_ok : TyOk Tryz.prog 63 ty63 :=
  ⟨⟨Tryz.t63, by kernel_rfl, rfl, rfl, _, rfl, fun ρ => by simp [ty63, γ]⟩, rfl, by first | (intro h; cases h; done) | (intro _; rfl), rfl, ⟨_, _, _, Tryz.underlying63⟩, rfl, fun ks h => by cases h⟩
theorem ty64_ok : TyOk Tryz.prog 64 ty64 :=
  ⟨⟨Tryz.t64, by kernel_rfl, rfl, rfl, _, rfl, fun ρ => by simp [ty64, γ]⟩, rfl, by first | (intro h; cases h; done) | (intro _; rfl), rfl, ⟨_, _, _, Tryz.underlying64⟩, rfl, fun ks h => by cases h⟩
theorem ty65_ok : TyOk Tryz.prog 65 ty65 :=
  ⟨⟨Tryz.t65, by kernel_rfl, rfl, rfl, _, rfl, fun ρ => by simp [ty65, γ]⟩, rfl, by first | (intro h; cases h; done) | (intro _; rfl), rfl, Tryz.underlying65, rfl, fun ks h => by cases h⟩
theorem ty66_ok : TyOk Tryz.prog 66 ty66 :=
  ⟨⟨Tryz.t66, by kernel_rfl, rfl, rfl, _, rfl, fun ρ => by simp [ty66, γ, γL]⟩, rfl, by first | (intro h; cases h; done) | (intro _; rfl), rfl, Tryz.underlying66, rfl, fun ks h => flatOk_of (d := 12) (by decide) (by cases h; kernel_rfl) Tryz.eqGuardType66 (by rw [Tryz.underlying66])⟩
theorem ty67_ok : TyOk Tryz.prog 67 ty67 :=
  ⟨⟨Tryz.t67, by kernel_rfl, rfl, rfl, _, rfl, fun ρ => by simp [ty67, γ, γL]⟩, rfl, by first | (intro h; cases h; done) | (intro _; rfl), rfl, ⟨_, Tryz.underlying67, rfl⟩, rfl, fun ks h => flatOk_of (d := 12) (by decide) (by cases h; kernel_rfl) Tryz.eqGuardType67 (by rw [Tryz.underlying67])⟩
theorem ty68_ok : TyOk Tryz.prog 68 ty68 :=
  ⟨⟨Tryz.t68, by kernel_rfl, rfl, rfl, _, rfl, fun ρ => by simp [ty68, γ, γL]⟩, rfl, by first | (intro h; cases h; done) | (intro _; rfl), rfl, ⟨_, Tryz.underlying68, rfl⟩, rfl, fun ks h => flatOk_of (d := 12) (by decide) (by cases h; kernel_rfl) Tryz.eqGuardType68 (by rw [Tryz.underlying68])⟩
theorem ty69_ok : TyOk Tryz.prog 69 ty69 :=
  ⟨⟨Tryz.t69, by kernel_rfl, rfl, rfl, _, rfl, fun ρ => by simp [ty69, γ, γL]⟩, rfl, by first | (intro h; cases h; done) | (intro _; rfl), rfl, ⟨_, Tryz.underlying69, rfl⟩, rfl, fun ks h => flatOk_of (d := 12) (by decide) (by cases h; kernel_rfl) Tryz.eqGuardType69 (by rw [Tryz.underlying69])⟩
theorem ty70_ok : TyOk Tryz.prog 70 ty70 :=
  ⟨⟨Tryz.t70, by kernel_rfl, rfl, rfl, _, rfl, fun ρ => by simp [ty70, γ, γL]⟩, rfl, by first | (intro h; cases h; done) | (intro _; rfl), rfl, ⟨_, Tryz.underlying70, rfl⟩, rfl, fun ks h => flatOk_of (d := 12) (by decide) (by cases h; kernel_rfl) Tryz.eqGuardType70 (by rw [Tryz.underlying70])⟩
theorem ty71_ok : TyOk Tryz.prog 71 ty71 :=
  ⟨⟨Tryz.t71, by kernel_rfl, rfl, rfl, _, rfl, fun ρ => by simp [ty71, γ, γL]⟩, rfl, by first | (intro h; cases h; done) | (intro _; rfl), rfl, ⟨_, Tryz.underlying71, rfl⟩, rfl, fun ks h => by cases h⟩
theorem ty72_ok : TyOk Tryz.prog 72 ty72 :=
  ⟨⟨Tryz.t72, by kernel_rfl, rfl, rfl, _, rfl, fun ρ => by simp [ty72, γ, γL]⟩, rfl, by first | (intro h; cases h; done) | (intro _; rfl), rfl, ⟨_, Tryz.underlying72, rfl⟩, rfl, fun ks h => by cases h⟩
theorem ty74_ok : TyOk Tryz.prog 74 ty74 :=
  ⟨⟨Tryz.t74, by kernel_rfl, rfl, rfl, _, rfl, fun ρ => by simp [ty74, γ]⟩, rfl, by first | (intro h; cases h; done) | (intro _; rfl), rfl, ⟨_, _, _, Tryz.underlying74⟩, rfl, fun ks h => by cases h⟩
theorem ty75_ok : TyOk Tryz.prog 75 ty75 :=
  ⟨⟨Tryz.t75, by kernel_rfl, rfl, rfl, _, rfl, fun ρ => by simp [ty75, γ]⟩, rfl, by first | (intro h; cases h; done) | (intro _; rfl), rfl, ⟨_, _, _, Tryz.underlying75⟩, rfl, fun ks h => by cases h⟩
theorem ty76_ok : TyOk Tryz.prog 76 ty76 :=
  ⟨⟨Tryz.t76, by kernel_rfl, rfl, rfl, _, rfl, fun ρ => by simp [ty76, γ]⟩, rfl, by first | (intro h; cases h; done) | (intro _; rfl), rfl, ⟨_, _, _, Tryz.underlying76⟩, rfl, fun ks h => by cases h⟩
theorem ty77_ok : TyOk Tryz.prog 77 ty77 :=
  ⟨⟨Tryz.t77, by kernel_rfl, rfl, rfl, _, rfl, fun ρ => by simp [ty77, γ]⟩, rfl, by first | (intro h; cases h; done) | (intro _; rfl), rfl, ⟨_, _, _, Tryz.underlying77⟩, rfl, fun ks h => by cases h⟩
theorem ty79_ok : TyOk Tryz.prog 79 ty79 :=
  ⟨⟨Tryz.t79, by kernel_rfl, rfl, rfl, _, rfl, fun ρ => by simp [ty79, γ]⟩, rfl, by first | (intro h; cases h; done) | (intro _; rfl), rfl, ⟨_, _, _, Tryz.underlying79⟩, rfl, fun ks h => by cases h⟩
theorem ty80_ok : TyOk Tryz.prog 80 ty80 :=
  ⟨⟨Tryz.t80, by kernel_rfl, rfl, rfl, _, rfl, fun ρ => by simp [ty80, γ, γL]⟩, rfl, by first | (intro h; cases h; done) | (intro _; rfl), rfl, Tryz.underlying80, rfl, fun ks h => flatOk_of (d := 12) (by decide) (by cases h; kernel_rfl) Tryz.eqGuardType80 (by rw [Tryz.underlying80])⟩
theorem ty81_ok : TyOk Tryz.prog 81 ty81 :=
  ⟨⟨Tryz.t81, by kernel_rfl, rfl, rfl, _, rfl, fun ρ => by simp [ty81, γ, γL]⟩, rfl, by first | (intro h; cases h; done) | (intro _; rfl), rfl, Tryz.underlying81, rfl, fun ks h => flatOk_of (d := 12) (by decide) (by cases h; kernel_rfl) Tryz.eqGuardType81 (by rw [Tryz.underlying81])⟩
theorem ty83_ok : TyOk Tryz.prog 83 ty83 :=
  ⟨⟨Tryz.t83, by kernel_rfl, rfl, rfl, _, rfl, fun ρ => by simp [ty83, γ]⟩, rfl, by first | (intro h; cases h; done) | (intro _; rfl), rfl, ⟨_, _, _, Tryz.underlying83⟩, rfl, fun ks h => by cases h⟩
theorem ty84_ok : TyOk Tryz.prog 84 ty84 :=
  ⟨⟨Tryz.t84, by kernel_rfl, rfl, rfl, _, rfl, fun ρ => by simp [ty84, γ]⟩, rfl, by first | (intro h; cases h; done) | (intro _; rfl), rfl, ⟨_, _, _, Tryz.underlying84⟩, rfl, fun ks h => by cases h⟩
theorem ty85_ok : TyOk Tryz.prog 85 ty85 :=
  ⟨⟨Tryz.t85, by kernel_rfl, rfl, rfl, _, rfl, fun ρ => by simp [ty85, γ]⟩, rfl, by first | (intro h; cases h; done) | (intro _; rfl), rfl, ⟨_, _, _, Tryz.underlying85⟩, rfl, fun ks h => by cases h⟩
theorem ty86_ok : TyOk Tryz.prog 86 ty86 :=
  ⟨⟨Tryz.t86, by kernel_rfl, rfl, rfl, _, rfl, fun ρ => by simp [ty86, γ]⟩, rfl, by first | (intro h; cases h; done) | (intro _; rfl), rfl, ⟨_, _, _, Tryz.underlying86⟩, rfl, fun ks h => by cases h⟩
theorem ty87_ok : TyOk Tryz.prog 87 ty87 :=
  ⟨⟨Tryz.t87, by kernel_rfl, rfl, rfl, _, rfl, fun ρ => by simp [ty87, γ]⟩, rfl, by first | (intro h; cases h; done) | (intro _; rfl), rfl, ⟨_, _, _, Tryz.underlying87⟩, rfl, fun ks h => by cases h⟩
theorem ty88_ok : TyOk Tryz.prog 88 ty88 :=
  ⟨⟨Tryz.t88, by kernel_rfl, rfl, rfl, _, rfl, fun ρ => by simp [ty88, γ]⟩, rfl, by first | (intro h; cases h; done) | (intro _; rfl), rfl, Tryz.underlying88, rfl, fun ks h => by cases h⟩
theorem ty89_ok : TyOk Tryz.prog 89 ty89 :=
  ⟨⟨Tryz.t89, by kernel_rfl, rfl, rfl, _, rfl, fun ρ => by simp [ty89, γ]⟩, rfl, by first | (intro h; cases h; done) | (intro _; rfl), rfl, ⟨_, _, _, Tryz.underlying89⟩, rfl, fun ks h => by cases h⟩
theorem ty90_ok : TyOk Tryz.prog 90 ty90 :=
  ⟨⟨Tryz.t90, by kernel_rfl, rfl, rfl, _, rfl, fun ρ => by simp [ty90, γ]⟩, rfl, by first | (intro h; cases h; done) | (intro _; rfl), rfl, ⟨_, _, _, Tryz.underlying90⟩, rfl, fun ks h => by cases h⟩
theorem ty91_ok : TyOk Tryz.prog 91 ty91 :=
  ⟨⟨Tryz.t91, by kernel_rfl, rfl, rfl, _, rfl, fun ρ => by simp [ty91, γ]⟩, rfl, by first | (intro h; cases h; done) | (intro _; rfl), rfl, ⟨_, _, _, Tryz.underlying91⟩, rfl, fun ks h => by cases h⟩
theorem ty92_ok : TyOk Tryz.prog 92 ty92 :=
  ⟨⟨Tryz.t92, by kernel_rfl, rfl, rfl, _, rfl, fun ρ => by simp [ty92, γ]⟩, rfl, by first | (intro h; cases h; done) | (intro _; rfl), rfl, Tryz.underlying92, rfl, fun ks h => by cases h⟩
theorem ty94_ok : TyOk Tryz.prog 94 ty94 :=
  ⟨⟨Tryz.t94, by kernel_rfl, rfl, rfl, _, rfl, fun ρ => by simp [ty94, γ]⟩, rfl, by first | (intro h; cases h; done) | (intro _; rfl), rfl, ⟨_, _, _, Tryz.underlying94⟩, rfl, fun ks h => by cases h⟩
theorem ty96_ok : TyOk Tryz.prog 96 ty96 :=
  ⟨⟨Tryz.t96, by kernel_rfl, rfl, rfl, _, rfl, fun ρ => by simp [ty96, γ]⟩, rfl, by first | (intro h; cases h; done) | (intro _; rfl), rfl, ⟨_, _, _, Tryz.underlying96⟩, rfl, fun ks h => by cases h⟩
theorem ty97_ok : TyOk Tryz.prog 97 ty97 :=
  ⟨⟨Tryz.t97, by kernel_rfl, rfl, rfl, _, rfl, fun ρ => by simp [ty97, γ]⟩, rfl, by first | (intro h; cases h; done) | (intro _; rfl), rfl, ⟨_, _, _, Tryz.underlying97⟩, rfl, fun ks h => by cases h⟩
theorem ty99_ok : TyOk Tryz.prog 99 ty99 :=
  ⟨⟨Tryz.t99, by kernel_rfl, rfl, rfl, _, rfl, fun ρ => by simp [ty99, γ]⟩, rfl, by first | (intro h; cases h; done) | (intro _; rfl), rfl, ⟨_, _, _, Tryz.underlying99⟩, rfl, fun ks h => by cases h⟩
theorem ty100_ok : TyOk Tryz.prog 100 ty100 :=
  ⟨⟨Tryz.t100, by kernel_rfl, rfl, rfl, _, rfl, fun ρ => by simp [ty100, γ]⟩, rfl, by first | (intro h; cases h; done) | (intro _; rfl), rfl, ⟨_, _, _, Tryz.underlying100⟩, rfl, fun ks h => by cases h⟩
theorem ty101_ok : TyOk Tryz.prog 101 ty101 :=
  ⟨⟨Tryz.t101, by kernel_rfl, rfl, rfl, _, rfl, fun ρ => by simp [ty101, γ]⟩, rfl, by first | (intro h; cases h; done) | (intro _; rfl), rfl, ⟨_, _, _, Tryz.underlying101⟩, rfl, fun ks h => by cases h⟩
theorem ty102_ok : TyOk Tryz.prog 102 ty102 :=
  ⟨⟨Tryz.t102, by kernel_rfl, rfl, rfl, _, rfl, fun ρ => by simp [ty102, γ]⟩, rfl, by first | (intro h; cases h; done) | (intro _; rfl), rfl, ⟨_, _, _, Tryz.underlying102⟩, rfl, fun ks h => by cases h⟩
theorem ty103_ok : TyOk Tryz.prog 103 ty103 :=
  ⟨⟨Tryz.t103, by kernel_rfl, rfl, rfl, _, rfl, fun ρ => by simp [ty103, γ]⟩, rfl, by first | (intro h; cases h; done) | (intro _; rfl), rfl, Tryz.underlying103, rfl, fun ks h => by cases h⟩
theorem ty104_ok : TyOk Tryz.prog 104 ty104 :=
  ⟨⟨Tryz.t104, by kernel_rfl, rfl, rfl, _, rfl, fun ρ => by simp [ty104, γ]⟩, rfl, by first | (intro h; cases h; done) | (intro _; rfl), rfl, ⟨_, _, _, Tryz.underlying104⟩, rfl, fun ks h => by cases h⟩
theorem ty105_ok : TyOk Tryz.prog 105 ty105 :=
  ⟨⟨Tryz.t105, by kernel_rfl, rfl, rfl, _, rfl, fun ρ => by simp [ty105, γ]⟩, rfl, by first | (intro h; cases h; done) | (intro _; rfl), rfl, ⟨_, _, _, Tryz.underlying105⟩, rfl, fun ks h => by cases h⟩
theorem ty106_ok : TyOk Tryz.prog 106 ty106 :=
  ⟨⟨Tryz.t106, by kernel_rfl, rfl, rfl, _, rfl, fun ρ => by simp [ty106, γ, γL]⟩, rfl, by first | (intro h; cases h; done) | (intro _; rfl), rfl, ⟨_, Tryz.underlying106, rfl⟩, rfl, fun ks h => flatOk_of (d := 12) (by decide) (by cases h; kernel_rfl) Tryz.eqGuardType106 (by rw [Tryz.underlying106])⟩
theorem ty107_ok : TyOk Tryz.prog 107 ty107 :=
  ⟨⟨Tryz.t107, by kernel_rfl, rfl, rfl, _, rfl, fun ρ => by simp [ty107, γ, γL]⟩, rfl, by first | (intro h; cases h; done) | (intro _; rfl), rfl, ⟨_, Tryz.underlying107, rfl⟩, rfl, fun ks h => flatOk_of (d := 12) (by decide) (by cases h; kernel_rfl) Tryz.eqGuardType107 (by rw [Tryz.underlying107])⟩
theorem ty108_ok : TyOk Tryz.prog 108 ty108 :=
  ⟨⟨Tryz.t108, by kernel_rfl, rfl, rfl, _, rfl, fun ρ => by simp [ty108, γ]⟩, rfl, by first | (intro h; cases h; done) | (intro _; rfl), rfl, ⟨_, _, _, Tryz.underlying108⟩, rfl, fun ks h => by cases h⟩
theorem ty109_ok : TyOk Tryz.prog 109 ty109 :=
  ⟨⟨Tryz.t109, by kernel_rfl, rfl, rfl, _, rfl, fun ρ => by simp [ty109, γ]⟩, rfl, by first | (intro h; cases h; done) | (intro _; rfl), rfl, ⟨_, _, _, Tryz.underlying109⟩, rfl, fun ks h => by cases h⟩
theorem ty110_ok : TyOk Tryz.prog 110 ty110 :=
  ⟨⟨Tryz.t110, by kernel_rfl, rfl, rfl, _, rfl, fun ρ => by simp [ty110, γ]⟩, rfl, by first | (intro h; cases h; done) | (intro _; rfl), rfl, ⟨_, _, _, Tryz.underlying110⟩, rfl, fun ks h => by cases h⟩
theorem ty111_ok : TyOk Tryz.prog 111 ty111 :=
  ⟨⟨Tryz.t111, by kernel_rfl, rfl, rfl, _, rfl, fun ρ => by simp [ty111, γ]⟩, rfl, by first | (intro h; cases h; done) | (intro _; rfl), rfl, ⟨_, _, _, Tryz.underlying111⟩, rfl, fun ks h => by cases h⟩
theorem ty112_ok : TyOk Tryz.prog 112 ty112 :=
  ⟨⟨Tryz.t112, by kernel_rfl, rfl, rfl, _, rfl, fun ρ => by simp [ty112, γ]⟩, rfl, by first | (intro h; cases h; done) | (intro _; rfl), rfl, ⟨_, _, _, Tryz.underlying112⟩, rfl, fun ks h => by cases h⟩
theorem ty114_ok : TyOk Tryz.prog 114 ty114 :=
  ⟨⟨Tryz.t114, by kernel_rfl, rfl, rfl, _, rfl, fun ρ => by simp [ty114, γ]⟩, rfl, by first | (intro h; cases h; done) | (intro _; rfl), rfl, ⟨_, _, _, Tryz.underlying114⟩, rfl, fun ks h => by cases h⟩
theorem ty115_ok : TyOk Tryz.prog 115 ty115 :=
  ⟨⟨Tryz.t115, by kernel_rfl, rfl, rfl, _, rfl, fun ρ => by simp [ty115, γ]⟩, rfl, by first | (intro h; cases h; done) | (intro _; rfl), rfl, ⟨_, _, _, Tryz.underlying115⟩, rfl, fun ks h => by cases h⟩
theorem ty116_ok : TyOk Tryz.prog 116 ty116 :=
  ⟨⟨Tryz.t116, by kernel_rfl, rfl, rfl, _, rfl, fun ρ => by simp [ty116, γ]⟩, rfl, by first | (intro h; cases h; done) | (intro _; rfl), rfl, ⟨_, _, _, Tryz.underlying116⟩, rfl, fun ks h => by cases h⟩
theorem ty117_ok : TyOk Tryz.prog 117 ty117 :=
  ⟨⟨Tryz.t117, by kernel_rfl, rfl, rfl, _, rfl, fun ρ => by simp [ty117, γ, γL]⟩, rfl, by first | (intro h; cases h; done) | (intro _; rfl), rfl, Tryz.underlying117, rfl, fun ks h => flatOk_of (d := 12) (by decide) (by cases h; kernel_rfl) Tryz.eqGuardType117 (by rw [Tryz.underlying117])⟩
theorem ty118_ok : TyOk Tryz.prog 118 ty118 :=
  ⟨⟨Tryz.t118, by kernel_rfl, rfl, rfl, _, rfl, fun ρ => by simp [ty118, γ]⟩, rfl, by first | (intro h; cases h; done) | (intro _; rfl), rfl, ⟨_, _, _, Tryz.underlying118⟩, rfl, fun ks h => by cases h⟩
theorem ty119_ok : TyOk Tryz.prog 119 ty119 :=
  ⟨⟨Tryz.t119, by kernel_rfl, rfl, rfl, _, rfl, fun ρ => by simp [ty119, γ]⟩, rfl, by first | (intro h; cases h; done) | (intro _; rfl), rfl, ⟨_, _, _, Tryz.underlying119⟩, rfl, fun ks h => by cases h⟩
theorem ty120_ok : TyOk Tryz.prog 120 ty120 :=
  ⟨⟨Tryz.t120, by kernel_rfl, rfl, rfl, _, rfl, fun ρ => by simp [ty120, γ]⟩, rfl, by first | (intro h; cases h; done) | (intro _; rfl), rfl, ⟨_, _, _, Tryz.underlying120⟩, rfl, fun ks h => by cases h⟩
theorem ty121_ok : TyOk Tryz.prog 121 ty121 :=
  ⟨⟨Tryz.t121, by kernel_rfl, rfl, rfl, _, rfl, fun ρ => by simp [ty121, γ]⟩, rfl, by first | (intro h; cases h; done) | (intro _; rfl), rfl, ⟨_, _, _, Tryz.underlying121⟩, rfl, fun ks h => by cases h⟩
theorem ty122_ok : TyOk Tryz.prog 122 ty122 :=
  ⟨⟨Tryz.t122, by kernel_rfl, rfl, rfl, _, rfl, fun ρ => by simp [ty122, γ]⟩, rfl, by first | (intro h; cases h; done) | (intro _; rfl), rfl, ⟨_, _, _, Tryz.underlying122⟩, rfl, fun ks h => by cases h⟩
theorem ty123_ok : TyOk Tryz.prog 123 ty123 :=
  ⟨⟨Tryz.t123, by kernel_rfl, rfl, rfl, _, rfl, fun ρ => by simp [ty123, γ]⟩, rfl, by first | (intro h; cases h; done) | (intro _; rfl), rfl, ⟨_, _, _, Tryz.underlying123⟩, rfl, fun ks h => by cases h⟩
theorem ty125_ok : TyOk Tryz.prog 125 ty125 :=
  ⟨⟨Tryz.t125, by kernel_rfl, rfl, rfl, _, rfl, fun ρ => by simp [ty125, γ]⟩, rfl, by first | (intro h; cases h; done) | (intro _; rfl), rfl, Tryz.underlying125, rfl, fun ks h => by cases h⟩
theorem ty126_ok : TyOk Tryz.prog 126 ty126 :=
  ⟨⟨Tryz.t126, by kernel_rfl, rfl, rfl, _, rfl, fun ρ => by simp [ty126, γ, γL]⟩, rfl, by first | (intro h; cases h; done) | (intro _; rfl), rfl, ⟨_, Tryz.underlying126, rfl⟩, rfl, fun ks h => by cases h⟩
theorem ty127_ok : TyOk Tryz.prog 127 ty127 :=
  ⟨⟨Tryz.t127, by kernel_rfl, rfl, rfl, _, rfl, fun ρ => by simp [ty127, γ, γL]⟩, rfl, by first | (intro h; cases h; done) | (intro _; rfl), rfl, ⟨_, Tryz.underlying127, rfl⟩, rfl, fun ks h => by cases h⟩
theorem ty128_ok : TyOk Tryz.prog 128 ty128 :=
  ⟨⟨Tryz.t128, by kernel_rfl, rfl, rfl, _, rfl, fun ρ => by simp [ty128, γ]⟩, rfl, by first | (intro h; cases h; done) | (intro _; rfl), rfl, Tryz.underlying128, rfl, fun ks h => by cases h⟩
theorem ty129_ok : TyOk Tryz.prog 129 ty129 :=
  ⟨⟨Tryz.t129, by kernel_rfl, rfl, rfl, _, rfl, fun ρ => by simp [ty129, γ, γL]⟩, rfl, by first | (intro h; cases h; done) | (intro _; rfl), rfl, ⟨_, Tryz.underlying129, rfl⟩, rfl, fun ks h => by cases h⟩
theorem ty130_ok : TyOk Tryz.prog 130 ty130 :=
  ⟨⟨Tryz.t130, by kernel_rfl, rfl, rfl, _, rfl, fun ρ => by simp [ty130, γ, γL]⟩, rfl, by first | (intro h; cases h; done) | (intro _; rfl), rfl, ⟨_, Tryz.underlying130, rfl⟩, rfl, fun ks h => by cases h⟩
theorem ty131_ok : TyOk Tryz.prog 131 ty131 :=
  ⟨⟨Tryz.t131, by kernel_rfl, rfl, rfl, _, rfl, fun ρ => by simp [ty131, γ]⟩, rfl, by first | (intro h; cases h; done) | (intro _; rfl), rfl, ⟨_, _, _, Tryz.underlying131⟩, rfl, fun ks h => by cases h⟩
theorem ty132_ok : TyOk Tryz.prog 132 ty132 :=
  ⟨⟨Tryz.t132, by kernel_rfl, rfl, rfl, _, rfl, fun ρ => by simp [ty132, γ, γL]⟩, rfl, by first | (intro h; cases h; done) | (intro _; rfl), rfl, Tryz.underlying132, rfl, fun ks h => flatOk_of (d := 12) (by decide) (by cases h; kernel_rfl) Tryz.eqGuardType132 (by rw [Tryz.underlying132])⟩
theorem ty133_ok : TyOk Tryz.prog 133 ty133 :=
  ⟨⟨Tryz.t133, by kernel_rfl, rfl, rfl, _, rfl, fun ρ => by simp [ty133, γ]⟩, rfl, by first | (intro h; cases h; done) | (intro _; rfl), rfl, ⟨_, _, _, Tryz.underlying133⟩, rfl, fun ks h => by cases h⟩
theorem ty135_ok : TyOk Tryz.prog 135 ty135 :=
  ⟨⟨Tryz.t135, by kernel_rfl, rfl, rfl, _, rfl, fun ρ => by simp [ty135, γ]⟩, rfl, by first | (intro h; cases h; done) | (intro _; rfl), rfl, ⟨_, _, _, Tryz.underlying135⟩, rfl, fun ks h => by cases h⟩
theorem ty136_ok : TyOk Tryz.prog 136 ty136 :=
  ⟨⟨Tryz.t136, by kernel_rfl, rfl, rfl, _, rfl, fun ρ => by simp [ty136, γ]⟩, rfl, by first | (intro h; cases h; done) | (intro _; rfl), rfl, ⟨_, _, _, Tryz.underlying136⟩, rfl, fun ks h => by cases h⟩
theorem ty137_ok : TyOk Tryz.prog 137 ty137 :=
  ⟨⟨Tryz.t137, by kernel_rfl, rfl, rfl, _, rfl, fun ρ => by simp [ty137, γ, γL]⟩, rfl, by first | (intro h; cases h; done) | (intro _; rfl), rfl, ⟨_, Tryz.underlying137, rfl⟩, rfl, fun ks h => flatOk_of (d := 12) (by decide) (by cases h; kernel_rfl) Tryz.eqGuardType137 (by rw [Tryz.underlying137])⟩
theorem ty138_ok : TyOk Tryz.prog 138 ty138 :=
  ⟨⟨Tryz.t138, by kernel_rfl, rfl, rfl, _, rfl, fun ρ => by simp [ty138, γ, γL]⟩, rfl, by first | (intro h; cases h; done) | (intro _; rfl), rfl, ⟨_, Tryz.underlying138, rfl⟩, rfl, fun ks h => flatOk_of (d := 12) (by decide) (by cases h; kernel_rfl) Tryz.eqGuardType138 (by rw [Tryz.underlying138])⟩
theorem ty139_ok : TyOk Tryz.prog 139 ty139 :=
  ⟨⟨Tryz.t139, by kernel_rfl, rfl, rfl, _, rfl, fun ρ => by simp [ty139, γ]⟩, rfl, by first | (intro h; cases h; done) | (intro _; rfl), rfl, ⟨_, _, _, Tryz.underlying139⟩, rfl, fun ks h => by cases h⟩
theorem ty140_ok : TyOk Tryz.prog 140 ty140 :=
  ⟨⟨Tryz.t140, by kernel_rfl, rfl, rfl, _, rfl, fun ρ => by simp [ty140, γ]⟩, rfl, by first | (intro h; cases h; done) | (intro _; rfl), rfl, ⟨_, _, _, Tryz.underlying140⟩, rfl, fun ks h => by cases h⟩
theorem ty141_ok : TyOk Tryz.prog 141 ty141 :=
  ⟨⟨Tryz.t141, by kernel_rfl, rfl, rfl, _, rfl, fun ρ => by simp [ty141, γ]⟩, rfl, by first | (intro h; cases h; done) | (intro _; rfl), rfl, ⟨_, _, _, Tryz.underlying141⟩, rfl, fun ks h => by cases h⟩
theorem ty142_ok : TyOk Tryz.prog 142 ty142 :=
  ⟨⟨Tryz.t142, by kernel_rfl, rfl, rfl, _, rfl, fun ρ => by simp [ty142, γ]⟩, rfl, by first | (intro h; cases h; done) | (intro _; rfl), rfl, ⟨_, _, _, Tryz.underlying142⟩, rfl, fun ks h => by cases h⟩
theorem ty143_ok : TyOk Tryz.prog 143 ty143 :=
  ⟨⟨Tryz.t143, by kernel_rfl, rfl, rfl, _, rfl, fun ρ => by simp [ty143, γ]⟩, rfl, by first | (intro h; cases h; done) | (intro _; rfl), rfl, ⟨_, _, _, Tryz.underlying143⟩, rfl, fun ks h => by cases h⟩
theorem ty144_ok : TyOk Tryz.prog 144 ty144 :=
  ⟨⟨Tryz.t144, by kernel_rfl, rfl, rfl, _, rfl, fun ρ => by simp [ty144, γ]⟩, rfl, by first | (intro h; cases h; done) | (intro _; rfl), rfl, ⟨_, _, _, Tryz.underlying144⟩, rfl, fun ks h => by cases h⟩
theorem ty145_ok : TyOk Tryz.prog 145 ty145 :=
  ⟨⟨Tryz.t145, by kernel_rfl, rfl, rfl, _, rfl, fun ρ => by simp [ty145, γ]⟩, rfl, by first | (intro h; cases h; done) | (intro _; rfl), rfl, ⟨_, _, _, Tryz.underlying145⟩, rfl, fun ks h => by cases h⟩
theorem ty146_ok : TyOk Tryz.prog 146 ty146 :=
  ⟨⟨Tryz.t146, by kernel_rfl, rfl, rfl, _, rfl, fun ρ => by simp [ty146, γ]⟩, rfl, by first | (intro h; cases h; done) | (intro _; rfl), rfl, ⟨_, _, _, Tryz.underlying146⟩, rfl, fun ks h => by cases h⟩
theorem ty147_ok : TyOk Tryz.prog 147 ty147 :=
  ⟨⟨Tryz.t147, by kernel_rfl, rfl, rfl, _, rfl, fun ρ => by simp [ty147, γ, γL]⟩, rfl, by first | (intro h; cases h; done) | (intro _; rfl), rfl, ⟨_, Tryz.underlying147, rfl⟩, rfl, fun ks h => by cases h⟩
theorem ty148_ok : TyOk Tryz.prog 148 ty148 :=
  ⟨⟨Tryz.t148, by kernel_rfl, rfl, rfl, _, rfl, fun ρ => by simp [ty148, γ, γL]⟩, rfl, by first | (intro h; cases h; done) | (intro _; rfl), rfl, ⟨_, Tryz.underlying148, rfl⟩, rfl, fun ks h => by cases h⟩
theorem ty149_ok : TyOk Tryz.prog 149 ty149 :=
  ⟨⟨Tryz.t149, by kernel_rfl, rfl, rfl, _, rfl, fun ρ => by simp [ty149, γ, γL]⟩, rfl, by first | (intro h; cases h; done) | (intro _; rfl), rfl, Tryz.underlying149, rfl, fun ks h => by cases h⟩
theorem ty150_ok : TyOk Tryz.prog 150 ty150 :=
  ⟨⟨Tryz.t150, by kernel_rfl, rfl, rfl, _, rfl, fun ρ => by simp [ty150, γ]⟩, rfl, by first | (intro h; cases h; done) | (intro _; rfl), rfl, ⟨_, _, _, Tryz.underlying150⟩, rfl, fun ks h => by cases h⟩
theorem ty151_ok : TyOk Tryz.prog 151 ty151 :=
  ⟨⟨Tryz.t151, by kernel_rfl, rfl, rfl, _, rfl, fun ρ => by simp [ty151, γ]⟩, rfl, by first | (intro h; cases h; done) | (intro _; rfl), rfl, ⟨_, _, _, Tryz.underlying151⟩, rfl, fun ks h => by cases h⟩
theorem ty152_ok : TyOk Tryz.prog 152 ty152 :=
  ⟨⟨Tryz.t152, by kernel_rfl, rfl, rfl, _, rfl, fun ρ => by simp [ty152, γ]⟩, rfl, by first | (intro h; cases h; done) | (intro _; rfl), rfl, ⟨_, _, _, Tryz.underlying152⟩, rfl, fun ks h => by cases h⟩
theorem ty153_ok : TyOk Tryz.prog 153 ty153 :=
  ⟨⟨Tryz.t153, by kernel_rfl, rfl, rfl, _, rfl, fun ρ => by simp [ty153, γ, γL]⟩, rfl, by first | (intro h; cases h; done) | (intro _; rfl), rfl, Tryz.underlying153, rfl, fun ks h => flatOk_of (d := 12) (by decide) (by cases h; kernel_rfl) Tryz.eqGuardType153 (by rw [Tryz.underlying153])⟩
theorem ty154_ok : TyOk Tryz.prog 154 ty154 :=
  ⟨⟨Tryz.t154, by kernel_rfl, rfl, rfl, _, rfl, fun ρ => by simp [ty154, γ, γL]⟩, rfl, by first | (intro h; cases h; done) | (intro _; rfl), rfl, ⟨_, Tryz.underlying154, rfl⟩, rfl, fun ks h => flatOk_of (d := 12) (by decide) (by cases h; kernel_rfl) Tryz.eqGuardType154 (by rw [Tryz.underlying154])⟩
theorem ty155_ok : TyOk Tryz.prog 155 ty155 :=
  ⟨⟨Tryz.t155, by kernel_rfl, rfl, rfl, _, rfl, fun ρ => by simp [ty155, γ, γL]⟩, rfl, by first | (intro h; cases h; done) | (intro _; rfl), rfl, ⟨_, Tryz.underlying155, rfl⟩, rfl, fun ks h => flatOk_of (d := 12) (by decide) (by cases h; kernel_rfl) Tryz.eqGuardType155 (by rw [Tryz.underlying155])⟩
theorem ty157_ok : TyOk Tryz.prog 157 ty157 :=
  ⟨⟨Tryz.t157, by kernel_rfl, rfl, rfl, _, rfl, fun ρ => by simp [ty157, γ]⟩, rfl, by first | (intro h; cases h; done) | (intro _; rfl), rfl, ⟨_, _, _, Tryz.underlying157⟩, rfl, fun ks h => by cases h⟩
theorem ty158_ok : TyOk Tryz.prog 158 ty158 :=
  ⟨⟨Tryz.t158, by kernel_rfl, rfl, rfl, _, rfl, fun ρ => by simp [ty158, γ, γL]⟩, rfl, by first | (intro h; cases h; done) | (intro _; rfl), rfl, ⟨_, Tryz.underlying158, rfl⟩, rfl, fun ks h => flatOk_of (d := 12) (by decide) (by cases h; kernel_rfl) Tryz.eqGuardType158 (by rw [Tryz.underlying158])⟩
theorem ty159_ok : TyOk Tryz.prog 159 ty159 :=
  ⟨⟨Tryz.t159, by kernel_rfl, rfl, rfl, _, rfl, fun ρ => by simp [ty159, γ, γL]⟩, rfl, by first | (intro h; cases h; done) | (intro _; rfl), rfl, ⟨_, Tryz.underlying159, rfl⟩, rfl, fun ks h => flatOk_of (d := 12) (by decide) (by cases h; kernel_rfl) Tryz.eqGuardType159 (by rw [Tryz.underlying159])⟩
theorem ty160_ok : TyOk Tryz.prog 160 ty160 :=
  ⟨⟨Tryz.t160, by kernel_rfl, rfl, rfl, _, rfl, fun ρ => by simp [ty160, γ]⟩, rfl, by first | (intro h; cases h; done) | (intro _; rfl), rfl, ⟨_, _, _, Tryz.underlying160⟩, rfl, fun ks h => by cases h⟩
theorem ty161_ok : TyOk Tryz.prog 161 ty161 :=
  ⟨⟨Tryz.t161, by kernel_rfl, rfl, rfl, _, rfl, fun ρ => by simp [ty161, γ]⟩, rfl, by first | (intro h; cases h; done) | (intro _; rfl), rfl, ⟨_, _, _, Tryz.underlying161⟩, rfl, fun ks h => by cases h⟩
theorem ty162_ok : TyOk Tryz.prog 162 ty162 :=
  ⟨⟨Tryz.t162, by kernel_rfl, rfl, rfl, _, rfl, fun ρ => by simp [ty162, γ]⟩, rfl, by first | (intro h; cases h; done) | (intro _; rfl), rfl, ⟨_, _, _, Tryz.underlying162⟩, rfl, fun ks h => by cases h⟩
theorem ty163_ok : TyOk Tryz.prog 163 ty163 :=
  ⟨⟨Tryz.t163, by kernel_rfl, rfl, rfl, _, rfl, fun ρ => by simp [ty163, γ, γL]⟩, rfl, by first | (intro h; cases h; done) | (intro _; rfl), rfl, Tryz.underlying163, rfl, fun ks h => flatOk_of (d := 12) (by decide) (by cases h; kernel_rfl) Tryz.eqGuardType163 (by rw [Tryz.underlying163])⟩
theorem ty164_ok : TyOk Tryz.prog 164 ty164 :=
  ⟨⟨Tryz.t164, by kernel_rfl, rfl, rfl, _, rfl, fun ρ => by simp [ty164, γ]⟩, rfl, by first | (intro h; cases h; done) | (intro _; rfl), rfl, ⟨_, _, _, Tryz.underlying164⟩, rfl, fun ks h => by cases h⟩
theorem ty165_ok : TyOk Tryz.prog 165 ty165 :=
  ⟨⟨Tryz.t165, by kernel_rfl, rfl, rfl, _, rfl, fun ρ => by simp [ty165, γ]⟩, rfl, by first | (intro h; cases h; done) | (intro _; rfl), rfl, ⟨_, _, _, Tryz.underlying165⟩, rfl, fun ks h => by cases h⟩
theorem ty166_ok : TyOk Tryz.prog 166 ty166 :=
  ⟨⟨Tryz.t166, by kernel_rfl, rfl, rfl, _, rfl, fun ρ => by simp [ty166, γ]⟩, rfl, by first | (intro h; cases h; done) | (intro _; rfl), rfl, ⟨_, _, _, Tryz.underlying166⟩, rfl, fun ks h => by cases h⟩
theorem ty167_ok : TyOk Tryz.prog 167 ty167 :=
  ⟨⟨Tryz.t167, by kernel_rfl, rfl, rfl, _, rfl, fun ρ => by simp [ty167, γ]⟩, rfl, by first | (intro h; cases h; done) | (intro _; rfl), rfl, ⟨_, _, _, Tryz.underlying167⟩, rfl, fun ks h => by cases h⟩
theorem ty169_ok : TyOk Tryz.prog 169 ty169 :=
  ⟨⟨Tryz.t169, by kernel_rfl, rfl, rfl, _, rfl, fun ρ => by simp [ty169, γ]⟩, rfl, by first | (intro h; cases h; done) | (intro _; rfl), rfl, ⟨_, _, _, Tryz.underlying169⟩, rfl, fun ks h => by cases h⟩
theorem ty170_ok : TyOk Tryz.prog 170 ty170 :=
  ⟨⟨Tryz.t170, by kernel_rfl, rfl, rfl, _, rfl, fun ρ => by simp [ty170, γ]⟩, rfl, by first | (intro h; cases h; done) | (intro _; rfl), rfl, ⟨_, _, _, Tryz.underlying170⟩, rfl, fun ks h => by cases h⟩
theorem ty171_ok : TyOk Tryz.prog 171 ty171 :=
  ⟨⟨Tryz.t171, by kernel_rfl, rfl, rfl, _, rfl, fun ρ => by simp [ty171, γ]⟩, rfl, by first | (intro h; cases h; done) | (intro _; rfl), rfl, ⟨_, _, _, Tryz.underlying171⟩, rfl, fun ks h => by cases h⟩
theorem ty172_ok : TyOk Tryz.prog 172 ty172 :=
  ⟨⟨Tryz.t172, by kernel_rfl, rfl, rfl, _, rfl, fun ρ => by simp [ty172, γ]⟩, rfl, by first | (intro h; cases h; done) | (intro _; rfl), rfl, ⟨_, _, _, Tryz.underlying172⟩, rfl, fun ks h => by cases h⟩
theorem ty173_ok : TyOk Tryz.prog 173 ty173 :=
  ⟨⟨Tryz.t173, by kernel_rfl, rfl, rfl, _, rfl, fun ρ => by simp [ty173, γ]⟩, rfl, by first | (intro h; cases h; done) | (intro _; rfl), rfl, ⟨_, _, _, Tryz.underlying173⟩, rfl, fun ks h => by cases h⟩
theorem ty174_ok : TyOk Tryz.prog 174 ty174 :=
  ⟨⟨Tryz.t174, by kernel_rfl, rfl, rfl, _, rfl, fun ρ => by simp [ty174, γ, γL]⟩, rfl, by first | (intro h; cases h; done) | (intro _; rfl), rfl, Tryz.underlying174, rfl, fun ks h => flatOk_of (d := 12) (by decide) (by cases h; kernel_rfl) Tryz.eqGuardType174 (by rw [Tryz.underlying174])⟩
theorem ty176_ok : TyOk Tryz.prog 176 ty176 :=
  ⟨⟨Tryz.t176, by kernel_rfl, rfl, rfl, _, rfl, fun ρ => by simp [ty176, γ]⟩, rfl, by first | (intro h; cases h; done) | (intro _; rfl), rfl, ⟨_, _, _, Tryz.underlying176⟩, rfl, fun ks h => by cases h⟩
theorem ty177_ok : TyOk Tryz.prog 177 ty177 :=
  ⟨⟨Tryz.t177, by kernel_rfl, rfl, rfl, _, rfl, fun ρ => by simp [ty177, γ]⟩, rfl, by first | (intro h; cases h; done) | (intro _; rfl), rfl, ⟨_, _, _, Tryz.underlying177⟩, rfl, fun ks h => by cases h⟩
theorem ty178_ok : TyOk Tryz.prog 178 ty178 :=
  ⟨⟨Tryz.t178, by kernel_rfl, rfl, rfl, _, rfl, fun ρ => by simp [ty178, γ]⟩, rfl, by first | (intro h; cases h; done) | (intro _; rfl), rfl, ⟨_, _, _, Tryz.underlying178⟩, rfl, fun ks h => by cases h⟩
theorem ty180_ok : TyOk Tryz.prog 180 ty180 :=
  ⟨⟨Tryz.t180, by kernel_rfl, rfl, rfl, _, rfl, fun ρ => by simp [ty180, γ]⟩, rfl, by first | (intro h; cases h; done) | (intro _; rfl), rfl, ⟨_, _, _, Tryz.underlying180⟩, rfl, fun ks h => by cases h⟩
theorem ty181_ok : TyOk Tryz.prog 181 ty181 :=
  ⟨⟨Tryz.t181, by kernel_rfl, rfl, rfl, _, rfl, fun ρ => by simp [ty181, γ]⟩, rfl, by first | (intro h; cases h; done) | (intro _; rfl), rfl, ⟨_, _, _, Tryz.underlying181⟩, rfl, fun ks h => by cases h⟩
theorem ty182_ok : TyOk Tryz.prog 182 ty182 :=
  ⟨⟨Tryz.t182, by kernel_rfl, rfl, rfl, _, rfl, fun ρ => by simp [ty182, γ]⟩, rfl, by first | (intro h; cases h; done) | (intro _; rfl), rfl, ⟨_, _, _, Tryz.underlying182⟩, rfl, fun ks h => by cases h⟩
theorem ty183_ok : TyOk Tryz.prog 183 ty183 :=
  ⟨⟨Tryz.t183, by kernel_rfl, rfl, rfl, _, rfl, fun ρ => by simp [ty183, γ]⟩, rfl, by first | (intro h; cases h; done) | (intro _; rfl), rfl, ⟨_, _, _, Tryz.underlying183⟩, rfl, fun ks h => by cases h⟩
theorem ty185_ok : TyOk Tryz.prog 185 ty185 :=
  ⟨⟨Tryz.t185, by kernel_rfl, rfl, rfl, _, rfl, fun ρ => by simp [ty185, γ]⟩, rfl, by first | (intro h; cases h; done) | (intro _; rfl), rfl, ⟨_, _, _, Tryz.underlying185⟩, rfl, fun ks h => by cases h⟩
theorem ty186_ok : TyOk Tryz.prog 186 ty186 :=
  ⟨⟨Tryz.t186, by kernel_rfl, rfl, rfl, _, rfl, fun ρ => by simp [ty186, γ]⟩, rfl, by first | (intro h; cases h; done) | (intro _; rfl), rfl, ⟨_, _, _, Tryz.underlying186⟩, rfl, fun ks h => by cases h⟩
theorem ty187_ok : TyOk Tryz.prog 187 ty187 :=
  ⟨⟨Tryz.t187, by kernel_rfl, rfl, rfl, _, rfl, fun ρ => by simp [ty187, γ]⟩, rfl, by first | (intro h; cases h; done) | (intro _; rfl), rfl, ⟨_, _, _, Tryz.underlying187⟩, rfl, fun ks h => by cases h⟩
theorem ty188_ok : TyOk Tryz.prog 188 ty188 :=
  ⟨⟨Tryz.t188, by kernel_rfl, rfl, rfl, _, rfl, fun ρ => by simp [ty188, γ]⟩, rfl, by first | (intro h; cases h; done) | (intro _; rfl), rfl, ⟨_, _, _, Tryz.underlying188⟩, rfl, fun ks h => by cases h⟩
theorem ty189_ok : TyOk Tryz.prog 189 ty189 :=
  ⟨⟨Tryz.t189, by kernel_rfl, rfl, rfl, _, rfl, fun ρ => by simp [ty189, γ]⟩, rfl, by first | (intro h; cases h; done) | (intro _; rfl), rfl, ⟨_, _, _, Tryz.underlying189⟩, rfl, fun ks h => by cases h⟩
theorem ty190_ok : TyOk Tryz.prog 190 ty190 :=
  ⟨⟨Tryz.t190, by kernel_rfl, rfl, rfl, _, rfl, fun ρ => by simp [ty190, γ]⟩, rfl, by first | (intro h; cases h; done) | (intro _; rfl), rfl, ⟨_, _, _, Tryz.underlying190⟩, rfl, fun ks h => by cases h⟩
theorem ty191_ok : TyOk Tryz.prog 191 ty191 :=
  ⟨⟨Tryz.t191, by kernel_rfl, rfl, rfl, _, rfl, fun ρ => by simp [ty191, γ]⟩, rfl, by first | (intro h; cases h; done) | (intro _; rfl), rfl, ⟨_, _, _, Tryz.underlying191⟩, rfl, fun ks h => by cases h⟩
theorem ty192_ok : TyOk Tryz.prog 192 ty192 :=
  ⟨⟨Tryz.t192, by kernel_rfl, rfl, rfl, _, rfl, fun ρ => by simp [ty192, γ, γL]⟩, rfl, by first | (intro h; cases h; done) | (intro _; rfl), rfl, Tryz.underlying192, rfl, fun ks h => flatOk_of (d := 12) (by decide) (by cases h; kernel_rfl) Tryz.eqGuardType192 (by rw [Tryz.underlying192])⟩
theorem ty193_ok : TyOk Tryz.prog 193 ty193 :=
  ⟨⟨Tryz.t193, by kernel_rfl, rfl, rfl, _, rfl, fun ρ => by simp [ty193, γ, γL]⟩, rfl, by first | (intro h; cases h; done) | (intro _; rfl), rfl, Tryz.underlying193, rfl, fun ks h => flatOk_of (d := 12) (by decide) (by cases h; kernel_rfl) Tryz.eqGuardType193 (by rw [Tryz.underlying193])⟩
theorem ty194_ok : TyOk Tryz.prog 194 ty194 :=
  ⟨⟨Tryz.t194, by kernel_rfl, rfl, rfl, _, rfl, fun ρ => by simp [ty194, γ]⟩, rfl, by first | (intro h; cases h; done) | (intro _; rfl), rfl, ⟨_, _, _, Tryz.underlying194⟩, rfl, fun ks h => by cases h⟩
theorem ty195_ok : TyOk Tryz.prog 195 ty195 :=
  ⟨⟨Tryz.t195, by kernel_rfl, rfl, rfl, _, rfl, fun ρ => by simp [ty195, γ]⟩, rfl, by first | (intro h; cases h; done) | (intro _; rfl), rfl, ⟨_, _, _, Tryz.underlying195⟩, rfl, fun ks h => by cases h⟩
theorem ty196_ok : TyOk Tryz.prog 196 ty196 :=
  ⟨⟨Tryz.t196, by kernel_rfl, rfl, rfl, _, rfl, fun ρ => by simp [ty196, γ]⟩, rfl, by first | (intro h; cases h; done) | (intro _; rfl), rfl, ⟨_, _, _, Tryz.underlying196⟩, rfl, fun ks h => by cases h⟩
theorem ty197_ok : TyOk Tryz.prog 197 ty197 :=
  ⟨⟨Tryz.t197, by kernel_rfl, rfl, rfl, _, rfl, fun ρ => by simp [ty197, γ, γL]⟩, rfl, by first | (intro h; cases h; done) | (intro _; rfl), rfl, ⟨_, Tryz.underlying197, rfl⟩, rfl, fun ks h => flatOk_of (d := 12) (by decide) (by cases h; kernel_rfl) Tryz.eqGuardType197 (by rw [Tryz.underlying197])⟩
theorem ty198_ok : TyOk Tryz.prog 198 ty198 :=
  ⟨⟨Tryz.t198, by kernel_rfl, rfl, rfl, _, rfl, fun ρ => by simp [ty198, γ, γL]⟩, rfl, by first | (intro h; cases h; done) | (intro _; rfl), rfl, ⟨_, Tryz.underlying198, rfl⟩, rfl, fun ks h => flatOk_of (d := 12) (by decide) (by cases h; kernel_rfl) Tryz.eqGuardType198 (by rw [Tryz.underlying198])⟩
theorem ty199_ok : TyOk Tryz.prog 199 ty199 :=
  ⟨⟨Tryz.t199, by kernel_rfl, rfl, rfl, _, rfl, fun ρ => by simp [ty199, γ]⟩, rfl, by first | (intro h; cases h; done) | (intro _; rfl), rfl, Tryz.underlying199, rfl, fun ks h => by cases h⟩
theorem ty200_ok : TyOk Tryz.prog 200 ty200 :=
  ⟨⟨Tryz.t200, by kernel_rfl, rfl, rfl, _, rfl, fun ρ => by simp [ty200, γ, γL]⟩, rfl, by first | (intro h; cases h; done) | (intro _; rfl), rfl, Tryz.underlying200, rfl, fun ks h => by cases h⟩
theorem ty201_ok : TyOk Tryz.prog 201 ty201 :=
  ⟨⟨Tryz.t201, by kernel_rfl, rfl, rfl, _, rfl, fun ρ => by simp [ty201, γ, γL]⟩, rfl, by first | (intro h; cases h; done) | (intro _; rfl), rfl, Tryz.underlying201, rfl, fun ks h => by cases h⟩
theorem ty202_ok : TyOk Tryz.prog 202 ty202 :=
  ⟨⟨Tryz.t202, by kernel_rfl, rfl, rfl, _, rfl, fun ρ => by simp [ty202, γ]⟩, rfl, by first | (intro h; cases h; done) | (intro _; rfl), rfl, ⟨_, _, _, Tryz.underlying202⟩, rfl, fun ks h => by cases h⟩
theorem ty203_ok : TyOk Tryz.prog 203 ty203 :=
  ⟨⟨Tryz.t203, by kernel_rfl, rfl, rfl, _, rfl, fun ρ => by simp [ty203, γ]⟩, rfl, by first | (intro h; cases h; done) | (intro _; rfl), rfl, ⟨_, _, _, Tryz.underlying203⟩, rfl, fun ks h => by cases h⟩
theorem ty204_ok : TyOk Tryz.prog 204 ty204 :=
  ⟨⟨Tryz.t204, by kernel_rfl, rfl, rfl, _, rfl, fun ρ => by simp [ty204, γ]⟩, rfl, by first | (intro h; cases h; done) | (intro _; rfl), rfl, Tryz.underlying204, rfl, fun ks h => by cases h⟩
theorem ty205_ok : TyOk Tryz.prog 205 ty205 :=
  ⟨⟨Tryz.t205, by kernel_rfl, rfl, rfl, _, rfl, fun ρ => by simp [ty205, γ]⟩, rfl, by first | (intro h; cases h; done) | (intro _; rfl), rfl, Tryz.underlying205, rfl, fun ks h => by cases h⟩
theorem ty206_ok : TyOk Tryz.prog 206 ty206 :=
  ⟨⟨Tryz.t206, by kernel_rfl, rfl, rfl, _, rfl, fun ρ => by simp [ty206, γ]⟩, rfl, by first | (intro h; cases h; done) | (intro _; rfl), rfl, ⟨_, _, _, Tryz.underlying206⟩, rfl, fun ks h => by cases h⟩
theorem ty208_ok : TyOk Tryz.prog 208 ty208 :=
  ⟨⟨Tryz.t208, by kernel_rfl, rfl, rfl, _, rfl, fun ρ => by simp [ty208, γ]⟩, rfl, by first | (intro h; cases h; done) | (intro _; rfl), rfl, ⟨_, _, _, Tryz.underlying208⟩, rfl, fun ks h => by cases h⟩
theorem ty209_ok : TyOk Tryz.prog 209 ty209 :=
  ⟨⟨Tryz.t209, by kernel_rfl, rfl, rfl, _, rfl, fun ρ => by simp [ty209, γ]⟩, rfl, by first | (intro h; cases h; done) | (intro _; rfl), rfl, ⟨_, _, _, Tryz.underlying209⟩, rfl, fun ks h => by cases h⟩
theorem ty210_ok : TyOk Tryz.prog 210 ty210 :=
  ⟨⟨Tryz.t210, by kernel_rfl, rfl, rfl, _, rfl, fun ρ => by simp [ty210, γ]⟩, rfl, by first | (intro h; cases h; done) | (intro _; rfl), rfl, ⟨_, _, _, Tryz.underlying210⟩, rfl, fun ks h => by cases h⟩
theorem ty211_ok : TyOk Tryz.prog 211 ty211 :=
  ⟨⟨Tryz.t211, by kernel_rfl, rfl, rfl, _, rfl, fun ρ => by simp [ty211, γ]⟩, rfl, by first | (intro h; cases h; done) | (intro _; rfl), rfl, ⟨_, _, _, Tryz.underlying211⟩, rfl, fun ks h => by cases h⟩
theorem ty212_ok : TyOk Tryz.prog 212 ty212 :=
  ⟨⟨Tryz.t212, by kernel_rfl, rfl, rfl, _, rfl, fun ρ => by simp [ty212, γ]⟩, rfl, by first | (intro h; cases h; done) | (intro _; rfl), rfl, ⟨_, _, _, Tryz.underlying212⟩, rfl, fun ks h => by cases h⟩
theorem ty213_ok : TyOk Tryz.prog 213 ty213 :=
  ⟨⟨Tryz.t213, by kernel_rfl, rfl, rfl, _, rfl, fun ρ => by simp [ty213, γ]⟩, rfl, by first | (intro h; cases h; done) | (intro _; rfl), rfl, Tryz.underlying213, rfl, fun ks h => by cases h⟩
theorem ty215_ok : TyOk Tryz.prog 215 ty215 :=
  ⟨⟨Tryz.t215, by kernel_rfl, rfl, rfl, _, rfl, fun ρ => by simp [ty215, γ]⟩, rfl, by first | (intro h; cases h; done) | (intro _; rfl), rfl, ⟨_, _, _, Tryz.underlying215⟩, rfl, fun ks h => by cases h⟩
theorem ty216_ok : TyOk Tryz.prog 216 ty216 :=
  ⟨⟨Tryz.t216, by kernel_rfl, rfl, rfl, _, rfl, fun ρ => by simp [ty216, γ, γL]⟩, rfl, by first | (intro h; cases h; done) | (intro _; rfl), rfl, ⟨_, Tryz.underlying216, rfl⟩, rfl, fun ks h => by cases h⟩
theorem ty217_ok : TyOk Tryz.prog 217 ty217 :=
  ⟨⟨Tryz.t217, by kernel_rfl, rfl, rfl, _, rfl, fun ρ => by simp [ty217, γ]⟩, rfl, by first | (intro h; cases h; done) | (intro _; rfl), rfl, ⟨_, _, _, Tryz.underlying217⟩, rfl, fun ks h => by cases h⟩
theorem ty218_ok : TyOk Tryz.prog 218 ty218 :=
  ⟨⟨Tryz.t218, by kernel_rfl, rfl, rfl, _, rfl, fun ρ => by simp [ty218, γ]⟩, rfl, by first | (intro h; cases h; done) | (intro _; rfl), rfl, ⟨_, _, _, Tryz.underlying218⟩, rfl, fun ks h => by cases h⟩
theorem ty219_ok : TyOk Tryz.prog 219 ty219 :=
  ⟨⟨Tryz.t219, by kernel_rfl, rfl, rfl, _, rfl, fun ρ => by simp [ty219, γ]⟩, rfl, by first | (intro h; cases h; done) | (intro _; rfl), rfl, ⟨_, _, _, Tryz.underlying219⟩, rfl, fun ks h => by cases h⟩
theorem ty221_ok : TyOk Tryz.prog 221 ty221 :=
  ⟨⟨Tryz.t221, by kernel_rfl, rfl, rfl, _, rfl, fun ρ => by simp [ty221, γ]⟩, rfl, by first | (intro h; cases h; done) | (intro _; rfl), rfl, ⟨_, _, _, Tryz.underlying221⟩, rfl, fun ks h => by cases h⟩
theorem ty222_ok : TyOk Tryz.prog 222 ty222 :=
  ⟨⟨Tryz.t222, by kernel_rfl, rfl, rfl, _, rfl, fun ρ => by simp [ty222, γ]⟩, rfl, by first | (intro h; cases h; done) | (intro _; rfl), rfl, ⟨_, _, _, Tryz.underlying222⟩, rfl, fun ks h => by cases h⟩
theorem ty223_ok : TyOk Tryz.prog 223 ty223 :=
  ⟨⟨Tryz.t223, by kernel_rfl, rfl, rfl, _, rfl, fun ρ => by simp [ty223, γ]⟩, rfl, by first | (intro h; cases h; done) | (intro _; rfl), rfl, ⟨_, _, _, Tryz.underlying223⟩, rfl, fun ks h => by cases h⟩
theorem ty224_ok : TyOk Tryz.prog 224 ty224 :=
  ⟨⟨Tryz.t224, by kernel_rfl, rfl, rfl, _, rfl, fun ρ => by simp [ty224, γ]⟩, rfl, by first | (intro h; cases h; done) | (intro _; rfl), rfl, ⟨_, _, _, Tryz.underlying224⟩, rfl, fun ks h => by cases h⟩
theorem ty226_ok : TyOk Tryz.prog 226 ty226 :=
  ⟨⟨Tryz.t226, by kernel_rfl, rfl, rfl, _, rfl, fun ρ => by simp [ty226, γ]⟩, rfl, by first | (intro h; cases h; done) | (intro _; rfl), rfl, ⟨_, _, _, Tryz.underlying226⟩, rfl, fun ks h => by cases h⟩
theorem ty227_ok : TyOk Tryz.prog 227 ty227 :=
  ⟨⟨Tryz.t227, by kernel_rfl, rfl, rfl, _, rfl, fun ρ => by simp [ty227, γ]⟩, rfl, by first | (intro h; cases h; done) | (intro _; rfl), rfl, ⟨_, _, _, Tryz.underlying227⟩, rfl, fun ks h => by cases h⟩
theorem ty228_ok : TyOk Tryz.prog 228 ty228 :=
  ⟨⟨Tryz.t228, by kernel_rfl, rfl, rfl, _, rfl, fun ρ => by simp [ty228, γ]⟩, rfl, by first | (intro h; cases h; done) | (intro _; rfl), rfl, Tryz.underlying228, rfl, fun ks h => by cases h⟩
theorem ty229_ok : TyOk Tryz.prog 229 ty229 :=
  ⟨⟨Tryz.t229, by kernel_rfl, rfl, rfl, _, rfl, fun ρ => by simp [ty229, γ]⟩, rfl, by first | (intro h; cases h; done) | (intro _; rfl), rfl, Tryz.underlying229, rfl, fun ks h => by cases h⟩
theorem ty230_ok : TyOk Tryz.prog 230 ty230 :=
  ⟨⟨Tryz.t230, by kernel_rfl, rfl, rfl, _, rfl, fun ρ => by simp [ty230, γ, γL]⟩, rfl, by first | (intro h; cases h; done) | (intro _; rfl), rfl, ⟨_, Tryz.underlying230, rfl⟩, rfl, fun ks h => by cases h⟩
theorem ty231_ok : TyOk Tryz.prog 231 ty231 :=
  ⟨⟨Tryz.t231, by kernel_rfl, rfl, rfl, _, rfl, fun ρ => by simp [ty231, γ, γL]⟩, rfl, by first | (intro h; cases h; done) | (intro _; rfl), rfl, ⟨_, Tryz.underlying231, rfl⟩, rfl, fun ks h => by cases h⟩
theorem ty233_ok : TyOk Tryz.prog 233 ty233 :=
  ⟨⟨Tryz.t233, by kernel_rfl, rfl, rfl, _, rfl, fun ρ => by simp [ty233, γ]⟩, rfl, by first | (intro h; cases h; done) | (intro _; rfl), rfl, ⟨_, _, _, Tryz.underlying233⟩, rfl, fun ks h => by cases h⟩
theorem ty234_ok : TyOk Tryz.prog 234 ty234 :=
  ⟨⟨Tryz.t234, by kernel_rfl, rfl, rfl, _, rfl, fun ρ => by simp [ty234, γ, γL]⟩, rfl, by first | (intro h; cases h; done) | (intro _; rfl), rfl, ⟨_, Tryz.underlying234, rfl⟩, rfl, fun ks h => flatOk_of (d := 12) (by decide) (by cases h; kernel_rfl) Tryz.eqGuardType234 (by rw [Tryz.underlying234])⟩
theorem ty235_ok : TyOk Tryz.prog 235 ty235 :=
  ⟨⟨Tryz.t235, by kernel_rfl, rfl, rfl, _, rfl, fun ρ => by simp [ty235, γ, γL]⟩, rfl, by first | (intro h; cases h; done) | (intro _; rfl), rfl, ⟨_, Tryz.underlying235, rfl⟩, rfl, fun ks h => flatOk_of (d := 12) (by decide) (by cases h; kernel_rfl) Tryz.eqGuardType235 (by rw [Tryz.underlying235])⟩
theorem ty236_ok : TyOk Tryz.prog 236 ty236 :=
  ⟨⟨Tryz.t236, by kernel_rfl, rfl, rfl, _, rfl, fun ρ => by simp [ty236, γ]⟩, rfl, by first | (intro h; cases h; done) | (intro _; rfl), rfl, ⟨_, _, _, Tryz.underlying236⟩, rfl, fun ks h => by cases h⟩
theorem ty237_ok : TyOk Tryz.prog 237 ty237 :=
  ⟨⟨Tryz.t237, by kernel_rfl, rfl, rfl, _, rfl, fun ρ => by simp [ty237, γ]⟩, rfl, by first | (intro h; cases h; done) | (intro _; rfl), rfl, ⟨_, _, _, Tryz.underlying237⟩, rfl, fun ks h => by cases h⟩
theorem ty238_ok : TyOk Tryz.prog 238 ty238 :=
  ⟨⟨Tryz.t238, by kernel_rfl, rfl, rfl, _, rfl, fun ρ => by simp [ty238, γ]⟩, rfl, by first | (intro h; cases h; done) | (intro _; rfl), rfl, ⟨_, _, _, Tryz.underlying238⟩, rfl, fun ks h => by cases h⟩
theorem ty239_ok : TyOk Tryz.prog 239 ty239 :=
  ⟨⟨Tryz.t239, by kernel_rfl, rfl, rfl, _, rfl, fun ρ => by simp [ty239, γ, γL]⟩, rfl, by first | (intro h; cases h; done) | (intro _; rfl), rfl, ⟨_, Tryz.underlying239, rfl⟩, rfl, fun ks h => by cases h⟩
theorem ty240_ok : TyOk Tryz.prog 240 ty240 :=
  ⟨⟨Tryz.t240, by kernel_rfl, rfl, rfl, _, rfl, fun ρ => by simp [ty240, γ, γL]⟩, rfl, by first | (intro h; cases h; done) | (intro _; rfl), rfl, ⟨_, Tryz.underlying240, rfl⟩, rfl, fun ks h => by cases h⟩
theorem ty241_ok : TyOk Tryz.prog 241 ty241 :=
  ⟨⟨Tryz.t241, by kernel_rfl, rfl, rfl, _, rfl, fun ρ => by simp [ty241, γ]⟩, rfl, by first | (intro h; cases h; done) | (intro _; rfl), rfl, ⟨_, _, _, Tryz.underlying241⟩, rfl, fun ks h => by cases h⟩
theorem ty242_ok : TyOk Tryz.prog 242 ty242 :=
  ⟨⟨Tryz.t242, by kernel_rfl, rfl, rfl, _, rfl, fun ρ => by simp [ty242, γ]⟩, rfl, by first | (intro h; cases h; done) | (intro _; rfl), rfl, ⟨_, _, _, Tryz.underlying242⟩, rfl, fun ks h => by cases h⟩
theorem ty243_ok : TyOk Tryz.prog 243 ty243 :=
  ⟨⟨Tryz.t243, by kernel_rfl, rfl, rfl, _, rfl, fun ρ => by simp [ty243, γ]⟩, rfl, by first | (intro h; cases h; done) | (intro _; rfl), rfl, ⟨_, _, _, Tryz.underlying243⟩, rfl, fun ks h => by cases h⟩
theorem ty245_ok : TyOk Tryz.prog 245 ty245 :=
  ⟨⟨Tryz.t245, by kernel_rfl, rfl, rfl, _, rfl, fun ρ => by simp [ty245, γ]⟩, rfl, by first | (intro h; cases h; done) | (intro _; rfl), rfl, ⟨_, _, _, Tryz.underlying245⟩, rfl, fun ks h => by cases h⟩
theorem ty246_ok : TyOk Tryz.prog 246 ty246 :=
  ⟨⟨Tryz.t246, by kernel_rfl, rfl, rfl, _, rfl, fun ρ => by simp [ty246, γ]⟩, rfl, by first | (intro h; cases h; done) | (intro _; rfl), rfl, ⟨_, _, _, Tryz.underlying246⟩, rfl, fun ks h => by cases h⟩
theorem ty247_ok : TyOk Tryz.prog 247 ty247 :=
  ⟨⟨Tryz.t247, by kernel_rfl, rfl, rfl, _, rfl, fun ρ => by simp [ty247, γ]⟩, rfl, by first | (intro h; cases h; done) | (intro _; rfl), rfl, Tryz.underlying247, rfl, fun ks h => by cases h⟩
theorem ty249_ok : TyOk Tryz.prog 249 ty249 :=
  ⟨⟨Tryz.t249, by kernel_rfl, rfl, rfl, _, rfl, fun ρ => by simp [ty249, γ]⟩, rfl, by first | (intro h; cases h; done) | (intro _; rfl), rfl, ⟨_, _, _, Tryz.underlying249⟩, rfl, fun ks h => by cases h⟩
theorem ty250_ok : TyOk Tryz.prog 250 ty250 :=
  ⟨⟨Tryz.t250, by kernel_rfl, rfl, rfl, _, rfl, fun ρ => by simp [ty250, γ]⟩, rfl, by first | (intro h; cases h; done) | (intro _; rfl), rfl, Tryz.underlying250, rfl, fun ks h => by cases h⟩
theorem ty251_ok : TyOk Tryz.prog 251 ty251 :=
  ⟨⟨Tryz.t251, by kernel_rfl, rfl, rfl, _, rfl, fun ρ => by simp [ty251, γ, γL]⟩, rfl, by first | (intro h; cases h; done) | (intro _; rfl), rfl, ⟨_, Tryz.underlying251, rfl⟩, rfl, fun ks h => by cases h⟩
theorem ty252_ok : TyOk Tryz.prog 252 ty252 :=
  ⟨⟨Tryz.t252, by kernel_rfl, rfl, rfl, _, rfl, fun ρ => by simp [ty252, γ, γL]⟩, rfl, by first | (intro h; cases h; done) | (intro _; rfl), rfl, ⟨_, Tryz.underlying252, rfl⟩, rfl, fun ks h => by cases h⟩
theorem ty253_ok : TyOk Tryz.prog 253 ty253 :=
  ⟨⟨Tryz.t253, by kernel_rfl, rfl, rfl, _, rfl, fun ρ => by simp [ty253, γ]⟩, rfl, by first | (intro h; cases h; done) | (intro _; rfl), rfl, ⟨_, _, _, Tryz.underlying253⟩, rfl, fun ks h => by cases h⟩
theorem ty254_ok : TyOk Tryz.prog 254 ty254 :=
  ⟨⟨Tryz.t254, by kernel_rfl, rfl, rfl, _, rfl, fun ρ => by simp [ty254, γ]⟩, rfl, by first | (intro h; cases h; done) | (intro _; rfl), rfl, ⟨_, _, _, Tryz.underlying254⟩, rfl, fun ks h => by cases h⟩
theorem ty255_ok : TyOk Tryz.prog 255 ty255 :=
  ⟨⟨Tryz.t255, by kernel_rfl, rfl, rfl, _, rfl, fun ρ => by simp [ty255, γ]⟩, rfl, by first | (intro h; cases h; done) | (intro _; rfl), rfl, ⟨_, _, _, Tryz.underlying255⟩, rfl, fun ks h => by cases h⟩
theorem ty256_ok : TyOk Tryz.prog 256 ty256 :=
  ⟨⟨Tryz.t256, by kernel_rfl, rfl, rfl, _, rfl, fun ρ => by simp [ty256, γ]⟩, rfl, by first | (intro h; cases h; done) | (intro _; rfl), rfl, ⟨_, _, _, Tryz.underlying256⟩, rfl, fun ks h => by cases h⟩
theorem ty257_ok : TyOk Tryz.prog 257 ty257 :=
  ⟨⟨Tryz.t257, by kernel_rfl, rfl, rfl, _, rfl, fun ρ => by simp [ty257, γ, γL]⟩, rfl, by first | (intro h; cases h; done) | (intro _; rfl), rfl, ⟨_, Tryz.underlying257, rfl⟩, rfl, fun ks h => flatOk_of (d := 12) (by decide) (by cases h; kernel_rfl) Tryz.eqGuardType257 (by rw [Tryz.underlying257])⟩
theorem ty258_ok : TyOk Tryz.prog 258 ty258 :=
  ⟨⟨Tryz.t258, by kernel_rfl, rfl, rfl, _, rfl, fun ρ => by simp [ty258, γ]⟩, rfl, by first | (intro h; cases h; done) | (intro _; rfl), rfl, ⟨_, _, _, Tryz.underlying258⟩, rfl, fun ks h => by cases h⟩
theorem ty259_ok : TyOk Tryz.prog 259 ty259 :=
  ⟨⟨Tryz.t259, by kernel_rfl, rfl, rfl, _, rfl, fun ρ => by simp [ty259, γ]⟩, rfl, by first | (intro h; cases h; done) | (intro _; rfl), rfl, ⟨_, _, _, Tryz.underlying259⟩, rfl, fun ks h => by cases h⟩
theorem ty260_ok : TyOk Tryz.prog 260 ty260 :=
  ⟨⟨Tryz.t260, by kernel_rfl, rfl, rfl, _, rfl, fun ρ => by simp [ty260, γ]⟩, rfl, by first | (intro h; cases h; done) | (intro _; rfl), rfl, ⟨_, _, _, Tryz.underlying260⟩, rfl, fun ks h => by cases h⟩
theorem ty261_ok : TyOk Tryz.prog 261 ty261 :=
  ⟨⟨Tryz.t261, by kernel_rfl, rfl, rfl, _, rfl, fun ρ => by simp [ty261, γ]⟩, rfl, by first | (intro h; cases h; done) | (intro _; rfl), rfl, Tryz.underlying261, rfl, fun ks h => by cases h⟩
theorem ty262_ok : TyOk Tryz.prog 262 ty262 :=
  ⟨⟨Tryz.t262, by kernel_rfl, rfl, rfl, _, rfl, fun ρ => by simp [ty262, γ]⟩, rfl, by first | (intro h; cases h; done) | (intro _; rfl), rfl, ⟨_, _, _, Tryz.underlying262⟩, rfl, fun ks h => by cases h⟩
theorem ty264_ok : TyOk Tryz.prog 264 ty264 :=
  ⟨⟨Tryz.t264, by kernel_rfl, rfl, rfl, _, rfl, fun ρ => by simp [ty264, γ]⟩, rfl, by first | (intro h; cases h; done) | (intro _; rfl), rfl, ⟨_, _, _, Tryz.underlying264⟩, rfl, fun ks h => by cases h⟩
theorem ty265_ok : TyOk Tryz.prog 265 ty265 :=
  ⟨⟨Tryz.t265, by kernel_rfl, rfl, rfl, _, rfl, fun ρ => by simp [ty265, γ]⟩, rfl, by first | (intro h; cases h; done) | (intro _; rfl), rfl, ⟨_, _, _, Tryz.underlying265⟩, rfl, fun ks h => by cases h⟩
theorem ty266_ok : TyOk Tryz.prog 266 ty266 :=
  ⟨⟨Tryz.t266, by kernel_rfl, rfl, rfl, _, rfl, fun ρ => by simp [ty266, γ, γL]⟩, rfl, by first | (intro h; cases h; done) | (intro _; rfl), rfl, ⟨_, Tryz.underlying266, rfl⟩, rfl, fun ks h => by cases h⟩
theorem ty267_ok : TyOk Tryz.prog 267 ty267 :=
  ⟨⟨Tryz.t267, by kernel_rfl, rfl, rfl, _, rfl, fun ρ => by simp [ty267, γ, γL]⟩, rfl, by first | (intro h; cases h; done) | (intro _; rfl), rfl, ⟨_, Tryz.underlying267, rfl⟩, rfl, fun ks h => by cases h⟩
theorem ty268_ok : TyOk Tryz.prog 268 ty268 :=
  ⟨⟨Tryz.t268, by kernel_rfl, rfl, rfl, _, rfl, fun ρ => by simp [ty268, γ]⟩, rfl, by first | (intro h; cases h; done) | (intro _; rfl), rfl, ⟨_, _, _, Tryz.underlying268⟩, rfl, fun ks h => by cases h⟩
theorem ty269_ok : TyOk Tryz.prog 269 ty269 :=
  ⟨⟨Tryz.t269, by kernel_rfl, rfl, rfl, _, rfl, fun ρ => by simp [ty269, γ]⟩, rfl, by first | (intro h; cases h; done) | (intro _; rfl), rfl, ⟨_, _, _, Tryz.underlying269⟩, rfl, fun ks h => by cases h⟩
theorem ty270_ok : TyOk Tryz.prog 270 ty270 :=
  ⟨⟨Tryz.t270, by kernel_rfl, rfl, rfl, _, rfl, fun ρ => by simp [ty270, γ]⟩, rfl, by first | (intro h; cases h; done) | (intro _; rfl), rfl, ⟨_, _, _, Tryz.underlying270⟩, rfl, fun ks h => by cases h⟩
theorem ty271_ok : TyOk Tryz.prog 271 ty271 :=
  ⟨⟨Tryz.t271, by kernel_rfl, rfl, rfl, _, rfl, fun ρ => by simp [ty271, γ]⟩, rfl, by first | (intro h; cases h; done) | (intro _; rfl), rfl, ⟨_, _, _, Tryz.underlying271⟩, rfl, fun ks h => by cases h⟩
theorem ty272_ok : TyOk Tryz.prog 272 ty272 :=
  ⟨⟨Tryz.t272, by kernel_rfl, rfl, rfl, _, rfl, fun ρ => by simp [ty272, γ]⟩, rfl, by first | (intro h; cases h; done) | (intro _; rfl), rfl, ⟨_, _, _, Tryz.underlying272⟩, rfl, fun ks h => by cases h⟩
theorem ty273_ok : TyOk Tryz.prog 273 ty273 :=
  ⟨⟨Tryz.t273, by kernel_rfl, rfl, rfl, _, rfl, fun ρ => by simp [ty273, γ]⟩, rfl, by first | (intro h; cases h; done) | (intro _; rfl), rfl, ⟨_, _, _, Tryz.underlying273⟩, rfl, fun ks h => by cases h⟩
theorem ty274_ok : TyOk Tryz.prog 274 ty274 :=
  ⟨⟨Tryz.t274, by kernel_rfl, rfl, rfl, _, rfl, fun ρ => by simp [ty274, γ]⟩, rfl, by first | (intro h; cases h; done) | (intro _; rfl), rfl, Tryz.underlying274, rfl, fun ks h => by cases h⟩
theorem ty275_ok : TyOk Tryz.prog 275 ty275 :=
  ⟨⟨Tryz.t275, by kernel_rfl, rfl, rfl, _, rfl, fun ρ => by simp [ty275, γ]⟩, rfl, by first | (intro h; cases h; done) | (intro _; rfl), rfl, ⟨_, _, _, Tryz.underlying275⟩, rfl, fun ks h => by cases h⟩
theorem ty276_ok : TyOk Tryz.prog 276 ty276 :=
  ⟨⟨Tryz.t276, by kernel_rfl, rfl, rfl, _, rfl, fun ρ => by simp [ty276, γ]⟩, rfl, by first | (intro h; cases h; done) | (intro _; rfl), rfl, ⟨_, _, _, Tryz.underlying276⟩, rfl, fun ks h => by cases h⟩
theorem ty277_ok : TyOk Tryz.prog 277 ty277 :=
  ⟨⟨Tryz.t277, by kernel_rfl, rfl, rfl, _, rfl, fun ρ => by simp [ty277, γ]⟩, rfl, by first | (intro h; cases h; done) | (intro _; rfl), rfl, ⟨_, _, _, Tryz.underlying277⟩, rfl, fun ks h => by cases h⟩
theorem ty278_ok : TyOk Tryz.prog 278 ty278 :=
  ⟨⟨Tryz.t278, by kernel_rfl, rfl, rfl, _, rfl, fun ρ => by simp [ty278, γ]⟩, rfl, by first | (intro h; cases h; done) | (intro _; rfl), rfl, ⟨_, _, _, Tryz.underlying278⟩, rfl, fun ks h => by cases h⟩
theorem ty279_ok : TyOk Tryz.prog 279 ty279 :=
  ⟨⟨Tryz.t279, by kernel_rfl, rfl, rfl, _, rfl, fun ρ => by simp [ty279, γ]⟩, rfl, by first | (intro h; cases h; done) | (intro _; rfl), rfl, ⟨_, _, _, Tryz.underlying279⟩, rfl, fun ks h => by cases h⟩
theorem ty280_ok : TyOk Tryz.prog 280 ty280 :=
  ⟨⟨Tryz.t280, by kernel_rfl, rfl, rfl, _, rfl, fun ρ => by simp [ty280, γ]⟩, rfl, by first | (intro h; cases h; done) | (intro _; rfl), rfl, Tryz.underlying280, rfl, fun ks h => by cases h⟩
theorem ty281_ok : TyOk Tryz.prog 281 ty281 :=
  ⟨⟨Tryz.t281, by kernel_rfl, rfl, rfl, _, rfl, fun ρ => by simp [ty281, γ]⟩, rfl, by first | (intro h; cases h; done) | (intro _; rfl), rfl, ⟨_, _, _, Tryz.underlying281⟩, rfl, fun ks h => by cases h⟩
theorem ty282_ok : TyOk Tryz.prog 282 ty282 :=
  ⟨⟨Tryz.t282, by kernel_rfl, rfl, rfl, _, rfl, fun ρ => by simp [ty282, γ, γL]⟩, rfl, by first | (intro h; cases h; done) | (intro _; rfl), rfl, Tryz.underlying282, rfl, fun ks h => flatOk_of (d := 12) (by decide) (by cases h; kernel_rfl) Tryz.eqGuardType282 (by rw [Tryz.underlying282])⟩
theorem ty283_ok : TyOk Tryz.prog 283 ty283 :=
  ⟨⟨Tryz.t283, by kernel_rfl, rfl, rfl, _, rfl, fun ρ => by simp [ty283, γ]⟩, rfl, by first | (intro h; cases h; done) | (intro _; rfl), rfl, ⟨_, _, _, Tryz.underlying283⟩, rfl, fun ks h => by cases h⟩
theorem ty284_ok : TyOk Tryz.prog 284 ty284 :=
  ⟨⟨Tryz.t284, by kernel_rfl, rfl, rfl, _, rfl, fun ρ => by simp [ty284, γ]⟩, rfl, by first | (intro h; cases h; done) | (intro _; rfl), rfl, ⟨_, _, _, Tryz.underlying284⟩, rfl, fun ks h => by cases h⟩
theorem ty285_ok : TyOk Tryz.prog 285 ty285 :=
  ⟨⟨Tryz.t285, by kernel_rfl, rfl, rfl, _, rfl, fun ρ => by simp [ty285, γ]⟩, rfl, by first | (intro h; cases h; done) | (intro _; rfl), rfl, ⟨_, _, _, Tryz.underlying285⟩, rfl, fun ks h => by cases h⟩
theorem ty286_ok : TyOk Tryz.prog 286 ty286 :=
  ⟨⟨Tryz.t286, by kernel_rfl, rfl, rfl, _, rfl, fun ρ => by simp [ty286, γ]⟩, rfl, by first | (intro h; cases h; done) | (intro _; rfl), rfl, ⟨_, _, _, Tryz.underlying286⟩, rfl, fun ks h => by cases h⟩
theorem ty287_ok : TyOk Tryz.prog 287 ty287 :=
  ⟨⟨Tryz.t287, by kernel_rfl, rfl, rfl, _, rfl, fun ρ => by simp [ty287, γ]⟩, rfl, by first | (intro h; cases h; done) | (intro _; rfl), rfl, Tryz.underlying287, rfl, fun ks h => by cases h⟩
theorem ty289_ok : TyOk Tryz.prog 289 ty289 :=
  ⟨⟨Tryz.t289, by kernel_rfl, rfl, rfl, _, rfl, fun ρ => by simp [ty289, γ]⟩, rfl, by first | (intro h; cases h; done) | (intro _; rfl), rfl, ⟨_, _, _, Tryz.underlying289⟩, rfl, fun ks h => by cases h⟩
theorem ty290_ok : TyOk Tryz.prog 290 ty290 :=
  ⟨⟨Tryz.t290, by kernel_rfl, rfl, rfl, _, rfl, fun ρ => by simp [ty290, γ]⟩, rfl, by first | (intro h; cases h; done) | (intro _; rfl), rfl, ⟨_, _, _, Tryz.underlying290⟩, rfl, fun ks h => by cases h⟩
theorem ty291_ok : TyOk Tryz.prog 291 ty291 :=
  ⟨⟨Tryz.t291, by kernel_rfl, rfl, rfl, _, rfl, fun ρ => by simp [ty291, γ]⟩, rfl, by first | (intro h; cases h; done) | (intro _; rfl), rfl, ⟨_, _, _, Tryz.underlying291⟩, rfl, fun ks h => by cases h⟩
theorem ty292_ok : TyOk Tryz.prog 292 ty292 :=
  ⟨⟨Tryz.t292, by kernel_rfl, rfl, rfl, _, rfl, fun ρ => by simp [ty292, γ]⟩, rfl, by first | (intro h; cases h; done) | (intro _; rfl), rfl, ⟨_, _, _, Tryz.underlying292⟩, rfl, fun ks h => by cases h⟩
theorem ty293_ok : TyOk Tryz.prog 293 ty293 :=
  ⟨⟨Tryz.t293, by kernel_rfl, rfl, rfl, _, rfl, fun ρ => by simp [ty293, γ]⟩, rfl, by first | (intro h; cases h; done) | (intro _; rfl), rfl, ⟨_, _, _, Tryz.underlying293⟩, rfl, fun ks h => by cases h⟩
theorem ty294_ok : TyOk Tryz.prog 294 ty294 :=
  ⟨⟨Tryz.t294, by kernel_rfl, rfl, rfl, _, rfl, fun ρ => by simp [ty294, γ]⟩, rfl, by first | (intro h; cases h; done) | (intro _; rfl), rfl, ⟨_, _, _, Tryz.underlying294⟩, rfl, fun ks h => by cases h⟩
theorem ty295_ok : TyOk Tryz.prog 295 ty295 :=
  ⟨⟨Tryz.t295, by kernel_rfl, rfl, rfl, _, rfl, fun ρ => by simp [ty295, γ]⟩, rfl, by first | (intro h; cases h; done) | (intro _; rfl), rfl, Tryz.underlying295, rfl, fun ks h => by cases h⟩
theorem ty296_ok : TyOk Tryz.prog 296 ty296 :=
  ⟨⟨Tryz.t296, by kernel_rfl, rfl, rfl, _, rfl, fun ρ => by simp [ty296, γ]⟩, rfl, by first | (intro h; cases h; done) | (intro _; rfl), rfl, ⟨_, _, _, Tryz.underlying296⟩, rfl, fun ks h => by cases h⟩
theorem ty297_ok : TyOk Tryz.prog 297 ty297 :=
  ⟨⟨Tryz.t297, by kernel_rfl, rfl, rfl, _, rfl, fun ρ => by simp [ty297, γ]⟩, rfl, by first | (intro h; cases h; done) | (intro _; rfl), rfl, ⟨_, _, _, Tryz.underlying297⟩, rfl, fun ks h => by cases h⟩
theorem ty298_ok : TyOk Tryz.prog 298 ty298 :=
  ⟨⟨Tryz.t298, by kernel_rfl, rfl, rfl, _, rfl, fun ρ => by simp [ty298, γ]⟩, rfl, by first | (intro h; cases h; done) | (intro _; rfl), rfl, Tryz.underlying298, rfl, fun ks h => by cases h⟩
theorem ty299_ok : TyOk Tryz.prog 299 ty299 :=
  ⟨⟨Tryz.t299, by kernel_rfl, rfl, rfl, _, rfl, fun ρ => by simp [ty299, γ]⟩, rfl, by first | (intro h; cases h; done) | (intro _; rfl), rfl, ⟨_, _, _, Tryz.underlying299⟩, rfl, fun ks h => by cases h⟩
theorem ty301_ok : TyOk Tryz.prog 301 ty301 :=
  ⟨⟨Tryz.t301, by kernel_rfl, rfl, rfl, _, rfl, fun ρ => by simp [ty301, γ]⟩, rfl, by first | (intro h; cases h; done) | (intro _; rfl), rfl, ⟨_, _, _, Tryz.underlying301⟩, rfl, fun ks h => by cases h⟩
theorem ty302_ok : TyOk Tryz.prog 302 ty302 :=
  ⟨⟨Tryz.t302, by kernel_rfl, rfl, rfl, _, rfl, fun ρ => by simp [ty302, γ]⟩, rfl, by first | (intro h; cases h; done) | (intro _; rfl), rfl, ⟨_, _, _, Tryz.underlying302⟩, rfl, fun ks h => by cases h⟩
theorem ty303_ok : TyOk Tryz.prog 303 ty303 :=
  ⟨⟨Tryz.t303, by kernel_rfl, rfl, rfl, _, rfl, fun ρ => by simp [ty303, γ]⟩, rfl, by first | (intro h; cases h; done) | (intro _; rfl), rfl, ⟨_, _, _, Tryz.underlying303⟩, rfl, fun ks h => by cases h⟩
theorem ty304_ok : TyOk Tryz.prog 304 ty304 :=
  ⟨⟨Tryz.t304, by kernel_rfl, rfl, rfl, _, rfl, fun ρ => by simp [ty304, γ]⟩, rfl, by first | (intro h; cases h; done) | (intro _; rfl), rfl, ⟨_, _, _, Tryz.underlying304⟩, rfl, fun ks h => by cases h⟩
theorem ty305_ok : TyOk Tryz.prog 305 ty305 :=
  ⟨⟨Tryz.t305, by kernel_rfl, rfl, rfl, _, rfl, fun ρ => by simp [ty305, γ]⟩, rfl, by first | (intro h; cases h; done) | (intro _; rfl), rfl, ⟨_, _, _, Tryz.underlying305⟩, rfl, fun ks h => by cases h⟩
theorem ty306_ok : TyOk Tryz.prog 306 ty306 :=
  ⟨⟨Tryz.t306, by kernel_rfl, rfl, rfl, _, rfl, fun ρ => by simp [ty306, γ]⟩, rfl, by first | (intro h; cases h; done) | (intro _; rfl), rfl, Tryz.underlying306, rfl, fun ks h => by cases h⟩
theorem ty307_ok : TyOk Tryz.prog 307 ty307 :=
  ⟨⟨Tryz.t307, by kernel_rfl, rfl, rfl, _, rfl, fun ρ => by simp [ty307, γ]⟩, rfl, by first | (intro h; cases h; done) | (intro _; rfl), rfl, Tryz.underlying307, rfl, fun ks h => by cases h⟩
theorem ty308_ok : TyOk Tryz.prog 308 ty308 :=
  ⟨⟨Tryz.t308, by kernel_rfl, rfl, rfl, _, rfl, fun ρ => by simp [ty308, γ]⟩, rfl, by first | (intro h; cases h; done) | (intro _; rfl), rfl, ⟨_, _, _, Tryz.underlying308⟩, rfl, fun ks h => by cases h⟩
theorem ty309_ok : TyOk Tryz.prog 309 ty309 :=
  ⟨⟨Tryz.t309, by kernel_rfl, rfl, rfl, _, rfl, fun ρ => by simp [ty309, γ]⟩, rfl, by first | (intro h; cases h; done) | (intro _; rfl), rfl, ⟨_, _, _, Tryz.underlying309⟩, rfl, fun ks h => by cases h⟩
theorem ty310_ok : TyOk Tryz.prog 310 ty310 :=
  ⟨⟨Tryz.t310, by kernel_rfl, rfl, rfl, _, rfl, fun ρ => by simp [ty310, γ]⟩, rfl, by first | (intro h; cases h; done) | (intro _; rfl), rfl, ⟨_, _, _, Tryz.underlying310⟩, rfl, fun ks h => by cases h⟩
theorem ty311_ok : TyOk Tryz.prog 311 ty311 :=
  ⟨⟨Tryz.t311, by kernel_rfl, rfl, rfl, _, rfl, fun ρ => by simp [ty311, γ]⟩, rfl, by first | (intro h; cases h; done) | (intro _; rfl), rfl, Tryz.underlying311, rfl, fun ks h => by cases h⟩
theorem ty312_ok : TyOk Tryz.prog 312 ty312 :=
  ⟨⟨Tryz.t312, by kernel_rfl, rfl, rfl, _, rfl, fun ρ => by simp [ty312, γ]⟩, rfl, by first | (intro h; cases h; done) | (intro _; rfl), rfl, ⟨_, _, _, Tryz.underlying312⟩, rfl, fun ks h => by cases h⟩
theorem ty313_ok : TyOk Tryz.prog 313 ty313 :=
  ⟨⟨Tryz.t313, by kernel_rfl, rfl, rfl, _, rfl, fun ρ => by simp [ty313, γ]⟩, rfl, by first | (intro h; cases h; done) | (intro _; rfl), rfl, ⟨_, _, _, Tryz.underlying313⟩, rfl, fun ks h => by cases h⟩
theorem ty314_ok : TyOk Tryz.prog 314 ty314 :=
  ⟨⟨Tryz.t314, by kernel_rfl, rfl, rfl, _, rfl, fun ρ => by simp [ty314, γ]⟩, rfl, by first | (intro h; cases h; done) | (intro _; rfl), rfl, ⟨_, _, _, Tryz.underlying314⟩, rfl, fun ks h => by cases h⟩
theorem ty315_ok : TyOk Tryz.prog 315 ty315 :=
  ⟨⟨Tryz.t315, by kernel_rfl, rfl, rfl, _, rfl, fun ρ => by simp [ty315, γ]⟩, rfl, by first | (intro h; cases h; done) | (intro _; rfl), rfl, ⟨_, _, _, Tryz.underlying315⟩, rfl, fun ks h => by cases h⟩
theorem ty316_ok : TyOk Tryz.prog 316 ty316 :=
  ⟨⟨Tryz.t316, by kernel_rfl, rfl, rfl, _, rfl, fun ρ => by simp [ty316, γ]⟩, rfl, by first | (intro h; cases h; done) | (intro _; rfl), rfl, ⟨_, _, _, Tryz.underlying316⟩, rfl, fun ks h => by cases h⟩
theorem ty317_ok : TyOk Tryz.prog 317 ty317 :=
  ⟨⟨Tryz.t317, by kernel_rfl, rfl, rfl, _, rfl, fun ρ => by simp [ty317, γ]⟩, rfl, by first | (intro h; cases h; done) | (intro _; rfl), rfl, ⟨_, _, _, Tryz.underlying317⟩, rfl, fun ks h => by cases h⟩
theorem ty318_ok : TyOk Tryz.prog 318 ty318 :=
  ⟨⟨Tryz.t318, by kernel_rfl, rfl, rfl, _, rfl, fun ρ => by simp [ty318, γ]⟩, rfl, by first | (intro h; cases h; done) | (intro _; rfl), rfl, ⟨_, _, _, Tryz.underlying318⟩, rfl, fun ks h => by cases h⟩
theorem ty319_ok : TyOk Tryz.prog 319 ty319 :=
  ⟨⟨Tryz.t319, by kernel_rfl, rfl, rfl, _, rfl, fun ρ => by simp [ty319, γ]⟩, rfl, by first | (intro h; cases h; done) | (intro _; rfl), rfl, ⟨_, _, _, Tryz.underlying319⟩, rfl, fun ks h => by cases h⟩
theorem ty320_ok : TyOk Tryz.prog 320 ty320 :=
  ⟨⟨Tryz.t320, by kernel_rfl, rfl, rfl, _, rfl, fun ρ => by simp [ty320, γ]⟩, rfl, by first | (intro h; cases h; done) | (intro _; rfl), rfl, ⟨_, _, _, Tryz.underlying320⟩, rfl, fun ks h => by cases h⟩
theorem ty321_ok : TyOk Tryz.prog 321 ty321 :=
  ⟨⟨Tryz.t321, by kernel_rfl, rfl, rfl, _, rfl, fun ρ => by simp [ty321, γ]⟩, rfl, by first | (intro h; cases h; done) | (intro _; rfl), rfl, ⟨_, _, _, Tryz.underlying321⟩, rfl, fun ks h => by cases h⟩
theorem ty322_ok : TyOk Tryz.prog 322 ty322 :=
  ⟨⟨Tryz.t322, by kernel_rfl, rfl, rfl, _, rfl, fun ρ => by simp [ty322, γ]⟩, rfl, by first | (intro h; cases h; done) | (intro _; rfl), rfl, ⟨_, _, _, Tryz.underlying322⟩, rfl, fun ks h => by cases h⟩
theorem ty323_ok : TyOk Tryz.prog 323 ty323 :=
  ⟨⟨Tryz.t323, by kernel_rfl, rfl, rfl, _, rfl, fun ρ => by simp [ty323, γ]⟩, rfl, by first | (intro h; cases h; done) | (intro _; rfl), rfl, ⟨_, _, _, Tryz.underlying323⟩, rfl, fun ks h => by cases h⟩
theorem ty324_ok : TyOk Tryz.prog 324 ty324 :=
  ⟨⟨Tryz.t324, by kernel_rfl, rfl, rfl, _, rfl, fun ρ => by simp [ty324, γ]⟩, rfl, by first | (intro h; cases h; done) | (intro _; rfl), rfl, Tryz.underlying324, rfl, fun ks h => by cases h⟩
theorem ty326_ok : TyOk Tryz.prog 326 ty326 :=
  ⟨⟨Tryz.t326, by kernel_rfl, rfl, rfl, _, rfl, fun ρ => by simp [ty326, γ]⟩, rfl, by first | (intro h; cases h; done) | (intro _; rfl), rfl, ⟨_, _, _, Tryz.underlying326⟩, rfl, fun ks h => by cases h⟩
theorem ty327_ok : TyOk Tryz.prog 327 ty327 :=
  ⟨⟨Tryz.t327, by kernel_rfl, rfl, rfl, _, rfl, fun ρ => by simp [ty327, γ]⟩, rfl, by first | (intro h; cases h; done) | (intro _; rfl), rfl, ⟨_, _, _, Tryz.underlying327⟩, rfl, fun ks h => by cases h⟩
theorem ty328_ok : TyOk Tryz.prog 328 ty328 :=
  ⟨⟨Tryz.t328, by kernel_rfl, rfl, rfl, _, rfl, fun ρ => by simp [ty328, γ]⟩, rfl, by first | (intro h; cases h; done) | (intro _; rfl), rfl, ⟨_, _, _, Tryz.underlying328⟩, rfl, fun ks h => by cases h⟩
theorem ty329_ok : TyOk Tryz.prog 329 ty329 :=
  ⟨⟨Tryz.t329, by kernel_rfl, rfl, rfl, _, rfl, fun ρ => by simp [ty329, γ]⟩, rfl, by first | (intro h; cases h; done) | (intro _; rfl), rfl, ⟨_, _, _, Tryz.underlying329⟩, rfl, fun ks h => by cases h⟩
theorem ty330_ok : TyOk Tryz.prog 330 ty330 :=
  ⟨⟨Tryz.t330, by kernel_rfl, rfl, rfl, _, rfl, fun ρ => by simp [ty330, γ]⟩, rfl, by first | (intro h; cases h; done) | (intro _; rfl), rfl, ⟨_, _, _, Tryz.underlying330⟩, rfl, fun ks h => by cases h⟩
theorem ty331_ok : TyOk Tryz.prog 331 ty331 :=
  ⟨⟨Tryz.t331, by kernel_rfl, rfl, rfl, _, rfl, fun ρ => by simp [ty331, γ]⟩, rfl, by first | (intro h; cases h; done) | (intro _; rfl), rfl, ⟨_, _, _, Tryz.underlying331⟩, rfl, fun ks h => by cases h⟩
theorem ty332_ok : TyOk Tryz.prog 332 ty332 :=
  ⟨⟨Tryz.t332, by kernel_rfl, rfl, rfl, _, rfl, fun ρ => by simp [ty332, γ]⟩, rfl, by first | (intro h; cases h; done) | (intro _; rfl), rfl, ⟨_, _, _, Tryz.underlying332⟩, rfl, fun ks h => by cases h⟩
theorem ty333_ok : TyOk Tryz.prog 333 ty333 :=
  ⟨⟨Tryz.t333, by kernel_rfl, rfl, rfl, _, rfl, fun ρ => by simp [ty333, γ]⟩, rfl, by first | (intro h; cases h; done) | (intro _; rfl), rfl, ⟨_, _, _, Tryz.underlying333⟩, rfl, fun ks h => by cases h⟩
theorem ty334_ok : TyOk Tryz.prog 334 ty334 :=
  ⟨⟨Tryz.t334, by kernel_rfl, rfl, rfl, _, rfl, fun ρ => by simp [ty334, γ]⟩, rfl, by first | (intro h; cases h; done) | (intro _; rfl), rfl, ⟨_, _, _, Tryz.underlying334⟩, rfl, fun ks h => by cases h⟩
theorem ty335_ok : TyOk Tryz.prog 335 ty335 :=
  ⟨⟨Tryz.t335, by kernel_rfl, rfl, rfl, _, rfl, fun ρ => by simp [ty335, γ]⟩, rfl, by first | (intro h; cases h; done) | (intro _; rfl), rfl, ⟨_, _, _, Tryz.underlying335⟩, rfl, fun ks h => by cases h⟩
theorem ty336_ok : TyOk Tryz.prog 336 ty336 :=
  ⟨⟨Tryz.t336, by kernel_rfl, rfl, rfl, _, rfl, fun ρ => by simp [ty336, γ]⟩, rfl, by first | (intro h; cases h; done) | (intro _; rfl), rfl, ⟨_, _, _, Tryz.underlying336⟩, rfl, fun ks h => by cases h⟩
theorem ty337_ok : TyOk Tryz.prog 337 ty337 :=
  ⟨⟨Tryz.t337, by kernel_rfl, rfl, rfl, _, rfl, fun ρ => by simp [ty337, γ, γL]⟩, rfl, by first | (intro h; cases h; done) | (intro _; rfl), rfl, Tryz.underlying337, rfl, fun ks h => flatOk_of (d := 12) (by decide) (by cases h; kernel_rfl) Tryz.eqGuardType337 (by rw [Tryz.underlying337])⟩
theorem ty338_ok : TyOk Tryz.prog 338 ty338 :=
  ⟨⟨Tryz.t338, by kernel_rfl, rfl, rfl, _, rfl, fun ρ => by simp [ty338, γ, γL]⟩, rfl, by first | (intro h; cases h; done) | (intro _; rfl), rfl, Tryz.underlying338, rfl, fun ks h => flatOk_of (d := 12) (by decide) (by cases h; kernel_rfl) Tryz.eqGuardType338 (by rw [Tryz.underlying338])⟩
theorem ty339_ok : TyOk Tryz.prog 339 ty339 :=
  ⟨⟨Tryz.t339, by kernel_rfl, rfl, rfl, _, rfl, fun ρ => by simp [ty339, γ]⟩, rfl, by first | (intro h; cases h; done) | (intro _; rfl), rfl, ⟨_, _, _, Tryz.underlying339⟩, rfl, fun ks h => by cases h⟩
theorem ty340_ok : TyOk Tryz.prog 340 ty340 :=
  ⟨⟨Tryz.t340, by kernel_rfl, rfl, rfl, _, rfl, fun ρ => by simp [ty340, γ, γL]⟩, rfl, by first | (intro h; cases h; done) | (intro _; rfl), rfl, ⟨_, Tryz.underlying340, rfl⟩, rfl, fun ks h => by cases h⟩
theorem ty341_ok : TyOk Tryz.prog 341 ty341 :=
  ⟨⟨Tryz.t341, by kernel_rfl, rfl, rfl, _, rfl, fun ρ => by simp [ty341, γ, γL]⟩, rfl, by first | (intro h; cases h; done) | (intro _; rfl), rfl, ⟨_, Tryz.underlying341, rfl⟩, rfl, fun ks h => by cases h⟩
theorem ty342_ok : TyOk Tryz.prog 342 ty342 :=
  ⟨⟨Tryz.t342, by kernel_rfl, rfl, rfl, _, rfl, fun ρ => by simp [ty342, γ, γL]⟩, rfl, by first | (intro h; cases h; done) | (intro _; rfl), rfl, Tryz.underlying342, rfl, fun ks h => by cases h⟩
theorem ty343_ok : TyOk Tryz.prog 343 ty343 :=
  ⟨⟨Tryz.t343, by kernel_rfl, rfl, rfl, _, rfl, fun ρ => by simp [ty343, γ, γL]⟩, rfl, by first | (intro h; cases h; done) | (intro _; rfl), rfl, ⟨_, Tryz.underlying343, rfl⟩, rfl, fun ks h => by cases h⟩
theorem ty344_ok : TyOk Tryz.prog 344 ty344 :=
  ⟨⟨Tryz.t344, by kernel_rfl, rfl, rfl, _, rfl, fun ρ => by simp [ty344, γ, γL]⟩, rfl, by first | (intro h; cases h; done) | (intro _; rfl), rfl, ⟨_, Tryz.underlying344, rfl⟩, rfl, fun ks h => by cases h⟩
theorem ty345_ok : TyOk Tryz.prog 345 ty345 :=
  ⟨⟨Tryz.t345, by kernel_rfl, rfl, rfl, _, rfl, fun ρ => by simp [ty345, γ]⟩, rfl, by first | (intro h; cases h; done) | (intro _; rfl), rfl, ⟨_, _, _, Tryz.underlying345⟩, rfl, fun ks h => by cases h⟩
theorem ty346_ok : TyOk Tryz.prog 346 ty346 :=
  ⟨⟨Tryz.t346, by kernel_rfl, rfl, rfl, _, rfl, fun ρ => by simp [ty346, γ]⟩, rfl, by first | (intro h; cases h; done) | (intro _; rfl), rfl, Tryz.underlying346, rfl, fun ks h => by cases h⟩
theorem ty347_ok : TyOk Tryz.prog 347 ty347 :=
  ⟨⟨Tryz.t347, by kernel_rfl, rfl, rfl, _, rfl, fun ρ => by simp [ty347, γ]⟩, rfl, by first | (intro h; cases h; done) | (intro _; rfl), rfl, Tryz.underlying347, rfl, fun ks h => by cases h⟩
theorem ty348_ok : TyOk Tryz.prog 348 ty348 :=
  ⟨⟨Tryz.t348, by kernel_rfl, rfl, rfl, _, rfl, fun ρ => by simp [ty348, γ]⟩, rfl, by first | (intro h; cases h; done) | (intro _; rfl), rfl, ⟨_, _, _, Tryz.underlying348⟩, rfl, fun ks h => by cases h⟩
theorem ty349_ok : TyOk Tryz.prog 349 ty349 :=
  ⟨⟨Tryz.t349, by kernel_rfl, rfl, rfl, _, rfl, fun ρ => by simp [ty349, γ]⟩, rfl, by first | (intro h; cases h; done) | (intro _; rfl), rfl, Tryz.underlying349, rfl, fun ks h => by cases h⟩
theorem ty350_ok : TyOk Tryz.prog 350 ty350 :=
  ⟨⟨Tryz.t350, by kernel_rfl, rfl, rfl, _, rfl, fun ρ => by simp [ty350, γ]⟩, rfl, by first | (intro h; cases h; done) | (intro _; rfl), rfl, Tryz.underlying350, rfl, fun ks h => by cases h⟩
theorem ty351_ok : TyOk Tryz.prog 351 ty351 :=
  ⟨⟨Tryz.t351, by kernel_rfl, rfl, rfl, _, rfl, fun ρ => by simp [ty351, γ]⟩, rfl, by first | (intro h; cases h; done) | (intro _; rfl), rfl, Tryz.underlying351, rfl, fun ks h => by cases h⟩
theorem ty352_ok : TyOk Tryz.prog 352 ty352 :=
  ⟨⟨Tryz.t352, by kernel_rfl, rfl, rfl, _, rfl, fun ρ => by simp [ty352, γ, γL]⟩, rfl, by first | (intro h; cases h; done) | (intro _; rfl), rfl, ⟨_, Tryz.underlying352, rfl⟩, rfl, fun ks h => by cases h⟩
theorem ty353_ok : TyOk Tryz.prog 353 ty353 :=
  ⟨⟨Tryz.t353, by kernel_rfl, rfl, rfl, _, rfl, fun ρ => by simp [ty353, γ, γL]⟩, rfl, by first | (intro h; cases h; done) | (intro _; rfl), rfl, ⟨_, Tryz.underlying353, rfl⟩, rfl, fun ks h => by cases h⟩
theorem tab_ok : TabOk Tryz.prog tyTab := fun t i => (tab_node (tab_node (tab_node (tab_node (tab_node (tab_node (tab_node (tab_node (tab_leaf ty1_ok) (tab_leaf ty2_ok)) (tab_node (tab_leaf ty3_ok) (tab_node (tab_leaf ty4_ok) (tab_leaf ty5_ok)))) (tab_node (tab_node (tab_leaf ty6_ok) (tab_leaf ty7_ok)) (tab_node (tab_leaf ty8_ok) (tab_node (tab_leaf ty9_ok) (tab_leaf ty10_ok))))) (tab_node (tab_node (tab_node (tab_leaf ty11_ok) (tab_leaf ty12_ok)) (tab_node (tab_leaf ty13_ok) (tab_node (tab_leaf ty14_ok) (tab_leaf ty15_ok)))) (tab_node (tab_node (tab_leaf ty16_ok) (tab_leaf ty17_ok)) (tab_node (tab_leaf ty18_ok) (tab_node (tab_leaf ty19_ok) (tab_leaf ty20_ok)))))) (tab_node (tab_node (tab_node (tab_node (tab_leaf ty21_ok) (tab_leaf ty22_ok)) (tab_node (tab_leaf ty23_ok) (tab_node (tab_leaf ty24_ok) (tab_leaf ty25_ok)))) (tab_node (tab_node (tab_leaf ty26_ok) (tab_leaf ty27_ok)) (tab_node (tab_leaf ty28_ok) (tab_node (tab_leaf ty29_ok) (tab_leaf ty30_ok))))) (tab_node (tab_node (tab_node (tab_leaf ty31_ok) (tab_leaf ty32_ok)) (tab_node (tab_leaf ty33_ok) (tab_node (tab_leaf ty34_ok) (tab_leaf ty35_ok)))) (tab_node (tab_node (tab_leaf ty36_ok) (tab_leaf ty37_ok)) (tab_node (tab_leaf ty39_ok) (tab_node (tab_leaf ty40_ok) (tab_leaf ty42_ok))))))) (tab_node (tab_node (tab_node (tab_node (tab_node (tab_leaf ty43_ok) (tab_leaf ty44_ok)) (tab_node (tab_leaf ty45_ok) (tab_node (tab_leaf ty46_ok) (tab_leaf ty47_ok)))) (tab_node (tab_node (tab_leaf ty48_ok) (tab_leaf ty50_ok)) (tab_node (tab_leaf ty51_ok) (tab_node (tab_leaf ty52_ok) (tab_leaf ty54_ok))))) (tab_node (tab_node (tab_node (tab_leaf ty55_ok) (tab_leaf ty56_ok)) (tab_node (tab_leaf ty57_ok) (tab_node (tab_leaf ty58_ok) (tab_leaf ty59_ok)))) (tab_node (tab_node (tab_leaf ty60_ok) (tab_leaf ty62_ok)) (tab_node (tab_leaf ty63_ok) (tab_node (tab_leaf ty64_ok) (tab_leaf ty65_ok)))))) (tab_node (tab_node (tab_node (tab_node (tab_leaf ty66_ok) (tab_leaf ty67_ok)) (tab_node (tab_leaf ty68_ok) (tab_node (tab_leaf ty69_ok) (tab_leaf ty70_ok)))) (tab_node (tab_node (tab_leaf ty71_ok) (tab_leaf ty72_ok)) (tab_node (tab_leaf ty74_ok) (tab_node (tab_leaf ty75_ok) (tab_leaf ty76_ok))))) (tab_node (tab_node (tab_node (tab_leaf ty77_ok) (tab_leaf ty79_ok)) (tab_node (tab_leaf ty80_ok) (tab_node (tab_leaf ty81_ok) (tab_leaf ty83_ok)))) (tab_node (tab_node (tab_leaf ty84_ok) (tab_leaf ty85_ok)) (tab_node (tab_leaf ty86_ok) (tab_node (tab_leaf ty87_ok) (tab_leaf ty88_ok)))))))) (tab_node (tab_node (tab_node (tab_node (tab_node (tab_node (tab_leaf ty89_ok) (tab_leaf ty90_ok)) (tab_node (tab_leaf ty91_ok) (tab_node (tab_leaf ty92_ok) (tab_leaf ty94_ok)))) (tab_node (tab_node (tab_leaf ty96_ok) (tab_leaf ty97_ok)) (tab_node (tab_leaf ty99_ok) (tab_node (tab_leaf ty100_ok) (tab_leaf ty101_ok))))) (tab_node (tab_node (tab_node (tab_leaf ty102_ok) (tab_leaf ty103_ok)) (tab_node (tab_leaf ty104_ok) (tab_node (tab_leaf ty105_ok) (tab_leaf ty106_ok)))) (tab_node (tab_node (tab_leaf ty107_ok) (tab_leaf ty108_ok)) (tab_node (tab_leaf ty109_ok) (tab_node (tab_leaf ty110_ok) (tab_leaf ty111_ok)))))) (tab_node (tab_node (tab_node (tab_node (tab_leaf ty112_ok) (tab_leaf ty114_ok)) (tab_node (tab_leaf ty115_ok) (tab_node (tab_leaf ty116_ok) (tab_leaf ty117_ok)))) (tab_node (tab_node (tab_leaf ty118_ok) (tab_leaf ty119_ok)) (tab_node (tab_leaf ty120_ok) (tab_node (tab_leaf ty121_ok) (tab_leaf ty122_ok))))) (tab_node (tab_node (tab_node (tab_leaf ty123_ok) (tab_leaf ty125_ok)) (tab_node (tab_leaf ty126_ok) (tab_node (tab_leaf ty127_ok) (tab_leaf ty128_ok)))) (tab_node (tab_node (tab_leaf ty129_ok) (tab_leaf ty130_ok)) (tab_node (tab_leaf ty131_ok) (tab_node (tab_leaf ty132_ok) (tab_leaf ty133_ok))))))) (tab_node (tab_node (tab_node (tab_node (tab_node (tab_leaf ty135_ok) (tab_leaf ty136_ok)) (tab_node (tab_leaf ty137_ok) (tab_node (tab_leaf ty138_ok) (tab_leaf ty139_ok)))) (tab_node (tab_node (tab_leaf ty140_ok) (tab_leaf ty141_ok)) (tab_node (tab_leaf ty142_ok) (tab_node (tab_leaf ty143_ok) (tab_leaf ty144_ok))))) (tab_node (tab_node (tab_node (tab_leaf ty145_ok) (tab_leaf ty146_ok)) (tab_node (tab_leaf ty147_ok) (tab_node (tab_leaf ty148_ok) (tab_leaf ty149_ok)))) (tab_node (tab_node (tab_leaf ty150_ok) (tab_leaf ty151_ok)) (tab_node (tab_leaf ty152_ok) (tab_node (tab_leaf ty153_ok) (tab_leaf ty154_ok)))))) (tab_node (tab_node (tab_node (tab_node (tab_leaf ty155_ok) (tab_leaf ty157_ok)) (tab_node (tab_leaf ty158_ok) (tab_node (tab_leaf ty159_ok) (tab_leaf ty160_ok)))) (tab_node (tab_node (tab_leaf ty161_ok) (tab_leaf ty162_ok)) (tab_node (tab_leaf ty163_ok) (tab_node (tab_leaf ty164_ok) (tab_leaf ty165_ok))))) (tab_node (tab_node (tab_node (tab_leaf ty166_ok) (tab_leaf ty167_ok)) (tab_node (tab_leaf ty169_ok) (tab_node (tab_leaf ty170_ok) (tab_leaf ty171_ok)))) (tab_node (tab_node (tab_leaf ty172_ok) (tab_node (tab_leaf ty173_ok) (tab_leaf ty174_ok))) (tab_node (tab_leaf ty176_ok) (tab_node (tab_leaf ty177_ok) (tab_leaf ty178_ok))))))))) (tab_node (tab_node (tab_node (tab_node (tab_node (tab_node (tab_node (tab_leaf ty180_ok) (tab_leaf ty181_ok)) (tab_node (tab_leaf ty182_ok) (tab_node (tab_leaf ty183_ok) (tab_leaf ty185_ok)))) (tab_node (tab_node (tab_leaf ty186_ok) (tab_leaf ty187_ok)) (tab_node (tab_leaf ty188_ok) (tab_node (tab_leaf ty189_ok) (tab_leaf ty190_ok))))) (tab_node (tab_node (tab_node (tab_leaf ty191_ok) (tab_leaf ty192_ok)) (tab_node (tab_leaf ty193_ok) (tab_node (tab_leaf ty194_ok) (tab_leaf ty195_ok)))) (tab_node (tab_node (tab_leaf ty196_ok) (tab_leaf ty197_ok)) (tab_node (tab_leaf ty198_ok) (tab_node (tab_leaf ty199_ok) (tab_leaf ty200_ok)))))) (tab_node (tab_node (tab_node (tab_node (tab_leaf ty201_ok) (tab_leaf ty202_ok)) (tab_node (tab_leaf ty203_ok) (tab_node (tab_leaf ty204_ok) (tab_leaf ty205_ok)))) (tab_node (tab_node (tab_leaf ty206_ok) (tab_leaf ty208_ok)) (tab_node (tab_leaf ty209_ok) (tab_node (tab_leaf ty210_ok) (tab_leaf ty211_ok))))) (tab_node (tab_node (tab_node (tab_leaf ty212_ok) (tab_leaf ty213_ok)) (tab_node (tab_leaf ty215_ok) (tab_node (tab_leaf ty216_ok) (tab_leaf ty217_ok)))) (tab_node (tab_node (tab_leaf ty218_ok) (tab_leaf ty219_ok)) (tab_node (tab_leaf ty221_ok) (tab_node (tab_leaf ty222_ok) (tab_leaf ty223_ok))))))) (tab_node (tab_node (tab_node (tab_node (tab_node (tab_leaf ty224_ok) (tab_leaf ty226_ok)) (tab_node (tab_leaf ty227_ok) (tab_node (tab_leaf ty228_ok) (tab_leaf ty229_ok)))) (tab_node (tab_node (tab_leaf ty230_ok) (tab_leaf ty231_ok)) (tab_node (tab_leaf ty233_ok) (tab_node (tab_leaf ty234_ok) (tab_leaf ty235_ok))))) (tab_node (tab_node (tab_node (tab_leaf ty236_ok) (tab_leaf ty237_ok)) (tab_node (tab_leaf ty238_ok) (tab_node (tab_leaf ty239_ok) (tab_leaf ty240_ok)))) (tab_node (tab_node (tab_leaf ty241_ok) (tab_leaf ty242_ok)) (tab_node (tab_leaf ty243_ok) (tab_node (tab_leaf ty245_ok) (tab_leaf ty246_ok)))))) (tab_node (tab_node (tab_node (tab_node (tab_leaf ty247_ok) (tab_leaf ty249_ok)) (tab_node (tab_leaf ty250_ok) (tab_node (tab_leaf ty251_ok) (tab_leaf ty252_ok)))) (tab_node (tab_node (tab_leaf ty253_ok) (tab_leaf ty254_ok)) (tab_node (tab_leaf ty255_ok) (tab_node (tab_leaf ty256_ok) (tab_leaf ty257_ok))))) (tab_node (tab_node (tab_node (tab_leaf ty258_ok) (tab_leaf ty259_ok)) (tab_node (tab_leaf ty260_ok) (tab_node (tab_leaf ty261_ok) (tab_leaf ty262_ok)))) (tab_node (tab_node (tab_leaf ty264_ok) (tab_node (tab_leaf ty265_ok) (tab_leaf ty266_ok))) (tab_node (tab_leaf ty267_ok) (tab_node (tab_leaf ty268_ok) (tab_leaf ty269_ok)))))))) (tab_node (tab_node (tab_node (tab_node (tab_node (tab_node (tab_leaf ty270_ok) (tab_leaf ty271_ok)) (tab_node (tab_leaf ty272_ok) (tab_node (tab_leaf ty273_ok) (tab_leaf ty274_ok)))) (tab_node (tab_node (tab_leaf ty275_ok) (tab_leaf ty276_ok)) (tab_node (tab_leaf ty277_ok) (tab_node (tab_leaf ty278_ok) (tab_leaf ty279_ok))))) (tab_node (tab_node (tab_node (tab_leaf ty280_ok) (tab_leaf ty281_ok)) (tab_node (tab_leaf ty282_ok) (tab_node (tab_leaf ty283_ok) (tab_leaf ty284_ok)))) (tab_node (tab_node (tab_leaf ty285_ok) (tab_leaf ty286_ok)) (tab_node (tab_leaf ty287_ok) (tab_node (tab_leaf ty289_ok) (tab_leaf ty290_ok)))))) (tab_node (tab_node (tab_node (tab_node (tab_leaf ty291_ok) (tab_leaf ty292_ok)) (tab_node (tab_leaf ty293_ok) (tab_node (tab_leaf ty294_ok) (tab_leaf ty295_ok)))) (tab_node (tab_node (tab_leaf ty296_ok) (tab_leaf ty297_ok)) (tab_node (tab_leaf ty298_ok) (tab_node (tab_leaf ty299_ok) (tab_leaf ty301_ok))))) (tab_node (tab_node (tab_node (tab_leaf ty302_ok) (tab_leaf ty303_ok)) (tab_node (tab_leaf ty304_ok) (tab_node (tab_leaf ty305_ok) (tab_leaf ty306_ok)))) (tab_node (tab_node (tab_leaf ty307_ok) (tab_leaf ty308_ok)) (tab_node (tab_leaf ty309_ok) (tab_node (tab_leaf ty310_ok) (tab_leaf ty311_ok))))))) (tab_node (tab_node (tab_node (tab_node (tab_node (tab_leaf ty312_ok) (tab_leaf ty313_ok)) (tab_node (tab_leaf ty314_ok) (tab_node (tab_leaf ty315_ok) (tab_leaf ty316_ok)))) (tab_node (tab_node (tab_leaf ty317_ok) (tab_leaf ty318_ok)) (tab_node (tab_leaf ty319_ok) (tab_node (tab_leaf ty320_ok) (tab_leaf ty321_ok))))) (tab_node (tab_node (tab_node (tab_leaf ty322_ok) (tab_leaf ty323_ok)) (tab_node (tab_leaf ty324_ok) (tab_node (tab_leaf ty326_ok) (tab_leaf ty327_ok)))) (tab_node (tab_node (tab_leaf ty328_ok) (tab_leaf ty329_ok)) (tab_node (tab_leaf ty330_ok) (tab_node (tab_leaf ty331_ok) (tab_leaf ty332_ok)))))) (tab_node (tab_node (tab_node (tab_node (tab_leaf ty333_ok) (tab_leaf ty334_ok)) (tab_node (tab_leaf ty335_ok) (tab_node (tab_leaf ty336_ok) (tab_leaf ty337_ok)))) (tab_node (tab_node (tab_leaf ty338_ok) (tab_leaf ty339_ok)) (tab_node (tab_leaf ty340_ok) (tab_node (tab_leaf ty341_ok) (tab_leaf ty342_ok))))) (tab_node (tab_node (tab_node (tab_leaf ty343_ok) (tab_leaf ty344_ok)) (tab_node (tab_leaf ty345_ok) (tab_node (tab_leaf ty346_ok) (tab_leaf ty347_ok)))) (tab_node (tab_node (tab_leaf ty348_ok) (tab_node (tab_leaf ty349_ok) (tab_leaf ty350_ok))) (tab_node (tab_leaf ty351_ok) (tab_node (tab_leaf ty352_ok) (tab_leaf ty353_ok))))))))))
theorem mixed : Tryz.prog.follows .mixedOrders = true := by kernel_rfl
theorem noNum : NoNum Tryz.prog := by
  intro g fn h
  have e : Tryz.prog.funcs.all (fun fn => !(fn.name == "runtime.NumGoroutine")) = true := by kernel_rfl
  rw [Array.all_eq_true_iff_forall_mem] at e
  have := e fn (Array.mem_of_getElem? h)
  simpa using this
end Go.Ev

