import Derived.Test.YtdooglicnibhlaaGreatEvN
import Derived.Test.YtdooglicnibhlaaGreatProg
import Derived.KernelRfl
namespace Go.Ev
open Go.Proofs
set_option linter.unusedVariables false
set_option linter.unusedSimpArgs false
abbrev zi : AVal := .int .i64 0
abbrev zu : AVal := .int .u64 0
def ty1 : TyI := ⟨1, 8, [.nilf], false, none, .func⟩
def ty2 : TyI := ⟨1, 8, [zi], false, none, .int .i64⟩
def ty3 : TyI := ⟨1, 8, [zi], false, none, .int .i64⟩
def ty4 : TyI := ⟨1, 1, [.bool false], false, none, .bool⟩
def ty5 : TyI := ⟨1, 1, [.int .u8 0], false, none, .int .u8⟩
def ty9 : TyI := ⟨1, 16, [.str ⟨#[]⟩], false, none, .str⟩
def ty20 : TyI := ⟨1, 16, [.nili], false, none, .iface⟩
def ty22 : TyI := ⟨1, 8, [zi], false, none, .int .i64⟩
def ty24 : TyI := ⟨3, 24, [zi, zi, zi], true, some [.int .i64, .int .i64, .int .i64], .struct [(0, 22), (1, 22), (2, 22)]⟩
def ty25 : TyI := ⟨1, 24, [.nils], false, none, .slice 24⟩
def ty27 : TyI := ⟨6, 64, [zi, zi, zi, zi, zi, .nils], true, none, .struct [(0, 3), (1, 22), (2, 24), (5, 25)]⟩
def ty29 : TyI := ⟨4, 32, [zi, zi, zi, zi], true, some [.int .i64, .int .i64, .int .i64, .int .i64], .struct [(0, 22), (1, 22), (2, 22), (3, 22)]⟩
def ty31 : TyI := ⟨7, 56, [zi, zi, zi, zi, zi, zi, zi], true, some [.int .i64, .int .i64, .int .i64, .int .i64, .int .i64, .int .i64, .int .i64], .struct [(0, 24), (3, 29)]⟩
def ty33 : TyI := ⟨13, 120, [zi, zi, zi, zi, zi, .nils, zi, zi, zi, zi, zi, zi, zi], true, none, .struct [(0, 27), (6, 31)]⟩
def ty35 : TyI := ⟨22, 192, [zi, zi, zi, zi, zi, zi, .nils, zi, zi, zi, zi, zi, zi, zi, zi, zi, zi, zi, zi, zi, zi, zi], true, none, .struct [(0, 3), (1, 33), (14, 22), (15, 24), (18, 24), (21, 22)]⟩
def ty36 : TyI := ⟨1, 8, [.nilp], false, none, .ptr 43⟩
def ty37 : TyI := ⟨1, 8, [.nilp], false, none, .ptr 110⟩
def ty39 : TyI := ⟨5, 40, [zi, zi, zi, zi, zi], true, some [.int .i64, .int .i64, .int .i64, .int .i64, .int .i64], .struct [(0, 24), (3, 22), (4, 3)]⟩
def ty40 : TyI := ⟨1, 24, [.nils], false, none, .slice 77⟩
def ty41 : TyI := ⟨1, 24, [.nils], false, none, .slice 93⟩
def ty43 : TyI := ⟨8, 96, [.nilp, zi, zi, zi, zi, zi, .nils, .nils], true, none, .struct [(0, 37), (1, 39), (6, 40), (7, 41)]⟩
def ty44 : TyI := ⟨1, 8, [zi], false, none, .int .i64⟩
def ty47 : TyI := ⟨1, 24, [.nils], false, none, .slice 97⟩
def ty48 : TyI := ⟨1, 24, [.nils], false, none, .slice 170⟩
def ty50 : TyI := ⟨4, 96, [.nils, .nils, .nils, .nils], true, none, .struct [(0, 40), (1, 40), (2, 47), (3, 48)]⟩
def ty58 : TyI := ⟨1, 24, [.nils], false, none, .slice 35⟩
def ty64 : TyI := ⟨1, 8, [.nilp], false, none, .ptr 70⟩
def ty66 : TyI := ⟨1, 8, [.nilm], false, none, .map 3 3⟩
def ty67 : TyI := ⟨1, 24, [.nils], false, none, .slice 91⟩
def ty68 : TyI := ⟨1, 24, [.nils], false, none, .slice 135⟩
def ty70 : TyI := ⟨10, 208, [.nilp, .nils, .nilm, .nils, .nils, .nils, .nils, .nils, .nils, .nils], true, none, .struct [(0, 36), (1, 58), (2, 66), (3, 47), (4, 67), (5, 68), (6, 50)]⟩
def ty71 : TyI := ⟨1, 8, [.nilf], false, none, .func⟩
def ty72 : TyI := ⟨5, 40, [.nilf, .nilf, .nilf, .nilf, .nilf], true, none, .arr 5 71⟩
def ty77 : TyI := ⟨2, 16, [zi, zi], true, some [.int .i64, .int .i64], .struct [(0, 3), (1, 3)]⟩
def ty78 : TyI := ⟨1, 8, [.nilf], false, none, .func⟩
def ty79 : TyI := ⟨9, 72, [zi, zi, zi, zi, zi, zi, zi, zi, zi], true, some [.int .i64, .int .i64, .int .i64, .int .i64, .int .i64, .int .i64, .int .i64, .int .i64, .int .i64], .arr 3 24⟩
def ty81 : TyI := ⟨9, 72, [zi, zi, zi, zi, zi, zi, zi, zi, zi], true, some [.int .i64, .int .i64, .int .i64, .int .i64, .int .i64, .int .i64, .int .i64, .int .i64, .int .i64], .struct [(0, 79)]⟩
def ty83 : TyI := ⟨16, 128, [zi, zi, zi, zi, zi, zi, zi, zi, zi, zi, zi, zi, zi, zi, zi, zi], true, some [.int .i64, .int .i64, .int .i64, .int .i64, .int .i64, .int .i64, .int .i64, .int .i64, .int .i64, .int .i64, .int .i64, .int .i64, .int .i64, .int .i64, .int .i64, .int .i64], .struct [(0, 22), (1, 81), (10, 24), (13, 24)]⟩
def ty91 : TyI := ⟨4, 32, [zi, zi, zi, zi], true, some [.int .i64, .int .i64, .int .i64, .int .i64], .struct [(0, 3), (1, 3), (2, 3), (3, 3)]⟩
def ty93 : TyI := ⟨7, 56, [zi, zi, zi, zi, zi, zi, zi], true, some [.int .i64, .int .i64, .int .i64, .int .i64, .int .i64, .int .i64, .int .i64], .struct [(0, 91), (4, 22), (5, 22), (6, 22)]⟩
def ty95 : TyI := ⟨3, 24, [zi, zi, zi], true, some [.int .i64, .int .i64, .int .i64], .struct [(0, 2), (1, 2), (2, 2)]⟩
def ty97 : TyI := ⟨14, 112, [zi, zi, zi, zi, zi, zi, zi, zi, zi, zi, zi, zi, zi, zi], true, some [.int .i64, .int .i64, .int .i64, .int .i64, .int .i64, .int .i64, .int .i64, .int .i64, .int .i64, .int .i64, .int .i64, .int .i64, .int .i64, .int .i64], .struct [(0, 93), (7, 95), (10, 24), (13, 22)]⟩
def ty105 : TyI := ⟨1, 8, [.nilp], false, none, .ptr 253⟩
def ty107 : TyI := ⟨1, 8, [.nilp], true, none, .struct [(0, 105)]⟩
def ty108 : TyI := ⟨1, 8, [.nilm], false, none, .map 3 35⟩
def ty110 : TyI := ⟨2, 16, [.nilp, .nilm], true, none, .struct [(0, 107), (1, 108)]⟩
def ty112 : TyI := ⟨1, 24, [.nils], false, none, .slice 3⟩
def ty114 : TyI := ⟨1, 8, [.nilf], false, none, .func⟩
def ty115 : TyI := ⟨1, 8, [.nilf], false, none, .func⟩
def ty119 : TyI := ⟨4, 32, [zi, zi, zi, zi], true, some [.int .i64, .int .i64, .int .i64, .int .i64], .struct [(0, 22), (1, 24)]⟩
def ty122 : TyI := ⟨1, 24, [.nils], false, none, .slice 127⟩
def ty127 : TyI := ⟨5, 40, [zi, zi, zi, zi, zi], true, some [.int .i64, .int .i64, .int .i64, .int .i64, .int .i64], .struct [(0, 3), (1, 3), (2, 95)]⟩
def ty133 : TyI := ⟨1, 8, [.nilf], false, none, .func⟩
def ty135 : TyI := ⟨25, 200, [zi, zi, zi, zi, zi, zi, zi, zi, zi, zi, zi, zi, zi, zi, zi, zi, zi, zi, zi, zi, zi, zi, zi, zi, zi], true, some [.int .i64, .int .i64, .int .i64, .int .i64, .int .i64, .int .i64, .int .i64, .int .i64, .int .i64, .int .i64, .int .i64, .int .i64, .int .i64, .int .i64, .int .i64, .int .i64, .int .i64, .int .i64, .int .i64, .int .i64, .int .i64, .int .i64, .int .i64, .int .i64, .int .i64], .struct [(0, 3), (1, 3), (2, 24), (5, 24), (8, 24), (11, 24), (14, 24), (17, 22), (18, 22), (19, 22), (20, 22), (21, 22), (22, 22), (23, 22), (24, 22)]⟩
def ty140 : TyI := ⟨1, 24, [.nils], false, none, .slice 83⟩
def ty144 : TyI := ⟨1, 8, [.nilp], false, none, .ptr 97⟩
def ty148 : TyI := ⟨6, 48, [zi, zi, zi, zi, zi, zi], true, some [.int .i64, .int .i64, .int .i64, .int .i64, .int .i64, .int .i64], .struct [(0, 95), (3, 95)]⟩
def ty155 : TyI := ⟨22, 192, [zi, zi, zi, zi, zi, zi, .nils, zi, zi, zi, zi, zi, zi, zi, zi, zi, zi, zi, zi, zi, zi, zi], true, none, .struct [(0, 35)]⟩
def ty157 : TyI := ⟨4, 32, [zi, zi, zi, zi], true, some [.int .i64, .int .i64, .int .i64, .int .i64], .struct [(0, 22), (1, 24)]⟩
def ty163 : TyI := ⟨1, 8, [.nilf], false, none, .func⟩
def ty170 : TyI := ⟨2, 16, [zi, zi], true, some [.int .i64, .int .i64], .struct [(0, 3), (1, 3)]⟩
def ty175 : TyI := ⟨1, 8, [.nilf], false, none, .func⟩
def ty176 : TyI := ⟨1, 8, [zu], false, none, .int .u64⟩
def ty177 : TyI := ⟨8, 64, [zu, zu, zu, zu, zu, zu, zu, zu], true, some [.int .u64, .int .u64, .int .u64, .int .u64, .int .u64, .int .u64, .int .u64, .int .u64], .arr 8 176⟩
def ty179 : TyI := ⟨8, 64, [zu, zu, zu, zu, zu, zu, zu, zu], true, some [.int .u64, .int .u64, .int .u64, .int .u64, .int .u64, .int .u64, .int .u64, .int .u64], .struct [(0, 177)]⟩
def ty181 : TyI := ⟨24, 192, [zu, zu, zu, zu, zu, zu, zu, zu, zu, zu, zu, zu, zu, zu, zu, zu, zu, zu, zu, zu, zu, zu, zu, zu], true, some [.int .u64, .int .u64, .int .u64, .int .u64, .int .u64, .int .u64, .int .u64, .int .u64, .int .u64, .int .u64, .int .u64, .int .u64, .int .u64, .int .u64, .int .u64, .int .u64, .int .u64, .int .u64, .int .u64, .int .u64, .int .u64, .int .u64, .int .u64, .int .u64], .struct [(0, 179), (8, 179), (16, 179)]⟩
def ty183 : TyI := ⟨33, 280, [zu, zu, zu, zu, zu, zu, zu, zu, zu, zu, zu, zu, zu, zu, zu, zu, zu, zu, zu, zu, zu, zu, zu, zu, zu, zu, zu, zu, zu, zu, zu, zu, .nils], true, none, .struct [(0, 181), (24, 179), (32, 112)]⟩
def ty185 : TyI := ⟨32, 256, [zu, zu, zu, zu, zu, zu, zu, zu, zu, zu, zu, zu, zu, zu, zu, zu, zu, zu, zu, zu, zu, zu, zu, zu, zu, zu, zu, zu, zu, zu, zu, zu], true, some [.int .u64, .int .u64, .int .u64, .int .u64, .int .u64, .int .u64, .int .u64, .int .u64, .int .u64, .int .u64, .int .u64, .int .u64, .int .u64, .int .u64, .int .u64, .int .u64, .int .u64, .int .u64, .int .u64, .int .u64, .int .u64, .int .u64, .int .u64, .int .u64, .int .u64, .int .u64, .int .u64, .int .u64, .int .u64, .int .u64, .int .u64, .int .u64], .struct [(0, 181), (24, 179)]⟩
def ty186 : TyI := ⟨1, 24, [.nils], false, none, .slice 95⟩
def ty192 : TyI := ⟨1, 8, [.nilf], false, none, .func⟩
def ty202 : TyI := ⟨1, 8, [.nilf], false, none, .func⟩
def ty206 : TyI := ⟨4, 32, [zi, zi, zi, zi], true, some [.int .i64, .int .i64, .int .i64, .int .i64], .arr 4 3⟩
def ty209 : TyI := ⟨1, 8, [.nilf], false, none, .func⟩
def ty216 : TyI := ⟨1, 8, [.nilf], false, none, .func⟩
def ty217 : TyI := ⟨1, 8, [.nilm], false, none, .map 91 93⟩
def ty220 : TyI := ⟨1, 8, [.nilf], false, none, .func⟩
def ty223 : TyI := ⟨0, 0, [], true, some [], .struct []⟩
def ty225 : TyI := ⟨1, 8, [.nilf], false, none, .func⟩
def ty230 : TyI := ⟨1, 8, [.nilf], false, none, .func⟩
def ty235 : TyI := ⟨1, 8, [.nilf], false, none, .func⟩
def ty237 : TyI := ⟨1, 8, [.nilp], false, none, .ptr 241⟩
def ty241 : TyI := ⟨2, 48, [.nils, .nils], true, none, .struct [(0, 140), (1, 68)]⟩
def ty243 : TyI := ⟨1, 8, [.nilf], false, none, .func⟩
def ty247 : TyI := ⟨1, 8, [.nilf], false, none, .func⟩
def ty249 : TyI := ⟨1, 8, [zu], false, none, .int .u64⟩
def ty251 : TyI := ⟨1, 24, [.nils], false, none, .slice 257⟩
def ty253 : TyI := ⟨6, 80, [.bool false, zi, .nils, .nils, zi, .nilm], true, none, .struct [(0, 4), (1, 2), (2, 251), (3, 112), (4, 3), (5, 66)]⟩
def ty257 : TyI := ⟨17, 136, [zi, zi, zi, zi, zi, zi, zi, zi, zi, zi, zi, zi, zi, zi, zi, zi, zi], true, some [.int .i64, .int .i64, .int .i64, .int .i64, .int .i64, .int .i64, .int .i64, .int .i64, .int .i64, .int .i64, .int .i64, .int .i64, .int .i64, .int .i64, .int .i64, .int .i64, .int .i64], .struct [(0, 148), (6, 148), (12, 3), (13, 3), (14, 3), (15, 3), (16, 3)]⟩
def ty267 : TyI := ⟨1, 8, [.nilf], false, none, .func⟩
def ty280 : TyI := ⟨1, 8, [.nilp], false, none, .ptr 374⟩
def ty292 : TyI := ⟨1, 8, [.nilf], false, none, .func⟩
def ty294 : TyI := ⟨24, 192, [zu, zu, zu, zu, zu, zu, zu, zu, zu, zu, zu, zu, zu, zu, zu, zu, zu, zu, zu, zu, zu, zu, zu, zu], true, some [.int .u64, .int .u64, .int .u64, .int .u64, .int .u64, .int .u64, .int .u64, .int .u64, .int .u64, .int .u64, .int .u64, .int .u64, .int .u64, .int .u64, .int .u64, .int .u64, .int .u64, .int .u64, .int .u64, .int .u64, .int .u64, .int .u64, .int .u64, .int .u64], .arr 3 179⟩
def ty296 : TyI := ⟨1, 8, [.nilf], false, none, .func⟩
def ty297 : TyI := ⟨1, 8, [.nilm], false, none, .map 299 3⟩
def ty299 : TyI := ⟨2, 16, [zi, zi], true, some [.int .i64, .int .i64], .struct [(0, 3), (1, 3)]⟩
def ty310 : TyI := ⟨8, 64, [zu, zu, zu, zu, zu, zu, zu, zu], true, some [.int .u64, .int .u64, .int .u64, .int .u64, .int .u64, .int .u64, .int .u64, .int .u64], .arr 8 176⟩
def ty319 : TyI := ⟨1, 8, [.nilp], false, none, .ptr 135⟩
def ty324 : TyI := ⟨1, 8, [.nilp], false, none, .ptr 22⟩
def ty325 : TyI := ⟨3, 24, [.nilp, .nilp, .nilp], true, none, .arr 3 324⟩
def ty333 : TyI := ⟨1, 8, [.nilf], false, none, .func⟩
def ty336 : TyI := ⟨1, 8, [.nilf], false, none, .func⟩
def ty342 : TyI := ⟨32, 256, [zu, zu, zu, zu, zu, zu, zu, zu, zu, zu, zu, zu, zu, zu, zu, zu, zu, zu, zu, zu, zu, zu, zu, zu, zu, zu, zu, zu, zu, zu, zu, zu], true, some [.int .u64, .int .u64, .int .u64, .int .u64, .int .u64, .int .u64, .int .u64, .int .u64, .int .u64, .int .u64, .int .u64, .int .u64, .int .u64, .int .u64, .int .u64, .int .u64, .int .u64, .int .u64, .int .u64, .int .u64, .int .u64, .int .u64, .int .u64, .int .u64, .int .u64, .int .u64, .int .u64, .int .u64, .int .u64, .int .u64, .int .u64, .int .u64], .arr 4 179⟩
def ty346 : TyI := ⟨3, 24, [zi, zi, zi], true, some [.int .i64, .int .i64, .int .i64], .struct [(0, 3), (1, 3), (2, 3)]⟩
def ty347 : TyI := ⟨1, 24, [.nils], false, none, .slice 346⟩
def ty348 : TyI := ⟨3, 72, [.nils, .nils, .nils], true, none, .arr 3 347⟩
def ty349 : TyI := ⟨9, 216, [.nils, .nils, .nils, .nils, .nils, .nils, .nils, .nils, .nils], true, none, .arr 3 348⟩
def ty351 : TyI := ⟨1, 8, [.nilf], false, none, .func⟩
def ty353 : TyI := ⟨72, 576, [zu, zu, zu, zu, zu, zu, zu, zu, zu, zu, zu, zu, zu, zu, zu, zu, zu, zu, zu, zu, zu, zu, zu, zu, zu, zu, zu, zu, zu, zu, zu, zu, zu, zu, zu, zu, zu, zu, zu, zu, zu, zu, zu, zu, zu, zu, zu, zu, zu, zu, zu, zu, zu, zu, zu, zu, zu, zu, zu, zu, zu, zu, zu, zu, zu, zu, zu, zu, zu, zu, zu, zu], true, some [.int .u64, .int .u64, .int .u64, .int .u64, .int .u64, .int .u64, .int .u64, .int .u64, .int .u64, .int .u64, .int .u64, .int .u64, .int .u64, .int .u64, .int .u64, .int .u64, .int .u64, .int .u64, .int .u64, .int .u64, .int .u64, .int .u64, .int .u64, .int .u64, .int .u64, .int .u64, .int .u64, .int .u64, .int .u64, .int .u64, .int .u64, .int .u64, .int .u64, .int .u64, .int .u64, .int .u64, .int .u64, .int .u64, .int .u64, .int .u64, .int .u64, .int .u64, .int .u64, .int .u64, .int .u64, .int .u64, .int .u64, .int .u64, .int .u64, .int .u64, .int .u64, .int .u64, .int .u64, .int .u64, .int .u64, .int .u64, .int .u64, .int .u64, .int .u64, .int .u64, .int .u64, .int .u64, .int .u64, .int .u64, .int .u64, .int .u64, .int .u64, .int .u64, .int .u64, .int .u64, .int .u64, .int .u64], .arr 3 294⟩
def ty356 : TyI := ⟨1, 8, [.nilf], false, none, .func⟩
def ty360 : TyI := ⟨1, 8, [zi], false, none, .int .i64⟩
def ty368 : TyI := ⟨1, 4, [.int .u32 0], false, none, .int .u32⟩
def ty371 : TyI := ⟨1, 8, [.nilf], false, none, .func⟩
def ty374 : TyI := ⟨16, 128, [zi, zi, zi, zi, zi, zi, zi, zi, zi, zi, zi, zi, zi, zi, zi, zi], true, some [.int .i64, .int .i64, .int .i64, .int .i64, .int .i64, .int .i64, .int .i64, .int .i64, .int .i64, .int .i64, .int .i64, .int .i64, .int .i64, .int .i64, .int .i64, .int .i64], .struct [(0, 31), (7, 81)]⟩
def ty375 : TyI := ⟨1, 8, [.nilf], false, none, .func⟩
def ty376 : TyI := ⟨1, 8, [.nilf], false, none, .func⟩
def ty378 : TyI := ⟨2, 16, [.nilf, .nilf], true, none, .struct [(0, 375), (1, 376)]⟩
def ty379 : TyI := ⟨10, 80, [.nilf, .nilf, .nilf, .nilf, .nilf, .nilf, .nilf, .nilf, .nilf, .nilf], true, none, .arr 5 378⟩
def ty381 : TyI := ⟨1, 8, [.nilf], false, none, .func⟩
def ty383 : TyI := ⟨3, 24, [zi, zi, zi], true, some [.int .i64, .int .i64, .int .i64], .arr 3 44⟩
def ty389 : TyI := ⟨0, 0, [], true, some [], .struct []⟩
def ty394 : TyI := ⟨1, 24, [.nils], false, none, .slice 397⟩
def ty397 : TyI := ⟨33, 280, [zu, zu, zu, zu, zu, zu, zu, zu, zu, zu, zu, zu, zu, zu, zu, zu, zu, zu, zu, zu, zu, zu, zu, zu, zu, zu, zu, zu, zu, zu, zu, zu, .nils], true, none, .struct [(0, 181), (24, 179), (32, 112)]⟩
def ty399 : TyI := ⟨1, 8, [.nilf], false, none, .func⟩
def ty403 : TyI := ⟨3, 24, [zi, zi, zi], true, some [.int .i64, .int .i64, .int .i64], .arr 3 2⟩
def ty405 : TyI := ⟨1, 24, [.nils], false, none, .slice 179⟩
def ty410 : TyI := ⟨1, 8, [.nilf], false, none, .func⟩
def ty412 : TyI := ⟨3, 24, [zi, zi, zi], true, some [.int .i64, .int .i64, .int .i64], .arr 3 22⟩
def ty414 : TyI := ⟨1, 8, [.nilf], false, none, .func⟩
def ty417 : TyI := ⟨1, 8, [.nilf], false, none, .func⟩
def ty419 : TyI := ⟨1, 24, [.nils], false, none, .slice 148⟩
def ty422 : TyI := ⟨1, 8, [zu], false, none, .int .u64⟩
def ty426 : TyI := ⟨1, 8, [.nilp], false, none, .ptr 3⟩
def ty435 : TyI := ⟨1, 8, [.nilf], false, none, .func⟩
def ty436 : TyI := ⟨1, 8, [.nilf], false, none, .func⟩
def ty441 : TyI := ⟨1, 24, [.nils], true, none, .struct [(0, 186)]⟩
def ty442 : TyI := ⟨1, 8, [.nilf], false, none, .func⟩
def ty446 : TyI := ⟨1, 8, [.nilp], false, none, .ptr 451⟩
def ty449 : TyI := ⟨1, 8, [.nilm], false, none, .map 181 397⟩
def ty451 : TyI := ⟨3, 56, [.nils, .nils, .nilm], true, none, .struct [(0, 186), (1, 112), (2, 449)]⟩
def ty453 : TyI := ⟨1, 8, [.nilf], false, none, .func⟩
def ty454 : TyI := ⟨1, 8, [.nilf], false, none, .func⟩
def ty456 : TyI := ⟨0, 0, [], true, some [], .struct []⟩
def ty458 : TyI := ⟨12, 96, [zi, zi, zi, zi, zi, zi, zi, zi, zi, zi, zi, zi], true, some [.int .i64, .int .i64, .int .i64, .int .i64, .int .i64, .int .i64, .int .i64, .int .i64, .int .i64, .int .i64, .int .i64, .int .i64], .arr 4 346⟩
def ty459 : TyI := ⟨48, 384, [zi, zi, zi, zi, zi, zi, zi, zi, zi, zi, zi, zi, zi, zi, zi, zi, zi, zi, zi, zi, zi, zi, zi, zi, zi, zi, zi, zi, zi, zi, zi, zi, zi, zi, zi, zi, zi, zi, zi, zi, zi, zi, zi, zi, zi, zi, zi, zi], true, some [.int .i64, .int .i64, .int .i64, .int .i64, .int .i64, .int .i64, .int .i64, .int .i64, .int .i64, .int .i64, .int .i64, .int .i64, .int .i64, .int .i64, .int .i64, .int .i64, .int .i64, .int .i64, .int .i64, .int .i64, .int .i64, .int .i64, .int .i64, .int .i64, .int .i64, .int .i64, .int .i64, .int .i64, .int .i64, .int .i64, .int .i64, .int .i64, .int .i64, .int .i64, .int .i64, .int .i64, .int .i64, .int .i64, .int .i64, .int .i64, .int .i64, .int .i64, .int .i64, .int .i64, .int .i64, .int .i64, .int .i64, .int .i64], .arr 4 458⟩
def ty460 : TyI := ⟨1, 8, [.nilp], false, none, .ptr 257⟩
def ty461 : TyI := ⟨1, 8, [.nilp], false, none, .ptr 422⟩
def ty466 : TyI := ⟨1, 8, [.nilf], false, none, .func⟩
def ty467 : TyI := ⟨1, 8, [.nilf], false, none, .func⟩
def ty469 : TyI := ⟨0, 0, [], true, some [], .struct []⟩
def ty471 : TyI := ⟨1, 8, [.nilf], false, none, .func⟩
def ty472 : TyI := ⟨1, 24, [.nils], false, none, .slice 112⟩
def ty477 : TyI := ⟨1, 8, [.nilp], false, none, .ptr 441⟩
def ty479 : TyI := ⟨1, 8, [.nilm], false, none, .map 95 3⟩
def ty481 : TyI := ⟨1, 8, [.nilf], false, none, .func⟩
def ty483 : TyI := ⟨9, 72, [zi, zi, zi, zi, zi, zi, zi, zi, zi], true, some [.int .i64, .int .i64, .int .i64, .int .i64, .int .i64, .int .i64, .int .i64, .int .i64, .int .i64], .arr 3 95⟩
def ty484 : TyI := ⟨1, 8, [.nilf], false, none, .func⟩
def ty487 : TyI := ⟨1, 24, [.nils], false, none, .slice 181⟩
def ty494 : TyI := ⟨1, 8, [.nilf], false, none, .func⟩
def ty496 : TyI := ⟨1, 8, [.nilf], false, none, .func⟩
def ty512 : TyI := ⟨1, 8, [.nilf], false, none, .func⟩
def ty515 : TyI := ⟨16, 128, [zu, zu, zu, zu, zu, zu, zu, zu, zu, zu, zu, zu, zu, zu, zu, zu], true, some [.int .u64, .int .u64, .int .u64, .int .u64, .int .u64, .int .u64, .int .u64, .int .u64, .int .u64, .int .u64, .int .u64, .int .u64, .int .u64, .int .u64, .int .u64, .int .u64], .arr 2 179⟩
def ty516 : TyI := ⟨48, 384, [zu, zu, zu, zu, zu, zu, zu, zu, zu, zu, zu, zu, zu, zu, zu, zu, zu, zu, zu, zu, zu, zu, zu, zu, zu, zu, zu, zu, zu, zu, zu, zu, zu, zu, zu, zu, zu, zu, zu, zu, zu, zu, zu, zu, zu, zu, zu, zu], true, some [.int .u64, .int .u64, .int .u64, .int .u64, .int .u64, .int .u64, .int .u64, .int .u64, .int .u64, .int .u64, .int .u64, .int .u64, .int .u64, .int .u64, .int .u64, .int .u64, .int .u64, .int .u64, .int .u64, .int .u64, .int .u64, .int .u64, .int .u64, .int .u64, .int .u64, .int .u64, .int .u64, .int .u64, .int .u64, .int .u64, .int .u64, .int .u64, .int .u64, .int .u64, .int .u64, .int .u64, .int .u64, .int .u64, .int .u64, .int .u64, .int .u64, .int .u64, .int .u64, .int .u64, .int .u64, .int .u64, .int .u64, .int .u64], .arr 3 515⟩
theorem tab_leaf {P : Program} {k : Nat} {ty : TyI} (h : TyOk P k ty) {t : Nat} {i : TyI} (e : cond (Nat.beq t k) (some ty) none = some i) : TyOk P t i := by
  cases hb : Nat.beq t k with
  | false => rw [hb] at e; cases e
  | true => rw [hb] at e; cases e; rw [Nat.eq_of_beq_eq_true hb]; exact h
theorem tab_node {P : Program} {a b : Option TyI} {c : Bool} {t : Nat} {i : TyI} (h1 : a = some i → TyOk P t i) (h2 : b = some i → TyOk P t i) (e : cond c a b = some i) : TyOk P t i := by
  cases c with
  | true => exact h1 e
  | false => exact h2 e
def tyTab : TTab := fun t => (cond (Nat.blt t 241) (cond (Nat.blt t 95) (cond (Nat.blt t 43) (cond (Nat.blt t 27) (cond (Nat.blt t 9) (cond (Nat.blt t 3) (cond (Nat.blt t 2) (cond (Nat.beq t 1) (some ty1) none) (cond (Nat.beq t 2) (some ty2) none)) (cond (Nat.blt t 4) (cond (Nat.beq t 3) (some ty3) none) (cond (Nat.blt t 5) (cond (Nat.beq t 4) (some ty4) none) (cond (Nat.beq t 5) (some ty5) none)))) (cond (Nat.blt t 22) (cond (Nat.blt t 20) (cond (Nat.beq t 9) (some ty9) none) (cond (Nat.beq t 20) (some ty20) none)) (cond (Nat.blt t 24) (cond (Nat.beq t 22) (some ty22) none) (cond (Nat.blt t 25) (cond (Nat.beq t 24) (some ty24) none) (cond (Nat.beq t 25) (some ty25) none))))) (cond (Nat.blt t 36) (cond (Nat.blt t 31) (cond (Nat.blt t 29) (cond (Nat.beq t 27) (some ty27) none) (cond (Nat.beq t 29) (some ty29) none)) (cond (Nat.blt t 33) (cond (Nat.beq t 31) (some ty31) none) (cond (Nat.blt t 35) (cond (Nat.beq t 33) (some ty33) none) (cond (Nat.beq t 35) (some ty35) none)))) (cond (Nat.blt t 39) (cond (Nat.blt t 37) (cond (Nat.beq t 36) (some ty36) none) (cond (Nat.beq t 37) (some ty37) none)) (cond (Nat.blt t 40) (cond (Nat.beq t 39) (some ty39) none) (cond (Nat.blt t 41) (cond (Nat.beq t 40) (some ty40) none) (cond (Nat.beq t 41) (some ty41) none)))))) (cond (Nat.blt t 70) (cond (Nat.blt t 58) (cond (Nat.blt t 47) (cond (Nat.blt t 44) (cond (Nat.beq t 43) (some ty43) none) (cond (Nat.beq t 44) (some ty44) none)) (cond (Nat.blt t 48) (cond (Nat.beq t 47) (some ty47) none) (cond (Nat.blt t 50) (cond (Nat.beq t 48) (some ty48) none) (cond (Nat.beq t 50) (some ty50) none)))) (cond (Nat.blt t 66) (cond (Nat.blt t 64) (cond (Nat.beq t 58) (some ty58) none) (cond (Nat.beq t 64) (some ty64) none)) (cond (Nat.blt t 67) (cond (Nat.beq t 66) (some ty66) none) (cond (Nat.blt t 68) (cond (Nat.beq t 67) (some ty67) none) (cond (Nat.beq t 68) (some ty68) none))))) (cond (Nat.blt t 79) (cond (Nat.blt t 72) (cond (Nat.blt t 71) (cond (Nat.beq t 70) (some ty70) none) (cond (Nat.beq t 71) (some ty71) none)) (cond (Nat.blt t 77) (cond (Nat.beq t 72) (some ty72) none) (cond (Nat.blt t 78) (cond (Nat.beq t 77) (some ty77) none) (cond (Nat.beq t 78) (some ty78) none)))) (cond (Nat.blt t 83) (cond (Nat.blt t 81) (cond (Nat.beq t 79) (some ty79) none) (cond (Nat.beq t 81) (some ty81) none)) (cond (Nat.blt t 91) (cond (Nat.beq t 83) (some ty83) none) (cond (Nat.blt t 93) (cond (Nat.beq t 91) (some ty91) none) (cond (Nat.beq t 93) (some ty93) none))))))) (cond (Nat.blt t 170) (cond (Nat.blt t 122) (cond (Nat.blt t 110) (cond (Nat.blt t 105) (cond (Nat.blt t 97) (cond (Nat.beq t 95) (some ty95) none) (cond (Nat.beq t 97) (some ty97) none)) (cond (Nat.blt t 107) (cond (Nat.beq t 105) (some ty105) none) (cond (Nat.blt t 108) (cond (Nat.beq t 107) (some ty107) none) (cond (Nat.beq t 108) (some ty108) none)))) (cond (Nat.blt t 114) (cond (Nat.blt t 112) (cond (Nat.beq t 110) (some ty110) none) (cond (Nat.beq t 112) (some ty112) none)) (cond (Nat.blt t 115) (cond (Nat.beq t 114) (some ty114) none) (cond (Nat.blt t 119) (cond (Nat.beq t 115) (some ty115) none) (cond (Nat.beq t 119) (some ty119) none))))) (cond (Nat.blt t 144) (cond (Nat.blt t 133) (cond (Nat.blt t 127) (cond (Nat.beq t 122) (some ty122) none) (cond (Nat.beq t 127) (some ty127) none)) (cond (Nat.blt t 135) (cond (Nat.beq t 133) (some ty133) none) (cond (Nat.blt t 140) (cond (Nat.beq t 135) (some ty135) none) (cond (Nat.beq t 140) (some ty140) none)))) (cond (Nat.blt t 155) (cond (Nat.blt t 148) (cond (Nat.beq t 144) (some ty144) none) (cond (Nat.beq t 148) (some ty148) none)) (cond (Nat.blt t 157) (cond (Nat.beq t 155) (some ty155) none) (cond (Nat.blt t 163) (cond (Nat.beq t 157) (some ty157) none) (cond (Nat.beq t 163) (some ty163) none)))))) (cond (Nat.blt t 202) (cond (Nat.blt t 181) (cond (Nat.blt t 176) (cond (Nat.blt t 175) (cond (Nat.beq t 170) (some ty170) none) (cond (Nat.beq t 175) (some ty175) none)) (cond (Nat.blt t 177) (cond (Nat.beq t 176) (some ty176) none) (cond (Nat.blt t 179) (cond (Nat.beq t 177) (some ty177) none) (cond (Nat.beq t 179) (some ty179) none)))) (cond (Nat.blt t 185) (cond (Nat.blt t 183) (cond (Nat.beq t 181) (some ty181) none) (cond (Nat.beq t 183) (some ty183) none)) (cond (Nat.blt t 186) (cond (Nat.beq t 185) (some ty185) none) (cond (Nat.blt t 192) (cond (Nat.beq t 186) (some ty186) none) (cond (Nat.beq t 192) (some ty192) none))))) (cond (Nat.blt t 220) (cond (Nat.blt t 209) (cond (Nat.blt t 206) (cond (Nat.beq t 202) (some ty202) none) (cond (Nat.beq t 206) (some ty206) none)) (cond (Nat.blt t 216) (cond (Nat.beq t 209) (some ty209) none) (cond (Nat.blt t 217) (cond (Nat.beq t 216) (some ty216) none) (cond (Nat.beq t 217) (some ty217) none)))) (cond (Nat.blt t 230) (cond (Nat.blt t 223) (cond (Nat.beq t 220) (some ty220) none) (cond (Nat.blt t 225) (cond (Nat.beq t 223) (some ty223) none) (cond (Nat.beq t 225) (some ty225) none))) (cond (Nat.blt t 235) (cond (Nat.beq t 230) (some ty230) none) (cond (Nat.blt t 237) (cond (Nat.beq t 235) (some ty235) none) (cond (Nat.beq t 237) (some ty237) none)))))))) (cond (Nat.blt t 397) (cond (Nat.blt t 342) (cond (Nat.blt t 294) (cond (Nat.blt t 253) (cond (Nat.blt t 247) (cond (Nat.blt t 243) (cond (Nat.beq t 241) (some ty241) none) (cond (Nat.beq t 243) (some ty243) none)) (cond (Nat.blt t 249) (cond (Nat.beq t 247) (some ty247) none) (cond (Nat.blt t 251) (cond (Nat.beq t 249) (some ty249) none) (cond (Nat.beq t 251) (some ty251) none)))) (cond (Nat.blt t 267) (cond (Nat.blt t 257) (cond (Nat.beq t 253) (some ty253) none) (cond (Nat.beq t 257) (some ty257) none)) (cond (Nat.blt t 280) (cond (Nat.beq t 267) (some ty267) none) (cond (Nat.blt t 292) (cond (Nat.beq t 280) (some ty280) none) (cond (Nat.beq t 292) (some ty292) none))))) (cond (Nat.blt t 319) (cond (Nat.blt t 297) (cond (Nat.blt t 296) (cond (Nat.beq t 294) (some ty294) none) (cond (Nat.beq t 296) (some ty296) none)) (cond (Nat.blt t 299) (cond (Nat.beq t 297) (some ty297) none) (cond (Nat.blt t 310) (cond (Nat.beq t 299) (some ty299) none) (cond (Nat.beq t 310) (some ty310) none)))) (cond (Nat.blt t 325) (cond (Nat.blt t 324) (cond (Nat.beq t 319) (some ty319) none) (cond (Nat.beq t 324) (some ty324) none)) (cond (Nat.blt t 333) (cond (Nat.beq t 325) (some ty325) none) (cond (Nat.blt t 336) (cond (Nat.beq t 333) (some ty333) none) (cond (Nat.beq t 336) (some ty336) none)))))) (cond (Nat.blt t 371) (cond (Nat.blt t 351) (cond (Nat.blt t 347) (cond (Nat.blt t 346) (cond (Nat.beq t 342) (some ty342) none) (cond (Nat.beq t 346) (some ty346) none)) (cond (Nat.blt t 348) (cond (Nat.beq t 347) (some ty347) none) (cond (Nat.blt t 349) (cond (Nat.beq t 348) (some ty348) none) (cond (Nat.beq t 349) (some ty349) none)))) (cond (Nat.blt t 356) (cond (Nat.blt t 353) (cond (Nat.beq t 351) (some ty351) none) (cond (Nat.beq t 353) (some ty353) none)) (cond (Nat.blt t 360) (cond (Nat.beq t 356) (some ty356) none) (cond (Nat.blt t 368) (cond (Nat.beq t 360) (some ty360) none) (cond (Nat.beq t 368) (some ty368) none))))) (cond (Nat.blt t 379) (cond (Nat.blt t 375) (cond (Nat.blt t 374) (cond (Nat.beq t 371) (some ty371) none) (cond (Nat.beq t 374) (some ty374) none)) (cond (Nat.blt t 376) (cond (Nat.beq t 375) (some ty375) none) (cond (Nat.blt t 378) (cond (Nat.beq t 376) (some ty376) none) (cond (Nat.beq t 378) (some ty378) none)))) (cond (Nat.blt t 383) (cond (Nat.blt t 381) (cond (Nat.beq t 379) (some ty379) none) (cond (Nat.beq t 381) (some ty381) none)) (cond (Nat.blt t 389) (cond (Nat.beq t 383) (some ty383) none) (cond (Nat.blt t 394) (cond (Nat.beq t 389) (some ty389) none) (cond (Nat.beq t 394) (some ty394) none))))))) (cond (Nat.blt t 456) (cond (Nat.blt t 426) (cond (Nat.blt t 412) (cond (Nat.blt t 403) (cond (Nat.blt t 399) (cond (Nat.beq t 397) (some ty397) none) (cond (Nat.beq t 399) (some ty399) none)) (cond (Nat.blt t 405) (cond (Nat.beq t 403) (some ty403) none) (cond (Nat.blt t 410) (cond (Nat.beq t 405) (some ty405) none) (cond (Nat.beq t 410) (some ty410) none)))) (cond (Nat.blt t 417) (cond (Nat.blt t 414) (cond (Nat.beq t 412) (some ty412) none) (cond (Nat.beq t 414) (some ty414) none)) (cond (Nat.blt t 419) (cond (Nat.beq t 417) (some ty417) none) (cond (Nat.blt t 422) (cond (Nat.beq t 419) (some ty419) none) (cond (Nat.beq t 422) (some ty422) none))))) (cond (Nat.blt t 446) (cond (Nat.blt t 436) (cond (Nat.blt t 435) (cond (Nat.beq t 426) (some ty426) none) (cond (Nat.beq t 435) (some ty435) none)) (cond (Nat.blt t 441) (cond (Nat.beq t 436) (some ty436) none) (cond (Nat.blt t 442) (cond (Nat.beq t 441) (some ty441) none) (cond (Nat.beq t 442) (some ty442) none)))) (cond (Nat.blt t 451) (cond (Nat.blt t 449) (cond (Nat.beq t 446) (some ty446) none) (cond (Nat.beq t 449) (some ty449) none)) (cond (Nat.blt t 453) (cond (Nat.beq t 451) (some ty451) none) (cond (Nat.blt t 454) (cond (Nat.beq t 453) (some ty453) none) (cond (Nat.beq t 454) (some ty454) none)))))) (cond (Nat.blt t 477) (cond (Nat.blt t 466) (cond (Nat.blt t 459) (cond (Nat.blt t 458) (cond (Nat.beq t 456) (some ty456) none) (cond (Nat.beq t 458) (some ty458) none)) (cond (Nat.blt t 460) (cond (Nat.beq t 459) (some ty459) none) (cond (Nat.blt t 461) (cond (Nat.beq t 460) (some ty460) none) (cond (Nat.beq t 461) (some ty461) none)))) (cond (Nat.blt t 469) (cond (Nat.blt t 467) (cond (Nat.beq t 466) (some ty466) none) (cond (Nat.beq t 467) (some ty467) none)) (cond (Nat.blt t 471) (cond (Nat.beq t 469) (some ty469) none) (cond (Nat.blt t 472) (cond (Nat.beq t 471) (some ty471) none) (cond (Nat.beq t 472) (some ty472) none))))) (cond (Nat.blt t 487) (cond (Nat.blt t 481) (cond (Nat.blt t 479) (cond (Nat.beq t 477) (some ty477) none) (cond (Nat.beq t 479) (some ty479) none)) (cond (Nat.blt t 483) (cond (Nat.beq t 481) (some ty481) none) (cond (Nat.blt t 484) (cond (Nat.beq t 483) (some ty483) none) (cond (Nat.beq t 484) (some ty484) none)))) (cond (Nat.blt t 512) (cond (Nat.blt t 494) (cond (Nat.beq t 487) (some ty487) none) (cond (Nat.blt t 496) (cond (Nat.beq t 494) (some ty494) none) (cond (Nat.beq t 496) (some ty496) none))) (cond (Nat.blt t 515) (cond (Nat.beq t 512) (some ty512) none) (cond (Nat.blt t 516) (cond (Nat.beq t 515) (some ty515) none) (cond (Nat.beq t 516) (some ty516) none)))))))))
theorem ty1_ok : TyOk Tryz.prog 1 ty1 :=
  ⟨⟨Tryz.t1, by kernel_rfl, rfl, rfl, _, rfl, fun _ => rfl⟩, rfl, by decide, rfl, ⟨_, _, _, Tryz.underlying1⟩, rfl, nofun⟩
theorem ty2_ok : TyOk Tryz.prog 2 ty2 :=
  ⟨⟨Tryz.t2, by kernel_rfl, rfl, rfl, _, rfl, fun _ => rfl⟩, rfl, by decide, rfl, Tryz.underlying2, rfl, nofun⟩
theorem ty3_ok : TyOk Tryz.prog 3 ty3 :=
  ⟨⟨Tryz.t3, by kernel_rfl, rfl, rfl, _, rfl, fun _ => rfl⟩, rfl, by decide, rfl, Tryz.underlying3, rfl, nofun⟩
theorem ty4_ok : TyOk Tryz.prog 4 ty4 :=
  ⟨⟨Tryz.t4, by kernel_rfl, rfl, rfl, _, rfl, fun _ => rfl⟩, rfl, by decide, rfl, Tryz.underlying4, rfl, nofun⟩
theorem ty5_ok : TyOk Tryz.prog 5 ty5 :=
  ⟨⟨Tryz.t5, by kernel_rfl, rfl, rfl, _, rfl, fun _ => rfl⟩, rfl, by decide, rfl, Tryz.underlying5, rfl, nofun⟩
theorem ty9_ok : TyOk Tryz.prog 9 ty9 :=
  ⟨⟨Tryz.t9, by kernel_rfl, rfl, rfl, _, rfl, fun _ => rfl⟩, rfl, by decide, rfl, Tryz.underlying9, rfl, nofun⟩
theorem ty20_ok : TyOk Tryz.prog 20 ty20 :=
  ⟨⟨Tryz.t20, by kernel_rfl, rfl, rfl, _, rfl, fun _ => rfl⟩, rfl, by decide, rfl, ⟨_, Tryz.underlying20⟩, rfl, nofun⟩
theorem ty22_ok : TyOk Tryz.prog 22 ty22 :=
  ⟨⟨Tryz.t22, by kernel_rfl, rfl, rfl, _, rfl, fun _ => rfl⟩, rfl, by decide, rfl, Tryz.underlying22, rfl, nofun⟩
theorem ty24_ok : TyOk Tryz.prog 24 ty24 :=
  ⟨⟨Tryz.t24, by kernel_rfl, rfl, rfl, _, rfl, fun _ => rfl⟩, rfl, by decide, rfl, ⟨_, Tryz.underlying24, rfl⟩, rfl, fun ks h => flatOk_of (d := 12) (by decide) (by cases h; kernel_rfl) Tryz.eqGuardType24 (by rw [Tryz.underlying24])⟩
theorem ty25_ok : TyOk Tryz.prog 25 ty25 :=
  ⟨⟨Tryz.t25, by kernel_rfl, rfl, rfl, _, rfl, fun _ => rfl⟩, rfl, by decide, rfl, Tryz.underlying25, rfl, nofun⟩
theorem ty27_ok : TyOk Tryz.prog 27 ty27 :=
  ⟨⟨Tryz.t27, by kernel_rfl, rfl, rfl, _, rfl, fun _ => rfl⟩, rfl, by decide, rfl, ⟨_, Tryz.underlying27, rfl⟩, rfl, nofun⟩
theorem ty29_ok : TyOk Tryz.prog 29 ty29 :=
  ⟨⟨Tryz.t29, by kernel_rfl, rfl, rfl, _, rfl, fun _ => rfl⟩, rfl, by decide, rfl, ⟨_, Tryz.underlying29, rfl⟩, rfl, fun ks h => flatOk_of (d := 12) (by decide) (by cases h; kernel_rfl) Tryz.eqGuardType29 (by rw [Tryz.underlying29])⟩
theorem ty31_ok : TyOk Tryz.prog 31 ty31 :=
  ⟨⟨Tryz.t31, by kernel_rfl, rfl, rfl, _, rfl, fun _ => rfl⟩, rfl, by decide, rfl, ⟨_, Tryz.underlying31, rfl⟩, rfl, fun ks h => flatOk_of (d := 12) (by decide) (by cases h; kernel_rfl) Tryz.eqGuardType31 (by rw [Tryz.underlying31])⟩
theorem ty33_ok : TyOk Tryz.prog 33 ty33 :=
  ⟨⟨Tryz.t33, by kernel_rfl, rfl, rfl, _, rfl, fun _ => rfl⟩, rfl, by decide, rfl, ⟨_, Tryz.underlying33, rfl⟩, rfl, nofun⟩
theorem ty35_ok : TyOk Tryz.prog 35 ty35 :=
  ⟨⟨Tryz.t35, by kernel_rfl, rfl, rfl, _, rfl, fun _ => rfl⟩, rfl, by decide, rfl, ⟨_, Tryz.underlying35, rfl⟩, rfl, nofun⟩
theorem ty36_ok : TyOk Tryz.prog 36 ty36 :=
  ⟨⟨Tryz.t36, by kernel_rfl, rfl, rfl, _, rfl, fun _ => rfl⟩, rfl, by decide, rfl, Tryz.underlying36, rfl, nofun⟩
theorem ty37_ok : TyOk Tryz.prog 37 ty37 :=
  ⟨⟨Tryz.t37, by kernel_rfl, rfl, rfl, _, rfl, fun _ => rfl⟩, rfl, by decide, rfl, Tryz.underlying37, rfl, nofun⟩
theorem ty39_ok : TyOk Tryz.prog 39 ty39 :=
  ⟨⟨Tryz.t39, by kernel_rfl, rfl, rfl, _, rfl, fun _ => rfl⟩, rfl, by decide, rfl, ⟨_, Tryz.underlying39, rfl⟩, rfl, fun ks h => flatOk_of (d := 12) (by decide) (by cases h; kernel_rfl) Tryz.eqGuardType39 (by rw [Tryz.underlying39])⟩
theorem ty40_ok : TyOk Tryz.prog 40 ty40 :=
  ⟨⟨Tryz.t40, by kernel_rfl, rfl, rfl, _, rfl, fun _ => rfl⟩, rfl, by decide, rfl, Tryz.underlying40, rfl, nofun⟩
theorem ty41_ok : TyOk Tryz.prog 41 ty41 :=
  ⟨⟨Tryz.t41, by kernel_rfl, rfl, rfl, _, rfl, fun _ => rfl⟩, rfl, by decide, rfl, Tryz.underlying41, rfl, nofun⟩
theorem ty43_ok : TyOk Tryz.prog 43 ty43 :=
  ⟨⟨Tryz.t43, by kernel_rfl, rfl, rfl, _, rfl, fun _ => rfl⟩, rfl, by decide, rfl, ⟨_, Tryz.underlying43, rfl⟩, rfl, nofun⟩
theorem ty44_ok : TyOk Tryz.prog 44 ty44 :=
  ⟨⟨Tryz.t44, by kernel_rfl, rfl, rfl, _, rfl, fun _ => rfl⟩, rfl, by decide, rfl, Tryz.underlying44, rfl, nofun⟩
theorem ty47_ok : TyOk Tryz.prog 47 ty47 :=
  ⟨⟨Tryz.t47, by kernel_rfl, rfl, rfl, _, rfl, fun _ => rfl⟩, rfl, by decide, rfl, Tryz.underlying47, rfl, nofun⟩
theorem ty48_ok : TyOk Tryz.prog 48 ty48 :=
  ⟨⟨Tryz.t48, by kernel_rfl, rfl, rfl, _, rfl, fun _ => rfl⟩, rfl, by decide, rfl, Tryz.underlying48, rfl, nofun⟩
theorem ty50_ok : TyOk Tryz.prog 50 ty50 :=
  ⟨⟨Tryz.t50, by kernel_rfl, rfl, rfl, _, rfl, fun _ => rfl⟩, rfl, by decide, rfl, ⟨_, Tryz.underlying50, rfl⟩, rfl, nofun⟩
theorem ty58_ok : TyOk Tryz.prog 58 ty58 :=
  ⟨⟨Tryz.t58, by kernel_rfl, rfl, rfl, _, rfl, fun _ => rfl⟩, rfl, by decide, rfl, Tryz.underlying58, rfl, nofun⟩
theorem ty64_ok : TyOk Tryz.prog 64 ty64 :=
  ⟨⟨Tryz.t64, by kernel_rfl, rfl, rfl, _, rfl, fun _ => rfl⟩, rfl, by decide, rfl, Tryz.underlying64, rfl, nofun⟩
theorem ty66_ok : TyOk Tryz.prog 66 ty66 :=
  ⟨⟨Tryz.t66, by kernel_rfl, rfl, rfl, _, rfl, fun _ => rfl⟩, rfl, by decide, rfl, Tryz.underlying66, rfl, nofun⟩
theorem ty67_ok : TyOk Tryz.prog 67 ty67 :=
  ⟨⟨Tryz.t67, by kernel_rfl, rfl, rfl, _, rfl, fun _ => rfl⟩, rfl, by decide, rfl, Tryz.underlying67, rfl, nofun⟩
theorem ty68_ok : TyOk Tryz.prog 68 ty68 :=
  ⟨⟨Tryz.t68, by kernel_rfl, rfl, rfl, _, rfl, fun _ => rfl⟩, rfl, by decide, rfl, Tryz.underlying68, rfl, nofun⟩
theorem ty70_ok : TyOk Tryz.prog 70 ty70 :=
  ⟨⟨Tryz.t70, by kernel_rfl, rfl, rfl, _, rfl, fun _ => rfl⟩, rfl, by decide, rfl, ⟨_, Tryz.underlying70, rfl⟩, rfl, nofun⟩
theorem ty71_ok : TyOk Tryz.prog 71 ty71 :=
  ⟨⟨Tryz.t71, by kernel_rfl, rfl, rfl, _, rfl, fun _ => rfl⟩, rfl, by decide, rfl, ⟨_, _, _, Tryz.underlying71⟩, rfl, nofun⟩
theorem ty72_ok : TyOk Tryz.prog 72 ty72 :=
  ⟨⟨Tryz.t72, by kernel_rfl, rfl, rfl, _, rfl, fun _ => rfl⟩, rfl, by decide, rfl, Tryz.underlying72, rfl, nofun⟩
theorem ty77_ok : TyOk Tryz.prog 77 ty77 :=
  ⟨⟨Tryz.t77, by kernel_rfl, rfl, rfl, _, rfl, fun _ => rfl⟩, rfl, by decide, rfl, ⟨_, Tryz.underlying77, rfl⟩, rfl, fun ks h => flatOk_of (d := 12) (by decide) (by cases h; kernel_rfl) Tryz.eqGuardType77 (by rw [Tryz.underlying77])⟩
theorem ty78_ok : TyOk Tryz.prog 78 ty78 :=
  ⟨⟨Tryz.t78, by kernel_rfl, rfl, rfl, _, rfl, fun _ => rfl⟩, rfl, by decide, rfl, ⟨_, _, _, Tryz.underlying78⟩, rfl, nofun⟩
theorem ty79_ok : TyOk Tryz.prog 79 ty79 :=
  ⟨⟨Tryz.t79, by kernel_rfl, rfl, rfl, _, rfl, fun _ => rfl⟩, rfl, by decide, rfl, Tryz.underlying79, rfl, fun ks h => flatOk_of (d := 12) (by decide) (by cases h; kernel_rfl) Tryz.eqGuardType79 (by rw [Tryz.underlying79])⟩
theorem ty81_ok : TyOk Tryz.prog 81 ty81 :=
  ⟨⟨Tryz.t81, by kernel_rfl, rfl, rfl, _, rfl, fun _ => rfl⟩, rfl, by decide, rfl, ⟨_, Tryz.underlying81, rfl⟩, rfl, fun ks h => flatOk_of (d := 12) (by decide) (by cases h; kernel_rfl) Tryz.eqGuardType81 (by rw [Tryz.underlying81])⟩
theorem ty83_ok : TyOk Tryz.prog 83 ty83 :=
  ⟨⟨Tryz.t83, by kernel_rfl, rfl, rfl, _, rfl, fun _ => rfl⟩, rfl, by decide, rfl, ⟨_, Tryz.underlying83, rfl⟩, rfl, fun ks h => flatOk_of (d := 12) (by decide) (by cases h; kernel_rfl) Tryz.eqGuardType83 (by rw [Tryz.underlying83])⟩
theorem ty91_ok : TyOk Tryz.prog 91 ty91 :=
  ⟨⟨Tryz.t91, by kernel_rfl, rfl, rfl, _, rfl, fun _ => rfl⟩, rfl, by decide, rfl, ⟨_, Tryz.underlying91, rfl⟩, rfl, fun ks h => flatOk_of (d := 12) (by decide) (by cases h; kernel_rfl) Tryz.eqGuardType91 (by rw [Tryz.underlying91])⟩
theorem ty93_ok : TyOk Tryz.prog 93 ty93 :=
  ⟨⟨Tryz.t93, by kernel_rfl, rfl, rfl, _, rfl, fun _ => rfl⟩, rfl, by decide, rfl, ⟨_, Tryz.underlying93, rfl⟩, rfl, fun ks h => flatOk_of (d := 12) (by decide) (by cases h; kernel_rfl) Tryz.eqGuardType93 (by rw [Tryz.underlying93])⟩
theorem ty95_ok : TyOk Tryz.prog 95 ty95 :=
  ⟨⟨Tryz.t95, by kernel_rfl, rfl, rfl, _, rfl, fun _ => rfl⟩, rfl, by decide, rfl, ⟨_, Tryz.underlying95, rfl⟩, rfl, fun ks h => flatOk_of (d := 12) (by decide) (by cases h; kernel_rfl) Tryz.eqGuardType95 (by rw [Tryz.underlying95])⟩
theorem ty97_ok : TyOk Tryz.prog 97 ty97 :=
  ⟨⟨Tryz.t97, by kernel_rfl, rfl, rfl, _, rfl, fun _ => rfl⟩, rfl, by decide, rfl, ⟨_, Tryz.underlying97, rfl⟩, rfl, fun ks h => flatOk_of (d := 12) (by decide) (by cases h; kernel_rfl) Tryz.eqGuardType97 (by rw [Tryz.underlying97])⟩
theorem ty105_ok : TyOk Tryz.prog 105 ty105 :=
  ⟨⟨Tryz.t105, by kernel_rfl, rfl, rfl, _, rfl, fun _ => rfl⟩, rfl, by decide, rfl, Tryz.underlying105, rfl, nofun⟩
theorem ty107_ok : TyOk Tryz.prog 107 ty107 :=
  ⟨⟨Tryz.t107, by kernel_rfl, rfl, rfl, _, rfl, fun _ => rfl⟩, rfl, by decide, rfl, ⟨_, Tryz.underlying107, rfl⟩, rfl, nofun⟩
theorem ty108_ok : TyOk Tryz.prog 108 ty108 :=
  ⟨⟨Tryz.t108, by kernel_rfl, rfl, rfl, _, rfl, fun _ => rfl⟩, rfl, by decide, rfl, Tryz.underlying108, rfl, nofun⟩
theorem ty110_ok : TyOk Tryz.prog 110 ty110 :=
  ⟨⟨Tryz.t110, by kernel_rfl, rfl, rfl, _, rfl, fun _ => rfl⟩, rfl, by decide, rfl, ⟨_, Tryz.underlying110, rfl⟩, rfl, nofun⟩
theorem ty112_ok : TyOk Tryz.prog 112 ty112 :=
  ⟨⟨Tryz.t112, by kernel_rfl, rfl, rfl, _, rfl, fun _ => rfl⟩, rfl, by decide, rfl, Tryz.underlying112, rfl, nofun⟩
theorem ty114_ok : TyOk Tryz.prog 114 ty114 :=
  ⟨⟨Tryz.t114, by kernel_rfl, rfl, rfl, _, rfl, fun _ => rfl⟩, rfl, by decide, rfl, ⟨_, _, _, Tryz.underlying114⟩, rfl, nofun⟩
theorem ty115_ok : TyOk Tryz.prog 115 ty115 :=
  ⟨⟨Tryz.t115, by kernel_rfl, rfl, rfl, _, rfl, fun _ => rfl⟩, rfl, by decide, rfl, ⟨_, _, _, Tryz.underlying115⟩, rfl, nofun⟩
theorem ty119_ok : TyOk Tryz.prog 119 ty119 :=
  ⟨⟨Tryz.t119, by kernel_rfl, rfl, rfl, _, rfl, fun _ => rfl⟩, rfl, by decide, rfl, ⟨_, Tryz.underlying119, rfl⟩, rfl, fun ks h => flatOk_of (d := 12) (by decide) (by cases h; kernel_rfl) Tryz.eqGuardType119 (by rw [Tryz.underlying119])⟩
theorem ty122_ok : TyOk Tryz.prog 122 ty122 :=
  ⟨⟨Tryz.t122, by kernel_rfl, rfl, rfl, _, rfl, fun _ => rfl⟩, rfl, by decide, rfl, Tryz.underlying122, rfl, nofun⟩
theorem ty127_ok : TyOk Tryz.prog 127 ty127 :=
  ⟨⟨Tryz.t127, by kernel_rfl, rfl, rfl, _, rfl, fun _ => rfl⟩, rfl, by decide, rfl, ⟨_, Tryz.underlying127, rfl⟩, rfl, fun ks h => flatOk_of (d := 12) (by decide) (by cases h; kernel_rfl) Tryz.eqGuardType127 (by rw [Tryz.underlying127])⟩
theorem ty133_ok : TyOk Tryz.prog 133 ty133 :=
  ⟨⟨Tryz.t133, by kernel_rfl, rfl, rfl, _, rfl, fun _ => rfl⟩, rfl, by decide, rfl, ⟨_, _, _, Tryz.underlying133⟩, rfl, nofun⟩
theorem ty135_ok : TyOk Tryz.prog 135 ty135 :=
  ⟨⟨Tryz.t135, by kernel_rfl, rfl, rfl, _, rfl, fun _ => rfl⟩, rfl, by decide, rfl, ⟨_, Tryz.underlying135, rfl⟩, rfl, fun ks h => flatOk_of (d := 12) (by decide) (by cases h; kernel_rfl) Tryz.eqGuardType135 (by rw [Tryz.underlying135])⟩
theorem ty140_ok : TyOk Tryz.prog 140 ty140 :=
  ⟨⟨Tryz.t140, by kernel_rfl, rfl, rfl, _, rfl, fun _ => rfl⟩, rfl, by decide, rfl, Tryz.underlying140, rfl, nofun⟩
theorem ty144_ok : TyOk Tryz.prog 144 ty144 :=
  ⟨⟨Tryz.t144, by kernel_rfl, rfl, rfl, _, rfl, fun _ => rfl⟩, rfl, by decide, rfl, Tryz.underlying144, rfl, nofun⟩
theorem ty148_ok : TyOk Tryz.prog 148 ty148 :=
  ⟨⟨Tryz.t148, by kernel_rfl, rfl, rfl, _, rfl, fun _ => rfl⟩, rfl, by decide, rfl, ⟨_, Tryz.underlying148, rfl⟩, rfl, fun ks h => flatOk_of (d := 12) (by decide) (by cases h; kernel_rfl) Tryz.eqGuardType148 (by rw [Tryz.underlying148])⟩
theorem ty155_ok : TyOk Tryz.prog 155 ty155 :=
  ⟨⟨Tryz.t155, by kernel_rfl, rfl, rfl, _, rfl, fun _ => rfl⟩, rfl, by decide, rfl, ⟨_, Tryz.underlying155, rfl⟩, rfl, nofun⟩
theorem ty157_ok : TyOk Tryz.prog 157 ty157 :=
  ⟨⟨Tryz.t157, by kernel_rfl, rfl, rfl, _, rfl, fun _ => rfl⟩, rfl, by decide, rfl, ⟨_, Tryz.underlying157, rfl⟩, rfl, fun ks h => flatOk_of (d := 12) (by decide) (by cases h; kernel_rfl) Tryz.eqGuardType157 (by rw [Tryz.underlying157])⟩
theorem ty163_ok : TyOk Tryz.prog 163 ty163 :=
  ⟨⟨Tryz.t163, by kernel_rfl, rfl, rfl, _, rfl, fun _ => rfl⟩, rfl, by decide, rfl, ⟨_, _, _, Tryz.underlying163⟩, rfl, nofun⟩
theorem ty170_ok : TyOk Tryz.prog 170 ty170 :=
  ⟨⟨Tryz.t170, by kernel_rfl, rfl, rfl, _, rfl, fun _ => rfl⟩, rfl, by decide, rfl, ⟨_, Tryz.underlying170, rfl⟩, rfl, fun ks h => flatOk_of (d := 12) (by decide) (by cases h; kernel_rfl) Tryz.eqGuardType170 (by rw [Tryz.underlying170])⟩
theorem ty175_ok : TyOk Tryz.prog 175 ty175 :=
  ⟨⟨Tryz.t175, by kernel_rfl, rfl, rfl, _, rfl, fun _ => rfl⟩, rfl, by decide, rfl, ⟨_, _, _, Tryz.underlying175⟩, rfl, nofun⟩
theorem ty176_ok : TyOk Tryz.prog 176 ty176 :=
  ⟨⟨Tryz.t176, by kernel_rfl, rfl, rfl, _, rfl, fun _ => rfl⟩, rfl, by decide, rfl, Tryz.underlying176, rfl, nofun⟩
theorem ty177_ok : TyOk Tryz.prog 177 ty177 :=
  ⟨⟨Tryz.t177, by kernel_rfl, rfl, rfl, _, rfl, fun _ => rfl⟩, rfl, by decide, rfl, Tryz.underlying177, rfl, fun ks h => flatOk_of (d := 12) (by decide) (by cases h; kernel_rfl) Tryz.eqGuardType177 (by rw [Tryz.underlying177])⟩
theorem ty179_ok : TyOk Tryz.prog 179 ty179 :=
  ⟨⟨Tryz.t179, by kernel_rfl, rfl, rfl, _, rfl, fun _ => rfl⟩, rfl, by decide, rfl, ⟨_, Tryz.underlying179, rfl⟩, rfl, fun ks h => flatOk_of (d := 12) (by decide) (by cases h; kernel_rfl) Tryz.eqGuardType179 (by rw [Tryz.underlying179])⟩
theorem ty181_ok : TyOk Tryz.prog 181 ty181 :=
  ⟨⟨Tryz.t181, by kernel_rfl, rfl, rfl, _, rfl, fun _ => rfl⟩, rfl, by decide, rfl, ⟨_, Tryz.underlying181, rfl⟩, rfl, fun ks h => flatOk_of (d := 12) (by decide) (by cases h; kernel_rfl) Tryz.eqGuardType181 (by rw [Tryz.underlying181])⟩
theorem ty183_ok : TyOk Tryz.prog 183 ty183 :=
  ⟨⟨Tryz.t183, by kernel_rfl, rfl, rfl, _, rfl, fun _ => rfl⟩, rfl, by decide, rfl, ⟨_, Tryz.underlying183, rfl⟩, rfl, nofun⟩
theorem ty185_ok : TyOk Tryz.prog 185 ty185 :=
  ⟨⟨Tryz.t185, by kernel_rfl, rfl, rfl, _, rfl, fun _ => rfl⟩, rfl, by decide, rfl, ⟨_, Tryz.underlying185, rfl⟩, rfl, fun ks h => flatOk_of (d := 12) (by decide) (by cases h; kernel_rfl) Tryz.eqGuardType185 (by rw [Tryz.underlying185])⟩
theorem ty186_ok : TyOk Tryz.prog 186 ty186 :=
  ⟨⟨Tryz.t186, by kernel_rfl, rfl, rfl, _, rfl, fun _ => rfl⟩, rfl, by decide, rfl, Tryz.underlying186, rfl, nofun⟩
theorem ty192_ok : TyOk Tryz.prog 192 ty192 :=
  ⟨⟨Tryz.t192, by kernel_rfl, rfl, rfl, _, rfl, fun _ => rfl⟩, rfl, by decide, rfl, ⟨_, _, _, Tryz.underlying192⟩, rfl, nofun⟩
theorem ty202_ok : TyOk Tryz.prog 202 ty202 :=
  ⟨⟨Tryz.t202, by kernel_rfl, rfl, rfl, _, rfl, fun _ => rfl⟩, rfl, by decide, rfl, ⟨_, _, _, Tryz.underlying202⟩, rfl, nofun⟩
theorem ty206_ok : TyOk Tryz.prog 206 ty206 :=
  ⟨⟨Tryz.t206, by kernel_rfl, rfl, rfl, _, rfl, fun _ => rfl⟩, rfl, by decide, rfl, Tryz.underlying206, rfl, fun ks h => flatOk_of (d := 12) (by decide) (by cases h; kernel_rfl) Tryz.eqGuardType206 (by rw [Tryz.underlying206])⟩
theorem ty209_ok : TyOk Tryz.prog 209 ty209 :=
  ⟨⟨Tryz.t209, by kernel_rfl, rfl, rfl, _, rfl, fun _ => rfl⟩, rfl, by decide, rfl, ⟨_, _, _, Tryz.underlying209⟩, rfl, nofun⟩
theorem ty216_ok : TyOk Tryz.prog 216 ty216 :=
  ⟨⟨Tryz.t216, by kernel_rfl, rfl, rfl, _, rfl, fun _ => rfl⟩, rfl, by decide, rfl, ⟨_, _, _, Tryz.underlying216⟩, rfl, nofun⟩
theorem ty217_ok : TyOk Tryz.prog 217 ty217 :=
  ⟨⟨Tryz.t217, by kernel_rfl, rfl, rfl, _, rfl, fun _ => rfl⟩, rfl, by decide, rfl, Tryz.underlying217, rfl, nofun⟩
theorem ty220_ok : TyOk Tryz.prog 220 ty220 :=
  ⟨⟨Tryz.t220, by kernel_rfl, rfl, rfl, _, rfl, fun _ => rfl⟩, rfl, by decide, rfl, ⟨_, _, _, Tryz.underlying220⟩, rfl, nofun⟩
theorem ty223_ok : TyOk Tryz.prog 223 ty223 :=
  ⟨⟨Tryz.t223, by kernel_rfl, rfl, rfl, _, rfl, fun _ => rfl⟩, rfl, by decide, rfl, ⟨_, Tryz.underlying223, rfl⟩, rfl, fun ks h => flatOk_of (d := 12) (by decide) (by cases h; kernel_rfl) Tryz.eqGuardType223 (by rw [Tryz.underlying223])⟩
theorem ty225_ok : TyOk Tryz.prog 225 ty225 :=
  ⟨⟨Tryz.t225, by kernel_rfl, rfl, rfl, _, rfl, fun _ => rfl⟩, rfl, by decide, rfl, ⟨_, _, _, Tryz.underlying225⟩, rfl, nofun⟩
theorem ty230_ok : TyOk Tryz.prog 230 ty230 :=
  ⟨⟨Tryz.t230, by kernel_rfl, rfl, rfl, _, rfl, fun _ => rfl⟩, rfl, by decide, rfl, ⟨_, _, _, Tryz.underlying230⟩, rfl, nofun⟩
theorem ty235_ok : TyOk Tryz.prog 235 ty235 :=
  ⟨⟨Tryz.t235, by kernel_rfl, rfl, rfl, _, rfl, fun _ => rfl⟩, rfl, by decide, rfl, ⟨_, _, _, Tryz.underlying235⟩, rfl, nofun⟩
theorem ty237_ok : TyOk Tryz.prog 237 ty237 :=
  ⟨⟨Tryz.t237, by kernel_rfl, rfl, rfl, _, rfl, fun _ => rfl⟩, rfl, by decide, rfl, Tryz.underlying237, rfl, nofun⟩
theorem ty241_ok : TyOk Tryz.prog 241 ty241 :=
  ⟨⟨Tryz.t241, by kernel_rfl, rfl, rfl, _, rfl, fun _ => rfl⟩, rfl, by decide, rfl, ⟨_, Tryz.underlying241, rfl⟩, rfl, nofun⟩
theorem ty243_ok : TyOk Tryz.prog 243 ty243 :=
  ⟨⟨Tryz.t243, by kernel_rfl, rfl, rfl, _, rfl, fun _ => rfl⟩, rfl, by decide, rfl, ⟨_, _, _, Tryz.underlying243⟩, rfl, nofun⟩
theorem ty247_ok : TyOk Tryz.prog 247 ty247 :=
  ⟨⟨Tryz.t247, by kernel_rfl, rfl, rfl, _, rfl, fun _ => rfl⟩, rfl, by decide, rfl, ⟨_, _, _, Tryz.underlying247⟩, rfl, nofun⟩
theorem ty249_ok : TyOk Tryz.prog 249 ty249 :=
  ⟨⟨Tryz.t249, by kernel_rfl, rfl, rfl, _, rfl, fun _ => rfl⟩, rfl, by decide, rfl, Tryz.underlying249, rfl, nofun⟩
theorem ty251_ok : TyOk Tryz.prog 251 ty251 :=
  ⟨⟨Tryz.t251, by kernel_rfl, rfl, rfl, _, rfl, fun _ => rfl⟩, rfl, by decide, rfl, Tryz.underlying251, rfl, nofun⟩
theorem ty253_ok : TyOk Tryz.prog 253 ty253 :=
  ⟨⟨Tryz.t253, by kernel_rfl, rfl, rfl, _, rfl, fun _ => rfl⟩, rfl, by decide, rfl, ⟨_, Tryz.underlying253, rfl⟩, rfl, nofun⟩
theorem ty257_ok : TyOk Tryz.prog 257 ty257 :=
  ⟨⟨Tryz.t257, by kernel_rfl, rfl, rfl, _, rfl, fun _ => rfl⟩, rfl, by decide, rfl, ⟨_, Tryz.underlying257, rfl⟩, rfl, fun ks h => flatOk_of (d := 12) (by decide) (by cases h; kernel_rfl) Tryz.eqGuardType257 (by rw [Tryz.underlying257])⟩
theorem ty267_ok : TyOk Tryz.prog 267 ty267 :=
  ⟨⟨Tryz.t267, by kernel_rfl, rfl, rfl, _, rfl, fun _ => rfl⟩, rfl, by decide, rfl, ⟨_, _, _, Tryz.underlying267⟩, rfl, nofun⟩
theorem ty280_ok : TyOk Tryz.prog 280 ty280 :=
  ⟨⟨Tryz.t280, by kernel_rfl, rfl, rfl, _, rfl, fun _ => rfl⟩, rfl, by decide, rfl, Tryz.underlying280, rfl, nofun⟩
theorem ty292_ok : TyOk Tryz.prog 292 ty292 :=
  ⟨⟨Tryz.t292, by kernel_rfl, rfl, rfl, _, rfl, fun _ => rfl⟩, rfl, by decide, rfl, ⟨_, _, _, Tryz.underlying292⟩, rfl, nofun⟩
theorem ty294_ok : TyOk Tryz.prog 294 ty294 :=
  ⟨⟨Tryz.t294, by kernel_rfl, rfl, rfl, _, rfl, fun _ => rfl⟩, rfl, by decide, rfl, Tryz.underlying294, rfl, fun ks h => flatOk_of (d := 12) (by decide) (by cases h; kernel_rfl) Tryz.eqGuardType294 (by rw [Tryz.underlying294])⟩
theorem ty296_ok : TyOk Tryz.prog 296 ty296 :=
  ⟨⟨Tryz.t296, by kernel_rfl, rfl, rfl, _, rfl, fun _ => rfl⟩, rfl, by decide, rfl, ⟨_, _, _, Tryz.underlying296⟩, rfl, nofun⟩
theorem ty297_ok : TyOk Tryz.prog 297 ty297 :=
  ⟨⟨Tryz.t297, by kernel_rfl, rfl, rfl, _, rfl, fun _ => rfl⟩, rfl, by decide, rfl, Tryz.underlying297, rfl, nofun⟩
theorem ty299_ok : TyOk Tryz.prog 299 ty299 :=
  ⟨⟨Tryz.t299, by kernel_rfl, rfl, rfl, _, rfl, fun _ => rfl⟩, rfl, by decide, rfl, ⟨_, Tryz.underlying299, rfl⟩, rfl, fun ks h => flatOk_of (d := 12) (by decide) (by cases h; kernel_rfl) Tryz.eqGuardType299 (by rw [Tryz.underlying299])⟩
theorem ty310_ok : TyOk Tryz.prog 310 ty310 :=
  ⟨⟨Tryz.t310, by kernel_rfl, rfl, rfl, _, rfl, fun _ => rfl⟩, rfl, by decide, rfl, Tryz.underlying310, rfl, fun ks h => flatOk_of (d := 12) (by decide) (by cases h; kernel_rfl) Tryz.eqGuardType310 (by rw [Tryz.underlying310])⟩
theorem ty319_ok : TyOk Tryz.prog 319 ty319 :=
  ⟨⟨Tryz.t319, by kernel_rfl, rfl, rfl, _, rfl, fun _ => rfl⟩, rfl, by decide, rfl, Tryz.underlying319, rfl, nofun⟩
theorem ty324_ok : TyOk Tryz.prog 324 ty324 :=
  ⟨⟨Tryz.t324, by kernel_rfl, rfl, rfl, _, rfl, fun _ => rfl⟩, rfl, by decide, rfl, Tryz.underlying324, rfl, nofun⟩
theorem ty325_ok : TyOk Tryz.prog 325 ty325 :=
  ⟨⟨Tryz.t325, by kernel_rfl, rfl, rfl, _, rfl, fun _ => rfl⟩, rfl, by decide, rfl, Tryz.underlying325, rfl, nofun⟩
theorem ty333_ok : TyOk Tryz.prog 333 ty333 :=
  ⟨⟨Tryz.t333, by kernel_rfl, rfl, rfl, _, rfl, fun _ => rfl⟩, rfl, by decide, rfl, ⟨_, _, _, Tryz.underlying333⟩, rfl, nofun⟩
theorem ty336_ok : TyOk Tryz.prog 336 ty336 :=
  ⟨⟨Tryz.t336, by kernel_rfl, rfl, rfl, _, rfl, fun _ => rfl⟩, rfl, by decide, rfl, ⟨_, _, _, Tryz.underlying336⟩, rfl, nofun⟩
theorem ty342_ok : TyOk Tryz.prog 342 ty342 :=
  ⟨⟨Tryz.t342, by kernel_rfl, rfl, rfl, _, rfl, fun _ => rfl⟩, rfl, by decide, rfl, Tryz.underlying342, rfl, fun ks h => flatOk_of (d := 12) (by decide) (by cases h; kernel_rfl) Tryz.eqGuardType342 (by rw [Tryz.underlying342])⟩
theorem ty346_ok : TyOk Tryz.prog 346 ty346 :=
  ⟨⟨Tryz.t346, by kernel_rfl, rfl, rfl, _, rfl, fun _ => rfl⟩, rfl, by decide, rfl, ⟨_, Tryz.underlying346, rfl⟩, rfl, fun ks h => flatOk_of (d := 12) (by decide) (by cases h; kernel_rfl) Tryz.eqGuardType346 (by rw [Tryz.underlying346])⟩
theorem ty347_ok : TyOk Tryz.prog 347 ty347 :=
  ⟨⟨Tryz.t347, by kernel_rfl, rfl, rfl, _, rfl, fun _ => rfl⟩, rfl, by decide, rfl, Tryz.underlying347, rfl, nofun⟩
theorem ty348_ok : TyOk Tryz.prog 348 ty348 :=
  ⟨⟨Tryz.t348, by kernel_rfl, rfl, rfl, _, rfl, fun _ => rfl⟩, rfl, by decide, rfl, Tryz.underlying348, rfl, nofun⟩
theorem ty349_ok : TyOk Tryz.prog 349 ty349 :=
  ⟨⟨Tryz.t349, by kernel_rfl, rfl, rfl, _, rfl, fun _ => rfl⟩, rfl, by decide, rfl, Tryz.underlying349, rfl, nofun⟩
theorem ty351_ok : TyOk Tryz.prog 351 ty351 :=
  ⟨⟨Tryz.t351, by kernel_rfl, rfl, rfl, _, rfl, fun _ => rfl⟩, rfl, by decide, rfl, ⟨_, _, _, Tryz.underlying351⟩, rfl, nofun⟩
theorem ty353_ok : TyOk Tryz.prog 353 ty353 :=
  ⟨⟨Tryz.t353, by kernel_rfl, rfl, rfl, _, rfl, fun _ => rfl⟩, rfl, by decide, rfl, Tryz.underlying353, rfl, fun ks h => flatOk_of (d := 12) (by decide) (by cases h; kernel_rfl) Tryz.eqGuardType353 (by rw [Tryz.underlying353])⟩
theorem ty356_ok : TyOk Tryz.prog 356 ty356 :=
  ⟨⟨Tryz.t356, by kernel_rfl, rfl, rfl, _, rfl, fun _ => rfl⟩, rfl, by decide, rfl, ⟨_, _, _, Tryz.underlying356⟩, rfl, nofun⟩
theorem ty360_ok : TyOk Tryz.prog 360 ty360 :=
  ⟨⟨Tryz.t360, by kernel_rfl, rfl, rfl, _, rfl, fun _ => rfl⟩, rfl, by decide, rfl, Tryz.underlying360, rfl, nofun⟩
theorem ty368_ok : TyOk Tryz.prog 368 ty368 :=
  ⟨⟨Tryz.t368, by kernel_rfl, rfl, rfl, _, rfl, fun _ => rfl⟩, rfl, by decide, rfl, Tryz.underlying368, rfl, nofun⟩
theorem ty371_ok : TyOk Tryz.prog 371 ty371 :=
  ⟨⟨Tryz.t371, by kernel_rfl, rfl, rfl, _, rfl, fun _ => rfl⟩, rfl, by decide, rfl, ⟨_, _, _, Tryz.underlying371⟩, rfl, nofun⟩
theorem ty374_ok : TyOk Tryz.prog 374 ty374 :=
  ⟨⟨Tryz.t374, by kernel_rfl, rfl, rfl, _, rfl, fun _ => rfl⟩, rfl, by decide, rfl, ⟨_, Tryz.underlying374, rfl⟩, rfl, fun ks h => flatOk_of (d := 12) (by decide) (by cases h; kernel_rfl) Tryz.eqGuardType374 (by rw [Tryz.underlying374])⟩
theorem ty375_ok : TyOk Tryz.prog 375 ty375 :=
  ⟨⟨Tryz.t375, by kernel_rfl, rfl, rfl, _, rfl, fun _ => rfl⟩, rfl, by decide, rfl, ⟨_, _, _, Tryz.underlying375⟩, rfl, nofun⟩
theorem ty376_ok : TyOk Tryz.prog 376 ty376 :=
  ⟨⟨Tryz.t376, by kernel_rfl, rfl, rfl, _, rfl, fun _ => rfl⟩, rfl, by decide, rfl, ⟨_, _, _, Tryz.underlying376⟩, rfl, nofun⟩
theorem ty378_ok : TyOk Tryz.prog 378 ty378 :=
  ⟨⟨Tryz.t378, by kernel_rfl, rfl, rfl, _, rfl, fun _ => rfl⟩, rfl, by decide, rfl, ⟨_, Tryz.underlying378, rfl⟩, rfl, nofun⟩
theorem ty379_ok : TyOk Tryz.prog 379 ty379 :=
  ⟨⟨Tryz.t379, by kernel_rfl, rfl, rfl, _, rfl, fun _ => rfl⟩, rfl, by decide, rfl, Tryz.underlying379, rfl, nofun⟩
theorem ty381_ok : TyOk Tryz.prog 381 ty381 :=
  ⟨⟨Tryz.t381, by kernel_rfl, rfl, rfl, _, rfl, fun _ => rfl⟩, rfl, by decide, rfl, ⟨_, _, _, Tryz.underlying381⟩, rfl, nofun⟩
theorem ty383_ok : TyOk Tryz.prog 383 ty383 :=
  ⟨⟨Tryz.t383, by kernel_rfl, rfl, rfl, _, rfl, fun _ => rfl⟩, rfl, by decide, rfl, Tryz.underlying383, rfl, fun ks h => flatOk_of (d := 12) (by decide) (by cases h; kernel_rfl) Tryz.eqGuardType383 (by rw [Tryz.underlying383])⟩
theorem ty389_ok : TyOk Tryz.prog 389 ty389 :=
  ⟨⟨Tryz.t389, by kernel_rfl, rfl, rfl, _, rfl, fun _ => rfl⟩, rfl, by decide, rfl, ⟨_, Tryz.underlying389, rfl⟩, rfl, fun ks h => flatOk_of (d := 12) (by decide) (by cases h; kernel_rfl) Tryz.eqGuardType389 (by rw [Tryz.underlying389])⟩
theorem ty394_ok : TyOk Tryz.prog 394 ty394 :=
  ⟨⟨Tryz.t394, by kernel_rfl, rfl, rfl, _, rfl, fun _ => rfl⟩, rfl, by decide, rfl, Tryz.underlying394, rfl, nofun⟩
theorem ty397_ok : TyOk Tryz.prog 397 ty397 :=
  ⟨⟨Tryz.t397, by kernel_rfl, rfl, rfl, _, rfl, fun _ => rfl⟩, rfl, by decide, rfl, ⟨_, Tryz.underlying397, rfl⟩, rfl, nofun⟩
theorem ty399_ok : TyOk Tryz.prog 399 ty399 :=
  ⟨⟨Tryz.t399, by kernel_rfl, rfl, rfl, _, rfl, fun _ => rfl⟩, rfl, by decide, rfl, ⟨_, _, _, Tryz.underlying399⟩, rfl, nofun⟩
theorem ty403_ok : TyOk Tryz.prog 403 ty403 :=
  ⟨⟨Tryz.t403, by kernel_rfl, rfl, rfl, _, rfl, fun _ => rfl⟩, rfl, by decide, rfl, Tryz.underlying403, rfl, fun ks h => flatOk_of (d := 12) (by decide) (by cases h; kernel_rfl) Tryz.eqGuardType403 (by rw [Tryz.underlying403])⟩
theorem ty405_ok : TyOk Tryz.prog 405 ty405 :=
  ⟨⟨Tryz.t405, by kernel_rfl, rfl, rfl, _, rfl, fun _ => rfl⟩, rfl, by decide, rfl, Tryz.underlying405, rfl, nofun⟩
theorem ty410_ok : TyOk Tryz.prog 410 ty410 :=
  ⟨⟨Tryz.t410, by kernel_rfl, rfl, rfl, _, rfl, fun _ => rfl⟩, rfl, by decide, rfl, ⟨_, _, _, Tryz.underlying410⟩, rfl, nofun⟩
theorem ty412_ok : TyOk Tryz.prog 412 ty412 :=
  ⟨⟨Tryz.t412, by kernel_rfl, rfl, rfl, _, rfl, fun _ => rfl⟩, rfl, by decide, rfl, Tryz.underlying412, rfl, fun ks h => flatOk_of (d := 12) (by decide) (by cases h; kernel_rfl) Tryz.eqGuardType412 (by rw [Tryz.underlying412])⟩
theorem ty414_ok : TyOk Tryz.prog 414 ty414 :=
  ⟨⟨Tryz.t414, by kernel_rfl, rfl, rfl, _, rfl, fun _ => rfl⟩, rfl, by decide, rfl, ⟨_, _, _, Tryz.underlying414⟩, rfl, nofun⟩
theorem ty417_ok : TyOk Tryz.prog 417 ty417 :=
  ⟨⟨Tryz.t417, by kernel_rfl, rfl, rfl, _, rfl, fun _ => rfl⟩, rfl, by decide, rfl, ⟨_, _, _, Tryz.underlying417⟩, rfl, nofun⟩
theorem ty419_ok : TyOk Tryz.prog 419 ty419 :=
  ⟨⟨Tryz.t419, by kernel_rfl, rfl, rfl, _, rfl, fun _ => rfl⟩, rfl, by decide, rfl, Tryz.underlying419, rfl, nofun⟩
theorem ty422_ok : TyOk Tryz.prog 422 ty422 :=
  ⟨⟨Tryz.t422, by kernel_rfl, rfl, rfl, _, rfl, fun _ => rfl⟩, rfl, by decide, rfl, Tryz.underlying422, rfl, nofun⟩
theorem ty426_ok : TyOk Tryz.prog 426 ty426 :=
  ⟨⟨Tryz.t426, by kernel_rfl, rfl, rfl, _, rfl, fun _ => rfl⟩, rfl, by decide, rfl, Tryz.underlying426, rfl, nofun⟩
theorem ty435_ok : TyOk Tryz.prog 435 ty435 :=
  ⟨⟨Tryz.t435, by kernel_rfl, rfl, rfl, _, rfl, fun _ => rfl⟩, rfl, by decide, rfl, ⟨_, _, _, Tryz.underlying435⟩, rfl, nofun⟩
theorem ty436_ok : TyOk Tryz.prog 436 ty436 :=
  ⟨⟨Tryz.t436, by kernel_rfl, rfl, rfl, _, rfl, fun _ => rfl⟩, rfl, by decide, rfl, ⟨_, _, _, Tryz.underlying436⟩, rfl, nofun⟩
theorem ty441_ok : TyOk Tryz.prog 441 ty441 :=
  ⟨⟨Tryz.t441, by kernel_rfl, rfl, rfl, _, rfl, fun _ => rfl⟩, rfl, by decide, rfl, ⟨_, Tryz.underlying441, rfl⟩, rfl, nofun⟩
theorem ty442_ok : TyOk Tryz.prog 442 ty442 :=
  ⟨⟨Tryz.t442, by kernel_rfl, rfl, rfl, _, rfl, fun _ => rfl⟩, rfl, by decide, rfl, ⟨_, _, _, Tryz.underlying442⟩, rfl, nofun⟩
theorem ty446_ok : TyOk Tryz.prog 446 ty446 :=
  ⟨⟨Tryz.t446, by kernel_rfl, rfl, rfl, _, rfl, fun _ => rfl⟩, rfl, by decide, rfl, Tryz.underlying446, rfl, nofun⟩
theorem ty449_ok : TyOk Tryz.prog 449 ty449 :=
  ⟨⟨Tryz.t449, by kernel_rfl, rfl, rfl, _, rfl, fun _ => rfl⟩, rfl, by decide, rfl, Tryz.underlying449, rfl, nofun⟩
theorem ty451_ok : TyOk Tryz.prog 451 ty451 :=
  ⟨⟨Tryz.t451, by kernel_rfl, rfl, rfl, _, rfl, fun _ => rfl⟩, rfl, by decide, rfl, ⟨_, Tryz.underlying451, rfl⟩, rfl, nofun⟩
theorem ty453_ok : TyOk Tryz.prog 453 ty453 :=
  ⟨⟨Tryz.t453, by kernel_rfl, rfl, rfl, _, rfl, fun _ => rfl⟩, rfl, by decide, rfl, ⟨_, _, _, Tryz.underlying453⟩, rfl, nofun⟩
theorem ty454_ok : TyOk Tryz.prog 454 ty454 :=
  ⟨⟨Tryz.t454, by kernel_rfl, rfl, rfl, _, rfl, fun _ => rfl⟩, rfl, by decide, rfl, ⟨_, _, _, Tryz.underlying454⟩, rfl, nofun⟩
theorem ty456_ok : TyOk Tryz.prog 456 ty456 :=
  ⟨⟨Tryz.t456, by kernel_rfl, rfl, rfl, _, rfl, fun _ => rfl⟩, rfl, by decide, rfl, ⟨_, Tryz.underlying456, rfl⟩, rfl, fun ks h => flatOk_of (d := 12) (by decide) (by cases h; kernel_rfl) Tryz.eqGuardType456 (by rw [Tryz.underlying456])⟩
theorem ty458_ok : TyOk Tryz.prog 458 ty458 :=
  ⟨⟨Tryz.t458, by kernel_rfl, rfl, rfl, _, rfl, fun _ => rfl⟩, rfl, by decide, rfl, Tryz.underlying458, rfl, fun ks h => flatOk_of (d := 12) (by decide) (by cases h; kernel_rfl) Tryz.eqGuardType458 (by rw [Tryz.underlying458])⟩
theorem ty459_ok : TyOk Tryz.prog 459 ty459 :=
  ⟨⟨Tryz.t459, by kernel_rfl, rfl, rfl, _, rfl, fun _ => rfl⟩, rfl, by decide, rfl, Tryz.underlying459, rfl, fun ks h => flatOk_of (d := 12) (by decide) (by cases h; kernel_rfl) Tryz.eqGuardType459 (by rw [Tryz.underlying459])⟩
theorem ty460_ok : TyOk Tryz.prog 460 ty460 :=
  ⟨⟨Tryz.t460, by kernel_rfl, rfl, rfl, _, rfl, fun _ => rfl⟩, rfl, by decide, rfl, Tryz.underlying460, rfl, nofun⟩
theorem ty461_ok : TyOk Tryz.prog 461 ty461 :=
  ⟨⟨Tryz.t461, by kernel_rfl, rfl, rfl, _, rfl, fun _ => rfl⟩, rfl, by decide, rfl, Tryz.underlying461, rfl, nofun⟩
theorem ty466_ok : TyOk Tryz.prog 466 ty466 :=
  ⟨⟨Tryz.t466, by kernel_rfl, rfl, rfl, _, rfl, fun _ => rfl⟩, rfl, by decide, rfl, ⟨_, _, _, Tryz.underlying466⟩, rfl, nofun⟩
theorem ty467_ok : TyOk Tryz.prog 467 ty467 :=
  ⟨⟨Tryz.t467, by kernel_rfl, rfl, rfl, _, rfl, fun _ => rfl⟩, rfl, by decide, rfl, ⟨_, _, _, Tryz.underlying467⟩, rfl, nofun⟩
theorem ty469_ok : TyOk Tryz.prog 469 ty469 :=
  ⟨⟨Tryz.t469, by kernel_rfl, rfl, rfl, _, rfl, fun _ => rfl⟩, rfl, by decide, rfl, ⟨_, Tryz.underlying469, rfl⟩, rfl, fun ks h => flatOk_of (d := 12) (by decide) (by cases h; kernel_rfl) Tryz.eqGuardType469 (by rw [Tryz.underlying469])⟩
theorem ty471_ok : TyOk Tryz.prog 471 ty471 :=
  ⟨⟨Tryz.t471, by kernel_rfl, rfl, rfl, _, rfl, fun _ => rfl⟩, rfl, by decide, rfl, ⟨_, _, _, Tryz.underlying471⟩, rfl, nofun⟩
theorem ty472_ok : TyOk Tryz.prog 472 ty472 :=
  ⟨⟨Tryz.t472, by kernel_rfl, rfl, rfl, _, rfl, fun _ => rfl⟩, rfl, by decide, rfl, Tryz.underlying472, rfl, nofun⟩
theorem ty477_ok : TyOk Tryz.prog 477 ty477 :=
  ⟨⟨Tryz.t477, by kernel_rfl, rfl, rfl, _, rfl, fun _ => rfl⟩, rfl, by decide, rfl, Tryz.underlying477, rfl, nofun⟩
theorem ty479_ok : TyOk Tryz.prog 479 ty479 :=
  ⟨⟨Tryz.t479, by kernel_rfl, rfl, rfl, _, rfl, fun _ => rfl⟩, rfl, by decide, rfl, Tryz.underlying479, rfl, nofun⟩
theorem ty481_ok : TyOk Tryz.prog 481 ty481 :=
  ⟨⟨Tryz.t481, by kernel_rfl, rfl, rfl, _, rfl, fun _ => rfl⟩, rfl, by decide, rfl, ⟨_, _, _, Tryz.underlying481⟩, rfl, nofun⟩
theorem ty483_ok : TyOk Tryz.prog 483 ty483 :=
  ⟨⟨Tryz.t483, by kernel_rfl, rfl, rfl, _, rfl, fun _ => rfl⟩, rfl, by decide, rfl, Tryz.underlying483, rfl, fun ks h => flatOk_of (d := 12) (by decide) (by cases h; kernel_rfl) Tryz.eqGuardType483 (by rw [Tryz.underlying483])⟩
theorem ty484_ok : TyOk Tryz.prog 484 ty484 :=
  ⟨⟨Tryz.t484, by kernel_rfl, rfl, rfl, _, rfl, fun _ => rfl⟩, rfl, by decide, rfl, ⟨_, _, _, Tryz.underlying484⟩, rfl, nofun⟩
theorem ty487_ok : TyOk Tryz.prog 487 ty487 :=
  ⟨⟨Tryz.t487, by kernel_rfl, rfl, rfl, _, rfl, fun _ => rfl⟩, rfl, by decide, rfl, Tryz.underlying487, rfl, nofun⟩
theorem ty494_ok : TyOk Tryz.prog 494 ty494 :=
  ⟨⟨Tryz.t494, by kernel_rfl, rfl, rfl, _, rfl, fun _ => rfl⟩, rfl, by decide, rfl, ⟨_, _, _, Tryz.underlying494⟩, rfl, nofun⟩
theorem ty496_ok : TyOk Tryz.prog 496 ty496 :=
  ⟨⟨Tryz.t496, by kernel_rfl, rfl, rfl, _, rfl, fun _ => rfl⟩, rfl, by decide, rfl, ⟨_, _, _, Tryz.underlying496⟩, rfl, nofun⟩
theorem ty512_ok : TyOk Tryz.prog 512 ty512 :=
  ⟨⟨Tryz.t512, by kernel_rfl, rfl, rfl, _, rfl, fun _ => rfl⟩, rfl, by decide, rfl, ⟨_, _, _, Tryz.underlying512⟩, rfl, nofun⟩
theorem ty515_ok : TyOk Tryz.prog 515 ty515 :=
  ⟨⟨Tryz.t515, by kernel_rfl, rfl, rfl, _, rfl, fun _ => rfl⟩, rfl, by decide, rfl, Tryz.underlying515, rfl, fun ks h => flatOk_of (d := 12) (by decide) (by cases h; kernel_rfl) Tryz.eqGuardType515 (by rw [Tryz.underlying515])⟩
theorem ty516_ok : TyOk Tryz.prog 516 ty516 :=
  ⟨⟨Tryz.t516, by kernel_rfl, rfl, rfl, _, rfl, fun _ => rfl⟩, rfl, by decide, rfl, Tryz.underlying516, rfl, fun ks h => flatOk_of (d := 12) (by decide) (by cases h; kernel_rfl) Tryz.eqGuardType516 (by rw [Tryz.underlying516])⟩
theorem tab_ok : TabOk Tryz.prog tyTab := fun t i => (tab_node (tab_node (tab_node (tab_node (tab_node (tab_node (tab_node (tab_leaf ty1_ok) (tab_leaf ty2_ok)) (tab_node (tab_leaf ty3_ok) (tab_node (tab_leaf ty4_ok) (tab_leaf ty5_ok)))) (tab_node (tab_node (tab_leaf ty9_ok) (tab_leaf ty20_ok)) (tab_node (tab_leaf ty22_ok) (tab_node (tab_leaf ty24_ok) (tab_leaf ty25_ok))))) (tab_node (tab_node (tab_node (tab_leaf ty27_ok) (tab_leaf ty29_ok)) (tab_node (tab_leaf ty31_ok) (tab_node (tab_leaf ty33_ok) (tab_leaf ty35_ok)))) (tab_node (tab_node (tab_leaf ty36_ok) (tab_leaf ty37_ok)) (tab_node (tab_leaf ty39_ok) (tab_node (tab_leaf ty40_ok) (tab_leaf ty41_ok)))))) (tab_node (tab_node (tab_node (tab_node (tab_leaf ty43_ok) (tab_leaf ty44_ok)) (tab_node (tab_leaf ty47_ok) (tab_node (tab_leaf ty48_ok) (tab_leaf ty50_ok)))) (tab_node (tab_node (tab_leaf ty58_ok) (tab_leaf ty64_ok)) (tab_node (tab_leaf ty66_ok) (tab_node (tab_leaf ty67_ok) (tab_leaf ty68_ok))))) (tab_node (tab_node (tab_node (tab_leaf ty70_ok) (tab_leaf ty71_ok)) (tab_node (tab_leaf ty72_ok) (tab_node (tab_leaf ty77_ok) (tab_leaf ty78_ok)))) (tab_node (tab_node (tab_leaf ty79_ok) (tab_leaf ty81_ok)) (tab_node (tab_leaf ty83_ok) (tab_node (tab_leaf ty91_ok) (tab_leaf ty93_ok))))))) (tab_node (tab_node (tab_node (tab_node (tab_node (tab_leaf ty95_ok) (tab_leaf ty97_ok)) (tab_node (tab_leaf ty105_ok) (tab_node (tab_leaf ty107_ok) (tab_leaf ty108_ok)))) (tab_node (tab_node (tab_leaf ty110_ok) (tab_leaf ty112_ok)) (tab_node (tab_leaf ty114_ok) (tab_node (tab_leaf ty115_ok) (tab_leaf ty119_ok))))) (tab_node (tab_node (tab_node (tab_leaf ty122_ok) (tab_leaf ty127_ok)) (tab_node (tab_leaf ty133_ok) (tab_node (tab_leaf ty135_ok) (tab_leaf ty140_ok)))) (tab_node (tab_node (tab_leaf ty144_ok) (tab_leaf ty148_ok)) (tab_node (tab_leaf ty155_ok) (tab_node (tab_leaf ty157_ok) (tab_leaf ty163_ok)))))) (tab_node (tab_node (tab_node (tab_node (tab_leaf ty170_ok) (tab_leaf ty175_ok)) (tab_node (tab_leaf ty176_ok) (tab_node (tab_leaf ty177_ok) (tab_leaf ty179_ok)))) (tab_node (tab_node (tab_leaf ty181_ok) (tab_leaf ty183_ok)) (tab_node (tab_leaf ty185_ok) (tab_node (tab_leaf ty186_ok) (tab_leaf ty192_ok))))) (tab_node (tab_node (tab_node (tab_leaf ty202_ok) (tab_leaf ty206_ok)) (tab_node (tab_leaf ty209_ok) (tab_node (tab_leaf ty216_ok) (tab_leaf ty217_ok)))) (tab_node (tab_node (tab_leaf ty220_ok) (tab_node (tab_leaf ty223_ok) (tab_leaf ty225_ok))) (tab_node (tab_leaf ty230_ok) (tab_node (tab_leaf ty235_ok) (tab_leaf ty237_ok)))))))) (tab_node (tab_node (tab_node (tab_node (tab_node (tab_node (tab_leaf ty241_ok) (tab_leaf ty243_ok)) (tab_node (tab_leaf ty247_ok) (tab_node (tab_leaf ty249_ok) (tab_leaf ty251_ok)))) (tab_node (tab_node (tab_leaf ty253_ok) (tab_leaf ty257_ok)) (tab_node (tab_leaf ty267_ok) (tab_node (tab_leaf ty280_ok) (tab_leaf ty292_ok))))) (tab_node (tab_node (tab_node (tab_leaf ty294_ok) (tab_leaf ty296_ok)) (tab_node (tab_leaf ty297_ok) (tab_node (tab_leaf ty299_ok) (tab_leaf ty310_ok)))) (tab_node (tab_node (tab_leaf ty319_ok) (tab_leaf ty324_ok)) (tab_node (tab_leaf ty325_ok) (tab_node (tab_leaf ty333_ok) (tab_leaf ty336_ok)))))) (tab_node (tab_node (tab_node (tab_node (tab_leaf ty342_ok) (tab_leaf ty346_ok)) (tab_node (tab_leaf ty347_ok) (tab_node (tab_leaf ty348_ok) (tab_leaf ty349_ok)))) (tab_node (tab_node (tab_leaf ty351_ok) (tab_leaf ty353_ok)) (tab_node (tab_leaf ty356_ok) (tab_node (tab_leaf ty360_ok) (tab_leaf ty368_ok))))) (tab_node (tab_node (tab_node (tab_leaf ty371_ok) (tab_leaf ty374_ok)) (tab_node (tab_leaf ty375_ok) (tab_node (tab_leaf ty376_ok) (tab_leaf ty378_ok)))) (tab_node (tab_node (tab_leaf ty379_ok) (tab_leaf ty381_ok)) (tab_node (tab_leaf ty383_ok) (tab_node (tab_leaf ty389_ok) (tab_leaf ty394_ok))))))) (tab_node (tab_node (tab_node (tab_node (tab_node (tab_leaf ty397_ok) (tab_leaf ty399_ok)) (tab_node (tab_leaf ty403_ok) (tab_node (tab_leaf ty405_ok) (tab_leaf ty410_ok)))) (tab_node (tab_node (tab_leaf ty412_ok) (tab_leaf ty414_ok)) (tab_node (tab_leaf ty417_ok) (tab_node (tab_leaf ty419_ok) (tab_leaf ty422_ok))))) (tab_node (tab_node (tab_node (tab_leaf ty426_ok) (tab_leaf ty435_ok)) (tab_node (tab_leaf ty436_ok) (tab_node (tab_leaf ty441_ok) (tab_leaf ty442_ok)))) (tab_node (tab_node (tab_leaf ty446_ok) (tab_leaf ty449_ok)) (tab_node (tab_leaf ty451_ok) (tab_node (tab_leaf ty453_ok) (tab_leaf ty454_ok)))))) (tab_node (tab_node (tab_node (tab_node (tab_leaf ty456_ok) (tab_leaf ty458_ok)) (tab_node (tab_leaf ty459_ok) (tab_node (tab_leaf ty460_ok) (tab_leaf ty461_ok)))) (tab_node (tab_node (tab_leaf ty466_ok) (tab_leaf ty467_ok)) (tab_node (tab_leaf ty469_ok) (tab_node (tab_leaf ty471_ok) (tab_leaf ty472_ok))))) (tab_node (tab_node (tab_node (tab_leaf ty477_ok) (tab_leaf ty479_ok)) (tab_node (tab_leaf ty481_ok) (tab_node (tab_leaf ty483_ok) (tab_leaf ty484_ok)))) (tab_node (tab_node (tab_leaf ty487_ok) (tab_node (tab_leaf ty494_ok) (tab_leaf ty496_ok))) (tab_node (tab_leaf ty512_ok) (tab_node (tab_leaf ty515_ok) (tab_leaf ty516_ok)))))))))
theorem mixed : Tryz.prog.follows .mixedOrders = true := by kernel_rfl
theorem noNum : NoNum Tryz.prog := by
  intro g fn h
  have e : Tryz.prog.funcs.all (fun fn => !(fn.name == "runtime.NumGoroutine")) = true := by kernel_rfl
  rw [Array.all_eq_true_iff_forall_mem] at e
  have := e fn (Array.mem_of_getElem? h)
  simpa using this
end Go.Ev

