import Derived.Test.YtcgajpdhbanhaaaGreatEvN
import Derived.Test.YtcgajpdhbanhaaaGreatProg
import Derived.KernelRfl
namespace Go.Ev
open Go.Proofs
set_option linter.unusedVariables false
set_option linter.unusedSimpArgs false
def ty1 : TyI := ⟨1, 8, [.nilf], false, none, .func⟩
def ty2 : TyI := ⟨1, 8, [.int .i64 0], false, none, .int .i64⟩
def ty3 : TyI := ⟨1, 8, [.int .i64 0], false, none, .int .i64⟩
def ty4 : TyI := ⟨1, 1, [.bool false], false, none, .bool⟩
def ty5 : TyI := ⟨1, 1, [.int .u8 0], false, none, .int .u8⟩
def ty9 : TyI := ⟨1, 16, [.str ⟨#[]⟩], false, none, .str⟩
def ty20 : TyI := ⟨1, 16, [.nili], false, none, .iface⟩
def ty22 : TyI := ⟨1, 8, [.int .i64 0], false, none, .int .i64⟩
def ty24 : TyI := ⟨3, 24, [.int .i64 0, .int .i64 0, .int .i64 0], true, some [.int .i64, .int .i64, .int .i64], .struct [(0, 22), (1, 22), (2, 22)]⟩
def ty25 : TyI := ⟨1, 24, [.nils], false, none, .slice 24⟩
def ty27 : TyI := ⟨6, 64, [.int .i64 0, .int .i64 0, .int .i64 0, .int .i64 0, .int .i64 0, .nils], true, none, .struct [(0, 3), (1, 22), (2, 24), (5, 25)]⟩
def ty29 : TyI := ⟨4, 32, [.int .i64 0, .int .i64 0, .int .i64 0, .int .i64 0], true, some [.int .i64, .int .i64, .int .i64, .int .i64], .struct [(0, 22), (1, 22), (2, 22), (3, 22)]⟩
def ty31 : TyI := ⟨7, 56, [.int .i64 0, .int .i64 0, .int .i64 0, .int .i64 0, .int .i64 0, .int .i64 0, .int .i64 0], true, some [.int .i64, .int .i64, .int .i64, .int .i64, .int .i64, .int .i64, .int .i64], .struct [(0, 24), (3, 29)]⟩
def ty33 : TyI := ⟨13, 120, [.int .i64 0, .int .i64 0, .int .i64 0, .int .i64 0, .int .i64 0, .nils, .int .i64 0, .int .i64 0, .int .i64 0, .int .i64 0, .int .i64 0, .int .i64 0, .int .i64 0], true, none, .struct [(0, 27), (6, 31)]⟩
def ty35 : TyI := ⟨22, 192, [.int .i64 0, .int .i64 0, .int .i64 0, .int .i64 0, .int .i64 0, .int .i64 0, .nils, .int .i64 0, .int .i64 0, .int .i64 0, .int .i64 0, .int .i64 0, .int .i64 0, .int .i64 0, .int .i64 0, .int .i64 0, .int .i64 0, .int .i64 0, .int .i64 0, .int .i64 0, .int .i64 0, .int .i64 0], true, none, .struct [(0, 3), (1, 33), (14, 22), (15, 24), (18, 24), (21, 22)]⟩
def ty37 : TyI := ⟨3, 24, [.int .i64 0, .int .i64 0, .int .i64 0], true, some [.int .i64, .int .i64, .int .i64], .struct [(0, 2), (1, 2), (2, 2)]⟩
def ty39 : TyI := ⟨51, 448, [.int .i64 0, .int .i64 0, .int .i64 0, .int .i64 0, .int .i64 0, .int .i64 0, .int .i64 0, .nils, .int .i64 0, .int .i64 0, .int .i64 0, .int .i64 0, .int .i64 0, .int .i64 0, .int .i64 0, .int .i64 0, .int .i64 0, .int .i64 0, .int .i64 0, .int .i64 0, .int .i64 0, .int .i64 0, .int .i64 0, .int .i64 0, .int .i64 0, .int .i64 0, .int .i64 0, .int .i64 0, .int .i64 0, .int .i64 0, .int .i64 0, .int .i64 0, .int .i64 0, .int .i64 0, .int .i64 0, .nils, .int .i64 0, .int .i64 0, .int .i64 0, .int .i64 0, .int .i64 0, .int .i64 0, .int .i64 0, .int .i64 0, .int .i64 0, .int .i64 0, .int .i64 0, .int .i64 0, .int .i64 0, .int .i64 0, .str ⟨#[]⟩], true, none, .struct [(0, 3), (1, 35), (23, 3), (24, 24), (27, 24), (30, 33), (43, 37), (46, 37), (49, 22), (50, 9)]⟩
def ty40 : TyI := ⟨1, 8, [.nilp], false, none, .ptr 43⟩
def ty41 : TyI := ⟨1, 8, [.nilp], false, none, .ptr 95⟩
def ty43 : TyI := ⟨1, 8, [.nilp], true, none, .struct [(0, 41)]⟩
def ty45 : TyI := ⟨1, 8, [.int .i64 0], false, none, .int .i64⟩
def ty46 : TyI := ⟨1, 24, [.nils], false, none, .slice 3⟩
def ty47 : TyI := ⟨1, 24, [.nils], false, none, .slice 111⟩
def ty48 : TyI := ⟨1, 24, [.nils], false, none, .slice 84⟩
def ty49 : TyI := ⟨1, 24, [.nils], false, none, .slice 113⟩
def ty51 : TyI := ⟨4, 96, [.nils, .nils, .nils, .nils], true, none, .struct [(0, 47), (1, 47), (2, 48), (3, 49)]⟩
def ty53 : TyI := ⟨29, 336, [.int .i64 0, .nils, .int .i64 0, .int .i64 0, .int .i64 0, .int .i64 0, .int .i64 0, .int .i64 0, .nils, .int .i64 0, .int .i64 0, .int .i64 0, .int .i64 0, .int .i64 0, .int .i64 0, .int .i64 0, .int .i64 0, .int .i64 0, .int .i64 0, .int .i64 0, .int .i64 0, .int .i64 0, .int .i64 0, .int .i64 0, .nils, .nils, .nils, .nils, .str ⟨#[]⟩], true, none, .struct [(0, 45), (1, 46), (2, 35), (24, 51), (28, 9)]⟩
def ty56 : TyI := ⟨1, 24, [.nils], false, none, .slice 53⟩
def ty60 : TyI := ⟨5, 40, [.int .i64 0, .int .i64 0, .int .i64 0, .int .i64 0, .int .i64 0], true, some [.int .i64, .int .i64, .int .i64, .int .i64, .int .i64], .struct [(0, 24), (3, 22), (4, 3)]⟩
def ty62 : TyI := ⟨1, 24, [.nils], false, none, .slice 39⟩
def ty67 : TyI := ⟨1, 8, [.nilf], false, none, .func⟩
def ty69 : TyI := ⟨1, 8, [.nilf], true, none, .struct [(0, 67)]⟩
def ty70 : TyI := ⟨11, 88, [.nilf, .nilf, .nilf, .nilf, .nilf, .nilf, .nilf, .nilf, .nilf, .nilf, .nilf], true, none, .arr 11 69⟩
def ty80 : TyI := ⟨4, 32, [.int .i64 0, .int .i64 0, .int .i64 0, .int .i64 0], true, some [.int .i64, .int .i64, .int .i64, .int .i64], .struct [(0, 3), (1, 3), (2, 3), (3, 3)]⟩
def ty82 : TyI := ⟨7, 56, [.int .i64 0, .int .i64 0, .int .i64 0, .int .i64 0, .int .i64 0, .int .i64 0, .int .i64 0], true, some [.int .i64, .int .i64, .int .i64, .int .i64, .int .i64, .int .i64, .int .i64], .struct [(0, 80), (4, 22), (5, 22), (6, 22)]⟩
def ty84 : TyI := ⟨14, 112, [.int .i64 0, .int .i64 0, .int .i64 0, .int .i64 0, .int .i64 0, .int .i64 0, .int .i64 0, .int .i64 0, .int .i64 0, .int .i64 0, .int .i64 0, .int .i64 0, .int .i64 0, .int .i64 0], true, some [.int .i64, .int .i64, .int .i64, .int .i64, .int .i64, .int .i64, .int .i64, .int .i64, .int .i64, .int .i64, .int .i64, .int .i64, .int .i64, .int .i64], .struct [(0, 82), (7, 37), (10, 24), (13, 22)]⟩
def ty92 : TyI := ⟨1, 8, [.nilp], false, none, .ptr 192⟩
def ty93 : TyI := ⟨1, 24, [.nils], false, none, .slice 82⟩
def ty95 : TyI := ⟨8, 96, [.nilp, .int .i64 0, .int .i64 0, .int .i64 0, .int .i64 0, .int .i64 0, .nils, .nils], true, none, .struct [(0, 92), (1, 60), (6, 47), (7, 93)]⟩
def ty101 : TyI := ⟨1, 24, [.nils], false, none, .slice 35⟩
def ty103 : TyI := ⟨8, 112, [.int .i64 0, .int .i64 0, .int .i64 0, .int .i64 0, .int .i64 0, .nils, .nils, .nils], true, none, .struct [(0, 60), (5, 101), (6, 47), (7, 93)]⟩
def ty111 : TyI := ⟨2, 16, [.int .i64 0, .int .i64 0], true, some [.int .i64, .int .i64], .struct [(0, 3), (1, 3)]⟩
def ty113 : TyI := ⟨2, 16, [.int .i64 0, .int .i64 0], true, some [.int .i64, .int .i64], .struct [(0, 3), (1, 3)]⟩
def ty117 : TyI := ⟨1, 8, [.nilf], false, none, .func⟩
def ty118 : TyI := ⟨9, 72, [.int .i64 0, .int .i64 0, .int .i64 0, .int .i64 0, .int .i64 0, .int .i64 0, .int .i64 0, .int .i64 0, .int .i64 0], true, some [.int .i64, .int .i64, .int .i64, .int .i64, .int .i64, .int .i64, .int .i64, .int .i64, .int .i64], .arr 3 24⟩
def ty120 : TyI := ⟨9, 72, [.int .i64 0, .int .i64 0, .int .i64 0, .int .i64 0, .int .i64 0, .int .i64 0, .int .i64 0, .int .i64 0, .int .i64 0], true, some [.int .i64, .int .i64, .int .i64, .int .i64, .int .i64, .int .i64, .int .i64, .int .i64, .int .i64], .struct [(0, 118)]⟩
def ty129 : TyI := ⟨1, 8, [.nilm], false, none, .map 3 3⟩
def ty138 : TyI := ⟨1, 24, [.nils], false, none, .slice 37⟩
def ty142 : TyI := ⟨6, 48, [.int .i64 0, .int .i64 0, .int .i64 0, .int .i64 0, .int .i64 0, .int .i64 0], true, some [.int .i64, .int .i64, .int .i64, .int .i64, .int .i64, .int .i64], .struct [(0, 37), (3, 37)]⟩
def ty152 : TyI := ⟨1, 8, [.nilf], false, none, .func⟩
def ty153 : TyI := ⟨1, 8, [.int .u64 0], false, none, .int .u64⟩
def ty154 : TyI := ⟨8, 64, [.int .u64 0, .int .u64 0, .int .u64 0, .int .u64 0, .int .u64 0, .int .u64 0, .int .u64 0, .int .u64 0], true, some [.int .u64, .int .u64, .int .u64, .int .u64, .int .u64, .int .u64, .int .u64, .int .u64], .arr 8 153⟩
def ty156 : TyI := ⟨8, 64, [.int .u64 0, .int .u64 0, .int .u64 0, .int .u64 0, .int .u64 0, .int .u64 0, .int .u64 0, .int .u64 0], true, some [.int .u64, .int .u64, .int .u64, .int .u64, .int .u64, .int .u64, .int .u64, .int .u64], .struct [(0, 154)]⟩
def ty173 : TyI := ⟨1, 8, [.nilp], false, none, .ptr 176⟩
def ty174 : TyI := ⟨1, 24, [.nils], false, none, .slice 5⟩
def ty176 : TyI := ⟨3, 48, [.nils, .str ⟨#[]⟩, .bool false], true, none, .struct [(0, 174), (1, 9), (2, 4)]⟩
def ty178 : TyI := ⟨1, 8, [.nilf], false, none, .func⟩
def ty179 : TyI := ⟨1, 8, [.nilp], false, none, .ptr 103⟩
def ty187 : TyI := ⟨1, 8, [.nilp], false, none, .ptr 312⟩
def ty189 : TyI := ⟨1, 8, [.nilp], true, none, .struct [(0, 187)]⟩
def ty190 : TyI := ⟨1, 8, [.nilm], false, none, .map 3 35⟩
def ty192 : TyI := ⟨2, 16, [.nilp, .nilm], true, none, .struct [(0, 189), (1, 190)]⟩
def ty198 : TyI := ⟨22, 192, [.int .i64 0, .int .i64 0, .int .i64 0, .int .i64 0, .int .i64 0, .int .i64 0, .nils, .int .i64 0, .int .i64 0, .int .i64 0, .int .i64 0, .int .i64 0, .int .i64 0, .int .i64 0, .int .i64 0, .int .i64 0, .int .i64 0, .int .i64 0, .int .i64 0, .int .i64 0, .int .i64 0, .int .i64 0], true, none, .struct [(0, 35)]⟩
def ty206 : TyI := ⟨1, 8, [.nilf], false, none, .func⟩
def ty214 : TyI := ⟨1, 8, [.nilf], false, none, .func⟩
def ty215 : TyI := ⟨1, 8, [.nilf], false, none, .func⟩
def ty244 : TyI := ⟨1, 8, [.nilp], false, none, .ptr 382⟩
def ty254 : TyI := ⟨1, 8, [.int .u64 0], false, none, .int .u64⟩
def ty276 : TyI := ⟨8, 64, [.int .u64 0, .int .u64 0, .int .u64 0, .int .u64 0, .int .u64 0, .int .u64 0, .int .u64 0, .int .u64 0], true, some [.int .u64, .int .u64, .int .u64, .int .u64, .int .u64, .int .u64, .int .u64, .int .u64], .arr 8 153⟩
def ty282 : TyI := ⟨0, 0, [], true, some [], .struct []⟩
def ty290 : TyI := ⟨1, 8, [.nilp], false, none, .ptr 24⟩
def ty292 : TyI := ⟨1, 8, [.nilp], false, none, .ptr 22⟩
def ty294 : TyI := ⟨1, 8, [.nilp], false, none, .ptr 3⟩
def ty296 : TyI := ⟨1, 8, [.nilp], false, none, .ptr 101⟩
def ty298 : TyI := ⟨1, 8, [.nilp], false, none, .ptr 35⟩
def ty300 : TyI := ⟨1, 8, [.nilp], false, none, .ptr 47⟩
def ty302 : TyI := ⟨1, 8, [.nilp], false, none, .ptr 93⟩
def ty303 : TyI := ⟨1, 8, [.nilp], false, none, .ptr 82⟩
def ty304 : TyI := ⟨0, 0, [], true, some [], .struct []⟩
def ty310 : TyI := ⟨1, 24, [.nils], false, none, .slice 315⟩
def ty312 : TyI := ⟨6, 80, [.bool false, .int .i64 0, .nils, .nils, .int .i64 0, .nilm], true, none, .struct [(0, 4), (1, 2), (2, 310), (3, 46), (4, 3), (5, 129)]⟩
def ty315 : TyI := ⟨17, 136, [.int .i64 0, .int .i64 0, .int .i64 0, .int .i64 0, .int .i64 0, .int .i64 0, .int .i64 0, .int .i64 0, .int .i64 0, .int .i64 0, .int .i64 0, .int .i64 0, .int .i64 0, .int .i64 0, .int .i64 0, .int .i64 0, .int .i64 0], true, some [.int .i64, .int .i64, .int .i64, .int .i64, .int .i64, .int .i64, .int .i64, .int .i64, .int .i64, .int .i64, .int .i64, .int .i64, .int .i64, .int .i64, .int .i64, .int .i64, .int .i64], .struct [(0, 142), (6, 142), (12, 3), (13, 3), (14, 3), (15, 3), (16, 3)]⟩
def ty318 : TyI := ⟨1, 8, [.nilf], false, none, .func⟩
def ty324 : TyI := ⟨1, 8, [.nilf], false, none, .func⟩
def ty373 : TyI := ⟨1, 8, [.nilf], false, none, .func⟩
def ty374 : TyI := ⟨1, 8, [.nilf], false, none, .func⟩
def ty376 : TyI := ⟨2, 16, [.nilf, .nilf], true, none, .struct [(0, 373), (1, 374)]⟩
def ty377 : TyI := ⟨10, 80, [.nilf, .nilf, .nilf, .nilf, .nilf, .nilf, .nilf, .nilf, .nilf, .nilf], true, none, .arr 5 376⟩
def ty382 : TyI := ⟨16, 128, [.int .i64 0, .int .i64 0, .int .i64 0, .int .i64 0, .int .i64 0, .int .i64 0, .int .i64 0, .int .i64 0, .int .i64 0, .int .i64 0, .int .i64 0, .int .i64 0, .int .i64 0, .int .i64 0, .int .i64 0, .int .i64 0], true, some [.int .i64, .int .i64, .int .i64, .int .i64, .int .i64, .int .i64, .int .i64, .int .i64, .int .i64, .int .i64, .int .i64, .int .i64, .int .i64, .int .i64, .int .i64, .int .i64], .struct [(0, 31), (7, 120)]⟩
def ty384 : TyI := ⟨1, 8, [.nilf], false, none, .func⟩
def ty385 : TyI := ⟨3, 24, [.int .i64 0, .int .i64 0, .int .i64 0], true, some [.int .i64, .int .i64, .int .i64], .arr 3 2⟩
def ty387 : TyI := ⟨1, 8, [.nilf], false, none, .func⟩
def ty400 : TyI := ⟨1, 8, [.nilf], false, none, .func⟩
def ty403 : TyI := ⟨1, 24, [.nils], false, none, .slice 292⟩
def ty404 : TyI := ⟨1, 24, [.nils], false, none, .slice 294⟩
def ty406 : TyI := ⟨1, 8, [.nilp], false, none, .ptr 25⟩
def ty407 : TyI := ⟨1, 8, [.nilp], false, none, .ptr 29⟩
def ty411 : TyI := ⟨1, 8, [.nilf], false, none, .func⟩
def ty418 : TyI := ⟨32, 256, [.int .u64 0, .int .u64 0, .int .u64 0, .int .u64 0, .int .u64 0, .int .u64 0, .int .u64 0, .int .u64 0, .int .u64 0, .int .u64 0, .int .u64 0, .int .u64 0, .int .u64 0, .int .u64 0, .int .u64 0, .int .u64 0, .int .u64 0, .int .u64 0, .int .u64 0, .int .u64 0, .int .u64 0, .int .u64 0, .int .u64 0, .int .u64 0, .int .u64 0, .int .u64 0, .int .u64 0, .int .u64 0, .int .u64 0, .int .u64 0, .int .u64 0, .int .u64 0], true, some [.int .u64, .int .u64, .int .u64, .int .u64, .int .u64, .int .u64, .int .u64, .int .u64, .int .u64, .int .u64, .int .u64, .int .u64, .int .u64, .int .u64, .int .u64, .int .u64, .int .u64, .int .u64, .int .u64, .int .u64, .int .u64, .int .u64, .int .u64, .int .u64, .int .u64, .int .u64, .int .u64, .int .u64, .int .u64, .int .u64, .int .u64, .int .u64], .arr 4 156⟩
def ty422 : TyI := ⟨3, 24, [.int .i64 0, .int .i64 0, .int .i64 0], true, some [.int .i64, .int .i64, .int .i64], .struct [(0, 3), (1, 3), (2, 3)]⟩
def ty423 : TyI := ⟨1, 24, [.nils], false, none, .slice 422⟩
def ty424 : TyI := ⟨3, 72, [.nils, .nils, .nils], true, none, .arr 3 423⟩
def ty425 : TyI := ⟨9, 216, [.nils, .nils, .nils, .nils, .nils, .nils, .nils, .nils, .nils], true, none, .arr 3 424⟩
def ty427 : TyI := ⟨1, 8, [.nilf], false, none, .func⟩
def ty460 : TyI := ⟨1, 24, [.nils], false, none, .slice 156⟩
def ty461 : TyI := ⟨1, 24, [.nils], false, none, .slice 142⟩
def ty479 : TyI := ⟨1, 8, [.nilf], false, none, .func⟩
def ty484 : TyI := ⟨1, 8, [.int .i64 0], false, none, .int .i64⟩
def ty492 : TyI := ⟨1, 4, [.int .u32 0], false, none, .int .u32⟩
def ty505 : TyI := ⟨1, 24, [.nils], true, none, .struct [(0, 138)]⟩
theorem tab_leaf {P : Program} {k : Nat} {ty : TyI} (h : TyOk P k ty) {t : Nat} {i : TyI} (e : cond (Nat.beq t k) (some ty) none = some i) : TyOk P t i := by
  cases hb : Nat.beq t k with
  | false => rw [hb] at e; cases e
  | true => rw [hb] at e; cases e; rw [Nat.eq_of_beq_eq_true hb]; exact h
theorem tab_node {P : Program} {a b : Option TyI} {c : Bool} {t : Nat} {i : TyI} (h1 : a = some i → TyOk P t i) (h2 : b = some i → TyOk P t i) (e : cond c a b = some i) : TyOk P t i := by
  cases c with
  | true => exact h1 e
  | false => exact h2 e
def tyTab : TTab := fun t => (cond (Nat.blt t 176) (cond (Nat.blt t 56) (cond (Nat.blt t 33) (cond (Nat.blt t 20) (cond (Nat.blt t 4) (cond (Nat.blt t 2) (cond (Nat.beq t 1) (some ty1) none) (cond (Nat.blt t 3) (cond (Nat.beq t 2) (some ty2) none) (cond (Nat.beq t 3) (some ty3) none))) (cond (Nat.blt t 5) (cond (Nat.beq t 4) (some ty4) none) (cond (Nat.blt t 9) (cond (Nat.beq t 5) (some ty5) none) (cond (Nat.beq t 9) (some ty9) none)))) (cond (Nat.blt t 25) (cond (Nat.blt t 22) (cond (Nat.beq t 20) (some ty20) none) (cond (Nat.blt t 24) (cond (Nat.beq t 22) (some ty22) none) (cond (Nat.beq t 24) (some ty24) none))) (cond (Nat.blt t 29) (cond (Nat.blt t 27) (cond (Nat.beq t 25) (some ty25) none) (cond (Nat.beq t 27) (some ty27) none)) (cond (Nat.blt t 31) (cond (Nat.beq t 29) (some ty29) none) (cond (Nat.beq t 31) (some ty31) none))))) (cond (Nat.blt t 45) (cond (Nat.blt t 39) (cond (Nat.blt t 35) (cond (Nat.beq t 33) (some ty33) none) (cond (Nat.blt t 37) (cond (Nat.beq t 35) (some ty35) none) (cond (Nat.beq t 37) (some ty37) none))) (cond (Nat.blt t 41) (cond (Nat.blt t 40) (cond (Nat.beq t 39) (some ty39) none) (cond (Nat.beq t 40) (some ty40) none)) (cond (Nat.blt t 43) (cond (Nat.beq t 41) (some ty41) none) (cond (Nat.beq t 43) (some ty43) none)))) (cond (Nat.blt t 48) (cond (Nat.blt t 46) (cond (Nat.beq t 45) (some ty45) none) (cond (Nat.blt t 47) (cond (Nat.beq t 46) (some ty46) none) (cond (Nat.beq t 47) (some ty47) none))) (cond (Nat.blt t 51) (cond (Nat.blt t 49) (cond (Nat.beq t 48) (some ty48) none) (cond (Nat.beq t 49) (some ty49) none)) (cond (Nat.blt t 53) (cond (Nat.beq t 51) (some ty51) none) (cond (Nat.beq t 53) (some ty53) none)))))) (cond (Nat.blt t 111) (cond (Nat.blt t 82) (cond (Nat.blt t 67) (cond (Nat.blt t 60) (cond (Nat.beq t 56) (some ty56) none) (cond (Nat.blt t 62) (cond (Nat.beq t 60) (some ty60) none) (cond (Nat.beq t 62) (some ty62) none))) (cond (Nat.blt t 70) (cond (Nat.blt t 69) (cond (Nat.beq t 67) (some ty67) none) (cond (Nat.beq t 69) (some ty69) none)) (cond (Nat.blt t 80) (cond (Nat.beq t 70) (some ty70) none) (cond (Nat.beq t 80) (some ty80) none)))) (cond (Nat.blt t 93) (cond (Nat.blt t 84) (cond (Nat.beq t 82) (some ty82) none) (cond (Nat.blt t 92) (cond (Nat.beq t 84) (some ty84) none) (cond (Nat.beq t 92) (some ty92) none))) (cond (Nat.blt t 101) (cond (Nat.blt t 95) (cond (Nat.beq t 93) (some ty93) none) (cond (Nat.beq t 95) (some ty95) none)) (cond (Nat.blt t 103) (cond (Nat.beq t 101) (some ty101) none) (cond (Nat.beq t 103) (some ty103) none))))) (cond (Nat.blt t 142) (cond (Nat.blt t 118) (cond (Nat.blt t 113) (cond (Nat.beq t 111) (some ty111) none) (cond (Nat.blt t 117) (cond (Nat.beq t 113) (some ty113) none) (cond (Nat.beq t 117) (some ty117) none))) (cond (Nat.blt t 129) (cond (Nat.blt t 120) (cond (Nat.beq t 118) (some ty118) none) (cond (Nat.beq t 120) (some ty120) none)) (cond (Nat.blt t 138) (cond (Nat.beq t 129) (some ty129) none) (cond (Nat.beq t 138) (some ty138) none)))) (cond (Nat.blt t 154) (cond (Nat.blt t 152) (cond (Nat.beq t 142) (some ty142) none) (cond (Nat.blt t 153) (cond (Nat.beq t 152) (some ty152) none) (cond (Nat.beq t 153) (some ty153) none))) (cond (Nat.blt t 173) (cond (Nat.blt t 156) (cond (Nat.beq t 154) (some ty154) none) (cond (Nat.beq t 156) (some ty156) none)) (cond (Nat.blt t 174) (cond (Nat.beq t 173) (some ty173) none) (cond (Nat.beq t 174) (some ty174) none))))))) (cond (Nat.blt t 318) (cond (Nat.blt t 276) (cond (Nat.blt t 192) (cond (Nat.blt t 187) (cond (Nat.blt t 178) (cond (Nat.beq t 176) (some ty176) none) (cond (Nat.blt t 179) (cond (Nat.beq t 178) (some ty178) none) (cond (Nat.beq t 179) (some ty179) none))) (cond (Nat.blt t 189) (cond (Nat.beq t 187) (some ty187) none) (cond (Nat.blt t 190) (cond (Nat.beq t 189) (some ty189) none) (cond (Nat.beq t 190) (some ty190) none)))) (cond (Nat.blt t 214) (cond (Nat.blt t 198) (cond (Nat.beq t 192) (some ty192) none) (cond (Nat.blt t 206) (cond (Nat.beq t 198) (some ty198) none) (cond (Nat.beq t 206) (some ty206) none))) (cond (Nat.blt t 244) (cond (Nat.blt t 215) (cond (Nat.beq t 214) (some ty214) none) (cond (Nat.beq t 215) (some ty215) none)) (cond (Nat.blt t 254) (cond (Nat.beq t 244) (some ty244) none) (cond (Nat.beq t 254) (some ty254) none))))) (cond (Nat.blt t 300) (cond (Nat.blt t 292) (cond (Nat.blt t 282) (cond (Nat.beq t 276) (some ty276) none) (cond (Nat.blt t 290) (cond (Nat.beq t 282) (some ty282) none) (cond (Nat.beq t 290) (some ty290) none))) (cond (Nat.blt t 296) (cond (Nat.blt t 294) (cond (Nat.beq t 292) (some ty292) none) (cond (Nat.beq t 294) (some ty294) none)) (cond (Nat.blt t 298) (cond (Nat.beq t 296) (some ty296) none) (cond (Nat.beq t 298) (some ty298) none)))) (cond (Nat.blt t 304) (cond (Nat.blt t 302) (cond (Nat.beq t 300) (some ty300) none) (cond (Nat.blt t 303) (cond (Nat.beq t 302) (some ty302) none) (cond (Nat.beq t 303) (some ty303) none))) (cond (Nat.blt t 312) (cond (Nat.blt t 310) (cond (Nat.beq t 304) (some ty304) none) (cond (Nat.beq t 310) (some ty310) none)) (cond (Nat.blt t 315) (cond (Nat.beq t 312) (some ty312) none) (cond (Nat.beq t 315) (some ty315) none)))))) (cond (Nat.blt t 407) (cond (Nat.blt t 384) (cond (Nat.blt t 374) (cond (Nat.blt t 324) (cond (Nat.beq t 318) (some ty318) none) (cond (Nat.blt t 373) (cond (Nat.beq t 324) (some ty324) none) (cond (Nat.beq t 373) (some ty373) none))) (cond (Nat.blt t 377) (cond (Nat.blt t 376) (cond (Nat.beq t 374) (some ty374) none) (cond (Nat.beq t 376) (some ty376) none)) (cond (Nat.blt t 382) (cond (Nat.beq t 377) (some ty377) none) (cond (Nat.beq t 382) (some ty382) none)))) (cond (Nat.blt t 400) (cond (Nat.blt t 385) (cond (Nat.beq t 384) (some ty384) none) (cond (Nat.blt t 387) (cond (Nat.beq t 385) (some ty385) none) (cond (Nat.beq t 387) (some ty387) none))) (cond (Nat.blt t 404) (cond (Nat.blt t 403) (cond (Nat.beq t 400) (some ty400) none) (cond (Nat.beq t 403) (some ty403) none)) (cond (Nat.blt t 406) (cond (Nat.beq t 404) (some ty404) none) (cond (Nat.beq t 406) (some ty406) none))))) (cond (Nat.blt t 427) (cond (Nat.blt t 422) (cond (Nat.blt t 411) (cond (Nat.beq t 407) (some ty407) none) (cond (Nat.blt t 418) (cond (Nat.beq t 411) (some ty411) none) (cond (Nat.beq t 418) (some ty418) none))) (cond (Nat.blt t 424) (cond (Nat.blt t 423) (cond (Nat.beq t 422) (some ty422) none) (cond (Nat.beq t 423) (some ty423) none)) (cond (Nat.blt t 425) (cond (Nat.beq t 424) (some ty424) none) (cond (Nat.beq t 425) (some ty425) none)))) (cond (Nat.blt t 479) (cond (Nat.blt t 460) (cond (Nat.beq t 427) (some ty427) none) (cond (Nat.blt t 461) (cond (Nat.beq t 460) (some ty460) none) (cond (Nat.beq t 461) (some ty461) none))) (cond (Nat.blt t 492) (cond (Nat.blt t 484) (cond (Nat.beq t 479) (some ty479) none) (cond (Nat.beq t 484) (some ty484) none)) (cond (Nat.blt t 505) (cond (Nat.beq t 492) (some ty492) none) (cond (Nat.beq t 505) (some ty505) none))))))))
theorem ty1_ok : TyOk Tryz.prog 1 ty1 :=
  ⟨⟨Tryz.t1, by kernel_rfl, rfl, rfl, _, rfl, fun _ => rfl⟩, rfl, by decide, rfl, ⟨_, _, _, Tryz.underlying1⟩, rfl, nofun⟩
theorem ty2_ok : TyOk Tryz.prog 2 ty2 :=
  ⟨⟨Tryz.t2, by kernel_rfl, rfl, rfl, _, rfl, fun _ => rfl⟩, rfl, by decide, rfl, Tryz.underlying2, rfl, nofun⟩
theorem ty3_ok : TyOk Tryz.prog 3 ty3 :=
  ⟨⟨Tryz.t3, by kernel_rfl, rfl, rfl, _, rfl, fun _ => rfl⟩, rfl, by decide, rfl, Tryz.underlying3, rfl, nofun⟩
theorem ty4_ok : TyOk Tryz.prog 4 ty4 :=
  ⟨⟨Tryz.t4, by kernel_rfl, rfl, rfl, _, rfl, fun _ => rfl⟩, rfl, by decide, rfl, Tryz.underlying4, rfl, nofun⟩
theorem ty5_ok : TyOk Tryz.prog 5 ty5 :=
  ⟨⟨Tryz.t5, by kernel_rfl, rfl, rfl, _, rfl, fun _ => rfl⟩, rfl, by decide, rfl, Tryz.underlying5, rfl, nofun⟩
theorem ty9_ok : TyOk Tryz.prog 9 ty9 :=
  ⟨⟨Tryz.t9, by kernel_rfl, rfl, rfl, _, rfl, fun _ => rfl⟩, rfl, by decide, rfl, Tryz.underlying9, rfl, nofun⟩
theorem ty20_ok : TyOk Tryz.prog 20 ty20 :=
  ⟨⟨Tryz.t20, by kernel_rfl, rfl, rfl, _, rfl, fun _ => rfl⟩, rfl, by decide, rfl, ⟨_, Tryz.underlying20⟩, rfl, nofun⟩
theorem ty22_ok : TyOk Tryz.prog 22 ty22 :=
  ⟨⟨Tryz.t22, by kernel_rfl, rfl, rfl, _, rfl, fun _ => rfl⟩, rfl, by decide, rfl, Tryz.underlying22, rfl, nofun⟩
theorem ty24_ok : TyOk Tryz.prog 24 ty24 :=
  ⟨⟨Tryz.t24, by kernel_rfl, rfl, rfl, _, rfl, fun _ => rfl⟩, rfl, by decide, rfl, ⟨_, Tryz.underlying24, rfl⟩, rfl, fun ks h => flatOk_of (d := 12) (by decide) (by cases h; kernel_rfl) Tryz.eqGuardType24 (by rw [Tryz.underlying24])⟩
theorem ty25_ok : TyOk Tryz.prog 25 ty25 :=
  ⟨⟨Tryz.t25, by kernel_rfl, rfl, rfl, _, rfl, fun _ => rfl⟩, rfl, by decide, rfl, Tryz.underlying25, rfl, nofun⟩
theorem ty27_ok : TyOk Tryz.prog 27 ty27 :=
  ⟨⟨Tryz.t27, by kernel_rfl, rfl, rfl, _, rfl, fun _ => rfl⟩, rfl, by decide, rfl, ⟨_, Tryz.underlying27, rfl⟩, rfl, nofun⟩
theorem ty29_ok : TyOk Tryz.prog 29 ty29 :=
  ⟨⟨Tryz.t29, by kernel_rfl, rfl, rfl, _, rfl, fun _ => rfl⟩, rfl, by decide, rfl, ⟨_, Tryz.underlying29, rfl⟩, rfl, fun ks h => flatOk_of (d := 12) (by decide) (by cases h; kernel_rfl) Tryz.eqGuardType29 (by rw [Tryz.underlying29])⟩
theorem ty31_ok : TyOk Tryz.prog 31 ty31 :=
  ⟨⟨Tryz.t31, by kernel_rfl, rfl, rfl, _, rfl, fun _ => rfl⟩, rfl, by decide, rfl, ⟨_, Tryz.underlying31, rfl⟩, rfl, fun ks h => flatOk_of (d := 12) (by decide) (by cases h; kernel_rfl) Tryz.eqGuardType31 (by rw [Tryz.underlying31])⟩
theorem ty33_ok : TyOk Tryz.prog 33 ty33 :=
  ⟨⟨Tryz.t33, by kernel_rfl, rfl, rfl, _, rfl, fun _ => rfl⟩, rfl, by decide, rfl, ⟨_, Tryz.underlying33, rfl⟩, rfl, nofun⟩
theorem ty35_ok : TyOk Tryz.prog 35 ty35 :=
  ⟨⟨Tryz.t35, by kernel_rfl, rfl, rfl, _, rfl, fun _ => rfl⟩, rfl, by decide, rfl, ⟨_, Tryz.underlying35, rfl⟩, rfl, nofun⟩
theorem ty37_ok : TyOk Tryz.prog 37 ty37 :=
  ⟨⟨Tryz.t37, by kernel_rfl, rfl, rfl, _, rfl, fun _ => rfl⟩, rfl, by decide, rfl, ⟨_, Tryz.underlying37, rfl⟩, rfl, fun ks h => flatOk_of (d := 12) (by decide) (by cases h; kernel_rfl) Tryz.eqGuardType37 (by rw [Tryz.underlying37])⟩
theorem ty39_ok : TyOk Tryz.prog 39 ty39 :=
  ⟨⟨Tryz.t39, by kernel_rfl, rfl, rfl, _, rfl, fun _ => rfl⟩, rfl, by decide, rfl, ⟨_, Tryz.underlying39, rfl⟩, rfl, nofun⟩
theorem ty40_ok : TyOk Tryz.prog 40 ty40 :=
  ⟨⟨Tryz.t40, by kernel_rfl, rfl, rfl, _, rfl, fun _ => rfl⟩, rfl, by decide, rfl, Tryz.underlying40, rfl, nofun⟩
theorem ty41_ok : TyOk Tryz.prog 41 ty41 :=
  ⟨⟨Tryz.t41, by kernel_rfl, rfl, rfl, _, rfl, fun _ => rfl⟩, rfl, by decide, rfl, Tryz.underlying41, rfl, nofun⟩
theorem ty43_ok : TyOk Tryz.prog 43 ty43 :=
  ⟨⟨Tryz.t43, by kernel_rfl, rfl, rfl, _, rfl, fun _ => rfl⟩, rfl, by decide, rfl, ⟨_, Tryz.underlying43, rfl⟩, rfl, nofun⟩
theorem ty45_ok : TyOk Tryz.prog 45 ty45 :=
  ⟨⟨Tryz.t45, by kernel_rfl, rfl, rfl, _, rfl, fun _ => rfl⟩, rfl, by decide, rfl, Tryz.underlying45, rfl, nofun⟩
theorem ty46_ok : TyOk Tryz.prog 46 ty46 :=
  ⟨⟨Tryz.t46, by kernel_rfl, rfl, rfl, _, rfl, fun _ => rfl⟩, rfl, by decide, rfl, Tryz.underlying46, rfl, nofun⟩
theorem ty47_ok : TyOk Tryz.prog 47 ty47 :=
  ⟨⟨Tryz.t47, by kernel_rfl, rfl, rfl, _, rfl, fun _ => rfl⟩, rfl, by decide, rfl, Tryz.underlying47, rfl, nofun⟩
theorem ty48_ok : TyOk Tryz.prog 48 ty48 :=
  ⟨⟨Tryz.t48, by kernel_rfl, rfl, rfl, _, rfl, fun _ => rfl⟩, rfl, by decide, rfl, Tryz.underlying48, rfl, nofun⟩
theorem ty49_ok : TyOk Tryz.prog 49 ty49 :=
  ⟨⟨Tryz.t49, by kernel_rfl, rfl, rfl, _, rfl, fun _ => rfl⟩, rfl, by decide, rfl, Tryz.underlying49, rfl, nofun⟩
theorem ty51_ok : TyOk Tryz.prog 51 ty51 :=
  ⟨⟨Tryz.t51, by kernel_rfl, rfl, rfl, _, rfl, fun _ => rfl⟩, rfl, by decide, rfl, ⟨_, Tryz.underlying51, rfl⟩, rfl, nofun⟩
theorem ty53_ok : TyOk Tryz.prog 53 ty53 :=
  ⟨⟨Tryz.t53, by kernel_rfl, rfl, rfl, _, rfl, fun _ => rfl⟩, rfl, by decide, rfl, ⟨_, Tryz.underlying53, rfl⟩, rfl, nofun⟩
theorem ty56_ok : TyOk Tryz.prog 56 ty56 :=
  ⟨⟨Tryz.t56, by kernel_rfl, rfl, rfl, _, rfl, fun _ => rfl⟩, rfl, by decide, rfl, Tryz.underlying56, rfl, nofun⟩
theorem ty60_ok : TyOk Tryz.prog 60 ty60 :=
  ⟨⟨Tryz.t60, by kernel_rfl, rfl, rfl, _, rfl, fun _ => rfl⟩, rfl, by decide, rfl, ⟨_, Tryz.underlying60, rfl⟩, rfl, fun ks h => flatOk_of (d := 12) (by decide) (by cases h; kernel_rfl) Tryz.eqGuardType60 (by rw [Tryz.underlying60])⟩
theorem ty62_ok : TyOk Tryz.prog 62 ty62 :=
  ⟨⟨Tryz.t62, by kernel_rfl, rfl, rfl, _, rfl, fun _ => rfl⟩, rfl, by decide, rfl, Tryz.underlying62, rfl, nofun⟩
theorem ty67_ok : TyOk Tryz.prog 67 ty67 :=
  ⟨⟨Tryz.t67, by kernel_rfl, rfl, rfl, _, rfl, fun _ => rfl⟩, rfl, by decide, rfl, ⟨_, _, _, Tryz.underlying67⟩, rfl, nofun⟩
theorem ty69_ok : TyOk Tryz.prog 69 ty69 :=
  ⟨⟨Tryz.t69, by kernel_rfl, rfl, rfl, _, rfl, fun _ => rfl⟩, rfl, by decide, rfl, ⟨_, Tryz.underlying69, rfl⟩, rfl, nofun⟩
theorem ty70_ok : TyOk Tryz.prog 70 ty70 :=
  ⟨⟨Tryz.t70, by kernel_rfl, rfl, rfl, _, rfl, fun _ => rfl⟩, rfl, by decide, rfl, Tryz.underlying70, rfl, nofun⟩
theorem ty80_ok : TyOk Tryz.prog 80 ty80 :=
  ⟨⟨Tryz.t80, by kernel_rfl, rfl, rfl, _, rfl, fun _ => rfl⟩, rfl, by decide, rfl, ⟨_, Tryz.underlying80, rfl⟩, rfl, fun ks h => flatOk_of (d := 12) (by decide) (by cases h; kernel_rfl) Tryz.eqGuardType80 (by rw [Tryz.underlying80])⟩
theorem ty82_ok : TyOk Tryz.prog 82 ty82 :=
  ⟨⟨Tryz.t82, by kernel_rfl, rfl, rfl, _, rfl, fun _ => rfl⟩, rfl, by decide, rfl, ⟨_, Tryz.underlying82, rfl⟩, rfl, fun ks h => flatOk_of (d := 12) (by decide) (by cases h; kernel_rfl) Tryz.eqGuardType82 (by rw [Tryz.underlying82])⟩
theorem ty84_ok : TyOk Tryz.prog 84 ty84 :=
  ⟨⟨Tryz.t84, by kernel_rfl, rfl, rfl, _, rfl, fun _ => rfl⟩, rfl, by decide, rfl, ⟨_, Tryz.underlying84, rfl⟩, rfl, fun ks h => flatOk_of (d := 12) (by decide) (by cases h; kernel_rfl) Tryz.eqGuardType84 (by rw [Tryz.underlying84])⟩
theorem ty92_ok : TyOk Tryz.prog 92 ty92 :=
  ⟨⟨Tryz.t92, by kernel_rfl, rfl, rfl, _, rfl, fun _ => rfl⟩, rfl, by decide, rfl, Tryz.underlying92, rfl, nofun⟩
theorem ty93_ok : TyOk Tryz.prog 93 ty93 :=
  ⟨⟨Tryz.t93, by kernel_rfl, rfl, rfl, _, rfl, fun _ => rfl⟩, rfl, by decide, rfl, Tryz.underlying93, rfl, nofun⟩
theorem ty95_ok : TyOk Tryz.prog 95 ty95 :=
  ⟨⟨Tryz.t95, by kernel_rfl, rfl, rfl, _, rfl, fun _ => rfl⟩, rfl, by decide, rfl, ⟨_, Tryz.underlying95, rfl⟩, rfl, nofun⟩
theorem ty101_ok : TyOk Tryz.prog 101 ty101 :=
  ⟨⟨Tryz.t101, by kernel_rfl, rfl, rfl, _, rfl, fun _ => rfl⟩, rfl, by decide, rfl, Tryz.underlying101, rfl, nofun⟩
theorem ty103_ok : TyOk Tryz.prog 103 ty103 :=
  ⟨⟨Tryz.t103, by kernel_rfl, rfl, rfl, _, rfl, fun _ => rfl⟩, rfl, by decide, rfl, ⟨_, Tryz.underlying103, rfl⟩, rfl, nofun⟩
theorem ty111_ok : TyOk Tryz.prog 111 ty111 :=
  ⟨⟨Tryz.t111, by kernel_rfl, rfl, rfl, _, rfl, fun _ => rfl⟩, rfl, by decide, rfl, ⟨_, Tryz.underlying111, rfl⟩, rfl, fun ks h => flatOk_of (d := 12) (by decide) (by cases h; kernel_rfl) Tryz.eqGuardType111 (by rw [Tryz.underlying111])⟩
theorem ty113_ok : TyOk Tryz.prog 113 ty113 :=
  ⟨⟨Tryz.t113, by kernel_rfl, rfl, rfl, _, rfl, fun _ => rfl⟩, rfl, by decide, rfl, ⟨_, Tryz.underlying113, rfl⟩, rfl, fun ks h => flatOk_of (d := 12) (by decide) (by cases h; kernel_rfl) Tryz.eqGuardType113 (by rw [Tryz.underlying113])⟩
theorem ty117_ok : TyOk Tryz.prog 117 ty117 :=
  ⟨⟨Tryz.t117, by kernel_rfl, rfl, rfl, _, rfl, fun _ => rfl⟩, rfl, by decide, rfl, ⟨_, _, _, Tryz.underlying117⟩, rfl, nofun⟩
theorem ty118_ok : TyOk Tryz.prog 118 ty118 :=
  ⟨⟨Tryz.t118, by kernel_rfl, rfl, rfl, _, rfl, fun _ => rfl⟩, rfl, by decide, rfl, Tryz.underlying118, rfl, fun ks h => flatOk_of (d := 12) (by decide) (by cases h; kernel_rfl) Tryz.eqGuardType118 (by rw [Tryz.underlying118])⟩
theorem ty120_ok : TyOk Tryz.prog 120 ty120 :=
  ⟨⟨Tryz.t120, by kernel_rfl, rfl, rfl, _, rfl, fun _ => rfl⟩, rfl, by decide, rfl, ⟨_, Tryz.underlying120, rfl⟩, rfl, fun ks h => flatOk_of (d := 12) (by decide) (by cases h; kernel_rfl) Tryz.eqGuardType120 (by rw [Tryz.underlying120])⟩
theorem ty129_ok : TyOk Tryz.prog 129 ty129 :=
  ⟨⟨Tryz.t129, by kernel_rfl, rfl, rfl, _, rfl, fun _ => rfl⟩, rfl, by decide, rfl, Tryz.underlying129, rfl, nofun⟩
theorem ty138_ok : TyOk Tryz.prog 138 ty138 :=
  ⟨⟨Tryz.t138, by kernel_rfl, rfl, rfl, _, rfl, fun _ => rfl⟩, rfl, by decide, rfl, Tryz.underlying138, rfl, nofun⟩
theorem ty142_ok : TyOk Tryz.prog 142 ty142 :=
  ⟨⟨Tryz.t142, by kernel_rfl, rfl, rfl, _, rfl, fun _ => rfl⟩, rfl, by decide, rfl, ⟨_, Tryz.underlying142, rfl⟩, rfl, fun ks h => flatOk_of (d := 12) (by decide) (by cases h; kernel_rfl) Tryz.eqGuardType142 (by rw [Tryz.underlying142])⟩
theorem ty152_ok : TyOk Tryz.prog 152 ty152 :=
  ⟨⟨Tryz.t152, by kernel_rfl, rfl, rfl, _, rfl, fun _ => rfl⟩, rfl, by decide, rfl, ⟨_, _, _, Tryz.underlying152⟩, rfl, nofun⟩
theorem ty153_ok : TyOk Tryz.prog 153 ty153 :=
  ⟨⟨Tryz.t153, by kernel_rfl, rfl, rfl, _, rfl, fun _ => rfl⟩, rfl, by decide, rfl, Tryz.underlying153, rfl, nofun⟩
theorem ty154_ok : TyOk Tryz.prog 154 ty154 :=
  ⟨⟨Tryz.t154, by kernel_rfl, rfl, rfl, _, rfl, fun _ => rfl⟩, rfl, by decide, rfl, Tryz.underlying154, rfl, fun ks h => flatOk_of (d := 12) (by decide) (by cases h; kernel_rfl) Tryz.eqGuardType154 (by rw [Tryz.underlying154])⟩
theorem ty156_ok : TyOk Tryz.prog 156 ty156 :=
  ⟨⟨Tryz.t156, by kernel_rfl, rfl, rfl, _, rfl, fun _ => rfl⟩, rfl, by decide, rfl, ⟨_, Tryz.underlying156, rfl⟩, rfl, fun ks h => flatOk_of (d := 12) (by decide) (by cases h; kernel_rfl) Tryz.eqGuardType156 (by rw [Tryz.underlying156])⟩
theorem ty173_ok : TyOk Tryz.prog 173 ty173 :=
  ⟨⟨Tryz.t173, by kernel_rfl, rfl, rfl, _, rfl, fun _ => rfl⟩, rfl, by decide, rfl, Tryz.underlying173, rfl, nofun⟩
theorem ty174_ok : TyOk Tryz.prog 174 ty174 :=
  ⟨⟨Tryz.t174, by kernel_rfl, rfl, rfl, _, rfl, fun _ => rfl⟩, rfl, by decide, rfl, Tryz.underlying174, rfl, nofun⟩
theorem ty176_ok : TyOk Tryz.prog 176 ty176 :=
  ⟨⟨Tryz.t176, by kernel_rfl, rfl, rfl, _, rfl, fun _ => rfl⟩, rfl, by decide, rfl, ⟨_, Tryz.underlying176, rfl⟩, rfl, nofun⟩
theorem ty178_ok : TyOk Tryz.prog 178 ty178 :=
  ⟨⟨Tryz.t178, by kernel_rfl, rfl, rfl, _, rfl, fun _ => rfl⟩, rfl, by decide, rfl, ⟨_, _, _, Tryz.underlying178⟩, rfl, nofun⟩
theorem ty179_ok : TyOk Tryz.prog 179 ty179 :=
  ⟨⟨Tryz.t179, by kernel_rfl, rfl, rfl, _, rfl, fun _ => rfl⟩, rfl, by decide, rfl, Tryz.underlying179, rfl, nofun⟩
theorem ty187_ok : TyOk Tryz.prog 187 ty187 :=
  ⟨⟨Tryz.t187, by kernel_rfl, rfl, rfl, _, rfl, fun _ => rfl⟩, rfl, by decide, rfl, Tryz.underlying187, rfl, nofun⟩
theorem ty189_ok : TyOk Tryz.prog 189 ty189 :=
  ⟨⟨Tryz.t189, by kernel_rfl, rfl, rfl, _, rfl, fun _ => rfl⟩, rfl, by decide, rfl, ⟨_, Tryz.underlying189, rfl⟩, rfl, nofun⟩
theorem ty190_ok : TyOk Tryz.prog 190 ty190 :=
  ⟨⟨Tryz.t190, by kernel_rfl, rfl, rfl, _, rfl, fun _ => rfl⟩, rfl, by decide, rfl, Tryz.underlying190, rfl, nofun⟩
theorem ty192_ok : TyOk Tryz.prog 192 ty192 :=
  ⟨⟨Tryz.t192, by kernel_rfl, rfl, rfl, _, rfl, fun _ => rfl⟩, rfl, by decide, rfl, ⟨_, Tryz.underlying192, rfl⟩, rfl, nofun⟩
theorem ty198_ok : TyOk Tryz.prog 198 ty198 :=
  ⟨⟨Tryz.t198, by kernel_rfl, rfl, rfl, _, rfl, fun _ => rfl⟩, rfl, by decide, rfl, ⟨_, Tryz.underlying198, rfl⟩, rfl, nofun⟩
theorem ty206_ok : TyOk Tryz.prog 206 ty206 :=
  ⟨⟨Tryz.t206, by kernel_rfl, rfl, rfl, _, rfl, fun _ => rfl⟩, rfl, by decide, rfl, ⟨_, _, _, Tryz.underlying206⟩, rfl, nofun⟩
theorem ty214_ok : TyOk Tryz.prog 214 ty214 :=
  ⟨⟨Tryz.t214, by kernel_rfl, rfl, rfl, _, rfl, fun _ => rfl⟩, rfl, by decide, rfl, ⟨_, _, _, Tryz.underlying214⟩, rfl, nofun⟩
theorem ty215_ok : TyOk Tryz.prog 215 ty215 :=
  ⟨⟨Tryz.t215, by kernel_rfl, rfl, rfl, _, rfl, fun _ => rfl⟩, rfl, by decide, rfl, ⟨_, _, _, Tryz.underlying215⟩, rfl, nofun⟩
theorem ty244_ok : TyOk Tryz.prog 244 ty244 :=
  ⟨⟨Tryz.t244, by kernel_rfl, rfl, rfl, _, rfl, fun _ => rfl⟩, rfl, by decide, rfl, Tryz.underlying244, rfl, nofun⟩
theorem ty254_ok : TyOk Tryz.prog 254 ty254 :=
  ⟨⟨Tryz.t254, by kernel_rfl, rfl, rfl, _, rfl, fun _ => rfl⟩, rfl, by decide, rfl, Tryz.underlying254, rfl, nofun⟩
theorem ty276_ok : TyOk Tryz.prog 276 ty276 :=
  ⟨⟨Tryz.t276, by kernel_rfl, rfl, rfl, _, rfl, fun _ => rfl⟩, rfl, by decide, rfl, Tryz.underlying276, rfl, fun ks h => flatOk_of (d := 12) (by decide) (by cases h; kernel_rfl) Tryz.eqGuardType276 (by rw [Tryz.underlying276])⟩
theorem ty282_ok : TyOk Tryz.prog 282 ty282 :=
  ⟨⟨Tryz.t282, by kernel_rfl, rfl, rfl, _, rfl, fun _ => rfl⟩, rfl, by decide, rfl, ⟨_, Tryz.underlying282, rfl⟩, rfl, fun ks h => flatOk_of (d := 12) (by decide) (by cases h; kernel_rfl) Tryz.eqGuardType282 (by rw [Tryz.underlying282])⟩
theorem ty290_ok : TyOk Tryz.prog 290 ty290 :=
  ⟨⟨Tryz.t290, by kernel_rfl, rfl, rfl, _, rfl, fun _ => rfl⟩, rfl, by decide, rfl, Tryz.underlying290, rfl, nofun⟩
theorem ty292_ok : TyOk Tryz.prog 292 ty292 :=
  ⟨⟨Tryz.t292, by kernel_rfl, rfl, rfl, _, rfl, fun _ => rfl⟩, rfl, by decide, rfl, Tryz.underlying292, rfl, nofun⟩
theorem ty294_ok : TyOk Tryz.prog 294 ty294 :=
  ⟨⟨Tryz.t294, by kernel_rfl, rfl, rfl, _, rfl, fun _ => rfl⟩, rfl, by decide, rfl, Tryz.underlying294, rfl, nofun⟩
theorem ty296_ok : TyOk Tryz.prog 296 ty296 :=
  ⟨⟨Tryz.t296, by kernel_rfl, rfl, rfl, _, rfl, fun _ => rfl⟩, rfl, by decide, rfl, Tryz.underlying296, rfl, nofun⟩
theorem ty298_ok : TyOk Tryz.prog 298 ty298 :=
  ⟨⟨Tryz.t298, by kernel_rfl, rfl, rfl, _, rfl, fun _ => rfl⟩, rfl, by decide, rfl, Tryz.underlying298, rfl, nofun⟩
theorem ty300_ok : TyOk Tryz.prog 300 ty300 :=
  ⟨⟨Tryz.t300, by kernel_rfl, rfl, rfl, _, rfl, fun _ => rfl⟩, rfl, by decide, rfl, Tryz.underlying300, rfl, nofun⟩
theorem ty302_ok : TyOk Tryz.prog 302 ty302 :=
  ⟨⟨Tryz.t302, by kernel_rfl, rfl, rfl, _, rfl, fun _ => rfl⟩, rfl, by decide, rfl, Tryz.underlying302, rfl, nofun⟩
theorem ty303_ok : TyOk Tryz.prog 303 ty303 :=
  ⟨⟨Tryz.t303, by kernel_rfl, rfl, rfl, _, rfl, fun _ => rfl⟩, rfl, by decide, rfl, Tryz.underlying303, rfl, nofun⟩
theorem ty304_ok : TyOk Tryz.prog 304 ty304 :=
  ⟨⟨Tryz.t304, by kernel_rfl, rfl, rfl, _, rfl, fun _ => rfl⟩, rfl, by decide, rfl, ⟨_, Tryz.underlying304, rfl⟩, rfl, fun ks h => flatOk_of (d := 12) (by decide) (by cases h; kernel_rfl) Tryz.eqGuardType304 (by rw [Tryz.underlying304])⟩
theorem ty310_ok : TyOk Tryz.prog 310 ty310 :=
  ⟨⟨Tryz.t310, by kernel_rfl, rfl, rfl, _, rfl, fun _ => rfl⟩, rfl, by decide, rfl, Tryz.underlying310, rfl, nofun⟩
theorem ty312_ok : TyOk Tryz.prog 312 ty312 :=
  ⟨⟨Tryz.t312, by kernel_rfl, rfl, rfl, _, rfl, fun _ => rfl⟩, rfl, by decide, rfl, ⟨_, Tryz.underlying312, rfl⟩, rfl, nofun⟩
theorem ty315_ok : TyOk Tryz.prog 315 ty315 :=
  ⟨⟨Tryz.t315, by kernel_rfl, rfl, rfl, _, rfl, fun _ => rfl⟩, rfl, by decide, rfl, ⟨_, Tryz.underlying315, rfl⟩, rfl, fun ks h => flatOk_of (d := 12) (by decide) (by cases h; kernel_rfl) Tryz.eqGuardType315 (by rw [Tryz.underlying315])⟩
theorem ty318_ok : TyOk Tryz.prog 318 ty318 :=
  ⟨⟨Tryz.t318, by kernel_rfl, rfl, rfl, _, rfl, fun _ => rfl⟩, rfl, by decide, rfl, ⟨_, _, _, Tryz.underlying318⟩, rfl, nofun⟩
theorem ty324_ok : TyOk Tryz.prog 324 ty324 :=
  ⟨⟨Tryz.t324, by kernel_rfl, rfl, rfl, _, rfl, fun _ => rfl⟩, rfl, by decide, rfl, ⟨_, _, _, Tryz.underlying324⟩, rfl, nofun⟩
theorem ty373_ok : TyOk Tryz.prog 373 ty373 :=
  ⟨⟨Tryz.t373, by kernel_rfl, rfl, rfl, _, rfl, fun _ => rfl⟩, rfl, by decide, rfl, ⟨_, _, _, Tryz.underlying373⟩, rfl, nofun⟩
theorem ty374_ok : TyOk Tryz.prog 374 ty374 :=
  ⟨⟨Tryz.t374, by kernel_rfl, rfl, rfl, _, rfl, fun _ => rfl⟩, rfl, by decide, rfl, ⟨_, _, _, Tryz.underlying374⟩, rfl, nofun⟩
theorem ty376_ok : TyOk Tryz.prog 376 ty376 :=
  ⟨⟨Tryz.t376, by kernel_rfl, rfl, rfl, _, rfl, fun _ => rfl⟩, rfl, by decide, rfl, ⟨_, Tryz.underlying376, rfl⟩, rfl, nofun⟩
theorem ty377_ok : TyOk Tryz.prog 377 ty377 :=
  ⟨⟨Tryz.t377, by kernel_rfl, rfl, rfl, _, rfl, fun _ => rfl⟩, rfl, by decide, rfl, Tryz.underlying377, rfl, nofun⟩
theorem ty382_ok : TyOk Tryz.prog 382 ty382 :=
  ⟨⟨Tryz.t382, by kernel_rfl, rfl, rfl, _, rfl, fun _ => rfl⟩, rfl, by decide, rfl, ⟨_, Tryz.underlying382, rfl⟩, rfl, fun ks h => flatOk_of (d := 12) (by decide) (by cases h; kernel_rfl) Tryz.eqGuardType382 (by rw [Tryz.underlying382])⟩
theorem ty384_ok : TyOk Tryz.prog 384 ty384 :=
  ⟨⟨Tryz.t384, by kernel_rfl, rfl, rfl, _, rfl, fun _ => rfl⟩, rfl, by decide, rfl, ⟨_, _, _, Tryz.underlying384⟩, rfl, nofun⟩
theorem ty385_ok : TyOk Tryz.prog 385 ty385 :=
  ⟨⟨Tryz.t385, by kernel_rfl, rfl, rfl, _, rfl, fun _ => rfl⟩, rfl, by decide, rfl, Tryz.underlying385, rfl, fun ks h => flatOk_of (d := 12) (by decide) (by cases h; kernel_rfl) Tryz.eqGuardType385 (by rw [Tryz.underlying385])⟩
theorem ty387_ok : TyOk Tryz.prog 387 ty387 :=
  ⟨⟨Tryz.t387, by kernel_rfl, rfl, rfl, _, rfl, fun _ => rfl⟩, rfl, by decide, rfl, ⟨_, _, _, Tryz.underlying387⟩, rfl, nofun⟩
theorem ty400_ok : TyOk Tryz.prog 400 ty400 :=
  ⟨⟨Tryz.t400, by kernel_rfl, rfl, rfl, _, rfl, fun _ => rfl⟩, rfl, by decide, rfl, ⟨_, _, _, Tryz.underlying400⟩, rfl, nofun⟩
theorem ty403_ok : TyOk Tryz.prog 403 ty403 :=
  ⟨⟨Tryz.t403, by kernel_rfl, rfl, rfl, _, rfl, fun _ => rfl⟩, rfl, by decide, rfl, Tryz.underlying403, rfl, nofun⟩
theorem ty404_ok : TyOk Tryz.prog 404 ty404 :=
  ⟨⟨Tryz.t404, by kernel_rfl, rfl, rfl, _, rfl, fun _ => rfl⟩, rfl, by decide, rfl, Tryz.underlying404, rfl, nofun⟩
theorem ty406_ok : TyOk Tryz.prog 406 ty406 :=
  ⟨⟨Tryz.t406, by kernel_rfl, rfl, rfl, _, rfl, fun _ => rfl⟩, rfl, by decide, rfl, Tryz.underlying406, rfl, nofun⟩
theorem ty407_ok : TyOk Tryz.prog 407 ty407 :=
  ⟨⟨Tryz.t407, by kernel_rfl, rfl, rfl, _, rfl, fun _ => rfl⟩, rfl, by decide, rfl, Tryz.underlying407, rfl, nofun⟩
theorem ty411_ok : TyOk Tryz.prog 411 ty411 :=
  ⟨⟨Tryz.t411, by kernel_rfl, rfl, rfl, _, rfl, fun _ => rfl⟩, rfl, by decide, rfl, ⟨_, _, _, Tryz.underlying411⟩, rfl, nofun⟩
theorem ty418_ok : TyOk Tryz.prog 418 ty418 :=
  ⟨⟨Tryz.t418, by kernel_rfl, rfl, rfl, _, rfl, fun _ => rfl⟩, rfl, by decide, rfl, Tryz.underlying418, rfl, fun ks h => flatOk_of (d := 12) (by decide) (by cases h; kernel_rfl) Tryz.eqGuardType418 (by rw [Tryz.underlying418])⟩
theorem ty422_ok : TyOk Tryz.prog 422 ty422 :=
  ⟨⟨Tryz.t422, by kernel_rfl, rfl, rfl, _, rfl, fun _ => rfl⟩, rfl, by decide, rfl, ⟨_, Tryz.underlying422, rfl⟩, rfl, fun ks h => flatOk_of (d := 12) (by decide) (by cases h; kernel_rfl) Tryz.eqGuardType422 (by rw [Tryz.underlying422])⟩
theorem ty423_ok : TyOk Tryz.prog 423 ty423 :=
  ⟨⟨Tryz.t423, by kernel_rfl, rfl, rfl, _, rfl, fun _ => rfl⟩, rfl, by decide, rfl, Tryz.underlying423, rfl, nofun⟩
theorem ty424_ok : TyOk Tryz.prog 424 ty424 :=
  ⟨⟨Tryz.t424, by kernel_rfl, rfl, rfl, _, rfl, fun _ => rfl⟩, rfl, by decide, rfl, Tryz.underlying424, rfl, nofun⟩
theorem ty425_ok : TyOk Tryz.prog 425 ty425 :=
  ⟨⟨Tryz.t425, by kernel_rfl, rfl, rfl, _, rfl, fun _ => rfl⟩, rfl, by decide, rfl, Tryz.underlying425, rfl, nofun⟩
theorem ty427_ok : TyOk Tryz.prog 427 ty427 :=
  ⟨⟨Tryz.t427, by kernel_rfl, rfl, rfl, _, rfl, fun _ => rfl⟩, rfl, by decide, rfl, ⟨_, _, _, Tryz.underlying427⟩, rfl, nofun⟩
theorem ty460_ok : TyOk Tryz.prog 460 ty460 :=
  ⟨⟨Tryz.t460, by kernel_rfl, rfl, rfl, _, rfl, fun _ => rfl⟩, rfl, by decide, rfl, Tryz.underlying460, rfl, nofun⟩
theorem ty461_ok : TyOk Tryz.prog 461 ty461 :=
  ⟨⟨Tryz.t461, by kernel_rfl, rfl, rfl, _, rfl, fun _ => rfl⟩, rfl, by decide, rfl, Tryz.underlying461, rfl, nofun⟩
theorem ty479_ok : TyOk Tryz.prog 479 ty479 :=
  ⟨⟨Tryz.t479, by kernel_rfl, rfl, rfl, _, rfl, fun _ => rfl⟩, rfl, by decide, rfl, ⟨_, _, _, Tryz.underlying479⟩, rfl, nofun⟩
theorem ty484_ok : TyOk Tryz.prog 484 ty484 :=
  ⟨⟨Tryz.t484, by kernel_rfl, rfl, rfl, _, rfl, fun _ => rfl⟩, rfl, by decide, rfl, Tryz.underlying484, rfl, nofun⟩
theorem ty492_ok : TyOk Tryz.prog 492 ty492 :=
  ⟨⟨Tryz.t492, by kernel_rfl, rfl, rfl, _, rfl, fun _ => rfl⟩, rfl, by decide, rfl, Tryz.underlying492, rfl, nofun⟩
theorem ty505_ok : TyOk Tryz.prog 505 ty505 :=
  ⟨⟨Tryz.t505, by kernel_rfl, rfl, rfl, _, rfl, fun _ => rfl⟩, rfl, by decide, rfl, ⟨_, Tryz.underlying505, rfl⟩, rfl, nofun⟩
theorem tab_ok : TabOk Tryz.prog tyTab := fun t i => (tab_node (tab_node (tab_node (tab_node (tab_node (tab_node (tab_leaf ty1_ok) (tab_node (tab_leaf ty2_ok) (tab_leaf ty3_ok))) (tab_node (tab_leaf ty4_ok) (tab_node (tab_leaf ty5_ok) (tab_leaf ty9_ok)))) (tab_node (tab_node (tab_leaf ty20_ok) (tab_node (tab_leaf ty22_ok) (tab_leaf ty24_ok))) (tab_node (tab_node (tab_leaf ty25_ok) (tab_leaf ty27_ok)) (tab_node (tab_leaf ty29_ok) (tab_leaf ty31_ok))))) (tab_node (tab_node (tab_node (tab_leaf ty33_ok) (tab_node (tab_leaf ty35_ok) (tab_leaf ty37_ok))) (tab_node (tab_node (tab_leaf ty39_ok) (tab_leaf ty40_ok)) (tab_node (tab_leaf ty41_ok) (tab_leaf ty43_ok)))) (tab_node (tab_node (tab_leaf ty45_ok) (tab_node (tab_leaf ty46_ok) (tab_leaf ty47_ok))) (tab_node (tab_node (tab_leaf ty48_ok) (tab_leaf ty49_ok)) (tab_node (tab_leaf ty51_ok) (tab_leaf ty53_ok)))))) (tab_node (tab_node (tab_node (tab_node (tab_leaf ty56_ok) (tab_node (tab_leaf ty60_ok) (tab_leaf ty62_ok))) (tab_node (tab_node (tab_leaf ty67_ok) (tab_leaf ty69_ok)) (tab_node (tab_leaf ty70_ok) (tab_leaf ty80_ok)))) (tab_node (tab_node (tab_leaf ty82_ok) (tab_node (tab_leaf ty84_ok) (tab_leaf ty92_ok))) (tab_node (tab_node (tab_leaf ty93_ok) (tab_leaf ty95_ok)) (tab_node (tab_leaf ty101_ok) (tab_leaf ty103_ok))))) (tab_node (tab_node (tab_node (tab_leaf ty111_ok) (tab_node (tab_leaf ty113_ok) (tab_leaf ty117_ok))) (tab_node (tab_node (tab_leaf ty118_ok) (tab_leaf ty120_ok)) (tab_node (tab_leaf ty129_ok) (tab_leaf ty138_ok)))) (tab_node (tab_node (tab_leaf ty142_ok) (tab_node (tab_leaf ty152_ok) (tab_leaf ty153_ok))) (tab_node (tab_node (tab_leaf ty154_ok) (tab_leaf ty156_ok)) (tab_node (tab_leaf ty173_ok) (tab_leaf ty174_ok))))))) (tab_node (tab_node (tab_node (tab_node (tab_node (tab_leaf ty176_ok) (tab_node (tab_leaf ty178_ok) (tab_leaf ty179_ok))) (tab_node (tab_leaf ty187_ok) (tab_node (tab_leaf ty189_ok) (tab_leaf ty190_ok)))) (tab_node (tab_node (tab_leaf ty192_ok) (tab_node (tab_leaf ty198_ok) (tab_leaf ty206_ok))) (tab_node (tab_node (tab_leaf ty214_ok) (tab_leaf ty215_ok)) (tab_node (tab_leaf ty244_ok) (tab_leaf ty254_ok))))) (tab_node (tab_node (tab_node (tab_leaf ty276_ok) (tab_node (tab_leaf ty282_ok) (tab_leaf ty290_ok))) (tab_node (tab_node (tab_leaf ty292_ok) (tab_leaf ty294_ok)) (tab_node (tab_leaf ty296_ok) (tab_leaf ty298_ok)))) (tab_node (tab_node (tab_leaf ty300_ok) (tab_node (tab_leaf ty302_ok) (tab_leaf ty303_ok))) (tab_node (tab_node (tab_leaf ty304_ok) (tab_leaf ty310_ok)) (tab_node (tab_leaf ty312_ok) (tab_leaf ty315_ok)))))) (tab_node (tab_node (tab_node (tab_node (tab_leaf ty318_ok) (tab_node (tab_leaf ty324_ok) (tab_leaf ty373_ok))) (tab_node (tab_node (tab_leaf ty374_ok) (tab_leaf ty376_ok)) (tab_node (tab_leaf ty377_ok) (tab_leaf ty382_ok)))) (tab_node (tab_node (tab_leaf ty384_ok) (tab_node (tab_leaf ty385_ok) (tab_leaf ty387_ok))) (tab_node (tab_node (tab_leaf ty400_ok) (tab_leaf ty403_ok)) (tab_node (tab_leaf ty404_ok) (tab_leaf ty406_ok))))) (tab_node (tab_node (tab_node (tab_leaf ty407_ok) (tab_node (tab_leaf ty411_ok) (tab_leaf ty418_ok))) (tab_node (tab_node (tab_leaf ty422_ok) (tab_leaf ty423_ok)) (tab_node (tab_leaf ty424_ok) (tab_leaf ty425_ok)))) (tab_node (tab_node (tab_leaf ty427_ok) (tab_node (tab_leaf ty460_ok) (tab_leaf ty461_ok))) (tab_node (tab_node (tab_leaf ty479_ok) (tab_leaf ty484_ok)) (tab_node (tab_leaf ty492_ok) (tab_leaf ty505_ok))))))))
theorem mixed : Tryz.prog.follows .mixedOrders = true := by kernel_rfl
theorem noNum : NoNum Tryz.prog := by
  intro g fn h
  have e : Tryz.prog.funcs.all (fun fn => !(fn.name == "runtime.NumGoroutine")) = true := by kernel_rfl
  rw [Array.all_eq_true_iff_forall_mem] at e
  have := e fn (Array.mem_of_getElem? h)
  simpa using this
end Go.Ev

