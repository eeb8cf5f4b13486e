/- The tables of the program's types and functions for the evaluator, printed by a program of this repository (gen/tab.py). -/
import Derived.Test.YtgjpicjkncakkaaGreatDoorEvm
import Derived.Test.YtgjpicjkncakkaaGreatDoorProg
import Derived.Lib.MakeNoZero
import Derived.Laws.Externs
import Derived.Lib.Overlaps
namespace Go.Proofs.YtgjpicjkncakkaaGreatDoor
open Go.RowKit Go.Sx Go.Ev
set_option linter.unusedVariables false
set_option linter.unusedSimpArgs false

set_option maxRecDepth 100000
abbrev tvi : Value := .int .i64 0
abbrev tvs : Value := .string ByteArray.empty
abbrev tvl : Value := .slice none 0 0
abbrev tvb : Value := .bool false
def tI (k : TK) (s b : Nat) (l : List Value) : TI := ⟨k, s, b, l, .agg l.toArray⟩
def tS {α : Type} (x : α) (a b : T α) : T α := .n (some x) a b
def tN {α : Type} (a b : T α) : T α := .n none a b
def ti1 : TI := ⟨.fn, 1, 8, [.nilFunc], .nilFunc⟩
def ti2 : TI := ⟨.int .i64, 1, 8, [tvi], tvi⟩
def ti3 : TI := ⟨.int .i64, 1, 8, [tvi], tvi⟩
def ti4 : TI := ⟨.oth, 1, 1, [tvb], tvb⟩
def ti5 : TI := ⟨.int .u8, 1, 1, [.int .u8 0], .int .u8 0⟩
def ti6 : TI := ⟨.int .u8, 1, 1, [.int .u8 0], .int .u8 0⟩
def ti7 : TI := tI (.st [(0, 2), (1, 3), (2, 4), (3, 6)]) 4 24 [tvi, tvi, tvb, .int .u8 0]
def ti8 : TI := tI (.st [(0, 2), (1, 3), (2, 4), (3, 6)]) 4 24 [tvi, tvi, tvb, .int .u8 0]
def ti9 : TI := ⟨.str, 1, 16, [tvs], tvs⟩
def ti10 : TI := ⟨.str, 1, 16, [tvs], tvs⟩
def ti11 : TI := ⟨.str, 1, 16, [tvs], tvs⟩
def ti12 : TI := ⟨.int .u64, 1, 8, [.int .u64 0], .int .u64 0⟩
def ti17 : TI := ⟨.ptr 630, 1, 8, [.pointer none], .pointer none⟩
def ti19 : TI := tI (.st [(0, 17)]) 1 8 [.pointer none]
def ti20 : TI := ⟨.ifc, 1, 16, [.nilIface], .nilIface⟩
def ti21 : TI := ⟨.int .i32, 1, 4, [.int .i32 0], .int .i32 0⟩
def ti22 : TI := ⟨.ptr 76, 1, 8, [.pointer none], .pointer none⟩
def ti23 : TI := ⟨.sl 9, 1, 24, [tvl], tvl⟩
def ti24 : TI := ⟨.sl 27, 1, 24, [tvl], tvl⟩
def ti25 : TI := ⟨.sl 157, 1, 24, [tvl], tvl⟩
def ti27 : TI := tI (.st [(0, 3), (1, 3), (2, 9), (3, 24), (4, 25)]) 5 80 [tvi, tvi, tvs, tvl, tvl]
def ti28 : TI := ⟨.sl 273, 1, 24, [tvl], tvl⟩
def ti29 : TI := tI (.st [(0, 3), (1, 28), (2, 3)]) 3 40 [tvi, tvl, tvi]
def ti30 : TI := tI (.st [(0, 3), (1, 28), (2, 3)]) 3 40 [tvi, tvl, tvi]
def ti31 : TI := ⟨.sl 33, 1, 24, [tvl], tvl⟩
def ti32 : TI := tI (.st [(0, 3), (1, 23), (2, 9), (3, 23), (4, 27), (9, 3), (10, 31)]) 11 184 [tvi, tvl, tvs, tvl, tvi, tvi, tvs, tvl, tvl, tvi, tvl]
def ti33 : TI := tI (.st [(0, 3), (1, 23), (2, 9), (3, 23), (4, 27), (9, 3), (10, 31)]) 11 184 [tvi, tvl, tvs, tvl, tvi, tvi, tvs, tvl, tvl, tvi, tvl]
def ti34 : TI := ⟨.sl 36, 1, 24, [tvl], tvl⟩
def ti36 : TI := tI (.st [(0, 3), (1, 23), (2, 27), (7, 24), (8, 3), (9, 3), (10, 30), (13, 33), (24, 34)]) 25 400 [tvi, tvl, tvi, tvi, tvs, tvl, tvl, tvl, tvi, tvi, tvi, tvl, tvi, tvi, tvl, tvs, tvl, tvi, tvi, tvs, tvl, tvl, tvi, tvl, tvl]
def ti37 : TI := ⟨.int .i64, 1, 8, [tvi], tvi⟩
def ti40 : TI := ⟨.sl 107, 1, 24, [tvl], tvl⟩
def ti41 : TI := ⟨.sl 23, 1, 24, [tvl], tvl⟩
def ti42 : TI := ⟨.sl 217, 1, 24, [tvl], tvl⟩
def ti43 : TI := ⟨.sl 221, 1, 24, [tvl], tvl⟩
def ti45 : TI := tI (.st [(0, 4), (1, 41), (2, 4), (3, 42), (4, 43)]) 5 88 [tvb, tvl, tvb, tvl, tvl]
def ti47 : TI := tI (.st [(0, 36), (25, 40), (26, 3), (27, 3), (28, 45), (33, 9)]) 34 544 [tvi, tvl, tvi, tvi, tvs, tvl, tvl, tvl, tvi, tvi, tvi, tvl, tvi, tvi, tvl, tvs, tvl, tvi, tvi, tvs, tvl, tvl, tvi, tvl, tvl, tvl, tvi, tvi, tvb, tvl, tvb, tvl, tvl, tvs]
def ti50 : TI := ⟨.sl 467, 1, 24, [tvl], tvl⟩
def ti51 : TI := ⟨.sl 103, 1, 24, [tvl], tvl⟩
def ti53 : TI := tI (.st [(0, 3), (1, 3), (2, 27), (7, 50), (8, 51)]) 9 144 [tvi, tvi, tvi, tvi, tvs, tvl, tvl, tvl, tvl]
def ti57 : TI := ⟨.sl 149, 1, 24, [tvl], tvl⟩
def ti58 : TI := ⟨.sl 231, 1, 24, [tvl], tvl⟩
def ti60 : TI := tI (.st [(0, 4), (1, 27), (6, 57), (7, 58)]) 8 136 [tvb, tvi, tvi, tvs, tvl, tvl, tvl, tvl]
def ti62 : TI := ⟨.sl 201, 1, 24, [tvl], tvl⟩
def ti63 : TI := ⟨.sl 65, 1, 24, [tvl], tvl⟩
def ti65 : TI := tI (.st [(0, 3), (1, 9), (2, 62), (3, 4), (4, 23), (5, 30), (8, 36), (33, 63)]) 34 544 [tvi, tvs, tvl, tvb, tvl, tvi, tvl, tvi, tvi, tvl, tvi, tvi, tvs, tvl, tvl, tvl, tvi, tvi, tvi, tvl, tvi, tvi, tvl, tvs, tvl, tvi, tvi, tvs, tvl, tvl, tvi, tvl, tvl, tvl]
def ti67 : TI := tI (.st [(0, 24), (1, 3), (2, 3), (3, 3), (4, 4)]) 5 56 [tvl, tvi, tvi, tvi, tvb]
def ti70 : TI := ⟨.ptr 163, 1, 8, [.pointer none], .pointer none⟩
def ti74 : TI := ⟨.ptr 119, 1, 8, [.pointer none], .pointer none⟩
def ti76 : TI := tI (.st [(0, 70), (1, 74)]) 2 16 [.pointer none, .pointer none]
def ti85 : TI := ⟨.ptr 53, 1, 8, [.pointer none], .pointer none⟩
def ti91 : TI := ⟨.sl 100, 1, 24, [tvl], tvl⟩
def ti92 : TI := ⟨.sl 397, 1, 24, [tvl], tvl⟩
def ti93 : TI := ⟨.sl 95, 1, 24, [tvl], tvl⟩
def ti95 : TI := tI (.st [(0, 3), (1, 4), (2, 27), (7, 4), (8, 27), (13, 24), (14, 3), (15, 3), (16, 23), (17, 92), (18, 4), (19, 93), (20, 4)]) 21 312 [tvi, tvb, tvi, tvi, tvs, tvl, tvl, tvb, tvi, tvi, tvs, tvl, tvl, tvl, tvi, tvi, tvl, tvl, tvb, tvl, tvb]
def ti97 : TI := tI (.st [(0, 9), (1, 91), (2, 95), (23, 3), (24, 3)]) 25 368 [tvs, tvl, tvi, tvb, tvi, tvi, tvs, tvl, tvl, tvb, tvi, tvi, tvs, tvl, tvl, tvl, tvi, tvi, tvl, tvl, tvb, tvl, tvb, tvi, tvi]
def ti100 : TI := tI (.st [(0, 9), (1, 3), (2, 40), (3, 4), (4, 4), (5, 4), (6, 36)]) 31 456 [tvs, tvi, tvl, tvb, tvb, tvb, tvi, tvl, tvi, tvi, tvs, tvl, tvl, tvl, tvi, tvi, tvi, tvl, tvi, tvi, tvl, tvs, tvl, tvi, tvi, tvs, tvl, tvl, tvi, tvl, tvl]
def ti101 : TI := ⟨.sl 3, 1, 24, [tvl], tvl⟩
def ti103 : TI := tI (.st [(0, 3), (1, 9), (2, 27), (7, 27), (12, 27), (17, 97), (42, 100), (73, 9), (74, 3), (75, 51), (76, 101), (77, 4)]) 78 1168 [tvi, tvs, tvi, tvi, tvs, tvl, tvl, tvi, tvi, tvs, tvl, tvl, tvi, tvi, tvs, tvl, tvl, tvs, tvl, tvi, tvb, tvi, tvi, tvs, tvl, tvl, tvb, tvi, tvi, tvs, tvl, tvl, tvl, tvi, tvi, tvl, tvl, tvb, tvl, tvb, tvi, tvi, tvs, tvi, tvl, tvb, tvb, tvb, tvi, tvl, tvi, tvi, tvs, tvl, tvl, tvl, tvi, tvi, tvi, tvl, tvi, tvi, tvl, tvs, tvl, tvi, tvi, tvs, tvl, tvl, tvi, tvl, tvl, tvs, tvi, tvl, tvl, tvb]
def ti107 : TI := tI (.st [(0, 23), (1, 4)]) 2 32 [tvl, tvb]
def ti110 : TI := ⟨.fn, 1, 8, [.nilFunc], .nilFunc⟩
def ti116 : TI := tI (.st [(0, 9), (1, 9), (2, 3)]) 3 40 [tvs, tvs, tvi]
def ti117 : TI := ⟨.sl 116, 1, 24, [tvl], tvl⟩
def ti119 : TI := tI (.st [(0, 3), (1, 117)]) 2 32 [tvi, tvl]
def ti122 : TI := ⟨.sl 67, 1, 24, [tvl], tvl⟩
def ti126 : TI := ⟨.ptr 3, 1, 8, [.pointer none], .pointer none⟩
def ti127 : TI := ⟨.ptr 129, 1, 8, [.pointer none], .pointer none⟩
def ti129 : TI := tI (.st [(0, 70), (1, 3), (2, 67)]) 7 72 [.pointer none, tvi, tvl, tvi, tvi, tvi, tvb]
def ti130 : TI := ⟨.ptr 132, 1, 8, [.pointer none], .pointer none⟩
def ti132 : TI := tI (.st [(0, 24)]) 1 24 [tvl]
def ti134 : TI := ⟨.fn, 1, 8, [.nilFunc], .nilFunc⟩
def ti136 : TI := ⟨.fn, 1, 8, [.nilFunc], .nilFunc⟩
def ti140 : TI := ⟨.fn, 1, 8, [.nilFunc], .nilFunc⟩
def ti149 : TI := tI (.st [(0, 3), (1, 23), (2, 23), (3, 27), (8, 24), (9, 3), (10, 4), (11, 3), (12, 4), (13, 40), (14, 36)]) 39 616 [tvi, tvl, tvl, tvi, tvi, tvs, tvl, tvl, tvl, tvi, tvb, tvi, tvb, tvl, tvi, tvl, tvi, tvi, tvs, tvl, tvl, tvl, tvi, tvi, tvi, tvl, tvi, tvi, tvl, tvs, tvl, tvi, tvi, tvs, tvl, tvl, tvi, tvl, tvl]
def ti157 : TI := tI (.st [(0, 9), (1, 27)]) 6 96 [tvs, tvi, tvi, tvs, tvl, tvl]
def ti160 : TI := ⟨.sl 97, 1, 24, [tvl], tvl⟩
def ti161 : TI := ⟨.sl 164, 1, 24, [tvl], tvl⟩
def ti163 : TI := tI (.st [(0, 160), (1, 161), (2, 24)]) 3 72 [tvl, tvl, tvl]
def ti164 : TI := ⟨.ptr 250, 1, 8, [.pointer none], .pointer none⟩
def ti173 : TI := ⟨.fn, 1, 8, [.nilFunc], .nilFunc⟩
def ti180 : TI := ⟨.ptr 186, 1, 8, [.pointer none], .pointer none⟩
def ti181 : TI := ⟨.ptr 184, 1, 8, [.pointer none], .pointer none⟩
def ti182 : TI := ⟨.sl 5, 1, 24, [tvl], tvl⟩
def ti184 : TI := tI (.st [(0, 181), (1, 182)]) 2 32 [.pointer none, tvl]
def ti186 : TI := tI (.st [(0, 184)]) 2 32 [.pointer none, tvl]
def ti193 : TI := ⟨.fn, 1, 8, [.nilFunc], .nilFunc⟩
def ti200 : TI := tI (.st [(0, 27), (5, 27), (10, 4), (11, 4)]) 12 168 [tvi, tvi, tvs, tvl, tvl, tvi, tvi, tvs, tvl, tvl, tvb, tvb]
def ti201 : TI := ⟨.sl 200, 1, 24, [tvl], tvl⟩
def ti210 : TI := ⟨.fn, 1, 8, [.nilFunc], .nilFunc⟩
def ti217 : TI := tI (.st [(0, 23), (1, 3), (2, 3)]) 3 40 [tvl, tvi, tvi]
def ti221 : TI := tI (.st [(0, 23), (1, 33)]) 12 208 [tvl, tvi, tvl, tvs, tvl, tvi, tvi, tvs, tvl, tvl, tvi, tvl]
def ti227 : TI := ⟨.mp 9 4, 1, 8, [.map none], .map none⟩
def ti231 : TI := tI (.st [(0, 9), (1, 36)]) 26 416 [tvs, tvi, tvl, tvi, tvi, tvs, tvl, tvl, tvl, tvi, tvi, tvi, tvl, tvi, tvi, tvl, tvs, tvl, tvi, tvi, tvs, tvl, tvl, tvi, tvl, tvl]
def ti235 : TI := ⟨.fn, 1, 8, [.nilFunc], .nilFunc⟩
def ti237 : TI := ⟨.ptr 239, 1, 8, [.pointer none], .pointer none⟩
def ti239 : TI := tI (.st [(0, 60), (8, 36), (33, 27), (38, 27)]) 43 696 [tvb, tvi, tvi, tvs, tvl, tvl, tvl, tvl, tvi, tvl, tvi, tvi, tvs, tvl, tvl, tvl, tvi, tvi, tvi, tvl, tvi, tvi, tvl, tvs, tvl, tvi, tvi, tvs, tvl, tvl, tvi, tvl, tvl, tvi, tvi, tvs, tvl, tvl, tvi, tvi, tvs, tvl, tvl]
def ti244 : TI := tI (.st [(0, 23), (1, 4)]) 2 32 [tvl, tvb]
def ti246 : TI := ⟨.sl 4, 1, 24, [tvl], tvl⟩
def ti247 : TI := ⟨.ptr 327, 1, 8, [.pointer none], .pointer none⟩
def ti248 : TI := ⟨.mp 9 244, 1, 8, [.map none], .map none⟩
def ti250 : TI := tI (.st [(0, 100), (31, 246), (32, 247), (33, 248), (34, 3)]) 35 504 [tvs, tvi, tvl, tvb, tvb, tvb, tvi, tvl, tvi, tvi, tvs, tvl, tvl, tvl, tvi, tvi, tvi, tvl, tvi, tvi, tvl, tvs, tvl, tvi, tvi, tvs, tvl, tvl, tvi, tvl, tvl, tvl, .pointer none, .map none, tvi]
def ti264 : TI := ⟨.ifc, 1, 16, [.nilIface], .nilIface⟩
def ti269 : TI := ⟨.ptr 5, 1, 8, [.pointer none], .pointer none⟩
def ti273 : TI := tI (.st [(0, 3), (1, 3)]) 2 16 [tvi, tvi]
def ti277 : TI := ⟨.fn, 1, 8, [.nilFunc], .nilFunc⟩
def ti278 : TI := ⟨.fn, 1, 8, [.nilFunc], .nilFunc⟩
def ti282 : TI := ⟨.sl 130, 1, 24, [tvl], tvl⟩
def ti283 : TI := ⟨.int .u64, 1, 8, [.int .u64 0], .int .u64 0⟩
def ti289 : TI := ⟨.sl 292, 1, 24, [tvl], tvl⟩
def ti292 : TI := tI (.st [(0, 27), (5, 24)]) 6 104 [tvi, tvi, tvs, tvl, tvl, tvl]
def ti295 : TI := ⟨.fn, 1, 8, [.nilFunc], .nilFunc⟩
def ti304 : TI := ⟨.ptr 27, 1, 8, [.pointer none], .pointer none⟩
def ti311 : TI := ⟨.sl 24, 1, 24, [tvl], tvl⟩
def ti317 : TI := ⟨.fn, 1, 8, [.nilFunc], .nilFunc⟩
def ti323 : TI := ⟨.ptr 395, 1, 8, [.pointer none], .pointer none⟩
def ti325 : TI := tI (.st [(0, 3), (1, 3), (2, 323)]) 3 24 [tvi, tvi, .pointer none]
def ti327 : TI := tI (.st [(0, 325)]) 3 24 [tvi, tvi, .pointer none]
def ti329 : TI := ⟨.fn, 1, 8, [.nilFunc], .nilFunc⟩
def ti338 : TI := ⟨.fn, 1, 8, [.nilFunc], .nilFunc⟩
def ti349 : TI := tI (.ar 25 9) 25 400 [tvs, tvs, tvs, tvs, tvs, tvs, tvs, tvs, tvs, tvs, tvs, tvs, tvs, tvs, tvs, tvs, tvs, tvs, tvs, tvs, tvs, tvs, tvs, tvs, tvs]
def ti366 : TI := ⟨.ptr 456, 1, 8, [.pointer none], .pointer none⟩
def ti370 : TI := ⟨.fn, 1, 8, [.nilFunc], .nilFunc⟩
def ti376 : TI := ⟨.fn, 1, 8, [.nilFunc], .nilFunc⟩
def ti380 : TI := ⟨.fn, 1, 8, [.nilFunc], .nilFunc⟩
def ti381 : TI := ⟨.fn, 1, 8, [.nilFunc], .nilFunc⟩
def ti391 : TI := ⟨.ptr 325, 1, 8, [.pointer none], .pointer none⟩
def ti392 : TI := ⟨.fn, 1, 8, [.nilFunc], .nilFunc⟩
def ti393 : TI := ⟨.sl 323, 1, 24, [tvl], tvl⟩
def ti395 : TI := tI (.st [(0, 23), (1, 23), (2, 393)]) 3 72 [tvl, tvl, tvl]
def ti397 : TI := tI (.st [(0, 9), (1, 95)]) 22 328 [tvs, tvi, tvb, tvi, tvi, tvs, tvl, tvl, tvb, tvi, tvi, tvs, tvl, tvl, tvl, tvi, tvi, tvl, tvl, tvb, tvl, tvb]
def ti406 : TI := ⟨.sl 409, 1, 24, [tvl], tvl⟩
def ti409 : TI := tI (.st [(0, 9), (1, 4)]) 2 24 [tvs, tvb]
def ti416 : TI := ⟨.fn, 1, 8, [.nilFunc], .nilFunc⟩
def ti421 : TI := ⟨.sl 423, 1, 24, [tvl], tvl⟩
def ti423 : TI := tI (.st [(0, 36), (25, 27)]) 30 480 [tvi, tvl, tvi, tvi, tvs, tvl, tvl, tvl, tvi, tvi, tvi, tvl, tvi, tvi, tvl, tvs, tvl, tvi, tvi, tvs, tvl, tvl, tvi, tvl, tvl, tvi, tvi, tvs, tvl, tvl]
def ti425 : TI := ⟨.fn, 1, 8, [.nilFunc], .nilFunc⟩
def ti427 : TI := ⟨.fn, 1, 8, [.nilFunc], .nilFunc⟩
def ti428 : TI := ⟨.uptr, 1, 8, [.pointer none], .pointer none⟩
def ti438 : TI := ⟨.int .i64, 1, 8, [tvi], tvi⟩
def ti445 : TI := ⟨.int .u32, 1, 4, [.int .u32 0], .int .u32 0⟩
def ti447 : TI := ⟨.int .u64, 1, 8, [.int .u64 0], .int .u64 0⟩
def ti452 : TI := ⟨.fn, 1, 8, [.nilFunc], .nilFunc⟩
def ti453 : TI := ⟨.fn, 1, 8, [.nilFunc], .nilFunc⟩
def ti456 : TI := tI (.st [(0, 9), (1, 27), (6, 366)]) 7 104 [tvs, tvi, tvi, tvs, tvl, tvl, .pointer none]
def ti467 : TI := tI (.st [(0, 23), (1, 3)]) 2 32 [tvl, tvi]
def ti468 : TI := ⟨.fn, 1, 8, [.nilFunc], .nilFunc⟩
def ti469 : TI := ⟨.fn, 1, 8, [.nilFunc], .nilFunc⟩
def ti480 : TI := ⟨.fn, 1, 8, [.nilFunc], .nilFunc⟩
def ti485 : TI := tI (.ar 256 5) 256 256 [.int .u8 0, .int .u8 0, .int .u8 0, .int .u8 0, .int .u8 0, .int .u8 0, .int .u8 0, .int .u8 0, .int .u8 0, .int .u8 0, .int .u8 0, .int .u8 0, .int .u8 0, .int .u8 0, .int .u8 0, .int .u8 0, .int .u8 0, .int .u8 0, .int .u8 0, .int .u8 0, .int .u8 0, .int .u8 0, .int .u8 0, .int .u8 0, .int .u8 0, .int .u8 0, .int .u8 0, .int .u8 0, .int .u8 0, .int .u8 0, .int .u8 0, .int .u8 0, .int .u8 0, .int .u8 0, .int .u8 0, .int .u8 0, .int .u8 0, .int .u8 0, .int .u8 0, .int .u8 0, .int .u8 0, .int .u8 0, .int .u8 0, .int .u8 0, .int .u8 0, .int .u8 0, .int .u8 0, .int .u8 0, .int .u8 0, .int .u8 0, .int .u8 0, .int .u8 0, .int .u8 0, .int .u8 0, .int .u8 0, .int .u8 0, .int .u8 0, .int .u8 0, .int .u8 0, .int .u8 0, .int .u8 0, .int .u8 0, .int .u8 0, .int .u8 0, .int .u8 0, .int .u8 0, .int .u8 0, .int .u8 0, .int .u8 0, .int .u8 0, .int .u8 0, .int .u8 0, .int .u8 0, .int .u8 0, .int .u8 0, .int .u8 0, .int .u8 0, .int .u8 0, .int .u8 0, .int .u8 0, .int .u8 0, .int .u8 0, .int .u8 0, .int .u8 0, .int .u8 0, .int .u8 0, .int .u8 0, .int .u8 0, .int .u8 0, .int .u8 0, .int .u8 0, .int .u8 0, .int .u8 0, .int .u8 0, .int .u8 0, .int .u8 0, .int .u8 0, .int .u8 0, .int .u8 0, .int .u8 0, .int .u8 0, .int .u8 0, .int .u8 0, .int .u8 0, .int .u8 0, .int .u8 0, .int .u8 0, .int .u8 0, .int .u8 0, .int .u8 0, .int .u8 0, .int .u8 0, .int .u8 0, .int .u8 0, .int .u8 0, .int .u8 0, .int .u8 0, .int .u8 0, .int .u8 0, .int .u8 0, .int .u8 0, .int .u8 0, .int .u8 0, .int .u8 0, .int .u8 0, .int .u8 0, .int .u8 0, .int .u8 0, .int .u8 0, .int .u8 0, .int .u8 0, .int .u8 0, .int .u8 0, .int .u8 0, .int .u8 0, .int .u8 0, .int .u8 0, .int .u8 0, .int .u8 0, .int .u8 0, .int .u8 0, .int .u8 0, .int .u8 0, .int .u8 0, .int .u8 0, .int .u8 0, .int .u8 0, .int .u8 0, .int .u8 0, .int .u8 0, .int .u8 0, .int .u8 0, .int .u8 0, .int .u8 0, .int .u8 0, .int .u8 0, .int .u8 0, .int .u8 0, .int .u8 0, .int .u8 0, .int .u8 0, .int .u8 0, .int .u8 0, .int .u8 0, .int .u8 0, .int .u8 0, .int .u8 0, .int .u8 0, .int .u8 0, .int .u8 0, .int .u8 0, .int .u8 0, .int .u8 0, .int .u8 0, .int .u8 0, .int .u8 0, .int .u8 0, .int .u8 0, .int .u8 0, .int .u8 0, .int .u8 0, .int .u8 0, .int .u8 0, .int .u8 0, .int .u8 0, .int .u8 0, .int .u8 0, .int .u8 0, .int .u8 0, .int .u8 0, .int .u8 0, .int .u8 0, .int .u8 0, .int .u8 0, .int .u8 0, .int .u8 0, .int .u8 0, .int .u8 0, .int .u8 0, .int .u8 0, .int .u8 0, .int .u8 0, .int .u8 0, .int .u8 0, .int .u8 0, .int .u8 0, .int .u8 0, .int .u8 0, .int .u8 0, .int .u8 0, .int .u8 0, .int .u8 0, .int .u8 0, .int .u8 0, .int .u8 0, .int .u8 0, .int .u8 0, .int .u8 0, .int .u8 0, .int .u8 0, .int .u8 0, .int .u8 0, .int .u8 0, .int .u8 0, .int .u8 0, .int .u8 0, .int .u8 0, .int .u8 0, .int .u8 0, .int .u8 0, .int .u8 0, .int .u8 0, .int .u8 0, .int .u8 0, .int .u8 0, .int .u8 0, .int .u8 0, .int .u8 0, .int .u8 0, .int .u8 0, .int .u8 0, .int .u8 0, .int .u8 0, .int .u8 0, .int .u8 0, .int .u8 0, .int .u8 0, .int .u8 0, .int .u8 0, .int .u8 0, .int .u8 0, .int .u8 0, .int .u8 0, .int .u8 0, .int .u8 0, .int .u8 0]
def ti487 : TI := tI (.st [(0, 5), (1, 5)]) 2 2 [.int .u8 0, .int .u8 0]
def ti488 : TI := tI (.ar 16 487) 32 32 [.int .u8 0, .int .u8 0, .int .u8 0, .int .u8 0, .int .u8 0, .int .u8 0, .int .u8 0, .int .u8 0, .int .u8 0, .int .u8 0, .int .u8 0, .int .u8 0, .int .u8 0, .int .u8 0, .int .u8 0, .int .u8 0, .int .u8 0, .int .u8 0, .int .u8 0, .int .u8 0, .int .u8 0, .int .u8 0, .int .u8 0, .int .u8 0, .int .u8 0, .int .u8 0, .int .u8 0, .int .u8 0, .int .u8 0, .int .u8 0, .int .u8 0, .int .u8 0]
def ti499 : TI := ⟨.fn, 1, 8, [.nilFunc], .nilFunc⟩
def ti504 : TI := ⟨.sl 509, 1, 24, [tvl], tvl⟩
def ti507 : TI := tI (.st [(0, 27), (5, 4)]) 6 88 [tvi, tvi, tvs, tvl, tvl, tvb]
def ti509 : TI := tI (.st [(0, 507), (6, 507)]) 12 176 [tvi, tvi, tvs, tvl, tvl, tvb, tvi, tvi, tvs, tvl, tvl, tvb]
def ti515 : TI := tI (.ar 256 4) 256 256 [tvb, tvb, tvb, tvb, tvb, tvb, tvb, tvb, tvb, tvb, tvb, tvb, tvb, tvb, tvb, tvb, tvb, tvb, tvb, tvb, tvb, tvb, tvb, tvb, tvb, tvb, tvb, tvb, tvb, tvb, tvb, tvb, tvb, tvb, tvb, tvb, tvb, tvb, tvb, tvb, tvb, tvb, tvb, tvb, tvb, tvb, tvb, tvb, tvb, tvb, tvb, tvb, tvb, tvb, tvb, tvb, tvb, tvb, tvb, tvb, tvb, tvb, tvb, tvb, tvb, tvb, tvb, tvb, tvb, tvb, tvb, tvb, tvb, tvb, tvb, tvb, tvb, tvb, tvb, tvb, tvb, tvb, tvb, tvb, tvb, tvb, tvb, tvb, tvb, tvb, tvb, tvb, tvb, tvb, tvb, tvb, tvb, tvb, tvb, tvb, tvb, tvb, tvb, tvb, tvb, tvb, tvb, tvb, tvb, tvb, tvb, tvb, tvb, tvb, tvb, tvb, tvb, tvb, tvb, tvb, tvb, tvb, tvb, tvb, tvb, tvb, tvb, tvb, tvb, tvb, tvb, tvb, tvb, tvb, tvb, tvb, tvb, tvb, tvb, tvb, tvb, tvb, tvb, tvb, tvb, tvb, tvb, tvb, tvb, tvb, tvb, tvb, tvb, tvb, tvb, tvb, tvb, tvb, tvb, tvb, tvb, tvb, tvb, tvb, tvb, tvb, tvb, tvb, tvb, tvb, tvb, tvb, tvb, tvb, tvb, tvb, tvb, tvb, tvb, tvb, tvb, tvb, tvb, tvb, tvb, tvb, tvb, tvb, tvb, tvb, tvb, tvb, tvb, tvb, tvb, tvb, tvb, tvb, tvb, tvb, tvb, tvb, tvb, tvb, tvb, tvb, tvb, tvb, tvb, tvb, tvb, tvb, tvb, tvb, tvb, tvb, tvb, tvb, tvb, tvb, tvb, tvb, tvb, tvb, tvb, tvb, tvb, tvb, tvb, tvb, tvb, tvb, tvb, tvb, tvb, tvb, tvb, tvb, tvb, tvb, tvb, tvb, tvb, tvb, tvb, tvb, tvb, tvb, tvb, tvb, tvb, tvb, tvb, tvb, tvb, tvb]
def ti519 : TI := ⟨.ptr 515, 1, 8, [.pointer none], .pointer none⟩
def ti523 : TI := tI (.ar 38 9) 38 608 [tvs, tvs, tvs, tvs, tvs, tvs, tvs, tvs, tvs, tvs, tvs, tvs, tvs, tvs, tvs, tvs, tvs, tvs, tvs, tvs, tvs, tvs, tvs, tvs, tvs, tvs, tvs, tvs, tvs, tvs, tvs, tvs, tvs, tvs, tvs, tvs, tvs, tvs]
def ti525 : TI := tI (.ar 24 5) 24 24 [.int .u8 0, .int .u8 0, .int .u8 0, .int .u8 0, .int .u8 0, .int .u8 0, .int .u8 0, .int .u8 0, .int .u8 0, .int .u8 0, .int .u8 0, .int .u8 0, .int .u8 0, .int .u8 0, .int .u8 0, .int .u8 0, .int .u8 0, .int .u8 0, .int .u8 0, .int .u8 0, .int .u8 0, .int .u8 0, .int .u8 0, .int .u8 0]
def ti530 : TI := tI (.st [(0, 9), (1, 3), (2, 5), (3, 37)]) 4 40 [tvs, tvi, .int .u8 0, tvi]
def ti532 : TI := ⟨.int .u64, 1, 8, [.int .u64 0], .int .u64 0⟩
def ti561 : TI := ⟨.fn, 1, 8, [.nilFunc], .nilFunc⟩
def ti579 : TI := tI (.ar 20 447) 20 160 [.int .u64 0, .int .u64 0, .int .u64 0, .int .u64 0, .int .u64 0, .int .u64 0, .int .u64 0, .int .u64 0, .int .u64 0, .int .u64 0, .int .u64 0, .int .u64 0, .int .u64 0, .int .u64 0, .int .u64 0, .int .u64 0, .int .u64 0, .int .u64 0, .int .u64 0, .int .u64 0]
def ti580 : TI := tI (.ar 65 5) 65 65 [.int .u8 0, .int .u8 0, .int .u8 0, .int .u8 0, .int .u8 0, .int .u8 0, .int .u8 0, .int .u8 0, .int .u8 0, .int .u8 0, .int .u8 0, .int .u8 0, .int .u8 0, .int .u8 0, .int .u8 0, .int .u8 0, .int .u8 0, .int .u8 0, .int .u8 0, .int .u8 0, .int .u8 0, .int .u8 0, .int .u8 0, .int .u8 0, .int .u8 0, .int .u8 0, .int .u8 0, .int .u8 0, .int .u8 0, .int .u8 0, .int .u8 0, .int .u8 0, .int .u8 0, .int .u8 0, .int .u8 0, .int .u8 0, .int .u8 0, .int .u8 0, .int .u8 0, .int .u8 0, .int .u8 0, .int .u8 0, .int .u8 0, .int .u8 0, .int .u8 0, .int .u8 0, .int .u8 0, .int .u8 0, .int .u8 0, .int .u8 0, .int .u8 0, .int .u8 0, .int .u8 0, .int .u8 0, .int .u8 0, .int .u8 0, .int .u8 0, .int .u8 0, .int .u8 0, .int .u8 0, .int .u8 0, .int .u8 0, .int .u8 0, .int .u8 0, .int .u8 0]
def ti581 : TI := ⟨.ptr 530, 1, 8, [.pointer none], .pointer none⟩
def ti583 : TI := ⟨.ptr 532, 1, 8, [.pointer none], .pointer none⟩
def ti594 : TI := ⟨.fn, 1, 8, [.nilFunc], .nilFunc⟩
def ti610 : TI := tI (.ar 32 5) 32 32 [.int .u8 0, .int .u8 0, .int .u8 0, .int .u8 0, .int .u8 0, .int .u8 0, .int .u8 0, .int .u8 0, .int .u8 0, .int .u8 0, .int .u8 0, .int .u8 0, .int .u8 0, .int .u8 0, .int .u8 0, .int .u8 0, .int .u8 0, .int .u8 0, .int .u8 0, .int .u8 0, .int .u8 0, .int .u8 0, .int .u8 0, .int .u8 0, .int .u8 0, .int .u8 0, .int .u8 0, .int .u8 0, .int .u8 0, .int .u8 0, .int .u8 0, .int .u8 0]
def ti611 : TI := tI (.ar 64 5) 64 64 [.int .u8 0, .int .u8 0, .int .u8 0, .int .u8 0, .int .u8 0, .int .u8 0, .int .u8 0, .int .u8 0, .int .u8 0, .int .u8 0, .int .u8 0, .int .u8 0, .int .u8 0, .int .u8 0, .int .u8 0, .int .u8 0, .int .u8 0, .int .u8 0, .int .u8 0, .int .u8 0, .int .u8 0, .int .u8 0, .int .u8 0, .int .u8 0, .int .u8 0, .int .u8 0, .int .u8 0, .int .u8 0, .int .u8 0, .int .u8 0, .int .u8 0, .int .u8 0, .int .u8 0, .int .u8 0, .int .u8 0, .int .u8 0, .int .u8 0, .int .u8 0, .int .u8 0, .int .u8 0, .int .u8 0, .int .u8 0, .int .u8 0, .int .u8 0, .int .u8 0, .int .u8 0, .int .u8 0, .int .u8 0, .int .u8 0, .int .u8 0, .int .u8 0, .int .u8 0, .int .u8 0, .int .u8 0, .int .u8 0, .int .u8 0, .int .u8 0, .int .u8 0, .int .u8 0, .int .u8 0, .int .u8 0, .int .u8 0, .int .u8 0, .int .u8 0]
def ti624 : TI := ⟨.int .u8, 1, 1, [.int .u8 0], .int .u8 0⟩
def ti625 : TI := ⟨.int .u8, 1, 1, [.int .u8 0], .int .u8 0⟩
def ti626 : TI := ⟨.fn, 1, 8, [.nilFunc], .nilFunc⟩
def ti627 : TI := ⟨.int .i32, 1, 4, [.int .i32 0], .int .i32 0⟩
def ti628 : TI := ⟨.int .i32, 1, 4, [.int .i32 0], .int .i32 0⟩
def ti630 : TI := tI (.st [(0, 12), (1, 12), (2, 445), (3, 624), (4, 5), (5, 5), (6, 625), (7, 626), (8, 269), (9, 627), (10, 628)]) 11 48 [.int .u64 0, .int .u64 0, .int .u32 0, .int .u8 0, .int .u8 0, .int .u8 0, .int .u8 0, .nilFunc, .pointer none, .int .i32 0, .int .i32 0]
def tyT : T TI := tN (tS ti2 (tS ti6 (tN (tS ti30 (tS ti62 (tS ti126 .l .l) .l) (tN (tS ti110 (tN .l (tS ti366 .l .l)) .l) .l)) (tS ti22 (tN (tN (tS ti246 .l (tN .l (tS ti630 .l .l))) (tS ti182 (tS ti438 .l .l) .l)) (tN .l (tN (tS ti406 .l .l) (tS ti278 .l .l)))) (tN .l (tS ti70 .l (tS ti134 .l .l))))) (tS ti10 (tN (tS ti58 (tS ti122 (tS ti250 .l .l) (tS ti186 .l .l)) (tN .l (tN .l (tS ti282 .l .l)))) (tS ti42 .l (tS ti74 .l .l))) (tN (tS ti50 (tN (tN .l (tS ti370 .l (tS ti626 .l .l))) .l) (tN (tS ti210 .l (tS ti338 .l (tS ti594 .l .l))) (tN .l (tN .l (tS ti530 .l .l))))) (tS ti34 (tN (tN .l (tN .l (tS ti610 .l .l))) .l) (tN .l (tS ti130 .l .l)))))) (tS ti4 (tS ti12 (tS ti28 (tS ti60 (tN (tN .l (tS ti380 .l .l)) .l) (tS ti92 .l .l)) (tN (tN .l (tN (tS ti428 .l .l) .l)) (tS ti76 .l (tS ti140 .l .l)))) (tS ti20 (tN (tS ti116 (tS ti244 .l (tN .l (tS ti628 .l .l))) (tS ti180 .l .l)) (tN (tN (tS ti468 .l .l) .l) (tN .l (tN .l (tS ti532 .l .l))))) (tS ti36 (tS ti100 .l (tS ti164 .l (tS ti292 .l .l))) (tN (tN (tS ti452 .l .l) (tN .l (tS ti580 .l .l))) (tS ti132 .l .l))))) (tS ti8 (tS ti24 (tN (tN (tS ti248 (tS ti504 .l .l) (tS ti376 .l .l)) (tS ti184 .l .l)) .l) (tS ti40 (tN (tN (tS ti488 .l .l) .l) .l) (tN (tS ti200 (tS ti456 .l .l) .l) (tS ti136 (tS ti392 .l .l) (tS ti264 .l .l))))) (tN (tN (tN (tN .l (tN .l (tS ti624 .l .l))) (tN .l (tS ti304 .l .l))) .l) (tS ti32 (tN (tN (tS ti480 .l .l) .l) (tS ti160 (tS ti416 .l .l) .l)) .l))))) (tS ti1 (tS ti5 (tN (tS ti29 (tN (tN (tN (tS ti509 .l .l) (tS ti381 .l .l)) (tN (tS ti445 .l .l) (tS ti317 .l .l))) (tS ti93 (tS ti221 .l (tS ti349 .l .l)) (tS ti157 .l .l))) (tS ti45 (tN (tS ti237 .l .l) (tS ti173 .l .l)) (tN .l (tN (tS ti397 .l .l) (tS ti269 .l (tS ti525 .l .l)))))) (tS ti21 (tS ti53 (tS ti117 .l (tS ti181 .l .l)) (tS ti85 (tN (tS ti469 .l .l) .l) (tS ti149 .l (tS ti277 .l .l)))) (tS ti37 (tS ti101 (tN (tS ti485 .l .l) .l) (tN (tS ti421 .l .l) .l)) (tN (tN (tS ti453 .l .l) (tS ti325 .l (tS ti581 .l .l))) .l)))) (tS ti9 (tS ti25 (tS ti57 .l (tN (tS ti217 .l .l) (tN (tS ti409 .l .l) .l))) (tS ti41 (tN .l (tN (tS ti425 .l .l) .l)) (tN (tS ti201 .l (tS ti329 .l .l)) (tN (tS ti393 .l .l) .l)))) (tS ti17 (tN (tN (tN .l (tN .l (tS ti625 .l .l))) (tN .l (tN .l (tS ti561 .l .l)))) (tN .l (tN .l (tS ti273 .l .l)))) (tS ti33 (tS ti97 .l (tS ti161 .l (tS ti289 .l .l))) (tS ti65 (tS ti193 .l .l) (tS ti129 .l .l)))))) (tS ti3 (tS ti11 (tS ti27 (tN (tN (tN (tS ti507 .l .l) .l) .l) (tS ti91 .l (tN .l (tS ti283 .l .l)))) (tS ti43 (tS ti107 (tS ti235 .l .l) (tN (tS ti427 .l .l) .l)) (tN .l (tN (tS ti395 .l .l) (tN .l (tS ti523 .l .l)))))) (tS ti19 (tS ti51 (tN (tN (tS ti499 .l .l) (tN .l (tS ti627 .l .l))) .l) (tN (tN (tS ti467 .l .l) .l) .l)) (tN (tN (tS ti227 .l (tN .l (tS ti611 .l .l))) (tS ti163 .l .l)) (tS ti67 (tN .l (tS ti323 .l (tS ti579 .l .l))) (tN .l (tN .l (tS ti515 .l .l))))))) (tS ti7 (tS ti23 (tN (tS ti119 (tS ti247 .l .l) (tN .l (tS ti311 .l .l))) .l) (tN (tS ti103 (tS ti231 (tS ti487 .l .l) .l) (tN (tS ti423 .l .l) (tS ti295 .l .l))) (tN (tN .l (tS ti327 .l (tS ti583 .l .l))) (tN (tS ti391 .l .l) (tN .l (tS ti519 .l .l)))))) (tN (tS ti47 (tN (tS ti239 .l .l) .l) .l) (tS ti31 (tS ti95 .l .l) (tS ti63 (tN (tS ti447 .l .l) .l) (tS ti127 .l .l)))))))
def fnT : T Unit := tN (tN (tS () (tS () (tS () (tS () (tS () (tS () (tS () .l .l) (tS () .l (tS () .l .l))) (tS () (tS () .l .l) (tS () .l (tS () .l .l)))) (tS () (tS () (tS () .l .l) (tS () .l (tS () .l .l))) (tS () (tS () .l .l) (tS () .l (tS () .l .l))))) (tS () (tS () (tS () (tS () .l .l) (tS () .l (tS () .l .l))) (tS () (tS () .l .l) (tS () .l (tS () .l .l)))) (tS () (tS () (tS () .l .l) (tS () .l (tS () .l .l))) (tS () (tS () .l .l) (tS () .l (tS () .l .l)))))) (tS () (tS () (tS () (tS () (tS () .l .l) (tS () .l (tS () .l .l))) (tS () (tS () .l .l) (tS () .l (tS () .l .l)))) (tS () (tS () (tS () .l .l) (tS () .l (tS () .l .l))) (tS () (tS () .l .l) (tS () .l (tS () .l .l))))) (tS () (tS () (tS () (tS () .l .l) (tS () .l (tS () .l .l))) (tS () (tS () .l .l) (tS () .l (tS () .l .l)))) (tS () (tS () (tS () .l .l) (tS () .l (tS () .l .l))) (tS () (tS () .l .l) (tS () .l (tS () .l .l))))))) (tS () (tS () (tS () (tS () (tS () (tS () .l .l) (tS () .l (tS () .l .l))) (tS () (tS () .l .l) (tS () .l (tS () .l .l)))) (tS () (tS () (tS () .l .l) (tS () .l (tS () .l .l))) (tS () (tS () .l .l) (tS () .l (tS () .l .l))))) (tS () (tS () (tS () (tS () .l .l) (tS () .l (tS () .l .l))) (tS () (tS () .l .l) (tS () .l (tS () .l .l)))) (tS () (tS () (tS () .l .l) (tS () .l .l)) (tS () (tS () .l .l) (tS () .l (tS () .l .l)))))) (tS () (tS () (tS () (tS () (tS () .l .l) (tS () .l (tS () .l .l))) (tS () (tS () .l .l) (tS () .l (tS () .l .l)))) (tS () (tS () (tS () .l .l) (tS () .l (tS () .l .l))) (tS () (tS () .l .l) (tN .l (tS () .l .l))))) (tS () (tS () (tS () (tS () .l .l) (tS () .l (tS () .l .l))) (tS () (tS () .l .l) (tS () .l (tS () .l .l)))) (tS () (tS () (tS () .l .l) (tS () .l (tS () .l .l))) (tS () (tS () .l .l) (tS () .l (tS () .l .l)))))))) (tS () (tS () (tS () (tS () (tS () (tS () (tS () .l .l) (tS () .l (tS () .l .l))) (tS () (tS () .l .l) (tS () .l (tS () .l .l)))) (tS () (tS () (tS () .l .l) (tS () .l (tS () .l .l))) (tS () (tS () .l .l) (tS () .l (tS () .l .l))))) (tS () (tS () (tS () (tS () .l .l) (tS () .l (tS () .l .l))) (tS () (tS () .l .l) (tS () .l (tS () .l .l)))) (tS () (tS () (tS () .l .l) .l) (tS () (tS () .l .l) (tS () .l (tS () .l .l)))))) (tS () (tS () (tS () (tS () (tS () .l .l) (tS () .l (tS () .l .l))) (tS () (tS () .l .l) (tS () .l (tS () .l .l)))) (tS () (tS () (tS () .l .l) (tS () .l (tS () .l .l))) (tS () (tS () .l .l) (tS () .l (tS () .l .l))))) (tS () (tS () (tS () (tS () .l .l) (tS () .l (tS () .l .l))) (tS () (tS () .l .l) (tS () .l (tS () .l .l)))) (tS () (tS () (tS () .l .l) (tS () .l (tS () .l .l))) (tS () (tS () .l .l) (tS () .l (tS () .l .l))))))) (tS () (tS () (tS () (tS () (tS () (tS () .l .l) (tS () .l (tS () .l .l))) (tS () (tS () .l .l) (tS () .l (tS () .l .l)))) (tS () (tS () (tS () .l .l) (tS () .l (tS () .l .l))) (tS () (tS () .l .l) (tS () .l (tS () .l .l))))) (tS () (tS () (tS () (tS () .l .l) (tN .l (tS () .l .l))) (tS () (tS () .l .l) (tS () .l (tS () .l .l)))) (tS () (tS () (tS () .l .l) (tS () .l (tS () .l .l))) (tS () (tS () .l .l) (tS () .l (tS () .l .l)))))) (tS () (tS () (tS () (tS () (tS () .l .l) (tS () .l (tS () .l .l))) (tS () (tS () .l .l) (tS () .l (tS () .l .l)))) (tS () (tS () (tS () .l .l) (tS () .l (tS () .l .l))) (tS () (tS () .l .l) (tS () .l (tS () .l .l))))) (tS () (tS () (tS () (tS () .l .l) (tS () .l (tS () .l .l))) (tS () (tS () .l .l) (tS () .l (tS () .l .l)))) (tS () (tS () (tS () .l .l) (tS () .l (tS () .l .l))) (tS () (tS () .l (tS () .l .l)) (tS () .l (tS () .l .l))))))))) (tN (tS () (tS () (tS () (tS () (tS () (tS () (tS () .l .l) (tS () .l .l)) (tS () (tS () .l .l) (tS () .l (tS () .l .l)))) (tS () (tS () (tS () .l .l) (tS () .l (tS () .l .l))) (tS () (tS () .l .l) (tS () .l (tS () .l .l))))) (tS () (tS () (tS () (tS () .l .l) (tS () .l (tS () .l .l))) (tS () (tS () .l .l) (tS () .l (tS () .l .l)))) (tS () (tS () (tS () .l .l) (tS () .l (tS () .l .l))) (tS () (tS () .l .l) (tS () .l (tS () .l .l)))))) (tS () (tS () (tS () (tS () (tS () .l .l) (tS () .l (tS () .l .l))) (tS () (tS () .l .l) (tS () .l (tS () .l .l)))) (tS () (tS () (tS () .l .l) (tS () .l (tS () .l .l))) (tS () (tS () .l .l) (tS () .l (tS () .l .l))))) (tS () (tS () (tS () (tS () .l .l) (tS () .l (tS () .l .l))) (tS () (tS () .l .l) (tS () .l (tS () .l .l)))) (tS () (tS () (tS () .l .l) (tS () .l (tS () .l .l))) (tS () (tS () .l .l) (tS () .l (tS () .l .l))))))) (tS () (tS () (tS () (tS () (tS () (tS () .l .l) (tS () .l (tS () .l .l))) (tS () (tS () .l .l) (tS () .l (tS () .l .l)))) (tS () (tS () (tS () .l .l) (tS () .l (tS () .l .l))) (tS () (tS () .l .l) (tS () .l (tS () .l .l))))) (tS () (tS () (tS () (tS () .l .l) (tS () .l (tS () .l .l))) (tS () (tS () .l .l) (tS () .l (tS () .l .l)))) (tS () (tS () (tS () .l .l) (tS () .l (tS () .l .l))) (tS () (tS () .l .l) (tS () .l (tS () .l .l)))))) (tS () (tS () (tS () (tS () (tS () .l .l) (tS () .l (tS () .l .l))) (tS () (tS () .l .l) (tS () .l (tS () .l .l)))) (tS () (tS () (tS () .l .l) (tS () .l (tS () .l .l))) (tS () (tS () .l .l) (tS () .l (tS () .l .l))))) (tS () (tS () (tS () (tS () .l .l) (tS () .l (tS () .l .l))) (tS () (tS () .l .l) (tS () .l (tS () .l .l)))) (tS () (tS () (tS () .l .l) (tS () .l (tS () .l .l))) (tS () (tS () .l (tS () .l .l)) (tS () .l (tS () .l .l)))))))) (tS () (tS () (tS () (tS () (tS () (tS () (tS () .l .l) (tS () .l (tS () .l .l))) (tS () (tS () .l .l) (tS () .l (tS () .l .l)))) (tS () (tS () (tS () .l .l) (tS () .l (tS () .l .l))) (tS () (tS () .l .l) (tS () .l (tS () .l .l))))) (tS () (tS () (tS () (tS () .l .l) (tS () .l (tS () .l .l))) (tS () (tS () .l .l) (tS () .l (tS () .l .l)))) (tS () (tS () (tS () .l .l) (tS () .l (tS () .l .l))) (tS () (tS () .l .l) (tS () .l (tS () .l .l)))))) (tS () (tS () (tS () (tS () (tS () .l .l) (tS () .l (tS () .l .l))) (tS () (tS () .l .l) (tS () .l (tS () .l .l)))) (tS () (tS () (tS () .l .l) (tS () .l (tS () .l .l))) (tS () (tS () .l .l) (tS () .l (tS () .l .l))))) (tS () (tS () (tS () (tS () .l .l) (tS () .l (tS () .l .l))) (tS () (tS () .l .l) (tS () .l (tS () .l .l)))) (tS () (tS () (tS () .l .l) (tS () .l (tS () .l .l))) (tS () (tS () .l .l) (tS () .l (tS () .l .l))))))) (tS () (tS () (tS () (tS () (tS () (tS () .l .l) (tS () .l .l)) (tS () (tS () .l .l) (tS () .l (tS () .l .l)))) (tS () (tS () (tS () .l .l) (tS () .l .l)) (tS () (tS () .l .l) (tS () .l (tS () .l .l))))) (tS () (tS () (tS () (tS () .l .l) (tS () .l (tS () .l .l))) (tS () (tS () .l .l) (tS () .l (tS () .l .l)))) (tS () (tS () (tS () .l .l) (tS () .l (tS () .l .l))) (tS () (tS () .l .l) (tS () .l (tS () .l .l)))))) (tS () (tS () (tS () (tS () (tS () .l .l) (tS () .l .l)) (tN (tS () .l .l) (tS () .l (tS () .l .l)))) (tS () (tS () (tS () .l .l) (tS () .l (tS () .l .l))) (tS () (tS () .l .l) (tS () .l (tS () .l .l))))) (tS () (tS () (tS () (tS () .l .l) (tS () .l (tS () .l .l))) (tS () (tS () .l .l) (tS () .l (tS () .l .l)))) (tS () (tS () (tS () .l .l) (tS () .l (tS () .l .l))) (tS () (tS () .l (tS () .l .l)) (tS () .l (tS () .l .l)))))))))
def idfT : T Unit := tN (tN .l (tN .l (tN (tN .l (tN (tN (tN .l (tS () .l .l)) .l) .l)) .l))) .l
def orcT : T Unit := .l
def gl0 : List Value := [.string ⟨#[]⟩, .string ⟨#[]⟩, .string ⟨#[36, 101, 113]⟩, .string ⟨#[36, 110, 101]⟩, .string ⟨#[36, 103, 116]⟩, .string ⟨#[36, 103, 101]⟩, .string ⟨#[36, 108, 116]⟩, .string ⟨#[36, 108, 101]⟩, .string ⟨#[36, 105, 110]⟩, .string ⟨#[36, 110, 111, 116, 73, 110]⟩, .string ⟨#[36, 101, 120, 105, 115, 116, 115]⟩, .string ⟨#[36, 107, 105, 110, 100]⟩, .string ⟨#[36, 109, 111, 100]⟩, .string ⟨#[36, 115, 105, 122, 101]⟩, .string ⟨#[36, 97, 108, 108]⟩, .string ⟨#[36, 101, 108, 101, 109]⟩, .string ⟨#[36, 112, 114, 101, 102, 105, 120]⟩, .string ⟨#[36, 108, 105, 107, 101]⟩, .string ⟨#[36, 119, 105, 116, 104, 105, 110]⟩, .string ⟨#[36, 119, 111, 114, 100, 115]⟩, .string ⟨#[]⟩, .string ⟨#[]⟩, .string ⟨#[]⟩, .string ⟨#[36, 110, 111, 116]⟩, .string ⟨#[]⟩]
def gl4 : List Value := [.string ⟨#[]⟩, .string ⟨#[36, 118, 97, 108, 117, 101]⟩, .string ⟨#[]⟩, .string ⟨#[]⟩, .string ⟨#[36, 97, 100, 100]⟩, .string ⟨#[36, 115, 117, 98]⟩, .string ⟨#[36, 109, 117, 108]⟩, .string ⟨#[36, 100, 105, 118]⟩, .string ⟨#[36, 109, 111, 100]⟩, .string ⟨#[36, 99, 109, 112]⟩, .string ⟨#[36, 101, 113]⟩, .string ⟨#[36, 110, 101]⟩, .string ⟨#[36, 103, 116]⟩, .string ⟨#[36, 103, 101]⟩, .string ⟨#[36, 108, 116]⟩, .string ⟨#[36, 108, 101]⟩, .string ⟨#[36, 97, 110, 100]⟩, .string ⟨#[36, 111, 114]⟩, .string ⟨#[36, 110, 111, 116]⟩, .string ⟨#[36, 105, 102]⟩, .string ⟨#[36, 105, 102, 78, 117, 108, 108]⟩, .string ⟨#[36, 99, 111, 110, 99, 97, 116]⟩, .string ⟨#[36, 108, 111, 119, 101, 114]⟩, .string ⟨#[36, 117, 112, 112, 101, 114]⟩, .string ⟨#[36, 108, 101, 110, 103, 116, 104]⟩, .string ⟨#[36, 115, 108, 105, 99, 101]⟩, .string ⟨#[36, 115, 105, 122, 101]⟩, .string ⟨#[36, 97, 116]⟩, .string ⟨#[36, 105, 110]⟩, .string ⟨#[36, 106, 111, 105, 110]⟩, .string ⟨#[36, 114, 101, 118, 101, 114, 115, 101]⟩, .string ⟨#[36, 115, 117, 109]⟩, .string ⟨#[36, 109, 97, 112]⟩, .string ⟨#[36, 102, 105, 108, 116, 101, 114]⟩, .string ⟨#[]⟩, .string ⟨#[]⟩, .string ⟨#[36, 107, 105, 110, 100]⟩, .string ⟨#[36, 109, 101, 114, 103, 101]⟩]
def glT : T (List Value) := tS gl0 (tN .l (tS gl4 .l .l)) .l
def mnzT : T TypeId := tN .l (tN .l (tN .l (tN (tN (tN (tN (tN .l (tN .l (tS 5 .l .l))) .l) .l) .l) .l)))
def ovlT : T Unit := tN (tN (tN .l (tN (tN .l (tN .l (tN (tN .l (tN .l (tS () .l .l))) .l))) .l)) (tN (tN (tN .l (tN .l (tN (tN .l (tS () .l (tS () .l .l))) .l))) .l) .l)) (tN .l (tN .l (tN .l (tN (tN (tN .l (tS () .l .l)) .l) .l))))
def splT : T Unit := tN (tN (tN .l (tN (tN .l (tN (tN (tS () .l .l) .l) .l)) (tN .l (tN (tS () .l .l) .l)))) (tN .l (tN .l (tN (tN .l (tN .l (tN .l (tN .l (tS () .l .l))))) .l)))) (tN .l (tN .l (tN .l (tN (tN .l (tN .l (tN .l (tN .l (tS () .l .l))))) .l))))
noncomputable def ex274 (l : List Value) : Option Value := pureVal Tryz.prog (Extern.BytealgCompare.compare l.toArray)
noncomputable def extT : T (List Value → Option Value) := tN (tN (tN .l (tN .l (tN (tN .l (tN .l (tN .l (tS ex274 .l .l)))) .l))) .l) .l
noncomputable def tab : Tab := ⟨tyT, fnT, idfT, orcT, glT, mnzT, ovlT, splT, extT, []⟩
def Gl (w : World) : Prop := ∀ (g : Nat) (vs : List Value), tab.gl.get g = some vs → ∀ (k : Nat) (v : Value), vs[k]? = some v → w.cell? ⟨g, k, none⟩ = some v
theorem tab_ty : tab.ty.list.map (fun x => tiOf Tryz.prog x.1) = tab.ty.list.map (fun x => some x.2) := by kernel_rfl
theorem tab_fn : tab.fn.list.map (fun x => match Tryz.prog.funcs[x.1]? with | some f => !(f.name == "runtime.NumGoroutine" || f.body.isNone) | none => false) = tab.fn.list.map (fun _ => true) := by kernel_rfl
theorem tab_idf (g : Nat) (u : Unit) (h : tab.idf.get g = some u) (v : Value) (w : World) : (callFunc g #[v]).run Tryz.prog w = .ok (.value v) w := by
  have hm := T.mem_list h
  rw [show tab.idf.list = [(360, ())] from by kernel_rfl] at hm
  simp at hm; subst hm; rfl
theorem tab_mnz (g : Nat) (e : TypeId) (h : tab.mnz.get g = some e) (m : Nat) (w : World) (hm : m ≤ 281474976710656) : ∃ cs : Array Value, (callFunc g #[.int .i64 m]).run Tryz.prog w = .ok (.value (.slice (some ⟨w.heap.size, 0, none⟩) m cs.size)) (w.drew.drew.alloc (.cells cs e)) ∧ m ≤ cs.size ∧ cs.size ≤ maxLen := by
  have hx := T.mem_list h
  rw [show tab.mnz.list = [(631, 5)] from by kernel_rfl] at hx
  simp only [List.mem_singleton, Prod.mk.injEq] at hx
  obtain ⟨rfl, rfl⟩ := hx
  obtain ⟨cs, hrun, hle, hmax⟩ := Lib.run_makeNoZero (P := Tryz.prog) w Tryz.f631.params 182 5 Tryz.underlying182 m hm
  refine ⟨cs, ?_, hle, hmax (by unfold maxLen; omega)⟩
  rw [run_callFunc_extern Tryz.func631 (by kernel_rfl) (by kernel_rfl) (by kernel_rfl) (e := Extern.BytealgMakeNoZero.makeNoZero Tryz.f631.params #[182]) (by kernel_rfl), hrun]
  rfl
theorem tab_ovl (g : Nat) (u : Unit) (h : tab.ovl.get g = some u) (w : World) (a b o p m c q d : Nat) (x y : Array Value) (tA tB : TypeId) (f1 f2 : Nat × Nat) (ha : w.heap[a]? = some (.cells x tA f1)) (hb : w.heap[b]? = some (.cells y tB f2)) (hne : a ≠ b) (hy : y.size ≠ 0) (hf : ∀ j, w.frozen? ⟨a, j, none⟩ = false) :
    (callFunc g #[.slice (some ⟨a, o, none⟩) m c, .slice (some ⟨b, p, none⟩) q d]).run Tryz.prog w = .ok (.value (.bool false)) w := by
  have hx := T.mem_list h
  rw [show tab.ovl.list = [(586, ()), (332, ()), (588, ()), (175, ())] from by kernel_rfl] at hx
  simp only [List.mem_cons, Prod.mk.injEq, List.not_mem_nil, or_false] at hx
  rcases hx with ⟨rfl, _⟩ | ⟨rfl, _⟩ | ⟨rfl, _⟩ | ⟨rfl, _⟩
  · rw [run_callFunc_extern Tryz.func586 (by kernel_rfl) (by kernel_rfl) (by kernel_rfl) (e := Extern.SlicesOverlaps.overlaps #[23, 23] #[4]) (by kernel_rfl),
      Lib.run_overlaps_apart w 23 4 9 Tryz.underlying23 1 Tryz.sizeOf9 ⟨a, o, none⟩ ⟨b, p, none⟩ m c q d hne tA tB x.size y.size (by unfold World.shape?; rw [ha]) (by unfold World.shape?; rw [hb]) hy (hf o) (hf x.size)]
    rfl
  · rw [run_callFunc_extern Tryz.func332 (by kernel_rfl) (by kernel_rfl) (by kernel_rfl) (e := Extern.SlicesOverlaps.overlaps #[160, 160] #[4]) (by kernel_rfl),
      Lib.run_overlaps_apart w 160 4 97 Tryz.underlying160 25 Tryz.sizeOf97 ⟨a, o, none⟩ ⟨b, p, none⟩ m c q d hne tA tB x.size y.size (by unfold World.shape?; rw [ha]) (by unfold World.shape?; rw [hb]) hy (hf o) (hf x.size)]
    rfl
  · rw [run_callFunc_extern Tryz.func588 (by kernel_rfl) (by kernel_rfl) (by kernel_rfl) (e := Extern.SlicesOverlaps.overlaps #[393, 393] #[4]) (by kernel_rfl),
      Lib.run_overlaps_apart w 393 4 323 Tryz.underlying393 1 Tryz.sizeOf323 ⟨a, o, none⟩ ⟨b, p, none⟩ m c q d hne tA tB x.size y.size (by unfold World.shape?; rw [ha]) (by unfold World.shape?; rw [hb]) hy (hf o) (hf x.size)]
    rfl
  · rw [run_callFunc_extern Tryz.func175 (by kernel_rfl) (by kernel_rfl) (by kernel_rfl) (e := Extern.SlicesOverlaps.overlaps #[24, 24] #[4]) (by kernel_rfl),
      Lib.run_overlaps_apart w 24 4 27 Tryz.underlying24 5 Tryz.sizeOf27 ⟨a, o, none⟩ ⟨b, p, none⟩ m c q d hne tA tB x.size y.size (by unfold World.shape?; rw [ha]) (by unfold World.shape?; rw [hb]) hy (hf o) (hf x.size)]
    rfl
theorem tab_ext (g : Nat) (F : List Value → Option Value) (h : tab.ext.get g = some F) (vs : List Value) (v : Value) (hF : F vs = some v) (w : World) : (callFunc g vs.toArray).run Tryz.prog w = .ok (.value v) w := by
  have hx := T.mem_list h
  rw [show tab.ext.list = [(274, ex274)] from by kernel_rfl] at hx
  simp only [List.mem_cons, Prod.mk.injEq, List.not_mem_nil, or_false] at hx
  rcases hx with ⟨rfl, rfl⟩
  · rw [run_callFunc_extern Tryz.func274 (by kernel_rfl) (by kernel_rfl) (by kernel_rfl) (e := Extern.BytealgCompare.compare) (by kernel_rfl), pureVal_run _ _ hF w]
    rfl
theorem tab_ok {w : World} (hg : Gl w) : TOk Tryz.prog tab w := ⟨tab_ty, tab_fn, by kernel_rfl, tab_idf, hg, tab_mnz, tab_ovl, tab_ext⟩
end Go.Proofs.YtgjpicjkncakkaaGreatDoor
