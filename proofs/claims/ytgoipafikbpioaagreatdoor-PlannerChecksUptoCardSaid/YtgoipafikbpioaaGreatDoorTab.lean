/- The tables of the program's types and functions for the evaluator, printed by a program of this repository (gen/tab.py). -/
import Derived.Test.YtgoipafikbpioaaGreatDoorEvm
import Derived.Test.YtgoipafikbpioaaGreatDoorProg
import Derived.Lib.MakeNoZero
import Derived.Laws.Externs
namespace Go.Proofs.YtgoipafikbpioaaGreatDoor
open Go.RowKit Go.Sx Go.Ev
set_option linter.unusedVariables false
set_option linter.unusedSimpArgs false
set_option maxRecDepth 100000
abbrev tvi : Value := .int .i64 0
abbrev tvs : Value := .string ByteArray.empty
abbrev tvl : Value := .slice none 0 0
abbrev tvb : Value := .bool false
def tI (k : TK) (s b : Nat) (l : List Value) : TI := ⟨k, s, b, l, .agg l.toArray⟩
def tS {α : Type} (x : α) (a b : T α) : T α := .n (some x) a b
def tN {α : Type} (a b : T α) : T α := .n none a b
def ti1 : TI := ⟨.fn, 1, 8, [.nilFunc], .nilFunc⟩
def ti2 : TI := ⟨.int .i64, 1, 8, [tvi], tvi⟩
def ti3 : TI := ⟨.int .i64, 1, 8, [tvi], tvi⟩
def ti4 : TI := ⟨.oth, 1, 1, [tvb], tvb⟩
def ti5 : TI := ⟨.int .u8, 1, 1, [.int .u8 0], .int .u8 0⟩
def ti6 : TI := ⟨.int .u8, 1, 1, [.int .u8 0], .int .u8 0⟩
def ti7 : TI := tI (.st [(0, 2), (1, 3), (2, 4), (3, 6)]) 4 24 [tvi, tvi, tvb, .int .u8 0]
def ti8 : TI := tI (.st [(0, 2), (1, 3), (2, 4), (3, 6)]) 4 24 [tvi, tvi, tvb, .int .u8 0]
def ti9 : TI := ⟨.str, 1, 16, [tvs], tvs⟩
def ti11 : TI := ⟨.str, 1, 16, [tvs], tvs⟩
def ti12 : TI := ⟨.int .u64, 1, 8, [.int .u64 0], .int .u64 0⟩
def ti20 : TI := ⟨.ifc, 1, 16, [.nilIface], .nilIface⟩
def ti21 : TI := ⟨.int .i32, 1, 4, [.int .i32 0], .int .i32 0⟩
def ti22 : TI := ⟨.sl 9, 1, 24, [tvl], tvl⟩
def ti23 : TI := ⟨.sl 26, 1, 24, [tvl], tvl⟩
def ti24 : TI := ⟨.sl 117, 1, 24, [tvl], tvl⟩
def ti26 : TI := tI (.st [(0, 3), (1, 3), (2, 9), (3, 23), (4, 24)]) 5 80 [tvi, tvi, tvs, tvl, tvl]
def ti27 : TI := ⟨.sl 180, 1, 24, [tvl], tvl⟩
def ti29 : TI := tI (.st [(0, 3), (1, 27), (2, 3)]) 3 40 [tvi, tvl, tvi]
def ti30 : TI := ⟨.sl 32, 1, 24, [tvl], tvl⟩
def ti32 : TI := tI (.st [(0, 3), (1, 22), (2, 9), (3, 22), (4, 26), (9, 3), (10, 30)]) 11 184 [tvi, tvl, tvs, tvl, tvi, tvi, tvs, tvl, tvl, tvi, tvl]
def ti33 : TI := ⟨.sl 35, 1, 24, [tvl], tvl⟩
def ti35 : TI := tI (.st [(0, 3), (1, 22), (2, 26), (7, 23), (8, 3), (9, 3), (10, 29), (13, 32), (24, 33)]) 25 400 [tvi, tvl, tvi, tvi, tvs, tvl, tvl, tvl, tvi, tvi, tvi, tvl, tvi, tvi, tvl, tvs, tvl, tvi, tvi, tvs, tvl, tvl, tvi, tvl, tvl]
def ti36 : TI := ⟨.sl 61, 1, 24, [tvl], tvl⟩
def ti37 : TI := ⟨.sl 22, 1, 24, [tvl], tvl⟩
def ti38 : TI := ⟨.sl 110, 1, 24, [tvl], tvl⟩
def ti39 : TI := ⟨.sl 112, 1, 24, [tvl], tvl⟩
def ti41 : TI := tI (.st [(0, 4), (1, 37), (2, 4), (3, 38), (4, 39)]) 5 88 [tvb, tvl, tvb, tvl, tvl]
def ti43 : TI := tI (.st [(0, 35), (25, 36), (26, 3), (27, 3), (28, 41), (33, 9)]) 34 544 [tvi, tvl, tvi, tvi, tvs, tvl, tvl, tvl, tvi, tvi, tvi, tvl, tvi, tvi, tvl, tvs, tvl, tvi, tvi, tvs, tvl, tvl, tvi, tvl, tvl, tvl, tvi, tvi, tvb, tvl, tvb, tvl, tvl, tvs]
def ti45 : TI := ⟨.sl 58, 1, 24, [tvl], tvl⟩
def ti46 : TI := ⟨.sl 212, 1, 24, [tvl], tvl⟩
def ti47 : TI := ⟨.sl 49, 1, 24, [tvl], tvl⟩
def ti49 : TI := tI (.st [(0, 3), (1, 4), (2, 26), (7, 4), (8, 26), (13, 23), (14, 3), (15, 3), (16, 22), (17, 46), (18, 4), (19, 47), (20, 4)]) 21 312 [tvi, tvb, tvi, tvi, tvs, tvl, tvl, tvb, tvi, tvi, tvs, tvl, tvl, tvl, tvi, tvi, tvl, tvl, tvb, tvl, tvb]
def ti51 : TI := tI (.st [(0, 9), (1, 45), (2, 49), (23, 3), (24, 3)]) 25 368 [tvs, tvl, tvi, tvb, tvi, tvi, tvs, tvl, tvl, tvb, tvi, tvi, tvs, tvl, tvl, tvl, tvi, tvi, tvl, tvl, tvb, tvl, tvb, tvi, tvi]
def ti53 : TI := ⟨.int .i64, 1, 8, [tvi], tvi⟩
def ti58 : TI := tI (.st [(0, 9), (1, 3), (2, 36), (3, 4), (4, 4), (5, 4), (6, 35)]) 31 456 [tvs, tvi, tvl, tvb, tvb, tvb, tvi, tvl, tvi, tvi, tvs, tvl, tvl, tvl, tvi, tvi, tvi, tvl, tvi, tvi, tvl, tvs, tvl, tvi, tvi, tvs, tvl, tvl, tvi, tvl, tvl]
def ti61 : TI := tI (.st [(0, 22), (1, 4)]) 2 32 [tvl, tvb]
def ti62 : TI := ⟨.ptr 83, 1, 8, [.pointer none], .pointer none⟩
def ti66 : TI := ⟨.sl 71, 1, 24, [tvl], tvl⟩
def ti69 : TI := ⟨.sl 148, 1, 24, [tvl], tvl⟩
def ti71 : TI := tI (.st [(0, 3), (1, 9), (2, 69), (3, 4), (4, 22), (5, 29), (8, 35), (33, 66)]) 34 544 [tvi, tvs, tvl, tvb, tvl, tvi, tvl, tvi, tvi, tvl, tvi, tvi, tvs, tvl, tvl, tvl, tvi, tvi, tvi, tvl, tvi, tvi, tvl, tvs, tvl, tvi, tvi, tvs, tvl, tvl, tvi, tvl, tvl, tvl]
def ti78 : TI := ⟨.sl 51, 1, 24, [tvl], tvl⟩
def ti81 : TI := ⟨.sl 84, 1, 24, [tvl], tvl⟩
def ti83 : TI := tI (.st [(0, 78), (1, 81), (2, 23)]) 3 72 [tvl, tvl, tvl]
def ti84 : TI := ⟨.ptr 131, 1, 8, [.pointer none], .pointer none⟩
def ti94 : TI := ⟨.ptr 97, 1, 8, [.pointer none], .pointer none⟩
def ti95 : TI := ⟨.sl 5, 1, 24, [tvl], tvl⟩
def ti97 : TI := tI (.st [(0, 94), (1, 95)]) 2 32 [.pointer none, tvl]
def ti101 : TI := ⟨.fn, 1, 8, [.nilFunc], .nilFunc⟩
def ti104 : TI := ⟨.ptr 3, 1, 8, [.pointer none], .pointer none⟩
def ti106 : TI := ⟨.fn, 1, 8, [.nilFunc], .nilFunc⟩
def ti110 : TI := tI (.st [(0, 22), (1, 3), (2, 3)]) 3 40 [tvl, tvi, tvi]
def ti112 : TI := tI (.st [(0, 22), (1, 32)]) 12 208 [tvl, tvi, tvl, tvs, tvl, tvi, tvi, tvs, tvl, tvl, tvi, tvl]
def ti117 : TI := tI (.st [(0, 9), (1, 26)]) 6 96 [tvs, tvi, tvi, tvs, tvl, tvl]
def ti124 : TI := ⟨.ptr 172, 1, 8, [.pointer none], .pointer none⟩
def ti128 : TI := ⟨.mp 9 368, 1, 8, [.map none], .map none⟩
def ti129 : TI := ⟨.sl 4, 1, 24, [tvl], tvl⟩
def ti131 : TI := tI (.st [(0, 58), (31, 129), (32, 124), (33, 128), (34, 3)]) 35 504 [tvs, tvi, tvl, tvb, tvb, tvb, tvi, tvl, tvi, tvi, tvs, tvl, tvl, tvl, tvi, tvi, tvi, tvl, tvi, tvi, tvl, tvs, tvl, tvi, tvi, tvs, tvl, tvl, tvi, tvl, tvl, tvl, .pointer none, .map none, tvi]
def ti139 : TI := ⟨.ifc, 1, 16, [.nilIface], .nilIface⟩
def ti146 : TI := ⟨.ptr 5, 1, 8, [.pointer none], .pointer none⟩
def ti148 : TI := ⟨.sl 151, 1, 24, [tvl], tvl⟩
def ti149 : TI := ⟨.fn, 1, 8, [.nilFunc], .nilFunc⟩
def ti151 : TI := tI (.st [(0, 26), (5, 26), (10, 4), (11, 4)]) 12 168 [tvi, tvi, tvs, tvl, tvl, tvi, tvi, tvs, tvl, tvl, tvb, tvb]
def ti157 : TI := ⟨.fn, 1, 8, [.nilFunc], .nilFunc⟩
def ti164 : TI := ⟨.fn, 1, 8, [.nilFunc], .nilFunc⟩
def ti168 : TI := ⟨.ptr 371, 1, 8, [.pointer none], .pointer none⟩
def ti170 : TI := tI (.st [(0, 3), (1, 3), (2, 168)]) 3 24 [tvi, tvi, .pointer none]
def ti172 : TI := tI (.st [(0, 170)]) 3 24 [tvi, tvi, .pointer none]
def ti174 : TI := ⟨.fn, 1, 8, [.nilFunc], .nilFunc⟩
def ti180 : TI := tI (.st [(0, 3), (1, 3)]) 2 16 [tvi, tvi]
def ti188 : TI := tI (.ar 25 9) 25 400 [tvs, tvs, tvs, tvs, tvs, tvs, tvs, tvs, tvs, tvs, tvs, tvs, tvs, tvs, tvs, tvs, tvs, tvs, tvs, tvs, tvs, tvs, tvs, tvs, tvs]
def ti192 : TI := ⟨.int .u64, 1, 8, [.int .u64 0], .int .u64 0⟩
def ti209 : TI := ⟨.fn, 1, 8, [.nilFunc], .nilFunc⟩
def ti212 : TI := tI (.st [(0, 9), (1, 49)]) 22 328 [tvs, tvi, tvb, tvi, tvi, tvs, tvl, tvl, tvb, tvi, tvi, tvs, tvl, tvl, tvl, tvi, tvi, tvl, tvl, tvb, tvl, tvb]
def ti218 : TI := ⟨.sl 221, 1, 24, [tvl], tvl⟩
def ti221 : TI := tI (.st [(0, 9), (1, 4)]) 2 24 [tvs, tvb]
def ti228 : TI := ⟨.fn, 1, 8, [.nilFunc], .nilFunc⟩
def ti233 : TI := ⟨.sl 235, 1, 24, [tvl], tvl⟩
def ti235 : TI := tI (.st [(0, 35), (25, 26)]) 30 480 [tvi, tvl, tvi, tvi, tvs, tvl, tvl, tvl, tvi, tvi, tvi, tvl, tvi, tvi, tvl, tvs, tvl, tvi, tvi, tvs, tvl, tvl, tvi, tvl, tvl, tvi, tvi, tvs, tvl, tvl]
def ti237 : TI := ⟨.fn, 1, 8, [.nilFunc], .nilFunc⟩
def ti239 : TI := ⟨.fn, 1, 8, [.nilFunc], .nilFunc⟩
def ti240 : TI := ⟨.uptr, 1, 8, [.pointer none], .pointer none⟩
def ti242 : TI := ⟨.int .u32, 1, 4, [.int .u32 0], .int .u32 0⟩
def ti245 : TI := ⟨.int .u64, 1, 8, [.int .u64 0], .int .u64 0⟩
def ti257 : TI := ⟨.sl 262, 1, 24, [tvl], tvl⟩
def ti260 : TI := tI (.st [(0, 26), (5, 4)]) 6 88 [tvi, tvi, tvs, tvl, tvl, tvb]
def ti262 : TI := tI (.st [(0, 260), (6, 260)]) 12 176 [tvi, tvi, tvs, tvl, tvl, tvb, tvi, tvi, tvs, tvl, tvl, tvb]
def ti268 : TI := tI (.ar 256 4) 256 256 [tvb, tvb, tvb, tvb, tvb, tvb, tvb, tvb, tvb, tvb, tvb, tvb, tvb, tvb, tvb, tvb, tvb, tvb, tvb, tvb, tvb, tvb, tvb, tvb, tvb, tvb, tvb, tvb, tvb, tvb, tvb, tvb, tvb, tvb, tvb, tvb, tvb, tvb, tvb, tvb, tvb, tvb, tvb, tvb, tvb, tvb, tvb, tvb, tvb, tvb, tvb, tvb, tvb, tvb, tvb, tvb, tvb, tvb, tvb, tvb, tvb, tvb, tvb, tvb, tvb, tvb, tvb, tvb, tvb, tvb, tvb, tvb, tvb, tvb, tvb, tvb, tvb, tvb, tvb, tvb, tvb, tvb, tvb, tvb, tvb, tvb, tvb, tvb, tvb, tvb, tvb, tvb, tvb, tvb, tvb, tvb, tvb, tvb, tvb, tvb, tvb, tvb, tvb, tvb, tvb, tvb, tvb, tvb, tvb, tvb, tvb, tvb, tvb, tvb, tvb, tvb, tvb, tvb, tvb, tvb, tvb, tvb, tvb, tvb, tvb, tvb, tvb, tvb, tvb, tvb, tvb, tvb, tvb, tvb, tvb, tvb, tvb, tvb, tvb, tvb, tvb, tvb, tvb, tvb, tvb, tvb, tvb, tvb, tvb, tvb, tvb, tvb, tvb, tvb, tvb, tvb, tvb, tvb, tvb, tvb, tvb, tvb, tvb, tvb, tvb, tvb, tvb, tvb, tvb, tvb, tvb, tvb, tvb, tvb, tvb, tvb, tvb, tvb, tvb, tvb, tvb, tvb, tvb, tvb, tvb, tvb, tvb, tvb, tvb, tvb, tvb, tvb, tvb, tvb, tvb, tvb, tvb, tvb, tvb, tvb, tvb, tvb, tvb, tvb, tvb, tvb, tvb, tvb, tvb, tvb, tvb, tvb, tvb, tvb, tvb, tvb, tvb, tvb, tvb, tvb, tvb, tvb, tvb, tvb, tvb, tvb, tvb, tvb, tvb, tvb, tvb, tvb, tvb, tvb, tvb, tvb, tvb, tvb, tvb, tvb, tvb, tvb, tvb, tvb, tvb, tvb, tvb, tvb, tvb, tvb, tvb, tvb, tvb, tvb, tvb, tvb]
def ti272 : TI := ⟨.ptr 268, 1, 8, [.pointer none], .pointer none⟩
def ti276 : TI := tI (.ar 38 9) 38 608 [tvs, tvs, tvs, tvs, tvs, tvs, tvs, tvs, tvs, tvs, tvs, tvs, tvs, tvs, tvs, tvs, tvs, tvs, tvs, tvs, tvs, tvs, tvs, tvs, tvs, tvs, tvs, tvs, tvs, tvs, tvs, tvs, tvs, tvs, tvs, tvs, tvs, tvs]
def ti282 : TI := ⟨.mp 9 4, 1, 8, [.map none], .map none⟩
def ti288 : TI := ⟨.fn, 1, 8, [.nilFunc], .nilFunc⟩
def ti309 : TI := tI (.ar 24 5) 24 24 [.int .u8 0, .int .u8 0, .int .u8 0, .int .u8 0, .int .u8 0, .int .u8 0, .int .u8 0, .int .u8 0, .int .u8 0, .int .u8 0, .int .u8 0, .int .u8 0, .int .u8 0, .int .u8 0, .int .u8 0, .int .u8 0, .int .u8 0, .int .u8 0, .int .u8 0, .int .u8 0, .int .u8 0, .int .u8 0, .int .u8 0, .int .u8 0]
def ti315 : TI := tI (.ar 256 5) 256 256 [.int .u8 0, .int .u8 0, .int .u8 0, .int .u8 0, .int .u8 0, .int .u8 0, .int .u8 0, .int .u8 0, .int .u8 0, .int .u8 0, .int .u8 0, .int .u8 0, .int .u8 0, .int .u8 0, .int .u8 0, .int .u8 0, .int .u8 0, .int .u8 0, .int .u8 0, .int .u8 0, .int .u8 0, .int .u8 0, .int .u8 0, .int .u8 0, .int .u8 0, .int .u8 0, .int .u8 0, .int .u8 0, .int .u8 0, .int .u8 0, .int .u8 0, .int .u8 0, .int .u8 0, .int .u8 0, .int .u8 0, .int .u8 0, .int .u8 0, .int .u8 0, .int .u8 0, .int .u8 0, .int .u8 0, .int .u8 0, .int .u8 0, .int .u8 0, .int .u8 0, .int .u8 0, .int .u8 0, .int .u8 0, .int .u8 0, .int .u8 0, .int .u8 0, .int .u8 0, .int .u8 0, .int .u8 0, .int .u8 0, .int .u8 0, .int .u8 0, .int .u8 0, .int .u8 0, .int .u8 0, .int .u8 0, .int .u8 0, .int .u8 0, .int .u8 0, .int .u8 0, .int .u8 0, .int .u8 0, .int .u8 0, .int .u8 0, .int .u8 0, .int .u8 0, .int .u8 0, .int .u8 0, .int .u8 0, .int .u8 0, .int .u8 0, .int .u8 0, .int .u8 0, .int .u8 0, .int .u8 0, .int .u8 0, .int .u8 0, .int .u8 0, .int .u8 0, .int .u8 0, .int .u8 0, .int .u8 0, .int .u8 0, .int .u8 0, .int .u8 0, .int .u8 0, .int .u8 0, .int .u8 0, .int .u8 0, .int .u8 0, .int .u8 0, .int .u8 0, .int .u8 0, .int .u8 0, .int .u8 0, .int .u8 0, .int .u8 0, .int .u8 0, .int .u8 0, .int .u8 0, .int .u8 0, .int .u8 0, .int .u8 0, .int .u8 0, .int .u8 0, .int .u8 0, .int .u8 0, .int .u8 0, .int .u8 0, .int .u8 0, .int .u8 0, .int .u8 0, .int .u8 0, .int .u8 0, .int .u8 0, .int .u8 0, .int .u8 0, .int .u8 0, .int .u8 0, .int .u8 0, .int .u8 0, .int .u8 0, .int .u8 0, .int .u8 0, .int .u8 0, .int .u8 0, .int .u8 0, .int .u8 0, .int .u8 0, .int .u8 0, .int .u8 0, .int .u8 0, .int .u8 0, .int .u8 0, .int .u8 0, .int .u8 0, .int .u8 0, .int .u8 0, .int .u8 0, .int .u8 0, .int .u8 0, .int .u8 0, .int .u8 0, .int .u8 0, .int .u8 0, .int .u8 0, .int .u8 0, .int .u8 0, .int .u8 0, .int .u8 0, .int .u8 0, .int .u8 0, .int .u8 0, .int .u8 0, .int .u8 0, .int .u8 0, .int .u8 0, .int .u8 0, .int .u8 0, .int .u8 0, .int .u8 0, .int .u8 0, .int .u8 0, .int .u8 0, .int .u8 0, .int .u8 0, .int .u8 0, .int .u8 0, .int .u8 0, .int .u8 0, .int .u8 0, .int .u8 0, .int .u8 0, .int .u8 0, .int .u8 0, .int .u8 0, .int .u8 0, .int .u8 0, .int .u8 0, .int .u8 0, .int .u8 0, .int .u8 0, .int .u8 0, .int .u8 0, .int .u8 0, .int .u8 0, .int .u8 0, .int .u8 0, .int .u8 0, .int .u8 0, .int .u8 0, .int .u8 0, .int .u8 0, .int .u8 0, .int .u8 0, .int .u8 0, .int .u8 0, .int .u8 0, .int .u8 0, .int .u8 0, .int .u8 0, .int .u8 0, .int .u8 0, .int .u8 0, .int .u8 0, .int .u8 0, .int .u8 0, .int .u8 0, .int .u8 0, .int .u8 0, .int .u8 0, .int .u8 0, .int .u8 0, .int .u8 0, .int .u8 0, .int .u8 0, .int .u8 0, .int .u8 0, .int .u8 0, .int .u8 0, .int .u8 0, .int .u8 0, .int .u8 0, .int .u8 0, .int .u8 0, .int .u8 0, .int .u8 0, .int .u8 0, .int .u8 0, .int .u8 0, .int .u8 0, .int .u8 0, .int .u8 0, .int .u8 0, .int .u8 0, .int .u8 0, .int .u8 0, .int .u8 0, .int .u8 0, .int .u8 0, .int .u8 0, .int .u8 0, .int .u8 0, .int .u8 0, .int .u8 0, .int .u8 0, .int .u8 0, .int .u8 0, .int .u8 0, .int .u8 0, .int .u8 0]
def ti317 : TI := tI (.st [(0, 5), (1, 5)]) 2 2 [.int .u8 0, .int .u8 0]
def ti318 : TI := tI (.ar 16 317) 32 32 [.int .u8 0, .int .u8 0, .int .u8 0, .int .u8 0, .int .u8 0, .int .u8 0, .int .u8 0, .int .u8 0, .int .u8 0, .int .u8 0, .int .u8 0, .int .u8 0, .int .u8 0, .int .u8 0, .int .u8 0, .int .u8 0, .int .u8 0, .int .u8 0, .int .u8 0, .int .u8 0, .int .u8 0, .int .u8 0, .int .u8 0, .int .u8 0, .int .u8 0, .int .u8 0, .int .u8 0, .int .u8 0, .int .u8 0, .int .u8 0, .int .u8 0, .int .u8 0]
def ti323 : TI := ⟨.fn, 1, 8, [.nilFunc], .nilFunc⟩
def ti328 : TI := ⟨.int .i64, 1, 8, [tvi], tvi⟩
def ti337 : TI := tI (.ar 20 245) 20 160 [.int .u64 0, .int .u64 0, .int .u64 0, .int .u64 0, .int .u64 0, .int .u64 0, .int .u64 0, .int .u64 0, .int .u64 0, .int .u64 0, .int .u64 0, .int .u64 0, .int .u64 0, .int .u64 0, .int .u64 0, .int .u64 0, .int .u64 0, .int .u64 0, .int .u64 0, .int .u64 0]
def ti338 : TI := tI (.ar 65 5) 65 65 [.int .u8 0, .int .u8 0, .int .u8 0, .int .u8 0, .int .u8 0, .int .u8 0, .int .u8 0, .int .u8 0, .int .u8 0, .int .u8 0, .int .u8 0, .int .u8 0, .int .u8 0, .int .u8 0, .int .u8 0, .int .u8 0, .int .u8 0, .int .u8 0, .int .u8 0, .int .u8 0, .int .u8 0, .int .u8 0, .int .u8 0, .int .u8 0, .int .u8 0, .int .u8 0, .int .u8 0, .int .u8 0, .int .u8 0, .int .u8 0, .int .u8 0, .int .u8 0, .int .u8 0, .int .u8 0, .int .u8 0, .int .u8 0, .int .u8 0, .int .u8 0, .int .u8 0, .int .u8 0, .int .u8 0, .int .u8 0, .int .u8 0, .int .u8 0, .int .u8 0, .int .u8 0, .int .u8 0, .int .u8 0, .int .u8 0, .int .u8 0, .int .u8 0, .int .u8 0, .int .u8 0, .int .u8 0, .int .u8 0, .int .u8 0, .int .u8 0, .int .u8 0, .int .u8 0, .int .u8 0, .int .u8 0, .int .u8 0, .int .u8 0, .int .u8 0, .int .u8 0]
def ti341 : TI := ⟨.int .u64, 1, 8, [.int .u64 0], .int .u64 0⟩
def ti350 : TI := ⟨.ptr 341, 1, 8, [.pointer none], .pointer none⟩
def ti353 : TI := tI (.ar 32 5) 32 32 [.int .u8 0, .int .u8 0, .int .u8 0, .int .u8 0, .int .u8 0, .int .u8 0, .int .u8 0, .int .u8 0, .int .u8 0, .int .u8 0, .int .u8 0, .int .u8 0, .int .u8 0, .int .u8 0, .int .u8 0, .int .u8 0, .int .u8 0, .int .u8 0, .int .u8 0, .int .u8 0, .int .u8 0, .int .u8 0, .int .u8 0, .int .u8 0, .int .u8 0, .int .u8 0, .int .u8 0, .int .u8 0, .int .u8 0, .int .u8 0, .int .u8 0, .int .u8 0]
def ti354 : TI := tI (.ar 64 5) 64 64 [.int .u8 0, .int .u8 0, .int .u8 0, .int .u8 0, .int .u8 0, .int .u8 0, .int .u8 0, .int .u8 0, .int .u8 0, .int .u8 0, .int .u8 0, .int .u8 0, .int .u8 0, .int .u8 0, .int .u8 0, .int .u8 0, .int .u8 0, .int .u8 0, .int .u8 0, .int .u8 0, .int .u8 0, .int .u8 0, .int .u8 0, .int .u8 0, .int .u8 0, .int .u8 0, .int .u8 0, .int .u8 0, .int .u8 0, .int .u8 0, .int .u8 0, .int .u8 0, .int .u8 0, .int .u8 0, .int .u8 0, .int .u8 0, .int .u8 0, .int .u8 0, .int .u8 0, .int .u8 0, .int .u8 0, .int .u8 0, .int .u8 0, .int .u8 0, .int .u8 0, .int .u8 0, .int .u8 0, .int .u8 0, .int .u8 0, .int .u8 0, .int .u8 0, .int .u8 0, .int .u8 0, .int .u8 0, .int .u8 0, .int .u8 0, .int .u8 0, .int .u8 0, .int .u8 0, .int .u8 0, .int .u8 0, .int .u8 0, .int .u8 0, .int .u8 0]
def ti368 : TI := tI (.st [(0, 22), (1, 4)]) 2 32 [tvl, tvb]
def ti369 : TI := ⟨.sl 168, 1, 24, [tvl], tvl⟩
def ti371 : TI := tI (.st [(0, 22), (1, 22), (2, 369)]) 3 72 [tvl, tvl, tvl]
def tyT : T TI := tN (tS ti2 (tS ti6 (tN (tS ti30 (tS ti62 (tN .l (tN .l (tS ti318 .l .l))) (tS ti94 (tN .l (tS ti350 .l .l)) .l)) (tS ti46 (tS ti110 .l (tS ti174 .l .l)) (tS ti78 .l .l))) (tS ti22 .l (tS ti38 .l (tN .l (tN .l (tS ti262 .l .l)))))) (tN (tS ti26 (tS ti58 .l (tN (tS ti218 .l .l) (tN .l (tS ti282 .l .l)))) (tN (tS ti106 .l (tS ti170 .l .l)) .l)) (tN (tN (tN (tS ti242 .l .l) .l) (tN (tN .l (tS ti338 .l .l)) (tS ti146 .l .l))) (tN (tN (tN .l (tS ti354 .l .l)) .l) (tS ti66 .l .l))))) (tS ti4 (tS ti12 (tN (tN (tS ti124 .l (tS ti188 .l .l)) .l) (tN (tN .l (tS ti172 .l .l)) (tN .l (tN .l (tS ti268 .l .l))))) (tS ti20 (tN (tN .l (tS ti180 .l .l)) (tS ti84 (tS ti212 .l .l) (tS ti148 .l (tS ti276 .l .l)))) (tS ti36 (tN (tS ti228 .l .l) (tS ti164 .l .l)) (tN .l (tN .l (tS ti260 .l .l)))))) (tS ti8 (tS ti24 .l (tN (tS ti104 .l (tS ti168 .l .l)) (tN (tN .l (tS ti328 .l .l)) .l))) (tN (tN (tS ti112 (tS ti240 .l (tS ti368 .l .l)) .l) (tN .l (tN .l (tS ti272 .l .l)))) (tS ti32 (tN .l (tN .l (tS ti288 .l .l))) (tN (tS ti192 .l .l) (tS ti128 .l .l))))))) (tS ti1 (tS ti5 (tN (tS ti29 (tS ti61 (tN .l (tN .l (tS ti317 .l .l))) (tN (tS ti221 .l .l) (tS ti157 .l .l))) (tS ti45 (tN (tS ti237 .l .l) .l) .l)) (tS ti21 (tS ti53 (tS ti117 (tS ti245 .l .l) (tN .l (tS ti309 .l .l))) (tN (tN .l (tS ti341 .l .l)) (tS ti149 .l .l))) (tS ti37 (tS ti101 .l .l) (tS ti69 .l .l)))) (tS ti9 (tN .l (tS ti41 (tN (tS ti233 .l .l) .l) .l)) (tN (tS ti49 (tN (tN .l (tS ti369 .l .l)) .l) (tS ti81 (tS ti209 .l (tS ti337 .l .l)) .l)) (tS ti33 (tS ti97 (tN .l (tS ti353 .l .l)) .l) (tN .l (tS ti129 .l (tS ti257 .l .l))))))) (tS ti3 (tS ti11 (tS ti27 (tN (tN .l (tN .l (tS ti315 .l .l))) .l) (tS ti43 (tN (tS ti235 .l .l) .l) (tN .l (tS ti139 .l .l)))) (tN (tS ti51 (tN (tN .l (tS ti371 .l .l)) .l) (tS ti83 .l .l)) (tS ti35 .l (tN (tN .l (tS ti323 .l .l)) (tS ti131 .l .l))))) (tS ti7 (tS ti23 (tN .l (tN .l (tS ti151 .l .l))) (tS ti39 .l (tS ti71 .l .l))) (tN (tS ti47 (tN (tS ti239 .l .l) .l) .l) (tN (tS ti95 .l .l) .l)))))
def fnT : T Unit := tN (tN (tS () (tS () (tS () (tS () (tS () (tS () .l .l) (tS () .l (tS () .l .l))) (tS () (tS () .l .l) (tS () .l (tS () .l .l)))) (tN (tS () (tS () .l .l) (tS () .l (tS () .l .l))) (tN (tN .l (tS () .l .l)) (tN .l (tS () .l .l))))) (tS () (tS () (tS () (tS () .l .l) (tS () .l (tS () .l .l))) (tN (tS () .l (tS () .l .l)) (tS () .l .l))) (tS () (tS () (tS () .l .l) (tS () .l (tS () .l .l))) (tS () (tS () .l (tS () .l .l)) (tS () .l (tS () .l .l)))))) (tS () (tS () (tS () (tS () (tS () .l .l) (tS () .l (tS () .l .l))) (tS () (tS () .l .l) (tS () .l (tS () .l .l)))) (tN (tS () (tS () .l .l) (tS () .l (tS () .l .l))) (tS () (tN .l (tS () .l .l)) (tN .l (tS () .l .l))))) (tN (tS () (tS () (tS () .l .l) (tS () .l (tS () .l .l))) (tN (tS () .l (tS () .l .l)) (tS () .l (tS () .l .l)))) (tS () (tS () (tS () .l .l) (tS () .l (tS () .l .l))) (tS () (tS () .l (tS () .l .l)) (tS () .l (tS () .l .l))))))) (tN (tS () (tS () (tS () (tS () (tS () .l .l) (tS () .l (tS () .l .l))) (tS () (tS () .l .l) (tS () .l (tS () .l .l)))) (tN (tS () (tS () .l .l) (tS () .l (tS () .l .l))) (tN (tN .l (tS () .l .l)) (tN .l (tS () .l .l))))) (tN (tS () (tS () (tS () .l .l) (tS () .l (tS () .l .l))) (tN (tS () .l (tS () .l .l)) (tS () .l (tS () .l .l)))) (tS () (tS () (tS () .l .l) (tS () .l (tS () .l .l))) (tS () (tS () .l .l) (tS () .l (tS () .l .l)))))) (tN (tS () (tS () (tS () .l (tS () .l (tS () .l .l))) (tS () (tS () .l (tS () .l .l)) (tS () .l (tS () .l .l)))) (tN (tS () (tS () .l .l) (tS () .l (tS () .l .l))) (tS () (tS () .l (tS () .l .l)) (tN .l (tS () .l .l))))) (tS () (tS () (tS () (tS () .l .l) (tS () .l (tS () .l .l))) (tN (tN .l (tS () .l .l)) (tN .l (tS () .l .l)))) (tS () (tS () (tS () .l .l) (tS () .l (tS () .l .l))) (tS () (tS () .l (tS () .l .l)) (tS () .l (tS () .l .l)))))))) (tN (tS () (tS () (tS () (tS () (tS () (tS () .l .l) (tS () .l (tS () .l .l))) (tN (tS () .l .l) (tS () .l (tS () .l .l)))) (tN (tS () (tS () .l .l) (tS () .l (tS () .l .l))) (tN (tN .l (tS () .l .l)) (tN .l (tS () .l .l))))) (tN (tS () (tS () (tS () .l .l) (tS () .l (tS () .l .l))) (tN (tS () .l .l) (tS () .l (tS () .l .l)))) (tS () (tS () (tS () .l .l) (tS () .l (tS () .l .l))) (tS () (tS () .l (tS () .l .l)) (tS () .l (tS () .l .l)))))) (tN (tS () (tS () (tS () .l (tS () .l (tS () .l .l))) (tS () (tS () .l (tS () .l .l)) (tS () .l (tS () .l .l)))) (tN (tS () (tS () .l .l) (tS () .l (tS () .l .l))) (tS () (tS () .l (tS () .l .l)) (tN .l (tS () .l .l))))) (tS () (tS () (tS () .l (tS () .l (tS () .l .l))) (tN (tS () .l (tS () .l .l)) (tS () .l (tS () .l .l)))) (tS () (tS () (tS () .l .l) (tS () .l .l)) (tS () (tS () .l (tS () .l .l)) (tS () .l (tS () .l .l))))))) (tN (tS () (tS () (tS () (tS () (tS () .l .l) (tS () .l (tS () .l .l))) (tS () (tS () .l .l) (tS () .l (tS () .l .l)))) (tN (tS () (tS () .l .l) (tS () .l .l)) (tS () (tN .l (tS () .l .l)) (tN .l (tS () .l .l))))) (tN (tS () (tS () (tS () .l .l) (tS () .l (tS () .l .l))) (tN (tS () .l (tS () .l .l)) (tS () .l (tS () .l .l)))) (tS () (tS () (tS () .l .l) (tS () .l (tS () .l .l))) (tS () (tS () .l (tS () .l .l)) (tS () .l (tS () .l .l)))))) (tN (tS () (tS () (tS () .l (tN .l (tS () .l .l))) (tN (tS () .l (tS () .l .l)) (tS () .l (tS () .l .l)))) (tS () (tS () (tS () .l .l) (tS () .l (tS () .l .l))) (tS () (tS () .l (tS () .l .l)) (tS () .l (tS () .l .l))))) (tS () (tS () (tS () (tS () .l .l) (tS () .l (tS () .l .l))) (tN (tN .l (tS () .l .l)) (tN .l (tS () .l .l)))) (tS () (tS () (tS () .l .l) (tS () .l (tS () .l .l))) (tS () (tS () .l (tS () .l .l)) (tS () .l (tS () .l .l))))))))
def idfT : T Unit := tN .l (tN .l (tN .l (tN (tN (tN (tN .l (tS () .l .l)) .l) .l) .l)))
def orcT : T Unit := .l
def gl0 : List Value := [.string ⟨#[]⟩, .string ⟨#[]⟩, .string ⟨#[36, 101, 113]⟩, .string ⟨#[36, 110, 101]⟩, .string ⟨#[36, 103, 116]⟩, .string ⟨#[36, 103, 101]⟩, .string ⟨#[36, 108, 116]⟩, .string ⟨#[36, 108, 101]⟩, .string ⟨#[36, 105, 110]⟩, .string ⟨#[36, 110, 111, 116, 73, 110]⟩, .string ⟨#[36, 101, 120, 105, 115, 116, 115]⟩, .string ⟨#[36, 107, 105, 110, 100]⟩, .string ⟨#[36, 109, 111, 100]⟩, .string ⟨#[36, 115, 105, 122, 101]⟩, .string ⟨#[36, 97, 108, 108]⟩, .string ⟨#[36, 101, 108, 101, 109]⟩, .string ⟨#[36, 112, 114, 101, 102, 105, 120]⟩, .string ⟨#[36, 108, 105, 107, 101]⟩, .string ⟨#[36, 119, 105, 116, 104, 105, 110]⟩, .string ⟨#[36, 119, 111, 114, 100, 115]⟩, .string ⟨#[]⟩, .string ⟨#[]⟩, .string ⟨#[]⟩, .string ⟨#[36, 110, 111, 116]⟩, .string ⟨#[]⟩]
def gl1 : List Value := [.string ⟨#[]⟩, .string ⟨#[36, 118, 97, 108, 117, 101]⟩, .string ⟨#[]⟩, .string ⟨#[]⟩, .string ⟨#[36, 97, 100, 100]⟩, .string ⟨#[36, 115, 117, 98]⟩, .string ⟨#[36, 109, 117, 108]⟩, .string ⟨#[36, 100, 105, 118]⟩, .string ⟨#[36, 109, 111, 100]⟩, .string ⟨#[36, 99, 109, 112]⟩, .string ⟨#[36, 101, 113]⟩, .string ⟨#[36, 110, 101]⟩, .string ⟨#[36, 103, 116]⟩, .string ⟨#[36, 103, 101]⟩, .string ⟨#[36, 108, 116]⟩, .string ⟨#[36, 108, 101]⟩, .string ⟨#[36, 97, 110, 100]⟩, .string ⟨#[36, 111, 114]⟩, .string ⟨#[36, 110, 111, 116]⟩, .string ⟨#[36, 105, 102]⟩, .string ⟨#[36, 105, 102, 78, 117, 108, 108]⟩, .string ⟨#[36, 99, 111, 110, 99, 97, 116]⟩, .string ⟨#[36, 108, 111, 119, 101, 114]⟩, .string ⟨#[36, 117, 112, 112, 101, 114]⟩, .string ⟨#[36, 108, 101, 110, 103, 116, 104]⟩, .string ⟨#[36, 115, 108, 105, 99, 101]⟩, .string ⟨#[36, 115, 105, 122, 101]⟩, .string ⟨#[36, 97, 116]⟩, .string ⟨#[36, 105, 110]⟩, .string ⟨#[36, 106, 111, 105, 110]⟩, .string ⟨#[36, 114, 101, 118, 101, 114, 115, 101]⟩, .string ⟨#[36, 115, 117, 109]⟩, .string ⟨#[36, 109, 97, 112]⟩, .string ⟨#[36, 102, 105, 108, 116, 101, 114]⟩, .string ⟨#[]⟩, .string ⟨#[]⟩, .string ⟨#[36, 107, 105, 110, 100]⟩, .string ⟨#[36, 109, 101, 114, 103, 101]⟩]
def glT : T (List Value) := tS gl0 .l (tS gl1 .l .l)
def mnzT : T TypeId := tN .l (tN (tN .l (tN .l (tN (tN (tN (tS 5 .l .l) .l) .l) .l))) .l)
def tab : Tab := ⟨tyT, fnT, idfT, orcT, glT, mnzT⟩
def Gl (w : World) : Prop := ∀ (g : Nat) (vs : List Value), tab.gl.get g = some vs → ∀ (k : Nat) (v : Value), vs[k]? = some v → w.cell? ⟨g, k, none⟩ = some v
theorem tab_ty : tab.ty.list.map (fun x => tiOf Tryz.prog x.1) = tab.ty.list.map (fun x => some x.2) := by kernel_rfl
theorem tab_fn : tab.fn.list.map (fun x => match Tryz.prog.funcs[x.1]? with | some f => !(f.name == "runtime.NumGoroutine" || f.body.isNone) | none => false) = tab.fn.list.map (fun _ => true) := by kernel_rfl
theorem tab_idf (g : Nat) (u : Unit) (h : tab.idf.get g = some u) (v : Value) (w : World) : (callFunc g #[v]).run Tryz.prog w = .ok (.value v) w := by
  have hm := T.mem_list h
  rw [show tab.idf.list = [(183, ())] from by kernel_rfl] at hm
  simp at hm; subst hm; rfl
theorem tab_mnz (g : Nat) (e : TypeId) (h : tab.mnz.get g = some e) (m : Nat) (w : World) (hm : m ≤ 281474976710656) : ∃ cs : Array Value, (callFunc g #[.int .i64 m]).run Tryz.prog w = .ok (.value (.slice (some ⟨w.heap.size, 0, none⟩) m cs.size)) (w.drew.drew.alloc (.cells cs e)) ∧ m ≤ cs.size ∧ cs.size ≤ maxLen := by
  have hx := T.mem_list h
  rw [show tab.mnz.list = [(241, 5)] from by kernel_rfl] at hx
  simp only [List.mem_singleton, Prod.mk.injEq] at hx
  obtain ⟨rfl, rfl⟩ := hx
  obtain ⟨cs, hrun, hle, hmax⟩ := Lib.run_makeNoZero (P := Tryz.prog) w Tryz.f241.params 95 5 Tryz.underlying95 m hm
  refine ⟨cs, ?_, hle, hmax (by unfold maxLen; omega)⟩
  rw [run_callFunc_extern Tryz.func241 (by kernel_rfl) (by kernel_rfl) (by kernel_rfl) (e := Extern.BytealgMakeNoZero.makeNoZero Tryz.f241.params #[95]) (by kernel_rfl), hrun]
  rfl
theorem tab_ok {w : World} (hg : Gl w) : TOk Tryz.prog tab w := ⟨tab_ty, tab_fn, by kernel_rfl, tab_idf, hg, tab_mnz⟩
end Go.Proofs.YtgoipafikbpioaaGreatDoor
