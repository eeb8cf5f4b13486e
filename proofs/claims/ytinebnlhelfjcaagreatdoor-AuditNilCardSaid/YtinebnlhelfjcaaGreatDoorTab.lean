/- The tables of the program's types and functions for the evaluator, printed by a program of this repository (gen/tab.py). -/
import Derived.Test.YtinebnlhelfjcaaGreatDoorEvm
import Derived.Test.YtinebnlhelfjcaaGreatDoorProg
import Derived.Lib.MakeNoZero
import Derived.Laws.Externs
import Derived.Lib.Overlaps
namespace Go.Proofs.YtinebnlhelfjcaaGreatDoor
open Go.RowKit Go.Sx Go.Ev
set_option linter.unusedVariables false
set_option linter.unusedSimpArgs false

set_option maxRecDepth 100000
abbrev tvi : Value := .int .i64 0
abbrev tvs : Value := .string ByteArray.empty
abbrev tvl : Value := .slice none 0 0
abbrev tvb : Value := .bool false
def tI (k : TK) (s b : Nat) (l : List Value) : TI := ⟨k, s, b, l, .agg l.toArray⟩
def tS {α : Type} (x : α) (a b : T α) : T α := .n (some x) a b
def tN {α : Type} (a b : T α) : T α := .n none a b
def ti1 : TI := ⟨.fn, 1, 8, [.nilFunc], .nilFunc⟩
def ti2 : TI := ⟨.int .i64, 1, 8, [tvi], tvi⟩
def ti3 : TI := ⟨.int .i64, 1, 8, [tvi], tvi⟩
def ti4 : TI := ⟨.oth, 1, 1, [tvb], tvb⟩
def ti5 : TI := ⟨.int .u8, 1, 1, [.int .u8 0], .int .u8 0⟩
def ti6 : TI := ⟨.int .u8, 1, 1, [.int .u8 0], .int .u8 0⟩
def ti7 : TI := tI (.st [(0, 2), (1, 3), (2, 4), (3, 6)]) 4 24 [tvi, tvi, tvb, .int .u8 0]
def ti8 : TI := tI (.st [(0, 2), (1, 3), (2, 4), (3, 6)]) 4 24 [tvi, tvi, tvb, .int .u8 0]
def ti9 : TI := ⟨.str, 1, 16, [tvs], tvs⟩
def ti10 : TI := ⟨.str, 1, 16, [tvs], tvs⟩
def ti11 : TI := ⟨.str, 1, 16, [tvs], tvs⟩
def ti12 : TI := ⟨.int .u64, 1, 8, [.int .u64 0], .int .u64 0⟩
def ti13 : TI := tI (.st [(0, 9), (1, 12)]) 2 24 [tvs, .int .u64 0]
def ti14 : TI := tI (.st [(0, 9), (1, 12)]) 2 24 [tvs, .int .u64 0]
def ti15 : TI := ⟨.ptr 1007, 1, 8, [.pointer none], .pointer none⟩
def ti16 : TI := ⟨.ptr 1010, 1, 8, [.pointer none], .pointer none⟩
def ti17 : TI := ⟨.ptr 1017, 1, 8, [.pointer none], .pointer none⟩
def ti19 : TI := tI (.st [(0, 17)]) 1 8 [.pointer none]
def ti20 : TI := ⟨.ifc, 1, 16, [.nilIface], .nilIface⟩
def ti21 : TI := ⟨.int .i32, 1, 4, [.int .i32 0], .int .i32 0⟩
def ti22 : TI := ⟨.sl 38, 1, 24, [tvl], tvl⟩
def ti23 : TI := ⟨.int .i64, 1, 8, [tvi], tvi⟩
def ti26 : TI := ⟨.sl 50, 1, 24, [tvl], tvl⟩
def ti29 : TI := ⟨.fn, 1, 8, [.nilFunc], .nilFunc⟩
def ti30 : TI := ⟨.ptr 155, 1, 8, [.pointer none], .pointer none⟩
def ti31 : TI := ⟨.sl 112, 1, 24, [tvl], tvl⟩
def ti34 : TI := ⟨.sl 45, 1, 24, [tvl], tvl⟩
def ti35 : TI := ⟨.sl 78, 1, 24, [tvl], tvl⟩
def ti36 : TI := ⟨.sl 85, 1, 24, [tvl], tvl⟩
def ti38 : TI := tI (.st [(0, 3), (1, 3), (2, 9), (3, 22), (4, 36)]) 5 80 [tvi, tvi, tvs, tvl, tvl]
def ti39 : TI := ⟨.sl 9, 1, 24, [tvl], tvl⟩
def ti40 : TI := ⟨.sl 588, 1, 24, [tvl], tvl⟩
def ti41 : TI := ⟨.sl 43, 1, 24, [tvl], tvl⟩
def ti43 : TI := tI (.st [(0, 3), (1, 4), (2, 38), (7, 4), (8, 38), (13, 22), (14, 3), (15, 3), (16, 39), (17, 40), (18, 4), (19, 41), (20, 4)]) 21 312 [tvi, tvb, tvi, tvi, tvs, tvl, tvl, tvb, tvi, tvi, tvs, tvl, tvl, tvl, tvi, tvi, tvl, tvl, tvb, tvl, tvb]
def ti45 : TI := tI (.st [(0, 9), (1, 35), (2, 43), (23, 3), (24, 3)]) 25 368 [tvs, tvl, tvi, tvb, tvi, tvi, tvs, tvl, tvl, tvb, tvi, tvi, tvs, tvl, tvl, tvl, tvi, tvi, tvl, tvl, tvb, tvl, tvb, tvi, tvi]
def ti47 : TI := ⟨.fn, 1, 8, [.nilFunc], .nilFunc⟩
def ti50 : TI := tI (.st [(0, 3), (1, 9)]) 2 24 [tvi, tvs]
def ti52 : TI := ⟨.fn, 1, 8, [.nilFunc], .nilFunc⟩
def ti53 : TI := ⟨.fn, 1, 8, [.nilFunc], .nilFunc⟩
def ti54 : TI := ⟨.sl 53, 1, 24, [tvl], tvl⟩
def ti56 : TI := ⟨.ptr 140, 1, 8, [.pointer none], .pointer none⟩
def ti58 : TI := ⟨.sl 183, 1, 24, [tvl], tvl⟩
def ti60 : TI := tI (.st [(0, 58), (1, 4)]) 2 32 [tvl, tvb]
def ti61 : TI := ⟨.sl 167, 1, 24, [tvl], tvl⟩
def ti63 : TI := tI (.st [(0, 9), (1, 60), (3, 3), (4, 3), (5, 61)]) 6 88 [tvs, tvl, tvb, tvi, tvi, tvl]
def ti68 : TI := ⟨.sl 344, 1, 24, [tvl], tvl⟩
def ti70 : TI := tI (.st [(0, 3), (1, 68), (2, 3)]) 3 40 [tvi, tvl, tvi]
def ti71 : TI := ⟨.sl 73, 1, 24, [tvl], tvl⟩
def ti73 : TI := tI (.st [(0, 3), (1, 39), (2, 9), (3, 39), (4, 38), (9, 3), (10, 71)]) 11 184 [tvi, tvl, tvs, tvl, tvi, tvi, tvs, tvl, tvl, tvi, tvl]
def ti74 : TI := ⟨.sl 76, 1, 24, [tvl], tvl⟩
def ti76 : TI := tI (.st [(0, 3), (1, 39), (2, 38), (7, 22), (8, 3), (9, 3), (10, 70), (13, 73), (24, 74)]) 25 400 [tvi, tvl, tvi, tvi, tvs, tvl, tvl, tvl, tvi, tvi, tvi, tvl, tvi, tvi, tvl, tvs, tvl, tvi, tvi, tvs, tvl, tvl, tvi, tvl, tvl]
def ti78 : TI := tI (.st [(0, 9), (1, 3), (2, 58), (3, 4), (4, 4), (5, 4), (6, 76)]) 31 456 [tvs, tvi, tvl, tvb, tvb, tvb, tvi, tvl, tvi, tvi, tvs, tvl, tvl, tvl, tvi, tvi, tvi, tvl, tvi, tvi, tvl, tvs, tvl, tvi, tvi, tvs, tvl, tvl, tvi, tvl, tvl]
def ti83 : TI := ⟨.fn, 1, 8, [.nilFunc], .nilFunc⟩
def ti85 : TI := tI (.st [(0, 9), (1, 38)]) 6 96 [tvs, tvi, tvi, tvs, tvl, tvl]
def ti88 : TI := tI (.st [(0, 3), (1, 3), (2, 39), (3, 35)]) 4 64 [tvi, tvi, tvl, tvl]
def ti90 : TI := tI (.st [(0, 9), (1, 3), (2, 3), (3, 3)]) 4 40 [tvs, tvi, tvi, tvi]
def ti92 : TI := tI (.st [(0, 23), (1, 22), (2, 3), (3, 90)]) 7 80 [tvi, tvl, tvi, tvs, tvi, tvi, tvi]
def ti94 : TI := ⟨.sl 39, 1, 24, [tvl], tvl⟩
def ti95 : TI := ⟨.sl 639, 1, 24, [tvl], tvl⟩
def ti96 : TI := ⟨.sl 643, 1, 24, [tvl], tvl⟩
def ti98 : TI := tI (.st [(0, 4), (1, 94), (2, 4), (3, 95), (4, 96)]) 5 88 [tvb, tvl, tvb, tvl, tvl]
def ti100 : TI := tI (.st [(0, 76), (25, 58), (26, 3), (27, 3), (28, 98), (33, 9)]) 34 544 [tvi, tvl, tvi, tvi, tvs, tvl, tvl, tvl, tvi, tvi, tvi, tvl, tvi, tvi, tvl, tvs, tvl, tvi, tvi, tvs, tvl, tvl, tvi, tvl, tvl, tvl, tvi, tvi, tvb, tvl, tvb, tvl, tvl, tvs]
def ti101 : TI := ⟨.sl 521, 1, 24, [tvl], tvl⟩
def ti102 : TI := ⟨.sl 653, 1, 24, [tvl], tvl⟩
def ti104 : TI := tI (.st [(0, 4), (1, 38), (6, 101), (7, 102)]) 8 136 [tvb, tvi, tvi, tvs, tvl, tvl, tvl, tvl]
def ti105 : TI := ⟨.sl 388, 1, 24, [tvl], tvl⟩
def ti107 : TI := tI (.st [(0, 9), (1, 9), (2, 22), (3, 100), (37, 76), (62, 104), (70, 105), (71, 4), (72, 4), (73, 3), (74, 3), (75, 9), (76, 90), (80, 4)]) 81 1248 [tvs, tvs, tvl, tvi, tvl, tvi, tvi, tvs, tvl, tvl, tvl, tvi, tvi, tvi, tvl, tvi, tvi, tvl, tvs, tvl, tvi, tvi, tvs, tvl, tvl, tvi, tvl, tvl, tvl, tvi, tvi, tvb, tvl, tvb, tvl, tvl, tvs, tvi, tvl, tvi, tvi, tvs, tvl, tvl, tvl, tvi, tvi, tvi, tvl, tvi, tvi, tvl, tvs, tvl, tvi, tvi, tvs, tvl, tvl, tvi, tvl, tvl, tvb, tvi, tvi, tvs, tvl, tvl, tvl, tvl, tvl, tvb, tvb, tvi, tvi, tvs, tvs, tvi, tvi, tvi, tvb]
def ti108 : TI := ⟨.fn, 1, 8, [.nilFunc], .nilFunc⟩
def ti109 : TI := ⟨.ptr 190, 1, 8, [.pointer none], .pointer none⟩
def ti112 : TI := tI (.st [(0, 109), (1, 3)]) 2 16 [.pointer none, tvi]
def ti113 : TI := ⟨.sl 122, 1, 24, [tvl], tvl⟩
def ti114 : TI := ⟨.ptr 226, 1, 8, [.pointer none], .pointer none⟩
def ti117 : TI := ⟨.sl 120, 1, 24, [tvl], tvl⟩
def ti118 : TI := ⟨.sl 3, 1, 24, [tvl], tvl⟩
def ti120 : TI := tI (.st [(0, 3), (1, 9), (2, 38), (7, 38), (12, 38), (17, 45), (42, 78), (73, 9), (74, 3), (75, 117), (76, 118), (77, 4)]) 78 1168 [tvi, tvs, tvi, tvi, tvs, tvl, tvl, tvi, tvi, tvs, tvl, tvl, tvi, tvi, tvs, tvl, tvl, tvs, tvl, tvi, tvb, tvi, tvi, tvs, tvl, tvl, tvb, tvi, tvi, tvs, tvl, tvl, tvl, tvi, tvi, tvl, tvl, tvb, tvl, tvb, tvi, tvi, tvs, tvi, tvl, tvb, tvb, tvb, tvi, tvl, tvi, tvi, tvs, tvl, tvl, tvl, tvi, tvi, tvi, tvl, tvi, tvi, tvl, tvs, tvl, tvi, tvi, tvs, tvl, tvl, tvi, tvl, tvl, tvs, tvi, tvl, tvl, tvb]
def ti122 : TI := tI (.st [(0, 3), (1, 3), (2, 9), (3, 3), (4, 120)]) 82 1208 [tvi, tvi, tvs, tvi, tvi, tvs, tvi, tvi, tvs, tvl, tvl, tvi, tvi, tvs, tvl, tvl, tvi, tvi, tvs, tvl, tvl, tvs, tvl, tvi, tvb, tvi, tvi, tvs, tvl, tvl, tvb, tvi, tvi, tvs, tvl, tvl, tvl, tvi, tvi, tvl, tvl, tvb, tvl, tvb, tvi, tvi, tvs, tvi, tvl, tvb, tvb, tvb, tvi, tvl, tvi, tvi, tvs, tvl, tvl, tvl, tvi, tvi, tvi, tvl, tvi, tvi, tvl, tvs, tvl, tvi, tvi, tvs, tvl, tvl, tvi, tvl, tvl, tvs, tvi, tvl, tvl, tvb]
def ti129 : TI := ⟨.fn, 1, 8, [.nilFunc], .nilFunc⟩
def ti134 : TI := ⟨.fn, 1, 8, [.nilFunc], .nilFunc⟩
def ti135 : TI := ⟨.fn, 1, 8, [.nilFunc], .nilFunc⟩
def ti137 : TI := ⟨.sl 144, 1, 24, [tvl], tvl⟩
def ti138 : TI := ⟨.sl 4, 1, 24, [tvl], tvl⟩
def ti140 : TI := tI (.st [(0, 3), (1, 114), (2, 137), (3, 138), (4, 113)]) 5 88 [tvi, .pointer none, tvl, tvl, tvl]
def ti141 : TI := ⟨.ptr 122, 1, 8, [.pointer none], .pointer none⟩
def ti142 : TI := ⟨.ptr 144, 1, 8, [.pointer none], .pointer none⟩
def ti144 : TI := tI (.st [(0, 3), (1, 3), (2, 3), (3, 3), (4, 3), (5, 3), (6, 3), (7, 3), (8, 113), (9, 3), (10, 118), (11, 118)]) 12 144 [tvi, tvi, tvi, tvi, tvi, tvi, tvi, tvi, tvl, tvi, tvl, tvl]
def ti145 : TI := ⟨.fn, 1, 8, [.nilFunc], .nilFunc⟩
def ti147 : TI := ⟨.fn, 1, 8, [.nilFunc], .nilFunc⟩
def ti149 : TI := ⟨.sl 114, 1, 24, [tvl], tvl⟩
def ti150 : TI := ⟨.mp 9 158, 1, 8, [.map none], .map none⟩
def ti151 : TI := ⟨.sl 263, 1, 24, [tvl], tvl⟩
def ti152 : TI := ⟨.sl 433, 1, 24, [tvl], tvl⟩
def ti153 : TI := ⟨.sl 109, 1, 24, [tvl], tvl⟩
def ti155 : TI := tI (.st [(0, 149), (1, 3), (2, 3), (3, 3), (4, 34), (5, 150), (6, 151), (7, 152), (8, 153)]) 9 152 [tvl, tvi, tvi, tvi, tvl, .map none, tvl, tvl, tvl]
def ti158 : TI := ⟨.ptr 162, 1, 8, [.pointer none], .pointer none⟩
def ti159 : TI := ⟨.sl 251, 1, 24, [tvl], tvl⟩
def ti160 : TI := ⟨.ptr 1021, 1, 8, [.pointer none], .pointer none⟩
def ti162 : TI := tI (.st [(0, 159), (1, 4), (2, 4), (3, 63), (9, 3), (10, 160)]) 11 136 [tvl, tvb, tvb, tvs, tvl, tvb, tvi, tvi, tvl, tvi, .pointer none]
def ti164 : TI := ⟨.fn, 1, 8, [.nilFunc], .nilFunc⟩
def ti167 : TI := tI (.st [(0, 9), (1, 9), (2, 3), (3, 3), (4, 4)]) 5 56 [tvs, tvs, tvi, tvi, tvb]
def ti168 : TI := ⟨.sl 22, 1, 24, [tvl], tvl⟩
def ti183 : TI := tI (.st [(0, 39), (1, 4)]) 2 32 [tvl, tvb]
def ti186 : TI := ⟨.mp 9 206, 1, 8, [.map none], .map none⟩
def ti187 : TI := ⟨.mp 9 314, 1, 8, [.map none], .map none⟩
def ti188 : TI := ⟨.mp 9 200, 1, 8, [.map none], .map none⟩
def ti190 : TI := tI (.st [(0, 3), (1, 34), (2, 186), (3, 187), (4, 188)]) 5 56 [tvi, tvl, .map none, .map none, .map none]
def ti191 : TI := ⟨.ptr 197, 1, 8, [.pointer none], .pointer none⟩
def ti195 : TI := tI (.st [(0, 144)]) 12 144 [tvi, tvi, tvi, tvi, tvi, tvi, tvi, tvi, tvl, tvi, tvl, tvl]
def ti197 : TI := tI (.st [(0, 195), (12, 4), (13, 109), (14, 3)]) 15 168 [tvi, tvi, tvi, tvi, tvi, tvi, tvi, tvi, tvl, tvi, tvl, tvl, tvb, .pointer none, tvi]
def ti200 : TI := tI (.st [(0, 3), (1, 3)]) 2 16 [tvi, tvi]
def ti203 : TI := ⟨.int .u64, 1, 8, [.int .u64 0], .int .u64 0⟩
def ti206 : TI := ⟨.mp 9 214, 1, 8, [.map none], .map none⟩
def ti210 : TI := ⟨.fn, 1, 8, [.nilFunc], .nilFunc⟩
def ti211 : TI := ⟨.fn, 1, 8, [.nilFunc], .nilFunc⟩
def ti214 : TI := ⟨.sl 322, 1, 24, [tvl], tvl⟩
def ti222 : TI := ⟨.ptr 506, 1, 8, [.pointer none], .pointer none⟩
def ti223 : TI := ⟨.sl 191, 1, 24, [tvl], tvl⟩
def ti224 : TI := ⟨.sl 623, 1, 24, [tvl], tvl⟩
def ti226 : TI := tI (.st [(0, 222), (1, 223), (2, 224)]) 3 56 [.pointer none, tvl, tvl]
def ti232 : TI := ⟨.fn, 1, 8, [.nilFunc], .nilFunc⟩
def ti240 : TI := ⟨.fn, 1, 8, [.nilFunc], .nilFunc⟩
def ti249 : TI := ⟨.ptr 251, 1, 8, [.pointer none], .pointer none⟩
def ti251 : TI := tI (.st [(0, 4), (1, 4), (2, 122)]) 84 1216 [tvb, tvb, tvi, tvi, tvs, tvi, tvi, tvs, tvi, tvi, tvs, tvl, tvl, tvi, tvi, tvs, tvl, tvl, tvi, tvi, tvs, tvl, tvl, tvs, tvl, tvi, tvb, tvi, tvi, tvs, tvl, tvl, tvb, tvi, tvi, tvs, tvl, tvl, tvl, tvi, tvi, tvl, tvl, tvb, tvl, tvb, tvi, tvi, tvs, tvi, tvl, tvb, tvb, tvb, tvi, tvl, tvi, tvi, tvs, tvl, tvl, tvl, tvi, tvi, tvi, tvl, tvi, tvi, tvl, tvs, tvl, tvi, tvi, tvs, tvl, tvl, tvi, tvl, tvl, tvs, tvi, tvl, tvl, tvb]
def ti256 : TI := ⟨.fn, 1, 8, [.nilFunc], .nilFunc⟩
def ti257 : TI := ⟨.mp 9 22, 1, 8, [.map none], .map none⟩
def ti261 : TI := tI (.st [(0, 3), (1, 3)]) 2 16 [tvi, tvi]
def ti263 : TI := ⟨.ptr 279, 1, 8, [.pointer none], .pointer none⟩
def ti276 : TI := tI (.st [(0, 9), (1, 3), (2, 3), (3, 3), (4, 3), (5, 117)]) 6 72 [tvs, tvi, tvi, tvi, tvi, tvl]
def ti277 : TI := ⟨.ptr 414, 1, 8, [.pointer none], .pointer none⟩
def ti279 : TI := tI (.st [(0, 276), (6, 118), (7, 277)]) 8 104 [tvs, tvi, tvi, tvi, tvi, tvl, tvl, .pointer none]
def ti281 : TI := ⟨.fn, 1, 8, [.nilFunc], .nilFunc⟩
def ti285 : TI := ⟨.sl 838, 1, 24, [tvl], tvl⟩
def ti287 : TI := tI (.st [(0, 3), (1, 3), (2, 38), (7, 285), (8, 117)]) 9 144 [tvi, tvi, tvi, tvi, tvs, tvl, tvl, tvl, tvl]
def ti295 : TI := ⟨.sl 414, 1, 24, [tvl], tvl⟩
def ti304 : TI := ⟨.mp 3 117, 1, 8, [.map none], .map none⟩
def ti309 : TI := ⟨.fn, 1, 8, [.nilFunc], .nilFunc⟩
def ti314 : TI := tI (.st [(0, 3), (1, 117)]) 2 32 [tvi, tvl]
def ti322 : TI := tI (.st [(0, 3), (1, 38)]) 6 88 [tvi, tvi, tvi, tvs, tvl, tvl]
def ti331 : TI := ⟨.ptr 195, 1, 8, [.pointer none], .pointer none⟩
def ti336 : TI := ⟨.fn, 1, 8, [.nilFunc], .nilFunc⟩
def ti344 : TI := tI (.st [(0, 3), (1, 3)]) 2 16 [tvi, tvi]
def ti362 : TI := ⟨.fn, 1, 8, [.nilFunc], .nilFunc⟩
def ti370 : TI := ⟨.sl 373, 1, 24, [tvl], tvl⟩
def ti373 : TI := tI (.st [(0, 9), (1, 22)]) 2 40 [tvs, tvl]
def ti376 : TI := ⟨.sl 813, 1, 24, [tvl], tvl⟩
def ti378 : TI := tI (.st [(0, 73), (11, 376)]) 12 208 [tvi, tvl, tvs, tvl, tvi, tvi, tvs, tvl, tvl, tvi, tvl, tvl]
def ti379 : TI := ⟨.sl 816, 1, 24, [tvl], tvl⟩
def ti381 : TI := tI (.st [(0, 73), (11, 58), (12, 379)]) 13 232 [tvi, tvl, tvs, tvl, tvi, tvi, tvs, tvl, tvl, tvi, tvl, tvl, tvl]
def ti383 : TI := tI (.st [(0, 9), (1, 39), (2, 39), (3, 9), (4, 105)]) 5 104 [tvs, tvl, tvl, tvs, tvl]
def ti384 : TI := ⟨.sl 738, 1, 24, [tvl], tvl⟩
def ti386 : TI := tI (.st [(0, 9), (1, 94), (2, 3), (3, 3)]) 4 56 [tvs, tvl, tvi, tvi]
def ti388 : TI := tI (.st [(0, 3), (1, 76), (26, 98), (31, 96), (32, 58), (33, 3), (34, 39), (35, 9), (36, 4), (37, 73), (48, 378), (60, 381), (73, 383), (78, 384), (79, 22), (80, 386), (84, 70)]) 87 1472 [tvi, tvi, tvl, tvi, tvi, tvs, tvl, tvl, tvl, tvi, tvi, tvi, tvl, tvi, tvi, tvl, tvs, tvl, tvi, tvi, tvs, tvl, tvl, tvi, tvl, tvl, tvb, tvl, tvb, tvl, tvl, tvl, tvl, tvi, tvl, tvs, tvb, tvi, tvl, tvs, tvl, tvi, tvi, tvs, tvl, tvl, tvi, tvl, tvi, tvl, tvs, tvl, tvi, tvi, tvs, tvl, tvl, tvi, tvl, tvl, tvi, tvl, tvs, tvl, tvi, tvi, tvs, tvl, tvl, tvi, tvl, tvl, tvl, tvs, tvl, tvl, tvs, tvl, tvl, tvl, tvs, tvl, tvi, tvi, tvi, tvl, tvi]
def ti394 : TI := ⟨.ptr 540, 1, 8, [.pointer none], .pointer none⟩
def ti397 : TI := ⟨.ptr 544, 1, 8, [.pointer none], .pointer none⟩
def ti414 : TI := tI (.st [(0, 3), (1, 122)]) 83 1216 [tvi, tvi, tvi, tvs, tvi, tvi, tvs, tvi, tvi, tvs, tvl, tvl, tvi, tvi, tvs, tvl, tvl, tvi, tvi, tvs, tvl, tvl, tvs, tvl, tvi, tvb, tvi, tvi, tvs, tvl, tvl, tvb, tvi, tvi, tvs, tvl, tvl, tvl, tvi, tvi, tvl, tvl, tvb, tvl, tvb, tvi, tvi, tvs, tvi, tvl, tvb, tvb, tvb, tvi, tvl, tvi, tvi, tvs, tvl, tvl, tvl, tvi, tvi, tvi, tvl, tvi, tvi, tvl, tvs, tvl, tvi, tvi, tvs, tvl, tvl, tvi, tvl, tvl, tvs, tvi, tvl, tvl, tvb]
def ti418 : TI := ⟨.mp 9 397, 1, 8, [.map none], .map none⟩
def ti426 : TI := ⟨.fn, 1, 8, [.nilFunc], .nilFunc⟩
def ti427 : TI := ⟨.fn, 1, 8, [.nilFunc], .nilFunc⟩
def ti430 : TI := tI (.st [(0, 9), (1, 118), (2, 118), (3, 3), (4, 3), (5, 138)]) 6 104 [tvs, tvl, tvl, tvi, tvi, tvl]
def ti433 : TI := ⟨.ptr 435, 1, 8, [.pointer none], .pointer none⟩
def ti435 : TI := tI (.st [(0, 3), (1, 430), (7, 120), (85, 251), (169, 159), (170, 159)]) 171 2544 [tvi, tvs, tvl, tvl, tvi, tvi, tvl, tvi, tvs, tvi, tvi, tvs, tvl, tvl, tvi, tvi, tvs, tvl, tvl, tvi, tvi, tvs, tvl, tvl, tvs, tvl, tvi, tvb, tvi, tvi, tvs, tvl, tvl, tvb, tvi, tvi, tvs, tvl, tvl, tvl, tvi, tvi, tvl, tvl, tvb, tvl, tvb, tvi, tvi, tvs, tvi, tvl, tvb, tvb, tvb, tvi, tvl, tvi, tvi, tvs, tvl, tvl, tvl, tvi, tvi, tvi, tvl, tvi, tvi, tvl, tvs, tvl, tvi, tvi, tvs, tvl, tvl, tvi, tvl, tvl, tvs, tvi, tvl, tvl, tvb, tvb, tvb, tvi, tvi, tvs, tvi, tvi, tvs, tvi, tvi, tvs, tvl, tvl, tvi, tvi, tvs, tvl, tvl, tvi, tvi, tvs, tvl, tvl, tvs, tvl, tvi, tvb, tvi, tvi, tvs, tvl, tvl, tvb, tvi, tvi, tvs, tvl, tvl, tvl, tvi, tvi, tvl, tvl, tvb, tvl, tvb, tvi, tvi, tvs, tvi, tvl, tvb, tvb, tvb, tvi, tvl, tvi, tvi, tvs, tvl, tvl, tvl, tvi, tvi, tvi, tvl, tvi, tvi, tvl, tvs, tvl, tvi, tvi, tvs, tvl, tvl, tvi, tvl, tvl, tvs, tvi, tvl, tvl, tvb, tvl, tvl]
def ti441 : TI := ⟨.fn, 1, 8, [.nilFunc], .nilFunc⟩
def ti444 : TI := ⟨.fn, 1, 8, [.nilFunc], .nilFunc⟩
def ti447 : TI := tI (.st [(0, 4), (1, 4), (2, 4), (3, 4), (4, 4), (5, 4), (6, 4), (7, 4), (8, 4), (9, 4)]) 10 10 [tvb, tvb, tvb, tvb, tvb, tvb, tvb, tvb, tvb, tvb]
def ti449 : TI := ⟨.fn, 1, 8, [.nilFunc], .nilFunc⟩
def ti451 : TI := ⟨.sl 1, 1, 24, [tvl], tvl⟩
def ti456 : TI := ⟨.fn, 1, 8, [.nilFunc], .nilFunc⟩
def ti461 : TI := ⟨.int .u32, 1, 4, [.int .u32 0], .int .u32 0⟩
def ti463 : TI := ⟨.sl 5, 1, 24, [tvl], tvl⟩
def ti466 : TI := ⟨.fn, 1, 8, [.nilFunc], .nilFunc⟩
def ti471 : TI := ⟨.ptr 3, 1, 8, [.pointer none], .pointer none⟩
def ti479 : TI := ⟨.fn, 1, 8, [.nilFunc], .nilFunc⟩
def ti480 : TI := ⟨.sl 483, 1, 24, [tvl], tvl⟩
def ti483 : TI := tI (.st [(0, 9), (1, 4)]) 2 24 [tvs, tvb]
def ti489 : TI := ⟨.int .i64, 1, 8, [tvi], tvi⟩
def ti497 : TI := ⟨.int .u64, 1, 8, [.int .u64 0], .int .u64 0⟩
def ti498 : TI := tI (.ar 24 5) 24 24 [.int .u8 0, .int .u8 0, .int .u8 0, .int .u8 0, .int .u8 0, .int .u8 0, .int .u8 0, .int .u8 0, .int .u8 0, .int .u8 0, .int .u8 0, .int .u8 0, .int .u8 0, .int .u8 0, .int .u8 0, .int .u8 0, .int .u8 0, .int .u8 0, .int .u8 0, .int .u8 0, .int .u8 0, .int .u8 0, .int .u8 0, .int .u8 0]
def ti502 : TI := tI (.ar 7 4) 7 7 [tvb, tvb, tvb, tvb, tvb, tvb, tvb]
def ti503 : TI := tI (.ar 7 502) 49 49 [tvb, tvb, tvb, tvb, tvb, tvb, tvb, tvb, tvb, tvb, tvb, tvb, tvb, tvb, tvb, tvb, tvb, tvb, tvb, tvb, tvb, tvb, tvb, tvb, tvb, tvb, tvb, tvb, tvb, tvb, tvb, tvb, tvb, tvb, tvb, tvb, tvb, tvb, tvb, tvb, tvb, tvb, tvb, tvb, tvb, tvb, tvb, tvb, tvb]
def ti504 : TI := ⟨.sl 715, 1, 24, [tvl], tvl⟩
def ti506 : TI := tI (.st [(0, 3), (1, 3), (2, 3), (3, 503), (52, 504)]) 53 104 [tvi, tvi, tvi, tvb, tvb, tvb, tvb, tvb, tvb, tvb, tvb, tvb, tvb, tvb, tvb, tvb, tvb, tvb, tvb, tvb, tvb, tvb, tvb, tvb, tvb, tvb, tvb, tvb, tvb, tvb, tvb, tvb, tvb, tvb, tvb, tvb, tvb, tvb, tvb, tvb, tvb, tvb, tvb, tvb, tvb, tvb, tvb, tvb, tvb, tvb, tvb, tvb, tvl]
def ti521 : TI := tI (.st [(0, 3), (1, 39), (2, 39), (3, 38), (8, 22), (9, 3), (10, 4), (11, 3), (12, 4), (13, 58), (14, 76)]) 39 616 [tvi, tvl, tvl, tvi, tvi, tvs, tvl, tvl, tvl, tvi, tvb, tvi, tvb, tvl, tvi, tvl, tvi, tvi, tvs, tvl, tvl, tvl, tvi, tvi, tvi, tvl, tvi, tvi, tvl, tvs, tvl, tvi, tvi, tvs, tvl, tvl, tvi, tvl, tvl]
def ti527 : TI := ⟨.ptr 656, 1, 8, [.pointer none], .pointer none⟩
def ti536 : TI := ⟨.ptr 670, 1, 8, [.pointer none], .pointer none⟩
def ti540 : TI := tI (.st [(0, 397), (1, 536)]) 2 16 [.pointer none, .pointer none]
def ti542 : TI := ⟨.sl 545, 1, 24, [tvl], tvl⟩
def ti544 : TI := tI (.st [(0, 34), (1, 542), (2, 22)]) 3 72 [tvl, tvl, tvl]
def ti545 : TI := ⟨.ptr 679, 1, 8, [.pointer none], .pointer none⟩
def ti549 : TI := ⟨.ptr 287, 1, 8, [.pointer none], .pointer none⟩
def ti560 : TI := ⟨.ptr 562, 1, 8, [.pointer none], .pointer none⟩
def ti562 : TI := tI (.st [(0, 104), (8, 76), (33, 38), (38, 38)]) 43 696 [tvb, tvi, tvi, tvs, tvl, tvl, tvl, tvl, tvi, tvl, tvi, tvi, tvs, tvl, tvl, tvl, tvi, tvi, tvi, tvl, tvi, tvi, tvl, tvs, tvl, tvi, tvi, tvs, tvl, tvl, tvi, tvl, tvl, tvi, tvi, tvs, tvl, tvl, tvi, tvi, tvs, tvl, tvl]
def ti577 : TI := ⟨.fn, 1, 8, [.nilFunc], .nilFunc⟩
def ti580 : TI := ⟨.fn, 1, 8, [.nilFunc], .nilFunc⟩
def ti588 : TI := tI (.st [(0, 9), (1, 43)]) 22 328 [tvs, tvi, tvb, tvi, tvi, tvs, tvl, tvl, tvb, tvi, tvi, tvs, tvl, tvl, tvl, tvi, tvi, tvl, tvl, tvb, tvl, tvb]
def ti592 : TI := ⟨.fn, 1, 8, [.nilFunc], .nilFunc⟩
def ti597 : TI := tI (.ar 256 5) 256 256 [.int .u8 0, .int .u8 0, .int .u8 0, .int .u8 0, .int .u8 0, .int .u8 0, .int .u8 0, .int .u8 0, .int .u8 0, .int .u8 0, .int .u8 0, .int .u8 0, .int .u8 0, .int .u8 0, .int .u8 0, .int .u8 0, .int .u8 0, .int .u8 0, .int .u8 0, .int .u8 0, .int .u8 0, .int .u8 0, .int .u8 0, .int .u8 0, .int .u8 0, .int .u8 0, .int .u8 0, .int .u8 0, .int .u8 0, .int .u8 0, .int .u8 0, .int .u8 0, .int .u8 0, .int .u8 0, .int .u8 0, .int .u8 0, .int .u8 0, .int .u8 0, .int .u8 0, .int .u8 0, .int .u8 0, .int .u8 0, .int .u8 0, .int .u8 0, .int .u8 0, .int .u8 0, .int .u8 0, .int .u8 0, .int .u8 0, .int .u8 0, .int .u8 0, .int .u8 0, .int .u8 0, .int .u8 0, .int .u8 0, .int .u8 0, .int .u8 0, .int .u8 0, .int .u8 0, .int .u8 0, .int .u8 0, .int .u8 0, .int .u8 0, .int .u8 0, .int .u8 0, .int .u8 0, .int .u8 0, .int .u8 0, .int .u8 0, .int .u8 0, .int .u8 0, .int .u8 0, .int .u8 0, .int .u8 0, .int .u8 0, .int .u8 0, .int .u8 0, .int .u8 0, .int .u8 0, .int .u8 0, .int .u8 0, .int .u8 0, .int .u8 0, .int .u8 0, .int .u8 0, .int .u8 0, .int .u8 0, .int .u8 0, .int .u8 0, .int .u8 0, .int .u8 0, .int .u8 0, .int .u8 0, .int .u8 0, .int .u8 0, .int .u8 0, .int .u8 0, .int .u8 0, .int .u8 0, .int .u8 0, .int .u8 0, .int .u8 0, .int .u8 0, .int .u8 0, .int .u8 0, .int .u8 0, .int .u8 0, .int .u8 0, .int .u8 0, .int .u8 0, .int .u8 0, .int .u8 0, .int .u8 0, .int .u8 0, .int .u8 0, .int .u8 0, .int .u8 0, .int .u8 0, .int .u8 0, .int .u8 0, .int .u8 0, .int .u8 0, .int .u8 0, .int .u8 0, .int .u8 0, .int .u8 0, .int .u8 0, .int .u8 0, .int .u8 0, .int .u8 0, .int .u8 0, .int .u8 0, .int .u8 0, .int .u8 0, .int .u8 0, .int .u8 0, .int .u8 0, .int .u8 0, .int .u8 0, .int .u8 0, .int .u8 0, .int .u8 0, .int .u8 0, .int .u8 0, .int .u8 0, .int .u8 0, .int .u8 0, .int .u8 0, .int .u8 0, .int .u8 0, .int .u8 0, .int .u8 0, .int .u8 0, .int .u8 0, .int .u8 0, .int .u8 0, .int .u8 0, .int .u8 0, .int .u8 0, .int .u8 0, .int .u8 0, .int .u8 0, .int .u8 0, .int .u8 0, .int .u8 0, .int .u8 0, .int .u8 0, .int .u8 0, .int .u8 0, .int .u8 0, .int .u8 0, .int .u8 0, .int .u8 0, .int .u8 0, .int .u8 0, .int .u8 0, .int .u8 0, .int .u8 0, .int .u8 0, .int .u8 0, .int .u8 0, .int .u8 0, .int .u8 0, .int .u8 0, .int .u8 0, .int .u8 0, .int .u8 0, .int .u8 0, .int .u8 0, .int .u8 0, .int .u8 0, .int .u8 0, .int .u8 0, .int .u8 0, .int .u8 0, .int .u8 0, .int .u8 0, .int .u8 0, .int .u8 0, .int .u8 0, .int .u8 0, .int .u8 0, .int .u8 0, .int .u8 0, .int .u8 0, .int .u8 0, .int .u8 0, .int .u8 0, .int .u8 0, .int .u8 0, .int .u8 0, .int .u8 0, .int .u8 0, .int .u8 0, .int .u8 0, .int .u8 0, .int .u8 0, .int .u8 0, .int .u8 0, .int .u8 0, .int .u8 0, .int .u8 0, .int .u8 0, .int .u8 0, .int .u8 0, .int .u8 0, .int .u8 0, .int .u8 0, .int .u8 0, .int .u8 0, .int .u8 0, .int .u8 0, .int .u8 0, .int .u8 0, .int .u8 0, .int .u8 0, .int .u8 0, .int .u8 0, .int .u8 0, .int .u8 0, .int .u8 0, .int .u8 0, .int .u8 0, .int .u8 0, .int .u8 0, .int .u8 0, .int .u8 0, .int .u8 0, .int .u8 0, .int .u8 0, .int .u8 0, .int .u8 0, .int .u8 0, .int .u8 0, .int .u8 0, .int .u8 0]
def ti599 : TI := tI (.st [(0, 5), (1, 5)]) 2 2 [.int .u8 0, .int .u8 0]
def ti600 : TI := tI (.ar 16 599) 32 32 [.int .u8 0, .int .u8 0, .int .u8 0, .int .u8 0, .int .u8 0, .int .u8 0, .int .u8 0, .int .u8 0, .int .u8 0, .int .u8 0, .int .u8 0, .int .u8 0, .int .u8 0, .int .u8 0, .int .u8 0, .int .u8 0, .int .u8 0, .int .u8 0, .int .u8 0, .int .u8 0, .int .u8 0, .int .u8 0, .int .u8 0, .int .u8 0, .int .u8 0, .int .u8 0, .int .u8 0, .int .u8 0, .int .u8 0, .int .u8 0, .int .u8 0, .int .u8 0]
def ti601 : TI := ⟨.mp 9 4, 1, 8, [.map none], .map none⟩
def ti610 : TI := ⟨.int .u64, 1, 8, [.int .u64 0], .int .u64 0⟩
def ti616 : TI := tI (.ar 20 497) 20 160 [.int .u64 0, .int .u64 0, .int .u64 0, .int .u64 0, .int .u64 0, .int .u64 0, .int .u64 0, .int .u64 0, .int .u64 0, .int .u64 0, .int .u64 0, .int .u64 0, .int .u64 0, .int .u64 0, .int .u64 0, .int .u64 0, .int .u64 0, .int .u64 0, .int .u64 0, .int .u64 0]
def ti617 : TI := tI (.ar 65 5) 65 65 [.int .u8 0, .int .u8 0, .int .u8 0, .int .u8 0, .int .u8 0, .int .u8 0, .int .u8 0, .int .u8 0, .int .u8 0, .int .u8 0, .int .u8 0, .int .u8 0, .int .u8 0, .int .u8 0, .int .u8 0, .int .u8 0, .int .u8 0, .int .u8 0, .int .u8 0, .int .u8 0, .int .u8 0, .int .u8 0, .int .u8 0, .int .u8 0, .int .u8 0, .int .u8 0, .int .u8 0, .int .u8 0, .int .u8 0, .int .u8 0, .int .u8 0, .int .u8 0, .int .u8 0, .int .u8 0, .int .u8 0, .int .u8 0, .int .u8 0, .int .u8 0, .int .u8 0, .int .u8 0, .int .u8 0, .int .u8 0, .int .u8 0, .int .u8 0, .int .u8 0, .int .u8 0, .int .u8 0, .int .u8 0, .int .u8 0, .int .u8 0, .int .u8 0, .int .u8 0, .int .u8 0, .int .u8 0, .int .u8 0, .int .u8 0, .int .u8 0, .int .u8 0, .int .u8 0, .int .u8 0, .int .u8 0, .int .u8 0, .int .u8 0, .int .u8 0, .int .u8 0]
def ti618 : TI := ⟨.sl 621, 1, 24, [tvl], tvl⟩
def ti621 : TI := tI (.st [(0, 3), (1, 3), (2, 3), (3, 3), (4, 3), (5, 3), (6, 3), (7, 113), (8, 4)]) 9 88 [tvi, tvi, tvi, tvi, tvi, tvi, tvi, tvl, tvb]
def ti623 : TI := tI (.st [(0, 3), (1, 3), (2, 3), (3, 113)]) 4 48 [tvi, tvi, tvi, tvl]
def ti632 : TI := ⟨.fn, 1, 8, [.nilFunc], .nilFunc⟩
def ti639 : TI := tI (.st [(0, 39), (1, 3), (2, 3)]) 3 40 [tvl, tvi, tvi]
def ti643 : TI := tI (.st [(0, 39), (1, 73)]) 12 208 [tvl, tvi, tvl, tvs, tvl, tvi, tvi, tvs, tvl, tvl, tvi, tvl]
def ti644 : TI := ⟨.sl 105, 1, 24, [tvl], tvl⟩
def ti646 : TI := ⟨.ptr 388, 1, 8, [.pointer none], .pointer none⟩
def ti653 : TI := tI (.st [(0, 9), (1, 76)]) 26 416 [tvs, tvi, tvl, tvi, tvi, tvs, tvl, tvl, tvl, tvi, tvi, tvi, tvl, tvi, tvi, tvl, tvs, tvl, tvi, tvi, tvs, tvl, tvl, tvi, tvl, tvl]
def ti656 : TI := tI (.st [(0, 370), (1, 257), (2, 4), (3, 3), (4, 4), (5, 117)]) 6 80 [tvl, .map none, tvb, tvi, tvb, tvl]
def ti668 : TI := ⟨.sl 1023, 1, 24, [tvl], tvl⟩
def ti670 : TI := tI (.st [(0, 3), (1, 668)]) 2 32 [tvi, tvl]
def ti674 : TI := tI (.st [(0, 39), (1, 4)]) 2 32 [tvl, tvb]
def ti676 : TI := ⟨.ptr 766, 1, 8, [.pointer none], .pointer none⟩
def ti677 : TI := ⟨.mp 9 674, 1, 8, [.map none], .map none⟩
def ti679 : TI := tI (.st [(0, 78), (31, 138), (32, 676), (33, 677), (34, 3)]) 35 504 [tvs, tvi, tvl, tvb, tvb, tvb, tvi, tvl, tvi, tvi, tvs, tvl, tvl, tvl, tvi, tvi, tvi, tvl, tvi, tvi, tvl, tvs, tvl, tvi, tvi, tvs, tvl, tvl, tvi, tvl, tvl, tvl, .pointer none, .map none, tvi]
def ti686 : TI := ⟨.ptr 38, 1, 8, [.pointer none], .pointer none⟩
def ti703 : TI := ⟨.fn, 1, 8, [.nilFunc], .nilFunc⟩
def ti709 : TI := ⟨.ptr 779, 1, 8, [.pointer none], .pointer none⟩
def ti712 : TI := ⟨.ptr 610, 1, 8, [.pointer none], .pointer none⟩
def ti715 : TI := tI (.st [(0, 3), (1, 621)]) 10 96 [tvi, tvi, tvi, tvi, tvi, tvi, tvi, tvi, tvl, tvb]
def ti718 : TI := ⟨.fn, 1, 8, [.nilFunc], .nilFunc⟩
def ti720 : TI := ⟨.ptr 722, 1, 8, [.pointer none], .pointer none⟩
def ti722 : TI := tI (.st [(0, 144), (12, 618), (13, 623)]) 17 216 [tvi, tvi, tvi, tvi, tvi, tvi, tvi, tvi, tvl, tvi, tvl, tvl, tvl, tvi, tvi, tvi, tvl]
def ti727 : TI := ⟨.sl 730, 1, 24, [tvl], tvl⟩
def ti730 : TI := tI (.st [(0, 38), (5, 22)]) 6 104 [tvi, tvi, tvs, tvl, tvl, tvl]
def ti733 : TI := ⟨.fn, 1, 8, [.nilFunc], .nilFunc⟩
def ti738 : TI := tI (.st [(0, 9), (1, 105)]) 2 40 [tvs, tvl]
def ti759 : TI := ⟨.fn, 1, 8, [.nilFunc], .nilFunc⟩
def ti760 : TI := ⟨.fn, 1, 8, [.nilFunc], .nilFunc⟩
def ti762 : TI := ⟨.ptr 847, 1, 8, [.pointer none], .pointer none⟩
def ti764 : TI := tI (.st [(0, 3), (1, 3), (2, 762)]) 3 24 [tvi, tvi, .pointer none]
def ti766 : TI := tI (.st [(0, 764)]) 3 24 [tvi, tvi, .pointer none]
def ti779 : TI := tI (.st [(0, 9), (1, 38), (6, 709)]) 7 104 [tvs, tvi, tvi, tvs, tvl, tvl, .pointer none]
def ti791 : TI := tI (.ar 32 5) 32 32 [.int .u8 0, .int .u8 0, .int .u8 0, .int .u8 0, .int .u8 0, .int .u8 0, .int .u8 0, .int .u8 0, .int .u8 0, .int .u8 0, .int .u8 0, .int .u8 0, .int .u8 0, .int .u8 0, .int .u8 0, .int .u8 0, .int .u8 0, .int .u8 0, .int .u8 0, .int .u8 0, .int .u8 0, .int .u8 0, .int .u8 0, .int .u8 0, .int .u8 0, .int .u8 0, .int .u8 0, .int .u8 0, .int .u8 0, .int .u8 0, .int .u8 0, .int .u8 0]
def ti792 : TI := tI (.ar 64 5) 64 64 [.int .u8 0, .int .u8 0, .int .u8 0, .int .u8 0, .int .u8 0, .int .u8 0, .int .u8 0, .int .u8 0, .int .u8 0, .int .u8 0, .int .u8 0, .int .u8 0, .int .u8 0, .int .u8 0, .int .u8 0, .int .u8 0, .int .u8 0, .int .u8 0, .int .u8 0, .int .u8 0, .int .u8 0, .int .u8 0, .int .u8 0, .int .u8 0, .int .u8 0, .int .u8 0, .int .u8 0, .int .u8 0, .int .u8 0, .int .u8 0, .int .u8 0, .int .u8 0, .int .u8 0, .int .u8 0, .int .u8 0, .int .u8 0, .int .u8 0, .int .u8 0, .int .u8 0, .int .u8 0, .int .u8 0, .int .u8 0, .int .u8 0, .int .u8 0, .int .u8 0, .int .u8 0, .int .u8 0, .int .u8 0, .int .u8 0, .int .u8 0, .int .u8 0, .int .u8 0, .int .u8 0, .int .u8 0, .int .u8 0, .int .u8 0, .int .u8 0, .int .u8 0, .int .u8 0, .int .u8 0, .int .u8 0, .int .u8 0, .int .u8 0, .int .u8 0]
def ti813 : TI := tI (.st [(0, 9), (1, 3), (2, 73), (13, 58), (14, 3)]) 15 240 [tvs, tvi, tvi, tvl, tvs, tvl, tvi, tvi, tvs, tvl, tvl, tvi, tvl, tvl, tvi]
def ti816 : TI := tI (.st [(0, 9), (1, 3), (2, 73), (13, 3), (14, 3), (15, 4)]) 16 232 [tvs, tvi, tvi, tvl, tvs, tvl, tvi, tvi, tvs, tvl, tvl, tvi, tvl, tvi, tvi, tvb]
def ti823 : TI := ⟨.ptr 828, 1, 8, [.pointer none], .pointer none⟩
def ti824 : TI := ⟨.mp 9 118, 1, 8, [.map none], .map none⟩
def ti825 : TI := ⟨.mp 9 3, 1, 8, [.map none], .map none⟩
def ti826 : TI := ⟨.sl 889, 1, 24, [tvl], tvl⟩
def ti828 : TI := tI (.st [(0, 386), (4, 826), (5, 824), (6, 825), (7, 117)]) 8 120 [tvs, tvl, tvi, tvi, tvl, .map none, .map none, tvl]
def ti838 : TI := tI (.st [(0, 39), (1, 3)]) 2 32 [tvl, tvi]
def ti839 : TI := ⟨.fn, 1, 8, [.nilFunc], .nilFunc⟩
def ti840 : TI := ⟨.fn, 1, 8, [.nilFunc], .nilFunc⟩
def ti844 : TI := ⟨.ptr 764, 1, 8, [.pointer none], .pointer none⟩
def ti845 : TI := ⟨.sl 762, 1, 24, [tvl], tvl⟩
def ti847 : TI := tI (.st [(0, 39), (1, 39), (2, 845)]) 3 72 [tvl, tvl, tvl]
def ti849 : TI := ⟨.fn, 1, 8, [.nilFunc], .nilFunc⟩
def ti851 : TI := ⟨.fn, 1, 8, [.nilFunc], .nilFunc⟩
def ti852 : TI := ⟨.fn, 1, 8, [.nilFunc], .nilFunc⟩
def ti859 : TI := ⟨.ptr 861, 1, 8, [.pointer none], .pointer none⟩
def ti861 : TI := tI (.st [(0, 859), (1, 463)]) 2 32 [.pointer none, tvl]
def ti863 : TI := ⟨.ifc, 1, 16, [.nilIface], .nilIface⟩
def ti877 : TI := ⟨.fn, 1, 8, [.nilFunc], .nilFunc⟩
def ti882 : TI := ⟨.ptr 930, 1, 8, [.pointer none], .pointer none⟩
def ti885 : TI := ⟨.fn, 1, 8, [.nilFunc], .nilFunc⟩
def ti889 : TI := tI (.st [(0, 38), (5, 9)]) 6 96 [tvi, tvi, tvs, tvl, tvl, tvs]
def ti897 : TI := ⟨.fn, 1, 8, [.nilFunc], .nilFunc⟩
def ti899 : TI := ⟨.sl 902, 1, 24, [tvl], tvl⟩
def ti902 : TI := tI (.st [(0, 38), (5, 3)]) 6 88 [tvi, tvi, tvs, tvl, tvl, tvi]
def ti904 : TI := ⟨.fn, 1, 8, [.nilFunc], .nilFunc⟩
def ti918 : TI := ⟨.ptr 5, 1, 8, [.pointer none], .pointer none⟩
def ti922 : TI := tI (.ar 256 4) 256 256 [tvb, tvb, tvb, tvb, tvb, tvb, tvb, tvb, tvb, tvb, tvb, tvb, tvb, tvb, tvb, tvb, tvb, tvb, tvb, tvb, tvb, tvb, tvb, tvb, tvb, tvb, tvb, tvb, tvb, tvb, tvb, tvb, tvb, tvb, tvb, tvb, tvb, tvb, tvb, tvb, tvb, tvb, tvb, tvb, tvb, tvb, tvb, tvb, tvb, tvb, tvb, tvb, tvb, tvb, tvb, tvb, tvb, tvb, tvb, tvb, tvb, tvb, tvb, tvb, tvb, tvb, tvb, tvb, tvb, tvb, tvb, tvb, tvb, tvb, tvb, tvb, tvb, tvb, tvb, tvb, tvb, tvb, tvb, tvb, tvb, tvb, tvb, tvb, tvb, tvb, tvb, tvb, tvb, tvb, tvb, tvb, tvb, tvb, tvb, tvb, tvb, tvb, tvb, tvb, tvb, tvb, tvb, tvb, tvb, tvb, tvb, tvb, tvb, tvb, tvb, tvb, tvb, tvb, tvb, tvb, tvb, tvb, tvb, tvb, tvb, tvb, tvb, tvb, tvb, tvb, tvb, tvb, tvb, tvb, tvb, tvb, tvb, tvb, tvb, tvb, tvb, tvb, tvb, tvb, tvb, tvb, tvb, tvb, tvb, tvb, tvb, tvb, tvb, tvb, tvb, tvb, tvb, tvb, tvb, tvb, tvb, tvb, tvb, tvb, tvb, tvb, tvb, tvb, tvb, tvb, tvb, tvb, tvb, tvb, tvb, tvb, tvb, tvb, tvb, tvb, tvb, tvb, tvb, tvb, tvb, tvb, tvb, tvb, tvb, tvb, tvb, tvb, tvb, tvb, tvb, tvb, tvb, tvb, tvb, tvb, tvb, tvb, tvb, tvb, tvb, tvb, tvb, tvb, tvb, tvb, tvb, tvb, tvb, tvb, tvb, tvb, tvb, tvb, tvb, tvb, tvb, tvb, tvb, tvb, tvb, tvb, tvb, tvb, tvb, tvb, tvb, tvb, tvb, tvb, tvb, tvb, tvb, tvb, tvb, tvb, tvb, tvb, tvb, tvb, tvb, tvb, tvb, tvb, tvb, tvb, tvb, tvb, tvb, tvb, tvb, tvb]
def ti926 : TI := ⟨.ptr 922, 1, 8, [.pointer none], .pointer none⟩
def ti928 : TI := ⟨.sl 935, 1, 24, [tvl], tvl⟩
def ti930 : TI := tI (.st [(0, 22), (1, 928), (2, 118)]) 3 72 [tvl, tvl, tvl]
def ti933 : TI := tI (.st [(0, 3), (1, 3), (2, 3), (3, 38), (8, 22), (9, 22)]) 10 152 [tvi, tvi, tvi, tvi, tvi, tvs, tvl, tvl, tvl, tvl]
def ti935 : TI := ⟨.sl 933, 1, 24, [tvl], tvl⟩
def ti937 : TI := ⟨.ifc, 1, 16, [.nilIface], .nilIface⟩
def ti944 : TI := ⟨.fn, 1, 8, [.nilFunc], .nilFunc⟩
def ti957 : TI := ⟨.uptr, 1, 8, [.pointer none], .pointer none⟩
def ti967 : TI := tI (.st []) 0 0 []
def ti968 : TI := tI (.st []) 0 0 []
def ti969 : TI := tI (.st []) 0 0 []
def ti971 : TI := tI (.st [(0, 3)]) 1 8 [tvi]
def ti972 : TI := tI (.st []) 0 0 []
def ti973 : TI := tI (.st []) 0 0 []
def ti974 : TI := tI (.st []) 0 0 []
def ti975 : TI := tI (.st []) 0 0 []
def ti976 : TI := tI (.st []) 0 0 []
def ti977 : TI := tI (.ar 3 9) 3 48 [tvs, tvs, tvs]
def ti981 : TI := tI (.st [(0, 813), (15, 22), (16, 3), (17, 935), (18, 933), (28, 3)]) 29 456 [tvs, tvi, tvi, tvl, tvs, tvl, tvi, tvi, tvs, tvl, tvl, tvi, tvl, tvl, tvi, tvl, tvi, tvl, tvi, tvi, tvi, tvi, tvi, tvs, tvl, tvl, tvl, tvl, tvi]
def ti992 : TI := ⟨.fn, 1, 8, [.nilFunc], .nilFunc⟩
def ti995 : TI := ⟨.fn, 1, 8, [.nilFunc], .nilFunc⟩
def ti996 : TI := ⟨.ptr 981, 1, 8, [.pointer none], .pointer none⟩
def ti1002 : TI := ⟨.fn, 1, 8, [.nilFunc], .nilFunc⟩
def ti1007 : TI := tI (.st [(0, 17), (1, 17), (2, 17), (3, 9)]) 4 40 [.pointer none, .pointer none, .pointer none, tvs]
def ti1008 : TI := tI (.ar 0 16) 0 0 []
def ti1010 : TI := tI (.st [(0, 1008)]) 0 0 []
def ti1011 : TI := ⟨.int .u8, 1, 1, [.int .u8 0], .int .u8 0⟩
def ti1012 : TI := ⟨.int .u8, 1, 1, [.int .u8 0], .int .u8 0⟩
def ti1013 : TI := ⟨.fn, 1, 8, [.nilFunc], .nilFunc⟩
def ti1014 : TI := ⟨.int .i32, 1, 4, [.int .i32 0], .int .i32 0⟩
def ti1015 : TI := ⟨.int .i32, 1, 4, [.int .i32 0], .int .i32 0⟩
def ti1017 : TI := tI (.st [(0, 12), (1, 12), (2, 461), (3, 1011), (4, 5), (5, 5), (6, 1012), (7, 1013), (8, 918), (9, 1014), (10, 1015)]) 11 48 [.int .u64 0, .int .u64 0, .int .u32 0, .int .u8 0, .int .u8 0, .int .u8 0, .int .u8 0, .nilFunc, .pointer none, .int .i32 0, .int .i32 0]
def ti1019 : TI := tI (.st [(0, 9), (1, 9), (2, 9), (3, 3), (4, 3), (5, 3), (6, 117), (7, 117)]) 8 120 [tvs, tvs, tvs, tvi, tvi, tvi, tvl, tvl]
def ti1021 : TI := tI (.st [(0, 1019), (8, 3)]) 9 128 [tvs, tvs, tvs, tvi, tvi, tvi, tvl, tvl, tvi]
def ti1023 : TI := tI (.st [(0, 9), (1, 9), (2, 3)]) 3 40 [tvs, tvs, tvi]
def tyT : T TI := tN (tS ti2 (tS ti6 (tS ti14 (tS ti30 (tN (tN (tN (tN .l (tS ti766 .l .l)) .l) (tS ti190 .l .l)) (tS ti94 (tS ti222 .l .l) (tS ti158 (tS ti414 (tS ti926 .l .l) (tS ti670 .l .l)) (tN .l (tS ti542 .l .l))))) (tN (tN .l (tN (tS ti430 .l (tS ti686 .l .l)) .l)) (tS ti78 (tS ti206 (tN (tS ti974 .l .l) (tS ti718 .l .l)) .l) (tS ti142 .l .l)))) (tS ti22 (tS ti54 (tS ti118 (tN (tS ti502 (tS ti1014 .l .l) .l) .l) .l) (tN (tS ti214 .l .l) (tS ti150 (tN (tS ti918 .l .l) .l) .l))) (tS ti38 (tS ti102 .l .l) (tS ti70 (tN .l (tN (tS ti838 .l .l) .l)) (tS ti134 (tN (tS ti902 .l .l) (tS ti646 .l .l)) .l))))) (tS ti10 (tS ti26 (tS ti58 (tS ti122 (tN (tS ti506 .l (tS ti762 .l .l)) (tS ti378 .l .l)) (tS ti186 .l (tS ti314 (tS ti826 .l .l) .l))) (tS ti90 (tN (tN .l (tS ti730 .l .l)) .l) (tN (tN (tS ti922 .l .l) .l) .l))) (tN (tN (tN (tN (tS ti1002 .l .l) .l) (tS ti362 .l (tS ti618 .l .l))) (tN (tS ti426 .l .l) .l)) (tS ti74 .l (tS ti138 (tS ti394 .l .l) .l)))) (tN (tS ti50 (tS ti114 (tN (tS ti498 (tS ti1010 .l .l) .l) (tS ti370 (tS ti882 .l .l) .l)) (tN .l (tN .l (tS ti562 .l .l)))) (tN (tS ti210 (tS ti466 .l (tS ti722 .l .l)) .l) .l)) (tS ti34 (tS ti98 (tS ti226 (tN .l (tS ti738 .l .l)) (tN .l (tS ti610 .l .l))) (tS ti162 (tS ti418 (tS ti930 .l .l) (tS ti674 .l .l)) .l)) (tN (tN .l (tS ti322 .l .l)) (tN (tS ti386 .l .l) .l)))))) (tS ti4 (tS ti12 (tN (tS ti60 (tN (tN (tN .l (tS ti764 .l .l)) .l) (tS ti188 (tS ti444 .l .l) (tN (tS ti828 .l .l) .l))) (tS ti92 .l (tN (tN .l (tS ti668 .l .l)) (tN .l (tS ti540 .l .l))))) (tN (tS ti108 .l .l) (tS ti76 (tN (tN (tS ti972 .l .l) .l) (tN (tS ti844 .l .l) (tS ti588 .l .l))) (tS ti140 .l .l)))) (tS ti20 (tS ti52 (tN (tN (tN (tS ti1012 .l .l) .l) .l) .l) (tN (tN .l (tN (tS ti852 .l .l) .l)) (tN .l (tS ti276 .l .l)))) (tS ti36 (tS ti100 (tN (tN (tS ti996 .l .l) .l) .l) (tS ti164 (tN .l (tS ti676 .l .l)) .l)) (tS ti68 (tN .l (tN .l (tS ti580 .l .l))) (tN (tS ti388 .l (tS ti644 .l .l)) .l))))) (tS ti8 (tN (tS ti56 (tS ti120 (tN (tS ti504 .l (tS ti760 .l .l)) (tS ti376 .l (tS ti632 .l .l))) (tN .l (tN (tS ti824 .l .l) .l))) (tS ti88 (tN .l (tS ti344 .l (tS ti600 .l .l))) (tS ti152 .l (tN (tS ti792 .l .l) (tS ti536 .l .l))))) (tS ti40 (tS ti104 (tS ti232 .l (tN .l (tS ti616 .l .l))) (tS ti168 .l .l)) (tN (tS ti200 (tS ti456 (tS ti968 .l .l) (tS ti712 .l .l)) (tN (tS ti840 .l .l) .l)) (tN (tN (tS ti904 .l .l) .l) .l)))) (tS ti16 (tN (tS ti112 (tS ti240 (tN (tS ti1008 .l .l) .l) .l) (tN (tN (tS ti944 .l .l) .l) (tS ti304 (tS ti816 .l .l) (tS ti560 .l .l)))) (tN (tN (tN (tS ti976 .l .l) (tS ti720 .l .l)) (tS ti336 .l (tS ti592 .l .l))) (tS ti144 (tN .l (tS ti656 .l .l)) .l))) (tN (tS ti96 (tS ti224 (tS ti480 (tS ti992 .l .l) .l) .l) (tS ti160 (tN (tS ti928 .l .l) .l) (tN .l (tS ti544 .l .l)))) (tN .l (tN (tS ti384 .l .l) (tS ti256 .l .l)))))))) (tS ti1 (tS ti5 (tS ti13 (tS ti29 (tS ti61 (tN (tN (tN (tS ti1021 .l .l) .l) (tS ti381 .l .l)) (tN (tN (tS ti957 .l .l) .l) .l)) (tN (tN (tN .l (tS ti733 .l .l)) (tN (tS ti861 .l .l) .l)) (tN .l (tS ti285 .l .l)))) (tS ti45 (tS ti109 (tN .l (tN (tS ti877 .l .l) (tS ti621 .l .l))) (tN .l (tN (tS ti813 .l .l) .l))) (tN (tN (tS ti461 (tS ti973 .l .l) .l) (tN (tS ti845 .l .l) .l)) (tS ti141 (tS ti397 .l (tS ti653 .l .l)) .l)))) (tS ti21 (tS ti53 (tS ti117 (tN (tN (tS ti1013 .l .l) .l) (tS ti373 (tS ti885 .l .l) .l)) (tN .l (tS ti309 .l .l))) (tS ti85 (tN (tN (tS ti981 .l .l) .l) (tN .l (tS ti597 .l .l))) (tS ti149 .l (tS ti277 .l .l)))) (tN (tS ti101 .l (tN (tN (tS ti933 .l .l) (tS ti677 .l .l)) (tN .l (tS ti549 .l .l)))) (tN (tS ti197 (tN .l (tS ti709 .l .l)) .l) (tN .l (tS ti261 .l .l)))))) (tS ti9 (tN (tN (tN (tS ti249 (tN (tS ti1017 .l .l) .l) (tN (tS ti889 .l .l) .l)) (tN (tS ti441 .l .l) (tN (tS ti825 .l .l) .l))) (tN (tN .l (tN .l (tS ti601 .l .l))) (tS ti153 .l (tS ti281 .l .l)))) (tS ti41 (tS ti105 (tN (tS ti489 .l .l) (tN .l (tS ti617 .l .l))) (tN (tN (tS ti937 .l .l) .l) .l)) (tS ti73 (tN (tN (tS ti969 .l .l) .l) .l) (tS ti137 .l (tN .l (tS ti521 .l .l)))))) (tS ti17 (tN (tS ti113 (tN (tS ti497 .l .l) .l) (tN (tS ti433 .l .l) .l)) (tN (tN (tN (tS ti977 .l .l) .l) (tN (tS ti849 .l .l) .l)) (tS ti145 .l .l))) (tN (tN .l (tN .l (tN .l (tS ti545 .l .l)))) (tN (tN (tS ti449 .l .l) (tN .l (tS ti577 .l .l))) (tS ti129 (tN (tS ti897 .l .l) .l) (tS ti257 .l .l))))))) (tS ti3 (tS ti11 (tN (tN (tN (tS ti251 (tN (tS ti1019 .l .l) .l) (tS ti379 .l .l)) (tS ti187 .l .l)) (tN (tN .l (tN (tS ti859 .l .l) .l)) (tS ti155 .l .l))) (tS ti43 (tS ti107 .l (tN (tS ti427 .l .l) .l)) (tN (tS ti203 (tN (tS ti971 .l .l) (tS ti715 .l .l)) (tS ti331 .l .l)) (tN .l (tN (tS ti779 .l .l) .l))))) (tS ti19 (tN (tN (tN (tN (tS ti1011 .l .l) .l) .l) (tN (tS ti435 .l .l) .l)) (tS ti83 (tS ti211 .l (tN (tS ti851 .l .l) .l)) (tS ti147 .l .l))) (tS ti35 (tN (tN (tS ti483 (tS ti995 .l .l) .l) .l) .l) (tN (tS ti195 (tS ti451 .l .l) .l) (tN (tN (tS ti899 .l .l) (tS ti643 .l .l)) .l))))) (tS ti7 (tS ti23 (tN (tN (tN (tS ti503 (tS ti1015 .l .l) (tS ti759 .l .l)) .l) (tS ti183 .l (tN (tS ti823 .l .l) .l))) (tN (tN (tS ti471 .l (tS ti727 .l .l)) (tN .l (tS ti599 .l .l))) (tS ti151 .l (tS ti279 (tS ti791 .l .l) .l)))) (tS ti39 (tN .l (tS ti167 (tN (tS ti935 .l .l) (tS ti679 .l .l)) (tS ti295 .l .l))) (tS ti71 (tN (tN (tS ti967 .l .l) .l) (tN (tS ti839 .l .l) .l)) (tS ti135 .l (tS ti263 .l .l))))) (tS ti15 (tS ti47 (tN (tN (tN (tS ti1007 .l .l) .l) (tN .l (tS ti623 .l .l))) .l) (tN (tN (tS ti463 (tS ti975 .l .l) .l) (tN (tS ti847 .l .l) .l)) (tN .l (tN .l (tS ti527 .l .l))))) (tS ti31 (tS ti95 (tS ti223 (tS ti479 .l .l) (tN (tS ti863 .l .l) .l)) (tS ti159 .l (tS ti287 .l .l))) (tS ti63 (tS ti191 (tS ti447 .l (tS ti703 .l .l)) .l) (tN (tS ti383 .l (tS ti639 .l .l)) (tN .l (tN .l (tS ti1023 .l .l))))))))))
def fnT : T Unit := tN (tN (tS () (tS () (tS () (tS () (tS () (tS () (tS () .l (tS () .l .l)) (tS () (tS () .l .l) (tS () .l .l))) (tS () (tS () .l (tS () .l .l)) (tS () (tS () .l .l) (tS () .l .l)))) (tS () (tS () (tS () (tS () .l .l) (tS () .l .l)) (tS () (tS () .l .l) (tS () .l .l))) (tS () (tS () (tS () .l .l) (tS () .l .l)) (tS () (tS () .l .l) (tS () .l .l))))) (tS () (tS () (tS () (tS () (tS () .l .l) (tS () .l .l)) (tS () (tS () .l .l) (tS () .l .l))) (tS () (tS () (tS () .l .l) (tS () .l .l)) (tS () (tS () .l .l) (tS () .l .l)))) (tS () (tS () (tS () (tS () .l .l) (tS () .l .l)) (tS () (tS () .l .l) (tS () .l .l))) (tS () (tS () .l (tS () .l .l)) (tS () (tS () .l .l) (tS () .l .l)))))) (tS () (tS () (tS () (tS () (tS () .l (tS () .l .l)) (tS () (tS () .l .l) (tS () .l .l))) (tS () (tS () (tS () .l .l) (tS () .l .l)) (tS () (tS () .l .l) (tS () .l .l)))) (tS () (tS () (tS () (tS () .l .l) (tS () .l .l)) (tS () (tS () .l .l) (tS () .l .l))) (tS () (tS () (tS () .l .l) (tS () .l .l)) (tS () (tS () .l .l) (tS () .l .l))))) (tS () (tS () (tS () (tS () (tS () .l .l) (tS () .l .l)) (tS () (tS () .l .l) (tS () .l .l))) (tS () (tS () (tS () .l .l) (tS () .l .l)) (tS () (tS () .l .l) (tS () .l .l)))) (tS () (tS () (tS () (tS () .l .l) (tS () .l .l)) (tS () (tS () .l .l) (tS () .l .l))) (tS () (tS () (tS () .l .l) (tS () .l .l)) (tS () (tS () .l .l) (tS () .l .l))))))) (tS () (tS () (tS () (tS () (tS () (tS () .l (tS () .l .l)) (tS () (tS () .l .l) (tS () .l .l))) (tS () (tS () (tS () .l .l) (tS () .l .l)) (tS () (tS () .l .l) (tS () .l .l)))) (tS () (tS () (tS () (tS () .l .l) (tS () .l .l)) (tS () (tS () .l .l) (tS () .l .l))) (tS () (tS () (tS () .l .l) (tS () .l .l)) (tS () (tS () .l .l) (tS () .l .l))))) (tS () (tS () (tS () (tS () (tS () .l .l) (tS () .l .l)) (tS () (tS () .l .l) (tS () .l .l))) (tS () (tS () (tS () .l .l) (tS () .l .l)) (tS () (tS () .l .l) (tS () .l .l)))) (tS () (tS () (tS () (tS () .l .l) (tS () .l .l)) (tS () (tS () .l .l) (tS () .l .l))) (tS () (tS () (tS () .l .l) (tS () .l .l)) (tS () (tS () .l .l) (tS () .l .l)))))) (tS () (tS () (tS () (tS () (tS () .l (tS () .l .l)) (tS () (tS () .l .l) (tS () .l .l))) (tS () (tS () (tS () .l .l) (tS () .l .l)) (tN (tS () .l .l) (tS () .l .l)))) (tS () (tS () (tS () (tS () .l .l) (tS () .l .l)) (tS () (tS () .l .l) (tS () .l .l))) (tS () (tS () (tS () .l .l) (tS () .l .l)) (tS () (tS () .l .l) (tS () .l .l))))) (tS () (tS () (tS () (tS () (tS () .l .l) (tS () .l .l)) (tS () (tS () .l .l) (tS () .l .l))) (tS () (tS () (tS () .l .l) (tS () .l .l)) (tS () (tS () .l .l) (tS () .l .l)))) (tS () (tS () (tS () (tS () .l .l) (tS () .l .l)) (tS () (tS () .l .l) (tS () .l .l))) (tS () (tS () (tS () .l .l) (tS () .l .l)) (tS () (tS () .l .l) (tS () .l .l)))))))) (tS () (tS () (tS () (tS () (tS () (tS () (tS () .l (tS () .l .l)) (tS () (tS () .l .l) (tS () .l .l))) (tS () (tS () (tS () .l .l) (tS () .l .l)) (tS () (tS () .l .l) (tS () .l .l)))) (tS () (tS () (tS () (tS () .l .l) (tS () .l .l)) (tS () (tS () .l .l) (tS () .l .l))) (tS () (tS () (tS () .l .l) (tS () .l .l)) (tS () (tS () .l .l) (tS () .l .l))))) (tS () (tS () (tS () (tS () (tS () .l .l) (tS () .l .l)) (tS () (tS () .l .l) (tS () .l .l))) (tS () (tS () (tS () .l .l) (tS () .l .l)) (tS () (tS () .l .l) (tS () .l .l)))) (tS () (tS () (tS () (tS () .l .l) (tS () .l .l)) (tS () (tS () .l .l) (tS () .l .l))) (tS () (tS () .l (tS () .l .l)) (tS () (tS () .l .l) (tS () .l .l)))))) (tS () (tS () (tS () (tS () (tS () .l (tS () .l .l)) (tS () (tS () .l .l) (tS () .l .l))) (tS () (tS () (tS () .l .l) (tS () .l .l)) (tS () (tS () .l .l) (tS () .l .l)))) (tN (tS () (tS () (tS () .l .l) (tS () .l .l)) (tS () (tS () .l .l) (tS () .l .l))) (tS () (tS () (tS () .l .l) (tS () .l .l)) (tS () (tS () .l .l) (tS () .l .l))))) (tS () (tS () (tS () (tS () (tS () .l .l) (tS () .l .l)) (tS () (tS () .l .l) (tS () .l .l))) (tS () (tS () (tS () .l .l) (tS () .l .l)) (tS () (tS () .l .l) (tS () .l .l)))) (tS () (tS () (tS () (tS () .l .l) (tS () .l .l)) (tS () (tS () .l .l) (tS () .l .l))) (tS () (tS () (tS () .l .l) (tS () .l .l)) (tS () (tS () .l .l) (tS () .l .l))))))) (tS () (tS () (tS () (tS () (tS () (tS () .l (tS () .l .l)) (tS () (tS () .l .l) (tS () .l .l))) (tS () (tS () (tS () .l .l) (tS () .l .l)) (tS () (tS () .l .l) (tS () .l .l)))) (tS () (tS () (tS () (tS () .l .l) (tS () .l .l)) (tS () (tS () .l .l) (tS () .l .l))) (tS () (tS () (tS () .l .l) (tS () .l .l)) (tS () (tS () .l .l) (tS () .l .l))))) (tS () (tS () (tS () (tS () (tS () .l .l) (tS () .l .l)) (tS () (tS () .l .l) (tS () .l .l))) (tS () (tS () (tS () .l .l) (tS () .l .l)) (tS () (tS () .l .l) (tS () .l .l)))) (tS () (tS () (tS () (tS () .l .l) (tS () .l .l)) (tS () (tS () .l .l) (tS () .l .l))) (tS () (tS () (tS () .l .l) (tS () .l .l)) (tS () (tS () .l .l) (tS () .l .l)))))) (tS () (tS () (tS () (tS () (tS () (tS () .l .l) (tS () .l .l)) (tS () (tS () .l .l) (tS () .l .l))) (tS () (tS () (tS () .l .l) (tS () .l .l)) (tS () (tS () .l .l) (tS () .l .l)))) (tS () (tS () (tS () (tS () .l .l) (tS () .l .l)) (tS () (tS () .l .l) (tS () .l .l))) (tS () (tS () (tS () .l .l) (tS () .l .l)) (tS () (tS () .l .l) (tS () .l .l))))) (tS () (tS () (tS () (tS () .l (tS () .l .l)) (tS () (tS () .l .l) (tS () .l .l))) (tS () (tS () (tS () .l .l) (tS () .l .l)) (tS () (tS () .l .l) (tS () .l .l)))) (tS () (tS () (tS () (tS () .l .l) (tS () .l .l)) (tS () (tS () .l .l) (tS () .l .l))) (tS () (tS () (tS () .l .l) (tS () .l .l)) (tS () (tS () .l .l) (tS () .l .l))))))))) (tN (tS () (tS () (tS () (tS () (tS () (tS () (tS () .l (tS () .l .l)) (tS () (tS () .l .l) (tS () .l .l))) (tS () (tS () (tS () .l .l) (tS () .l .l)) (tS () (tS () .l .l) (tS () .l .l)))) (tS () (tS () (tS () (tS () .l .l) (tS () .l .l)) (tS () (tS () .l .l) (tS () .l .l))) (tS () (tS () (tS () .l .l) (tS () .l .l)) (tS () (tS () .l .l) (tS () .l .l))))) (tS () (tS () (tS () (tS () (tS () .l .l) (tS () .l .l)) (tS () (tS () .l .l) (tS () .l .l))) (tS () (tS () (tS () .l .l) (tS () .l .l)) (tS () (tS () .l .l) (tS () .l .l)))) (tS () (tS () (tS () (tS () .l .l) (tS () .l .l)) (tS () (tS () .l .l) (tS () .l .l))) (tS () (tS () (tS () .l .l) (tS () .l .l)) (tS () (tS () .l .l) (tS () .l .l)))))) (tS () (tS () (tS () (tS () (tS () .l (tS () .l .l)) (tS () (tS () .l .l) (tS () .l .l))) (tS () (tS () (tS () .l .l) (tS () .l .l)) (tS () (tS () .l .l) (tS () .l .l)))) (tS () (tS () (tS () (tS () .l .l) (tS () .l .l)) (tS () (tS () .l .l) (tS () .l .l))) (tS () (tS () .l (tS () .l .l)) (tS () (tS () .l .l) (tS () .l .l))))) (tS () (tS () (tS () (tS () (tS () .l .l) (tS () .l .l)) (tS () (tS () .l .l) (tS () .l .l))) (tS () (tS () (tS () .l .l) (tS () .l .l)) (tS () (tS () .l .l) (tS () .l .l)))) (tS () (tS () (tS () (tS () .l .l) (tS () .l .l)) (tS () (tS () .l .l) (tS () .l .l))) (tS () (tS () (tS () .l .l) (tS () .l .l)) (tS () (tS () .l .l) (tS () .l .l))))))) (tS () (tS () (tS () (tS () (tS () (tS () .l (tS () .l .l)) (tS () (tS () .l .l) (tS () .l .l))) (tS () (tS () (tS () .l .l) (tS () .l .l)) (tS () (tS () .l .l) (tS () .l .l)))) (tS () (tS () (tS () (tS () .l .l) (tS () .l .l)) (tS () (tS () .l .l) (tS () .l .l))) (tS () (tS () (tS () .l .l) (tS () .l .l)) (tS () (tS () .l .l) (tS () .l .l))))) (tS () (tS () (tS () (tS () (tS () .l .l) (tS () .l .l)) (tS () (tS () .l .l) (tS () .l .l))) (tS () (tS () (tS () .l .l) (tS () .l .l)) (tS () (tS () .l .l) (tS () .l .l)))) (tS () (tS () (tS () (tS () .l .l) (tS () .l .l)) (tS () (tS () .l .l) (tS () .l .l))) (tS () (tS () .l (tS () .l .l)) (tS () (tS () .l .l) (tS () .l .l)))))) (tS () (tS () (tS () (tS () (tS () .l (tS () .l .l)) (tS () (tS () .l .l) (tS () .l .l))) (tS () (tS () (tS () .l .l) (tS () .l .l)) (tS () (tS () .l .l) (tS () .l .l)))) (tS () (tS () (tS () (tS () .l .l) (tS () .l .l)) (tS () (tS () .l .l) (tS () .l .l))) (tS () (tS () (tS () .l .l) (tS () .l .l)) (tS () (tS () .l .l) (tS () .l .l))))) (tS () (tS () (tS () (tS () (tS () .l .l) (tS () .l .l)) (tS () (tS () .l .l) (tS () .l .l))) (tS () (tS () (tS () .l .l) (tS () .l .l)) (tS () (tS () .l .l) (tS () .l .l)))) (tS () (tS () (tS () (tS () .l .l) (tS () .l .l)) (tS () (tS () .l .l) (tS () .l .l))) (tS () (tS () (tS () .l .l) (tS () .l .l)) (tS () (tS () .l .l) (tS () .l .l)))))))) (tS () (tS () (tS () (tS () (tS () (tS () (tS () .l (tS () .l .l)) (tS () (tS () .l .l) (tS () .l .l))) (tS () (tS () (tS () .l .l) (tS () .l .l)) (tS () (tS () .l .l) (tS () .l .l)))) (tS () (tS () (tS () (tS () .l .l) (tS () .l .l)) (tS () (tS () .l .l) (tS () .l .l))) (tS () (tS () (tS () .l .l) (tS () .l .l)) (tS () (tS () .l .l) (tS () .l .l))))) (tS () (tS () (tS () (tS () (tS () .l .l) (tS () .l .l)) (tS () (tS () .l .l) (tS () .l .l))) (tS () (tS () (tS () .l .l) (tS () .l .l)) (tS () (tS () .l .l) .l))) (tS () (tS () (tS () (tS () .l .l) (tS () .l .l)) (tS () (tS () .l .l) (tS () .l .l))) (tS () (tS () (tS () .l .l) (tS () .l .l)) (tS () (tS () .l .l) (tS () .l .l)))))) (tS () (tS () (tS () (tS () (tS () .l (tS () .l .l)) (tS () (tS () .l .l) (tS () .l .l))) (tS () (tS () (tS () .l .l) (tS () .l .l)) (tS () (tS () .l .l) (tS () .l .l)))) (tS () (tS () (tS () (tS () .l .l) (tS () .l .l)) (tS () (tS () .l .l) (tS () .l .l))) (tS () (tS () (tS () .l .l) (tS () .l .l)) (tS () (tS () .l .l) (tS () .l .l))))) (tS () (tS () (tS () (tS () (tS () .l .l) (tS () .l .l)) (tS () (tS () .l .l) (tS () .l .l))) (tS () (tS () (tS () .l .l) (tS () .l .l)) (tS () (tS () .l .l) (tS () .l .l)))) (tS () (tS () (tS () .l (tS () .l .l)) (tS () (tS () .l .l) (tS () .l .l))) (tS () (tS () (tS () .l .l) (tS () .l .l)) (tS () (tS () .l .l) (tS () .l .l))))))) (tS () (tS () (tS () (tS () (tS () (tS () .l (tS () .l .l)) (tS () (tS () .l .l) (tS () .l .l))) (tS () (tS () (tS () .l .l) (tS () .l .l)) (tS () (tS () .l .l) (tS () .l .l)))) (tS () (tS () (tS () (tS () .l .l) (tS () .l .l)) (tS () (tS () .l .l) (tS () .l .l))) (tS () (tS () (tS () .l .l) (tS () .l .l)) (tS () (tS () .l .l) (tS () .l .l))))) (tS () (tS () (tS () (tS () (tS () .l .l) (tS () .l .l)) (tS () (tS () .l .l) (tS () .l .l))) (tS () (tS () (tS () .l .l) (tS () .l .l)) (tS () (tS () .l .l) (tS () .l .l)))) (tS () (tS () (tS () (tS () .l .l) (tS () .l .l)) (tS () (tS () .l .l) (tS () .l .l))) (tS () (tS () (tS () .l .l) (tS () .l .l)) (tS () (tS () .l .l) (tS () .l .l)))))) (tS () (tS () (tS () (tS () (tS () (tS () .l .l) (tS () .l .l)) (tS () (tS () .l .l) (tS () .l .l))) (tS () (tS () (tS () .l .l) (tS () .l .l)) (tS () (tS () .l .l) (tS () .l .l)))) (tS () (tS () (tS () (tS () .l .l) (tS () .l .l)) (tS () (tS () .l .l) (tS () .l .l))) (tS () (tS () (tS () .l .l) (tS () .l .l)) (tS () (tS () .l .l) (tS () .l .l))))) (tS () (tS () (tS () (tS () (tS () .l .l) (tS () .l .l)) (tS () (tS () .l .l) (tS () .l .l))) (tS () (tS () (tS () .l .l) (tS () .l .l)) (tS () (tS () .l .l) (tS () .l .l)))) (tS () (tS () (tS () (tS () .l .l) (tS () .l .l)) (tS () (tS () .l .l) (tS () .l .l))) (tS () (tS () (tS () .l .l) (tS () .l .l)) (tS () (tS () .l .l) (tS () .l .l)))))))))
def idfT : T Unit := tN .l (tN (tN (tN .l (tN (tN .l (tN .l (tN (tN (tS () .l .l) .l) .l))) .l)) .l) .l)
def orcT : T Unit := .l
def glT : T (List Value) := .l
def mnzT : T TypeId := .l
def ovlT : T Unit := tN (tN (tN (tN (tN .l (tN .l (tN .l (tN (tN (tS () .l .l) .l) .l)))) .l) .l) (tN (tN (tN .l (tN .l (tN .l (tN (tN (tS () .l .l) .l) .l)))) (tN (tN .l (tS () .l .l)) .l)) .l)) (tN (tN .l (tN (tN .l (tN .l (tN .l (tN (tN (tS () .l .l) .l) .l)))) .l)) (tN (tN (tN .l (tN (tN .l (tN .l (tN .l (tS () .l .l)))) .l)) .l) .l))
def splT : T Unit := tN (tN (tN (tN .l (tN (tN .l (tN (tN .l (tN (tS () .l .l) .l)) .l)) .l)) .l) (tN .l (tN (tN .l (tN .l (tN (tN .l (tN (tS () .l .l) .l)) .l))) .l))) (tN (tN (tN .l (tN (tN .l (tN (tN .l (tN (tS () .l .l) .l)) .l)) .l)) (tN (tN .l (tS () .l .l)) .l)) (tN (tN (tN .l (tN .l (tN .l (tN (tS () .l .l) .l)))) .l) .l))
noncomputable def ex306 (l : List Value) : Option Value := pureVal Tryz.prog (Extern.BytealgCompare.compare l.toArray)
noncomputable def extT : T (List Value → Option Value) := tN (tN (tN .l (tN .l (tN (tN (tN .l (tN .l (tS ex306 .l .l))) .l) .l))) .l) .l
noncomputable def tab : Tab := ⟨tyT, fnT, idfT, orcT, glT, mnzT, ovlT, splT, extT, []⟩
def Gl (w : World) : Prop := ∀ (g : Nat) (vs : List Value), tab.gl.get g = some vs → ∀ (k : Nat) (v : Value), vs[k]? = some v → w.cell? ⟨g, k, none⟩ = some v
theorem tab_ty : tab.ty.list.map (fun x => tiOf Tryz.prog x.1) = tab.ty.list.map (fun x => some x.2) := by kernel_rfl
noncomputable def fnOk (x : Nat × Unit) : Bool := match Tryz.prog.funcs[x.1]? with | some f => !(f.name == "runtime.NumGoroutine" || f.body.isNone) | none => false
def fl0 : List (Nat × Unit) := [(6, ()), (14, ()), (30, ()), (62, ()), (126, ()), (254, ()), (510, ()), (766, ()), (382, ()), (894, ()), (638, ()), (190, ()), (446, ()), (702, ()), (318, ()), (830, ()), (574, ()), (94, ()), (222, ()), (478, ()), (990, ()), (734, ()), (350, ()), (862, ()), (606, ()), (158, ()), (414, ()), (926, ()), (670, ()), (286, ()), (798, ()), (542, ()), (46, ()), (110, ()), (238, ()), (494, ()), (1006, ()), (750, ()), (366, ()), (878, ()), (622, ()), (174, ()), (430, ()), (942, ()), (686, ()), (302, ()), (814, ()), (558, ())]
theorem fl0_ok : fl0.map fnOk = fl0.map (fun _ => true) := by kernel_rfl
def fl1 : List (Nat × Unit) := [(78, ()), (206, ()), (462, ()), (974, ()), (718, ()), (334, ()), (846, ()), (590, ()), (142, ()), (398, ()), (654, ()), (270, ()), (782, ()), (526, ()), (22, ()), (54, ()), (118, ()), (246, ()), (502, ()), (758, ()), (374, ()), (886, ()), (630, ()), (182, ()), (438, ()), (950, ()), (694, ()), (310, ()), (822, ()), (566, ()), (86, ()), (214, ()), (470, ()), (982, ()), (726, ()), (342, ()), (854, ()), (598, ()), (150, ()), (406, ()), (918, ()), (662, ()), (278, ()), (790, ()), (534, ()), (38, ()), (102, ()), (230, ())]
theorem fl1_ok : fl1.map fnOk = fl1.map (fun _ => true) := by kernel_rfl
def fl2 : List (Nat × Unit) := [(486, ()), (998, ()), (742, ()), (358, ()), (870, ()), (614, ()), (166, ()), (422, ()), (934, ()), (678, ()), (294, ()), (806, ()), (550, ()), (70, ()), (198, ()), (454, ()), (966, ()), (710, ()), (326, ()), (838, ()), (582, ()), (134, ()), (390, ()), (902, ()), (646, ()), (262, ()), (774, ()), (518, ()), (10, ()), (26, ()), (58, ()), (122, ()), (250, ()), (506, ()), (762, ()), (378, ()), (890, ()), (634, ()), (186, ()), (442, ()), (954, ()), (698, ()), (314, ()), (826, ()), (570, ()), (90, ()), (218, ()), (474, ())]
theorem fl2_ok : fl2.map fnOk = fl2.map (fun _ => true) := by kernel_rfl
def fl3 : List (Nat × Unit) := [(986, ()), (730, ()), (346, ()), (858, ()), (602, ()), (154, ()), (410, ()), (922, ()), (666, ()), (282, ()), (794, ()), (538, ()), (42, ()), (106, ()), (234, ()), (490, ()), (1002, ()), (746, ()), (362, ()), (874, ()), (618, ()), (170, ()), (426, ()), (938, ()), (682, ()), (298, ()), (810, ()), (554, ()), (74, ()), (202, ()), (458, ()), (970, ()), (714, ()), (330, ()), (842, ()), (586, ()), (138, ()), (394, ()), (906, ()), (650, ()), (266, ()), (778, ()), (522, ()), (18, ()), (50, ()), (114, ()), (242, ()), (498, ())]
theorem fl3_ok : fl3.map fnOk = fl3.map (fun _ => true) := by kernel_rfl
def fl4 : List (Nat × Unit) := [(754, ()), (370, ()), (882, ()), (626, ()), (178, ()), (434, ()), (946, ()), (690, ()), (818, ()), (562, ()), (82, ()), (210, ()), (466, ()), (978, ()), (722, ()), (338, ()), (850, ()), (594, ()), (146, ()), (402, ()), (914, ()), (658, ()), (274, ()), (786, ()), (530, ()), (34, ()), (98, ()), (226, ()), (482, ()), (994, ()), (738, ()), (354, ()), (866, ()), (610, ()), (162, ()), (418, ()), (930, ()), (674, ()), (290, ()), (802, ()), (546, ()), (66, ()), (194, ()), (450, ()), (962, ()), (706, ()), (322, ()), (834, ())]
theorem fl4_ok : fl4.map fnOk = fl4.map (fun _ => true) := by kernel_rfl
def fl5 : List (Nat × Unit) := [(578, ()), (130, ()), (386, ()), (898, ()), (642, ()), (258, ()), (770, ()), (514, ()), (4, ()), (12, ()), (28, ()), (60, ()), (124, ()), (252, ()), (508, ()), (764, ()), (380, ()), (892, ()), (636, ()), (188, ()), (444, ()), (956, ()), (700, ()), (316, ()), (828, ()), (572, ()), (92, ()), (220, ()), (476, ()), (988, ()), (732, ()), (348, ()), (860, ()), (604, ()), (156, ()), (412, ()), (924, ()), (668, ()), (284, ()), (796, ()), (540, ()), (44, ()), (108, ()), (236, ()), (492, ()), (1004, ()), (748, ()), (364, ())]
theorem fl5_ok : fl5.map fnOk = fl5.map (fun _ => true) := by kernel_rfl
def fl6 : List (Nat × Unit) := [(876, ()), (620, ()), (172, ()), (428, ()), (940, ()), (684, ()), (300, ()), (812, ()), (556, ()), (76, ()), (204, ()), (460, ()), (972, ()), (716, ()), (332, ()), (844, ()), (588, ()), (140, ()), (396, ()), (652, ()), (268, ()), (780, ()), (524, ()), (20, ()), (52, ()), (116, ()), (244, ()), (500, ()), (756, ()), (372, ()), (884, ()), (628, ()), (180, ()), (436, ()), (948, ()), (692, ()), (308, ()), (820, ()), (564, ()), (212, ()), (468, ()), (980, ()), (724, ()), (340, ()), (852, ()), (596, ()), (148, ()), (404, ())]
theorem fl6_ok : fl6.map fnOk = fl6.map (fun _ => true) := by kernel_rfl
def fl7 : List (Nat × Unit) := [(916, ()), (660, ()), (276, ()), (788, ()), (532, ()), (36, ()), (100, ()), (228, ()), (484, ()), (996, ()), (740, ()), (356, ()), (868, ()), (612, ()), (164, ()), (420, ()), (932, ()), (676, ()), (292, ()), (804, ()), (548, ()), (68, ()), (196, ()), (452, ()), (964, ()), (708, ()), (324, ()), (836, ()), (580, ()), (132, ()), (388, ()), (900, ()), (644, ()), (260, ()), (772, ()), (516, ()), (8, ()), (24, ()), (56, ()), (120, ()), (248, ()), (504, ()), (760, ()), (376, ()), (888, ()), (632, ()), (184, ()), (440, ())]
theorem fl7_ok : fl7.map fnOk = fl7.map (fun _ => true) := by kernel_rfl
def fl8 : List (Nat × Unit) := [(952, ()), (696, ()), (312, ()), (824, ()), (568, ()), (88, ()), (216, ()), (472, ()), (984, ()), (728, ()), (344, ()), (856, ()), (600, ()), (152, ()), (408, ()), (920, ()), (664, ()), (280, ()), (792, ()), (536, ()), (40, ()), (104, ()), (232, ()), (488, ()), (1000, ()), (744, ()), (360, ()), (872, ()), (616, ()), (168, ()), (424, ()), (936, ()), (680, ()), (296, ()), (808, ()), (552, ()), (72, ()), (200, ()), (456, ()), (968, ()), (712, ()), (328, ()), (840, ()), (584, ()), (136, ()), (392, ()), (904, ()), (648, ())]
theorem fl8_ok : fl8.map fnOk = fl8.map (fun _ => true) := by kernel_rfl
def fl9 : List (Nat × Unit) := [(264, ()), (776, ()), (520, ()), (16, ()), (48, ()), (112, ()), (240, ()), (496, ()), (1008, ()), (752, ()), (368, ()), (880, ()), (624, ()), (176, ()), (432, ()), (944, ()), (688, ()), (304, ()), (816, ()), (560, ()), (80, ()), (208, ()), (464, ()), (976, ()), (720, ()), (336, ()), (848, ()), (592, ()), (144, ()), (400, ()), (912, ()), (656, ()), (272, ()), (784, ()), (528, ()), (32, ()), (96, ()), (224, ()), (480, ()), (736, ()), (352, ()), (864, ()), (608, ()), (160, ()), (416, ()), (928, ()), (672, ()), (288, ())]
theorem fl9_ok : fl9.map fnOk = fl9.map (fun _ => true) := by kernel_rfl
def fl10 : List (Nat × Unit) := [(800, ()), (544, ()), (64, ()), (192, ()), (448, ()), (960, ()), (704, ()), (320, ()), (832, ()), (576, ()), (128, ()), (384, ()), (896, ()), (640, ()), (256, ()), (768, ()), (512, ()), (5, ()), (13, ()), (29, ()), (61, ()), (125, ()), (253, ()), (509, ()), (765, ()), (381, ()), (893, ()), (637, ()), (189, ()), (445, ()), (957, ()), (701, ()), (317, ()), (829, ()), (573, ()), (93, ()), (221, ()), (477, ()), (989, ()), (733, ()), (349, ()), (861, ()), (605, ()), (157, ()), (413, ()), (925, ()), (669, ()), (285, ())]
theorem fl10_ok : fl10.map fnOk = fl10.map (fun _ => true) := by kernel_rfl
def fl11 : List (Nat × Unit) := [(797, ()), (541, ()), (45, ()), (109, ()), (237, ()), (493, ()), (1005, ()), (749, ()), (365, ()), (877, ()), (621, ()), (173, ()), (429, ()), (941, ()), (685, ()), (301, ()), (813, ()), (557, ()), (77, ()), (205, ()), (461, ()), (973, ()), (717, ()), (333, ()), (845, ()), (589, ()), (141, ()), (397, ()), (909, ()), (653, ()), (269, ()), (781, ()), (525, ()), (21, ()), (53, ()), (117, ()), (245, ()), (501, ()), (757, ()), (373, ()), (885, ()), (629, ()), (181, ()), (437, ()), (949, ()), (693, ()), (309, ()), (821, ())]
theorem fl11_ok : fl11.map fnOk = fl11.map (fun _ => true) := by kernel_rfl
def fl12 : List (Nat × Unit) := [(565, ()), (85, ()), (213, ()), (469, ()), (981, ()), (725, ()), (341, ()), (853, ()), (597, ()), (149, ()), (405, ()), (661, ()), (277, ()), (789, ()), (533, ()), (37, ()), (101, ()), (229, ()), (485, ()), (997, ()), (741, ()), (357, ()), (869, ()), (613, ()), (165, ()), (421, ()), (933, ()), (677, ()), (293, ()), (805, ()), (549, ()), (69, ()), (197, ()), (453, ()), (965, ()), (709, ()), (325, ()), (837, ()), (581, ()), (133, ()), (389, ()), (901, ()), (645, ()), (261, ()), (773, ()), (517, ()), (9, ()), (25, ())]
theorem fl12_ok : fl12.map fnOk = fl12.map (fun _ => true) := by kernel_rfl
def fl13 : List (Nat × Unit) := [(57, ()), (121, ()), (249, ()), (505, ()), (761, ()), (377, ()), (889, ()), (633, ()), (185, ()), (441, ()), (953, ()), (697, ()), (313, ()), (825, ()), (569, ()), (89, ()), (217, ()), (473, ()), (985, ()), (729, ()), (345, ()), (857, ()), (601, ()), (153, ()), (409, ()), (921, ()), (665, ()), (281, ()), (793, ()), (537, ()), (41, ()), (105, ()), (233, ()), (489, ()), (1001, ()), (745, ()), (361, ()), (873, ()), (617, ()), (169, ()), (425, ()), (937, ()), (681, ()), (297, ()), (809, ()), (553, ()), (73, ()), (201, ())]
theorem fl13_ok : fl13.map fnOk = fl13.map (fun _ => true) := by kernel_rfl
def fl14 : List (Nat × Unit) := [(457, ()), (969, ()), (713, ()), (329, ()), (841, ()), (585, ()), (137, ()), (393, ()), (649, ()), (265, ()), (777, ()), (521, ()), (17, ()), (49, ()), (113, ()), (241, ()), (497, ()), (753, ()), (369, ()), (881, ()), (625, ()), (177, ()), (433, ()), (945, ()), (689, ()), (305, ()), (817, ()), (561, ()), (81, ()), (209, ()), (465, ()), (977, ()), (721, ()), (337, ()), (849, ()), (593, ()), (145, ()), (401, ()), (913, ()), (657, ()), (273, ()), (785, ()), (529, ()), (33, ()), (97, ()), (225, ()), (481, ()), (993, ())]
theorem fl14_ok : fl14.map fnOk = fl14.map (fun _ => true) := by kernel_rfl
def fl15 : List (Nat × Unit) := [(737, ()), (353, ()), (865, ()), (609, ()), (161, ()), (417, ()), (929, ()), (673, ()), (289, ()), (801, ()), (545, ()), (65, ()), (193, ()), (449, ()), (961, ()), (705, ()), (321, ()), (833, ()), (577, ()), (129, ()), (385, ()), (897, ()), (641, ()), (257, ()), (769, ()), (513, ()), (3, ()), (11, ()), (27, ()), (59, ()), (123, ()), (251, ()), (507, ()), (763, ()), (379, ()), (891, ()), (635, ()), (187, ()), (443, ()), (955, ()), (699, ()), (315, ()), (827, ()), (571, ()), (91, ()), (219, ()), (475, ()), (987, ())]
theorem fl15_ok : fl15.map fnOk = fl15.map (fun _ => true) := by kernel_rfl
def fl16 : List (Nat × Unit) := [(731, ()), (347, ()), (859, ()), (603, ()), (155, ()), (411, ()), (923, ()), (667, ()), (283, ()), (795, ()), (539, ()), (43, ()), (107, ()), (235, ()), (491, ()), (1003, ()), (747, ()), (363, ()), (875, ()), (619, ()), (171, ()), (427, ()), (939, ()), (683, ()), (299, ()), (811, ()), (75, ()), (203, ()), (459, ()), (971, ()), (715, ()), (331, ()), (843, ()), (587, ()), (139, ()), (395, ()), (907, ()), (651, ()), (267, ()), (779, ()), (523, ()), (19, ()), (51, ()), (115, ()), (243, ()), (499, ()), (755, ()), (371, ())]
theorem fl16_ok : fl16.map fnOk = fl16.map (fun _ => true) := by kernel_rfl
def fl17 : List (Nat × Unit) := [(883, ()), (627, ()), (179, ()), (435, ()), (947, ()), (691, ()), (307, ()), (819, ()), (563, ()), (83, ()), (211, ()), (467, ()), (979, ()), (723, ()), (339, ()), (851, ()), (595, ()), (147, ()), (403, ()), (915, ()), (659, ()), (275, ()), (787, ()), (531, ()), (35, ()), (99, ()), (227, ()), (483, ()), (995, ()), (739, ()), (355, ()), (867, ()), (611, ()), (163, ()), (419, ()), (931, ()), (675, ()), (291, ()), (803, ()), (547, ()), (67, ()), (195, ()), (451, ()), (707, ()), (323, ()), (835, ()), (579, ()), (131, ())]
theorem fl17_ok : fl17.map fnOk = fl17.map (fun _ => true) := by kernel_rfl
def fl18 : List (Nat × Unit) := [(387, ()), (899, ()), (643, ()), (259, ()), (771, ()), (515, ()), (7, ()), (23, ()), (55, ()), (119, ()), (247, ()), (503, ()), (759, ()), (375, ()), (887, ()), (631, ()), (183, ()), (439, ()), (951, ()), (695, ()), (311, ()), (823, ()), (567, ()), (87, ()), (215, ()), (471, ()), (983, ()), (727, ()), (343, ()), (855, ()), (599, ()), (151, ()), (407, ()), (919, ()), (663, ()), (279, ()), (791, ()), (535, ()), (39, ()), (103, ()), (231, ()), (487, ()), (999, ()), (743, ()), (359, ()), (871, ()), (615, ()), (167, ())]
theorem fl18_ok : fl18.map fnOk = fl18.map (fun _ => true) := by kernel_rfl
def fl19 : List (Nat × Unit) := [(423, ()), (935, ()), (679, ()), (295, ()), (807, ()), (551, ()), (71, ()), (199, ()), (455, ()), (967, ()), (711, ()), (327, ()), (839, ()), (583, ()), (135, ()), (391, ()), (903, ()), (647, ()), (263, ()), (775, ()), (519, ()), (15, ()), (47, ()), (111, ()), (239, ()), (495, ()), (1007, ()), (751, ()), (367, ()), (879, ()), (623, ()), (175, ()), (431, ()), (943, ()), (687, ()), (303, ()), (815, ()), (559, ()), (79, ()), (207, ()), (463, ()), (975, ()), (719, ()), (335, ()), (847, ()), (591, ()), (143, ()), (399, ())]
theorem fl19_ok : fl19.map fnOk = fl19.map (fun _ => true) := by kernel_rfl
def fl20 : List (Nat × Unit) := [(911, ()), (655, ()), (271, ()), (783, ()), (527, ()), (31, ()), (95, ()), (223, ()), (479, ()), (991, ()), (735, ()), (351, ()), (863, ()), (607, ()), (159, ()), (415, ()), (927, ()), (671, ()), (287, ()), (799, ()), (543, ()), (63, ()), (191, ()), (447, ()), (959, ()), (703, ()), (319, ()), (831, ()), (575, ()), (127, ()), (383, ()), (895, ()), (639, ()), (255, ()), (767, ()), (511, ())]
theorem fl20_ok : fl20.map fnOk = fl20.map (fun _ => true) := by kernel_rfl
theorem fn_list : tab.fn.list = fl0 ++ fl1 ++ fl2 ++ fl3 ++ fl4 ++ fl5 ++ fl6 ++ fl7 ++ fl8 ++ fl9 ++ fl10 ++ fl11 ++ fl12 ++ fl13 ++ fl14 ++ fl15 ++ fl16 ++ fl17 ++ fl18 ++ fl19 ++ fl20 := by kernel_rfl
theorem tab_fn : tab.fn.list.map (fun x => match Tryz.prog.funcs[x.1]? with | some f => !(f.name == "runtime.NumGoroutine" || f.body.isNone) | none => false) = tab.fn.list.map (fun _ => true) := by
  show tab.fn.list.map fnOk = _
  rw [fn_list]
  simp only [List.map_append, fl0_ok, fl1_ok, fl2_ok, fl3_ok, fl4_ok, fl5_ok, fl6_ok, fl7_ok, fl8_ok, fl9_ok, fl10_ok, fl11_ok, fl12_ok, fl13_ok, fl14_ok, fl15_ok, fl16_ok, fl17_ok, fl18_ok, fl19_ok, fl20_ok]
theorem tab_idf (g : Nat) (u : Unit) (h : tab.idf.get g = some u) (v : Value) (w : World) : (callFunc g #[v]).run Tryz.prog w = .ok (.value v) w := by
  have hm := T.mem_list h
  rw [show tab.idf.list = [(917, ())] from by kernel_rfl] at hm
  simp at hm; subst hm; rfl
theorem tab_mnz (g : Nat) (e : TypeId) (h : tab.mnz.get g = some e) (m : Nat) (w : World) (hm : m ≤ 281474976710656) : ∃ cs : Array Value, (callFunc g #[.int .i64 m]).run Tryz.prog w = .ok (.value (.slice (some ⟨w.heap.size, 0, none⟩) m cs.size)) (w.drew.drew.alloc (.cells cs e)) ∧ m ≤ cs.size ∧ cs.size ≤ maxLen := by
  have hx := T.mem_list h
  rw [show tab.mnz.list = [] from by kernel_rfl] at hx
  simp at hx
theorem tab_ovl (g : Nat) (u : Unit) (h : tab.ovl.get g = some u) (w : World) (a b o p m c q d : Nat) (x y : Array Value) (tA tB : TypeId) (f1 f2 : Nat × Nat) (ha : w.heap[a]? = some (.cells x tA f1)) (hb : w.heap[b]? = some (.cells y tB f2)) (hne : a ≠ b) (hy : y.size ≠ 0) (hf : ∀ j, w.frozen? ⟨a, j, none⟩ = false) :
    (callFunc g #[.slice (some ⟨a, o, none⟩) m c, .slice (some ⟨b, p, none⟩) q d]).run Tryz.prog w = .ok (.value (.bool false)) w := by
  have hx := T.mem_list h
  rw [show tab.ovl.list = [(910, ()), (908, ()), (84, ()), (905, ()), (555, ())] from by kernel_rfl] at hx
  simp only [List.mem_cons, Prod.mk.injEq, List.not_mem_nil, or_false] at hx
  rcases hx with ⟨rfl, _⟩ | ⟨rfl, _⟩ | ⟨rfl, _⟩ | ⟨rfl, _⟩ | ⟨rfl, _⟩
  · rw [run_callFunc_extern Tryz.func910 (by kernel_rfl) (by kernel_rfl) (by kernel_rfl) (e := Extern.SlicesOverlaps.overlaps #[845, 845] #[4]) (by kernel_rfl),
      Lib.run_overlaps_apart w 845 4 762 Tryz.underlying845 1 Tryz.sizeOf762 ⟨a, o, none⟩ ⟨b, p, none⟩ m c q d hne tA tB x.size y.size (by unfold World.shape?; rw [ha]) (by unfold World.shape?; rw [hb]) hy (hf o) (hf x.size)]
    rfl
  · rw [run_callFunc_extern Tryz.func908 (by kernel_rfl) (by kernel_rfl) (by kernel_rfl) (e := Extern.SlicesOverlaps.overlaps #[39, 39] #[4]) (by kernel_rfl),
      Lib.run_overlaps_apart w 39 4 9 Tryz.underlying39 1 Tryz.sizeOf9 ⟨a, o, none⟩ ⟨b, p, none⟩ m c q d hne tA tB x.size y.size (by unfold World.shape?; rw [ha]) (by unfold World.shape?; rw [hb]) hy (hf o) (hf x.size)]
    rfl
  · rw [run_callFunc_extern Tryz.func84 (by kernel_rfl) (by kernel_rfl) (by kernel_rfl) (e := Extern.SlicesOverlaps.overlaps #[34, 34] #[4]) (by kernel_rfl),
      Lib.run_overlaps_apart w 34 4 45 Tryz.underlying34 25 Tryz.sizeOf45 ⟨a, o, none⟩ ⟨b, p, none⟩ m c q d hne tA tB x.size y.size (by unfold World.shape?; rw [ha]) (by unfold World.shape?; rw [hb]) hy (hf o) (hf x.size)]
    rfl
  · rw [run_callFunc_extern Tryz.func905 (by kernel_rfl) (by kernel_rfl) (by kernel_rfl) (e := Extern.SlicesOverlaps.overlaps #[118, 118] #[4]) (by kernel_rfl),
      Lib.run_overlaps_apart w 118 4 3 Tryz.underlying118 1 Tryz.sizeOf3 ⟨a, o, none⟩ ⟨b, p, none⟩ m c q d hne tA tB x.size y.size (by unfold World.shape?; rw [ha]) (by unfold World.shape?; rw [hb]) hy (hf o) (hf x.size)]
    rfl
  · rw [run_callFunc_extern Tryz.func555 (by kernel_rfl) (by kernel_rfl) (by kernel_rfl) (e := Extern.SlicesOverlaps.overlaps #[22, 22] #[4]) (by kernel_rfl),
      Lib.run_overlaps_apart w 22 4 38 Tryz.underlying22 5 Tryz.sizeOf38 ⟨a, o, none⟩ ⟨b, p, none⟩ m c q d hne tA tB x.size y.size (by unfold World.shape?; rw [ha]) (by unfold World.shape?; rw [hb]) hy (hf o) (hf x.size)]
    rfl
theorem tab_ext (g : Nat) (F : List Value → Option Value) (h : tab.ext.get g = some F) (vs : List Value) (v : Value) (hF : F vs = some v) (w : World) : (callFunc g vs.toArray).run Tryz.prog w = .ok (.value v) w := by
  have hx := T.mem_list h
  rw [show tab.ext.list = [(306, ex306)] from by kernel_rfl] at hx
  simp only [List.mem_cons, Prod.mk.injEq, List.not_mem_nil, or_false] at hx
  rcases hx with ⟨rfl, rfl⟩
  · rw [run_callFunc_extern Tryz.func306 (by kernel_rfl) (by kernel_rfl) (by kernel_rfl) (e := Extern.BytealgCompare.compare) (by kernel_rfl), pureVal_run _ _ hF w]
    rfl
theorem tab_ok {w : World} (hg : Gl w) : TOk Tryz.prog tab w := ⟨tab_ty, tab_fn, by kernel_rfl, tab_idf, hg, tab_mnz, tab_ovl, tab_ext⟩
end Go.Proofs.YtinebnlhelfjcaaGreatDoor
