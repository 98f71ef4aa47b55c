/-
  Several texts in one.
-/
import Derived.Test.YtojiieghjhjoaaaGreatKN43
import Derived.BigRegion
set_option linter.unusedVariables false
set_option linter.unusedSimpArgs false
namespace Go.Proofs.YtojiieghjhjoaaaGreat
open Go.RowKit Go.MapKept Go.Shelf
open Go.Lib hiding intOf

set_option maxRecDepth 100000 in
set_option maxHeartbeats 32000000 in
theorem draw_37 (w V : World) (k36 m0 k26 m1 k24 m2 k21 k2 m3 k1 b2 b21 b36 : Nat) (v : Pth) (self : Pr) (x24 x26 : Atr) (HL : Hid (Led w V [Ent.box k36 self.ar 40, Ent.fact m0 (fun W => AtrOk W x26), Ent.box k26 x26.ar 33, Ent.fact m1 (fun W => AtrOk W x24), Ent.box k24 x24.ar 33, Ent.fact m2 (fun W => PthOk W v), Ent.box k21 v.ar 37, Ent.box k2 (mkPth 2 b2).ar 37, Ent.fact m3 (fun W => PthOk W (mkPth 2 b2)), Ent.box k1 g0.ar 49])) (hV : v = pv6 (mkPth 2 b21)) (hSELF : self = { (mkPr ⟨#[99]⟩ 65000 b36) with selfNext := true }) (hX24 : x24.c = c26) (hX26 : x26.c = c27) (u0 u3 u4 u5 u6 u7 u8 u9 u10 u11 u12 u13 u14 u15 u16 u17 u18 u19 u20 u22 u23 u28 u29 u31 u32 u34 u37 u38 u39 u40 u41 u42 u43 u44 u45 u46 u47 u48 u49 u50 u51 u52 u53 u54 u55 u56 u57 u58 u59 u60 u61 u62 u63 u64 u65 u66 u67 u68 u69 u70 u71 u72 u73 u74 u75 u76 u77 u78 u79 u80 u81 u82 u83 u84 u85 u86 u87 u88 u89 u90 u91 u92 u93 u94 u95 u96 u97 u98 u99 u100 u101 u102 u103 u104 u105 u106 u107 u108 u109 u110 u111 u112 u113 u114 u115 u116 u117 u118 u119 u120 u121 u122 u123 u124 u125 u126 u127 u128 u129 u130 u131 u132 u133 u134 u135 u136 u137 u138 u139 u140 u141 u142 u143 u144 u145 u146 u147 u148 u149 u150 u151 u152 u153 u154 u155 u156 u157 u158 u159 u160 u161 u162 u163 u164 u165 u166 u167 u168 u169 u170 u171 u172 u173 u174 u175 u176 u177 u178 u179 u180 u181 u182 u183 u184 u185 u186 u187 u188 u189 u190 u191 u192 u193 u194 u195 u196 u197 u198 u199 u200 u201 u202 u203 u204 u205 u206 u207 u208 u209 u210 u211 u212 u213 u214 u215 u216 u217 u218 u219 u220 u221 u222 u223 u224 u225 u226 u227 u228 u229 u230 u231 u232 u233 u234 u235 u236 u237 u238 u239 u240 u241 u242 u243 u244 u245 u246 u247 u248 u249 u250 u251 u252 u253 u254 u255 u256 u257 u258 u259 u260 u261 u262 u263 u264 u265 u266 u267 u268 u269 u270 u271 u272 u273 u274 u275 : Value) (QQ : Exit → Act → World → Prop) (hQQ : QQ = fun e a' w' => e = .normal ∧ ∃ (d203 d204 d205 d206 d207 d208 d209 d210 d211 d212 d213 d214 d215 d216 d217 d218 d219 d220 d221 d222 d223 d224 d225 d226 d227 d228 d229 d230 d231 d232 d233 d234 d235 d236 d237 d238 d239 d240 d241 d242 d243 d244 d245 d246 d247 d248 d249 d250 d251 d252 d253 d254 d255 d256 d257 d258 d259 d260 d261 d262 d263 d264 d265 d266 d267 d268 d269 d270 d271 d272 d273 d274 d275 : Value), a' = { tmps := #[.bool true, .pointer (some ⟨k1, 0, none⟩), .pointer (some ⟨k2, 0, none⟩), u3, u4, u5, u6, u7, u8, u9, u10, u11, u12, u13, u14, u15, u16, u17, u18, u19, u20, .pointer (some ⟨k21, 0, none⟩), u22, u23, .pointer (some ⟨k24, 0, none⟩), .bool true, .pointer (some ⟨k26, 0, none⟩), .bool true, u28, u29, .bool false, u31, u32, .int .i64 3, u34, .int .i64 2, .pointer (some ⟨k36, 0, none⟩), u37, u38, u39, u40, u41, u42, u43, u44, u45, u46, u47, u48, u49, u50, u51, u52, u53, u54, u55, u56, u57, u58, u59, u60, u61, u62, u63, u64, u65, u66, u67, u68, u69, u70, u71, u72, u73, u74, u75, u76, u77, u78, u79, u80, u81, u82, u83, u84, u85, u86, u87, u88, u89, u90, u91, u92, u93, u94, u95, u96, u97, u98, u99, u100, u101, u102, u103, u104, u105, u106, u107, u108, u109, u110, u111, u112, u113, u114, u115, u116, u117, u118, u119, u120, u121, u122, u123, u124, u125, u126, u127, u128, u129, u130, u131, u132, u133, u134, u135, u136, u137, u138, u139, u140, u141, u142, u143, u144, u145, u146, u147, u148, u149, u150, u151, u152, u153, u154, u155, u156, u157, u158, u159, u160, u161, u162, u163, u164, u165, u166, u167, u168, u169, u170, u171, u172, u173, u174, u175, u176, u177, u178, u179, u180, u181, u182, u183, u184, u185, u186, u187, u188, u189, u190, u191, u192, u193, u194, u195, u196, u197, u198, u199, u200, u201, u202, d203, d204, d205, d206, d207, d208, d209, d210, d211, d212, d213, d214, d215, d216, d217, d218, d219, d220, d221, d222, d223, d224, d225, d226, d227, d228, d229, d230, d231, d232, d233, d234, d235, d236, d237, d238, d239, d240, d241, d242, d243, d244, d245, d246, d247, d248, d249, d250, d251, d252, d253, d254, d255, d256, d257, d258, d259, d260, d261, d262, d263, d264, d265, d266, d267, d268, d269, d270, d271, d272, d273, d274, d275], defers := [] } ∧ Hid (Below w.heap.size w w')) :
    (Code.region 37 ([{ dst := some 203, op := Op.move (Operand.const (Value.bool true)), type := 4, pos := "outright.go:146", after := #[], guard := none }, { dst := some 204, op := Op.call { callee := Callee.value (Operand.func 14), args := #[], argTypes := #[] }, type := 4, pos := "outright.go:146", after := #[{ on := 0, ground := Ground.chain }, { on := 0, ground := Ground.guard }], guard := some (0, true) }, { dst := some 205, op := Op.pick (Operand.tmp 203) (Operand.tmp 204) (Operand.const (Value.bool false)), type := 4, pos := "outright.go:146", after := #[{ on := 0, ground := Ground.data }, { on := 1, ground := Ground.data }], guard := none }, { dst := some 206, op := Op.move (Operand.tmp 205), type := 4, pos := "outright.go:146", after := #[{ on := 2, ground := Ground.data }, { on := 1, ground := Ground.chain }], guard := none }, { dst := some 207, op := Op.load 49 (Operand.tmp 1), type := 49, pos := "outright.go:146", after := #[{ on := 3, ground := Ground.guard }], guard := some (3, true) }, { dst := some 208, op := Op.load 37 (Operand.tmp 21), type := 37, pos := "outright.go:146", after := #[{ on := 3, ground := Ground.guard }], guard := some (3, true) }, { dst := some 209, op := Op.call { callee := Callee.value (Operand.func 23), args := #[Operand.const (Value.string { data := #[98] }), Operand.const (Value.int IntKind.u32 65002)], argTypes := #[9, 22] }, type := 40, pos := "outright.go:146", after := #[{ on := 3, ground := Ground.chain }, { on := 3, ground := Ground.guard }], guard := some (3, true) }, { dst := some 210, op := Op.call { callee := Callee.value (Operand.func 18), args := #[Operand.tmp 207, Operand.tmp 208, Operand.tmp 209], argTypes := #[49, 37, 40] }, type := 9, pos := "outright.go:146", after := #[{ on := 4, ground := Ground.data }, { on := 5, ground := Ground.data }, { on := 6, ground := Ground.data }, { on := 6, ground := Ground.chain }, { on := 3, ground := Ground.guard }], guard := some (3, true) }, { dst := some 211, op := Op.binOp BinOp.eql 9 (Operand.tmp 210) (Operand.const (Value.string { data := #[0, 0, 0, 0, 0, 0, 0, 0, 0, 0, 255, 255, 10, 0, 0, 1] })) 9, type := 4, pos := "outright.go:146", after := #[{ on := 7, ground := Ground.data }, { on := 3, ground := Ground.guard }], guard := some (3, true) }, { dst := some 212, op := Op.pick (Operand.tmp 206) (Operand.tmp 211) (Operand.const (Value.bool false)), type := 4, pos := "outright.go:146", after := #[{ on := 3, ground := Ground.data }, { on := 8, ground := Ground.data }], guard := none }, { dst := some 213, op := Op.move (Operand.tmp 212), type := 4, pos := "outright.go:146", after := #[{ on := 9, ground := Ground.data }, { on := 7, ground := Ground.chain }], guard := none }, { dst := some 214, op := Op.load 49 (Operand.tmp 1), type := 49, pos := "outright.go:146", after := #[{ on := 10, ground := Ground.guard }], guard := some (10, true) }, { dst := some 215, op := Op.load 37 (Operand.tmp 2), type := 37, pos := "outright.go:146", after := #[{ on := 10, ground := Ground.guard }], guard := some (10, true) }, { dst := some 216, op := Op.load 40 (Operand.tmp 36), type := 40, pos := "outright.go:146", after := #[{ on := 10, ground := Ground.guard }], guard := some (10, true) }, { dst := some 217, op := Op.call { callee := Callee.value (Operand.func 18), args := #[Operand.tmp 214, Operand.tmp 215, Operand.tmp 216], argTypes := #[49, 37, 40] }, type := 9, pos := "outright.go:146", after := #[{ on := 11, ground := Ground.data }, { on := 12, ground := Ground.data }, { on := 13, ground := Ground.data }, { on := 10, ground := Ground.chain }, { on := 10, ground := Ground.guard }], guard := some (10, true) }, { dst := some 218, op := Op.binOp BinOp.eql 9 (Operand.tmp 217) (Operand.const (Value.string { data := #[10, 0, 0, 1] })) 9, type := 4, pos := "outright.go:146", after := #[{ on := 14, ground := Ground.data }, { on := 10, ground := Ground.guard }], guard := some (10, true) }, { dst := some 219, op := Op.pick (Operand.tmp 213) (Operand.tmp 218) (Operand.const (Value.bool false)), type := 4, pos := "outright.go:146", after := #[{ on := 10, ground := Ground.data }, { on := 15, ground := Ground.data }], guard := none }, { dst := some 220, op := Op.move (Operand.tmp 219), type := 4, pos := "outright.go:146", after := #[{ on := 16, ground := Ground.data }, { on := 14, ground := Ground.chain }], guard := none }, { dst := some 221, op := Op.build 49 #[], type := 49, pos := "outright.go:146", after := #[{ on := 17, ground := Ground.guard }], guard := some (17, true) }, { dst := some 222, op := Op.load 37 (Operand.tmp 2), type := 37, pos := "outright.go:146", after := #[{ on := 17, ground := Ground.guard }], guard := some (17, true) }, { dst := some 223, op := Op.call { callee := Callee.value (Operand.func 23), args := #[Operand.const (Value.string { data := #[98] }), Operand.const (Value.int IntKind.u32 1)], argTypes := #[9, 22] }, type := 40, pos := "outright.go:146", after := #[{ on := 17, ground := Ground.chain }, { on := 17, ground := Ground.guard }], guard := some (17, true) }, { dst := some 224, op := Op.call { callee := Callee.value (Operand.func 18), args := #[Operand.tmp 221, Operand.tmp 222, Operand.tmp 223], argTypes := #[49, 37, 40] }, type := 9, pos := "outright.go:146", after := #[{ on := 18, ground := Ground.data }, { on := 19, ground := Ground.data }, { on := 20, ground := Ground.data }, { on := 20, ground := Ground.chain }, { on := 17, ground := Ground.guard }], guard := some (17, true) }, { dst := some 225, op := Op.binOp BinOp.eql 9 (Operand.tmp 224) (Operand.const (Value.string { data := #[] })) 9, type := 4, pos := "outright.go:146", after := #[{ on := 21, ground := Ground.data }, { on := 17, ground := Ground.guard }], guard := some (17, true) }, { dst := some 226, op := Op.pick (Operand.tmp 220) (Operand.tmp 225) (Operand.const (Value.bool false)), type := 4, pos := "outright.go:146", after := #[{ on := 17, ground := Ground.data }, { on := 22, ground := Ground.data }], guard := none }, { dst := some 227, op := Op.move (Operand.tmp 226), type := 4, pos := "outright.go:146", after := #[{ on := 23, ground := Ground.data }, { on := 21, ground := Ground.chain }], guard := none }, { dst := some 228, op := Op.move (Operand.tmp 25), type := 4, pos := "outright.go:146", after := #[{ on := 24, ground := Ground.guard }], guard := some (24, true) }, { dst := some 229, op := Op.pick (Operand.tmp 227) (Operand.tmp 228) (Operand.const (Value.bool false)), type := 4, pos := "outright.go:146", after := #[{ on := 24, ground := Ground.data }, { on := 25, ground := Ground.data }], guard := none }, { dst := some 230, op := Op.move (Operand.tmp 229), type := 4, pos := "outright.go:146", after := #[{ on := 26, ground := Ground.data }, { on := 24, ground := Ground.chain }], guard := none }, { dst := some 231, op := Op.fieldAddr 33 (Operand.tmp 24) 1, type := 0, pos := "outright.go:146", after := #[{ on := 27, ground := Ground.guard }], guard := some (27, true) }, { dst := some 232, op := Op.load 28 (Operand.tmp 231), type := 28, pos := "outright.go:146", after := #[{ on := 28, ground := Ground.data }, { on := 27, ground := Ground.guard }], guard := some (27, true) }, { dst := some 233, op := Op.buildSlice 29 1 #[(0, Operand.const (Value.int IntKind.u32 65000))], type := 29, pos := "outright.go:146", after := #[{ on := 27, ground := Ground.guard }], guard := some (27, true) }, { dst := some 234, op := Op.build 67 #[(0, Operand.const (Value.int IntKind.i64 3)), (1, Operand.tmp 233)], type := 67, pos := "outright.go:146", after := #[{ on := 30, ground := Ground.data }, { on := 27, ground := Ground.guard }], guard := some (27, true) }, { dst := some 235, op := Op.buildSlice 29 1 #[(0, Operand.const (Value.int IntKind.u32 65001))], type := 29, pos := "outright.go:146", after := #[{ on := 27, ground := Ground.guard }], guard := some (27, true) }, { dst := some 236, op := Op.build 67 #[(0, Operand.const (Value.int IntKind.i64 2)), (1, Operand.tmp 235)], type := 67, pos := "outright.go:146", after := #[{ on := 32, ground := Ground.data }, { on := 27, ground := Ground.guard }], guard := some (27, true) }, { dst := some 237, op := Op.buildSlice 28 2 #[(0, Operand.tmp 234), (1, Operand.tmp 236)], type := 28, pos := "outright.go:146", after := #[{ on := 31, ground := Ground.data }, { on := 33, ground := Ground.data }, { on := 27, ground := Ground.guard }], guard := some (27, true) }, { dst := some 238, op := Op.call { callee := Callee.value (Operand.func 24), args := #[Operand.tmp 232, Operand.tmp 237], argTypes := #[28, 28] }, type := 4, pos := "outright.go:146", after := #[{ on := 29, ground := Ground.data }, { on := 34, ground := Ground.data }, { on := 27, ground := Ground.chain }, { on := 27, ground := Ground.guard }], guard := some (27, true) }, { dst := some 239, op := Op.pick (Operand.tmp 230) (Operand.tmp 238) (Operand.const (Value.bool false)), type := 4, pos := "outright.go:146", after := #[{ on := 27, ground := Ground.data }, { on := 35, ground := Ground.data }], guard := none }, { dst := some 240, op := Op.move (Operand.tmp 239), type := 4, pos := "outright.go:146", after := #[{ on := 36, ground := Ground.data }, { on := 35, ground := Ground.chain }], guard := none }, { dst := some 241, op := Op.fieldAddr 33 (Operand.tmp 24) 6, type := 0, pos := "outright.go:146", after := #[{ on := 37, ground := Ground.guard }], guard := some (37, true) }, { dst := some 242, op := Op.load 22 (Operand.tmp 241), type := 22, pos := "outright.go:146", after := #[{ on := 38, ground := Ground.data }, { on := 37, ground := Ground.guard }], guard := some (37, true) }, { dst := some 243, op := Op.binOp BinOp.eql 22 (Operand.tmp 242) (Operand.const (Value.int IntKind.u32 100)) 22, type := 4, pos := "outright.go:146", after := #[{ on := 39, ground := Ground.data }, { on := 37, ground := Ground.guard }], guard := some (37, true) }, { dst := some 244, op := Op.pick (Operand.tmp 240) (Operand.tmp 243) (Operand.const (Value.bool false)), type := 4, pos := "outright.go:146", after := #[{ on := 37, ground := Ground.data }, { on := 40, ground := Ground.data }], guard := none }, { dst := some 245, op := Op.move (Operand.tmp 244), type := 4, pos := "outright.go:146", after := #[{ on := 41, ground := Ground.data }, { on := 37, ground := Ground.chain }], guard := none }, { dst := some 246, op := Op.move (Operand.tmp 27), type := 4, pos := "outright.go:146", after := #[{ on := 42, ground := Ground.guard }], guard := some (42, true) }, { dst := some 247, op := Op.pick (Operand.tmp 245) (Operand.tmp 246) (Operand.const (Value.bool false)), type := 4, pos := "outright.go:146", after := #[{ on := 42, ground := Ground.data }, { on := 43, ground := Ground.data }], guard := none }, { dst := some 248, op := Op.move (Operand.tmp 247), type := 4, pos := "outright.go:146", after := #[{ on := 44, ground := Ground.data }, { on := 42, ground := Ground.chain }], guard := none }, { dst := some 249, op := Op.fieldAddr 33 (Operand.tmp 26) 1, type := 0, pos := "outright.go:146", after := #[{ on := 45, ground := Ground.guard }], guard := some (45, true) }, { dst := some 250, op := Op.load 28 (Operand.tmp 249), type := 28, pos := "outright.go:146", after := #[{ on := 46, ground := Ground.data }, { on := 45, ground := Ground.guard }], guard := some (45, true) }, { dst := some 251, op := Op.call { callee := Callee.builtin Builtin.len, args := #[Operand.tmp 250], argTypes := #[28] }, type := 3, pos := "outright.go:146", after := #[{ on := 47, ground := Ground.data }, { on := 45, ground := Ground.guard }], guard := some (45, true) }, { dst := some 252, op := Op.binOp BinOp.eql 3 (Operand.tmp 251) (Operand.const (Value.int IntKind.i64 1)) 3, type := 4, pos := "outright.go:146", after := #[{ on := 48, ground := Ground.data }, { on := 45, ground := Ground.guard }], guard := some (45, true) }, { dst := some 253, op := Op.pick (Operand.tmp 248) (Operand.tmp 252) (Operand.const (Value.bool false)), type := 4, pos := "outright.go:146", after := #[{ on := 45, ground := Ground.data }, { on := 49, ground := Ground.data }], guard := none }, { dst := some 254, op := Op.move (Operand.tmp 253), type := 4, pos := "outright.go:146", after := #[{ on := 50, ground := Ground.data }, { on := 45, ground := Ground.chain }], guard := none }, { dst := some 255, op := Op.fieldAddr 33 (Operand.tmp 26) 1, type := 0, pos := "outright.go:146", after := #[{ on := 51, ground := Ground.guard }], guard := some (51, true) }, { dst := some 256, op := Op.load 28 (Operand.tmp 255), type := 28, pos := "outright.go:146", after := #[{ on := 52, ground := Ground.data }, { on := 51, ground := Ground.guard }], guard := some (51, true) }, { dst := some 257, op := Op.indexAddr 28 (Operand.tmp 256) (Operand.const (Value.int IntKind.i64 0)), type := 0, pos := "outright.go:146", after := #[{ on := 53, ground := Ground.data }, { on := 51, ground := Ground.guard }], guard := some (51, true) }, { dst := some 258, op := Op.fieldAddr 67 (Operand.tmp 257) 1, type := 0, pos := "outright.go:146", after := #[{ on := 54, ground := Ground.data }, { on := 51, ground := Ground.guard }], guard := some (51, true) }, { dst := some 259, op := Op.load 29 (Operand.tmp 258), type := 29, pos := "outright.go:146", after := #[{ on := 55, ground := Ground.data }, { on := 51, ground := Ground.guard }], guard := some (51, true) }, { dst := some 260, op := Op.indexAddr 29 (Operand.tmp 259) (Operand.const (Value.int IntKind.i64 0)), type := 0, pos := "outright.go:146", after := #[{ on := 56, ground := Ground.data }, { on := 51, ground := Ground.guard }], guard := some (51, true) }, { dst := some 261, op := Op.load 22 (Operand.tmp 260), type := 22, pos := "outright.go:146", after := #[{ on := 57, ground := Ground.data }, { on := 51, ground := Ground.guard }], guard := some (51, true) }, { dst := some 262, op := Op.binOp BinOp.eql 22 (Operand.tmp 261) (Operand.const (Value.int IntKind.u32 100)) 22, type := 4, pos := "outright.go:146", after := #[{ on := 58, ground := Ground.data }, { on := 51, ground := Ground.guard }], guard := some (51, true) }, { dst := some 263, op := Op.pick (Operand.tmp 254) (Operand.tmp 262) (Operand.const (Value.bool false)), type := 4, pos := "outright.go:146", after := #[{ on := 51, ground := Ground.data }, { on := 59, ground := Ground.data }], guard := none }, { dst := some 264, op := Op.move (Operand.tmp 263), type := 4, pos := "outright.go:146", after := #[{ on := 60, ground := Ground.data }, { on := 51, ground := Ground.chain }], guard := none }, { dst := some 265, op := Op.move (Operand.tmp 30), type := 4, pos := "outright.go:146", after := #[{ on := 61, ground := Ground.guard }], guard := some (61, true) }, { dst := some 266, op := Op.unOp UnOp.not 4 (Operand.tmp 265), type := 4, pos := "outright.go:146", after := #[{ on := 62, ground := Ground.data }, { on := 61, ground := Ground.guard }], guard := some (61, true) }, { dst := some 267, op := Op.pick (Operand.tmp 264) (Operand.tmp 266) (Operand.const (Value.bool false)), type := 4, pos := "outright.go:146", after := #[{ on := 61, ground := Ground.data }, { on := 63, ground := Ground.data }], guard := none }, { dst := some 268, op := Op.move (Operand.tmp 267), type := 4, pos := "outright.go:146", after := #[{ on := 64, ground := Ground.data }, { on := 61, ground := Ground.chain }], guard := none }, { dst := some 269, op := Op.move (Operand.tmp 33), type := 54, pos := "outright.go:146", after := #[{ on := 65, ground := Ground.guard }], guard := some (65, true) }, { dst := some 270, op := Op.binOp BinOp.eql 54 (Operand.tmp 269) (Operand.const (Value.int IntKind.i64 3)) 54, type := 4, pos := "outright.go:146", after := #[{ on := 66, ground := Ground.data }, { on := 65, ground := Ground.guard }], guard := some (65, true) }, { dst := some 271, op := Op.pick (Operand.tmp 268) (Operand.tmp 270) (Operand.const (Value.bool false)), type := 4, pos := "outright.go:146", after := #[{ on := 65, ground := Ground.data }, { on := 67, ground := Ground.data }], guard := none }, { dst := some 272, op := Op.move (Operand.tmp 271), type := 4, pos := "outright.go:146", after := #[{ on := 68, ground := Ground.data }, { on := 65, ground := Ground.chain }], guard := none }, { dst := some 273, op := Op.move (Operand.tmp 35), type := 54, pos := "outright.go:146", after := #[{ on := 69, ground := Ground.guard }], guard := some (69, true) }, { dst := some 274, op := Op.binOp BinOp.eql 54 (Operand.tmp 273) (Operand.const (Value.int IntKind.i64 2)) 54, type := 4, pos := "outright.go:146", after := #[{ on := 70, ground := Ground.data }, { on := 69, ground := Ground.guard }], guard := some (69, true) }, { dst := some 275, op := Op.pick (Operand.tmp 272) (Operand.tmp 274) (Operand.const (Value.bool false)), type := 4, pos := "outright.go:146", after := #[{ on := 69, ground := Ground.data }, { on := 71, ground := Ground.data }], guard := none }, { dst := some 0, op := Op.assign (Operand.tmp 275), type := 4, pos := "outright.go:146", after := ([{ on := 72, ground := Ground.data }, { on := 69, ground := Ground.chain }, { on := 0, ground := Ground.phase }, { on := 1, ground := Ground.phase }, { on := 2, ground := Ground.phase }, { on := 3, ground := Ground.phase }, { on := 4, ground := Ground.phase }, { on := 5, ground := Ground.phase }, { on := 6, ground := Ground.phase }, { on := 7, ground := Ground.phase }, { on := 8, ground := Ground.phase }, { on := 9, ground := Ground.phase }, { on := 10, ground := Ground.phase }, { on := 11, ground := Ground.phase }, { on := 12, ground := Ground.phase }, { on := 13, ground := Ground.phase }, { on := 14, ground := Ground.phase }, { on := 15, ground := Ground.phase }, { on := 16, ground := Ground.phase }, { on := 17, ground := Ground.phase }, { on := 18, ground := Ground.phase }, { on := 19, ground := Ground.phase }, { on := 20, ground := Ground.phase }, { on := 21, ground := Ground.phase }, { on := 22, ground := Ground.phase }, { on := 23, ground := Ground.phase }, { on := 24, ground := Ground.phase }, { on := 25, ground := Ground.phase }, { on := 26, ground := Ground.phase }, { on := 27, ground := Ground.phase }, { on := 28, ground := Ground.phase }, { on := 29, ground := Ground.phase }, { on := 30, ground := Ground.phase }, { on := 31, ground := Ground.phase }, { on := 32, ground := Ground.phase }, { on := 33, ground := Ground.phase }, { on := 34, ground := Ground.phase }].append [{ on := 35, ground := Ground.phase }, { on := 36, ground := Ground.phase }, { on := 37, ground := Ground.phase }, { on := 38, ground := Ground.phase }, { on := 39, ground := Ground.phase }, { on := 40, ground := Ground.phase }, { on := 41, ground := Ground.phase }, { on := 42, ground := Ground.phase }, { on := 43, ground := Ground.phase }, { on := 44, ground := Ground.phase }, { on := 45, ground := Ground.phase }, { on := 46, ground := Ground.phase }, { on := 47, ground := Ground.phase }, { on := 48, ground := Ground.phase }, { on := 49, ground := Ground.phase }, { on := 50, ground := Ground.phase }, { on := 51, ground := Ground.phase }, { on := 52, ground := Ground.phase }, { on := 53, ground := Ground.phase }, { on := 54, ground := Ground.phase }, { on := 55, ground := Ground.phase }, { on := 56, ground := Ground.phase }, { on := 57, ground := Ground.phase }, { on := 58, ground := Ground.phase }, { on := 59, ground := Ground.phase }, { on := 60, ground := Ground.phase }, { on := 61, ground := Ground.phase }, { on := 62, ground := Ground.phase }, { on := 63, ground := Ground.phase }, { on := 64, ground := Ground.phase }, { on := 65, ground := Ground.phase }, { on := 66, ground := Ground.phase }, { on := 67, ground := Ground.phase }, { on := 68, ground := Ground.phase }, { on := 69, ground := Ground.phase }, { on := 70, ground := Ground.phase }, { on := 71, ground := Ground.phase }, { on := 72, ground := Ground.phase }]).toArray, guard := none }].toArray) true).wp Tryz.prog QQ { tmps := #[u0, .pointer (some ⟨k1, 0, none⟩), .pointer (some ⟨k2, 0, none⟩), u3, u4, u5, u6, u7, u8, u9, u10, u11, u12, u13, u14, u15, u16, u17, u18, u19, u20, .pointer (some ⟨k21, 0, none⟩), u22, u23, .pointer (some ⟨k24, 0, none⟩), .bool true, .pointer (some ⟨k26, 0, none⟩), .bool true, u28, u29, .bool false, u31, u32, .int .i64 3, u34, .int .i64 2, .pointer (some ⟨k36, 0, none⟩), u37, u38, u39, u40, u41, u42, u43, u44, u45, u46, u47, u48, u49, u50, u51, u52, u53, u54, u55, u56, u57, u58, u59, u60, u61, u62, u63, u64, u65, u66, u67, u68, u69, u70, u71, u72, u73, u74, u75, u76, u77, u78, u79, u80, u81, u82, u83, u84, u85, u86, u87, u88, u89, u90, u91, u92, u93, u94, u95, u96, u97, u98, u99, u100, u101, u102, u103, u104, u105, u106, u107, u108, u109, u110, u111, u112, u113, u114, u115, u116, u117, u118, u119, u120, u121, u122, u123, u124, u125, u126, u127, u128, u129, u130, u131, u132, u133, u134, u135, u136, u137, u138, u139, u140, u141, u142, u143, u144, u145, u146, u147, u148, u149, u150, u151, u152, u153, u154, u155, u156, u157, u158, u159, u160, u161, u162, u163, u164, u165, u166, u167, u168, u169, u170, u171, u172, u173, u174, u175, u176, u177, u178, u179, u180, u181, u182, u183, u184, u185, u186, u187, u188, u189, u190, u191, u192, u193, u194, u195, u196, u197, u198, u199, u200, u201, u202, u203, u204, u205, u206, u207, u208, u209, u210, u211, u212, u213, u214, u215, u216, u217, u218, u219, u220, u221, u222, u223, u224, u225, u226, u227, u228, u229, u230, u231, u232, u233, u234, u235, u236, u237, u238, u239, u240, u241, u242, u243, u244, u245, u246, u247, u248, u249, u250, u251, u252, u253, u254, u255, u256, u257, u258, u259, u260, u261, u262, u263, u264, u265, u266, u267, u268, u269, u270, u271, u272, u273, u274, u275], defers := [] } V := by
  have HP : Hid (∀ c a w, ¬ QQ (.panic c) a w) := fun c a w h => by
    rw [hQQ] at h
    exact nomatch h.1
  have HQQ := Lib.hid hQQ
  clear hQQ
  have HTA := Lib.hid to_any
  have HNX := Lib.hid next_any
  have HWK := Lib.hid works_any
  have HV := Lib.hid hV
  have HSELF := Lib.hid hSELF
  have HX24 := Lib.hid hX24
  have HX26 := Lib.hid hX26
  clear hV hSELF hX24 hX26
  obtain ⟨pb, po, sb, so, sc, hs26, hp26, hpc26, hcc26⟩ := x26_shape (HL.out.fact 1 rfl) HX26.out
  have hl24 := (HL.out.fact 3 rfl).plen
  have hc24 : x24.pC ≤ 9223372036854775807 := (HL.out.fact 3 rfl).pcap
  refine wp_region_eqD [{ dst := some 203, op := Op.move (Operand.const (Value.bool true)), type := 4, pos := "outright.go:146", after := #[], guard := none }, { dst := some 204, op := Op.call { callee := Callee.value (Operand.func 14), args := #[], argTypes := #[] }, type := 4, pos := "outright.go:146", after := #[{ on := 0, ground := Ground.chain }, { on := 0, ground := Ground.guard }], guard := some (0, true) }, { dst := some 205, op := Op.pick (Operand.tmp 203) (Operand.tmp 204) (Operand.const (Value.bool false)), type := 4, pos := "outright.go:146", after := #[{ on := 0, ground := Ground.data }, { on := 1, ground := Ground.data }], guard := none }, { dst := some 206, op := Op.move (Operand.tmp 205), type := 4, pos := "outright.go:146", after := #[{ on := 2, ground := Ground.data }, { on := 1, ground := Ground.chain }], guard := none }, { dst := some 207, op := Op.load 49 (Operand.tmp 1), type := 49, pos := "outright.go:146", after := #[{ on := 3, ground := Ground.guard }], guard := some (3, true) }, { dst := some 208, op := Op.load 37 (Operand.tmp 21), type := 37, pos := "outright.go:146", after := #[{ on := 3, ground := Ground.guard }], guard := some (3, true) }, { dst := some 209, op := Op.call { callee := Callee.value (Operand.func 23), args := #[Operand.const (Value.string { data := #[98] }), Operand.const (Value.int IntKind.u32 65002)], argTypes := #[9, 22] }, type := 40, pos := "outright.go:146", after := #[{ on := 3, ground := Ground.chain }, { on := 3, ground := Ground.guard }], guard := some (3, true) }, { dst := some 210, op := Op.call { callee := Callee.value (Operand.func 18), args := #[Operand.tmp 207, Operand.tmp 208, Operand.tmp 209], argTypes := #[49, 37, 40] }, type := 9, pos := "outright.go:146", after := #[{ on := 4, ground := Ground.data }, { on := 5, ground := Ground.data }, { on := 6, ground := Ground.data }, { on := 6, ground := Ground.chain }, { on := 3, ground := Ground.guard }], guard := some (3, true) }, { dst := some 211, op := Op.binOp BinOp.eql 9 (Operand.tmp 210) (Operand.const (Value.string { data := #[0, 0, 0, 0, 0, 0, 0, 0, 0, 0, 255, 255, 10, 0, 0, 1] })) 9, type := 4, pos := "outright.go:146", after := #[{ on := 7, ground := Ground.data }, { on := 3, ground := Ground.guard }], guard := some (3, true) }, { dst := some 212, op := Op.pick (Operand.tmp 206) (Operand.tmp 211) (Operand.const (Value.bool false)), type := 4, pos := "outright.go:146", after := #[{ on := 3, ground := Ground.data }, { on := 8, ground := Ground.data }], guard := none }, { dst := some 213, op := Op.move (Operand.tmp 212), type := 4, pos := "outright.go:146", after := #[{ on := 9, ground := Ground.data }, { on := 7, ground := Ground.chain }], guard := none }, { dst := some 214, op := Op.load 49 (Operand.tmp 1), type := 49, pos := "outright.go:146", after := #[{ on := 10, ground := Ground.guard }], guard := some (10, true) }, { dst := some 215, op := Op.load 37 (Operand.tmp 2), type := 37, pos := "outright.go:146", after := #[{ on := 10, ground := Ground.guard }], guard := some (10, true) }, { dst := some 216, op := Op.load 40 (Operand.tmp 36), type := 40, pos := "outright.go:146", after := #[{ on := 10, ground := Ground.guard }], guard := some (10, true) }, { dst := some 217, op := Op.call { callee := Callee.value (Operand.func 18), args := #[Operand.tmp 214, Operand.tmp 215, Operand.tmp 216], argTypes := #[49, 37, 40] }, type := 9, pos := "outright.go:146", after := #[{ on := 11, ground := Ground.data }, { on := 12, ground := Ground.data }, { on := 13, ground := Ground.data }, { on := 10, ground := Ground.chain }, { on := 10, ground := Ground.guard }], guard := some (10, true) }, { dst := some 218, op := Op.binOp BinOp.eql 9 (Operand.tmp 217) (Operand.const (Value.string { data := #[10, 0, 0, 1] })) 9, type := 4, pos := "outright.go:146", after := #[{ on := 14, ground := Ground.data }, { on := 10, ground := Ground.guard }], guard := some (10, true) }, { dst := some 219, op := Op.pick (Operand.tmp 213) (Operand.tmp 218) (Operand.const (Value.bool false)), type := 4, pos := "outright.go:146", after := #[{ on := 10, ground := Ground.data }, { on := 15, ground := Ground.data }], guard := none }, { dst := some 220, op := Op.move (Operand.tmp 219), type := 4, pos := "outright.go:146", after := #[{ on := 16, ground := Ground.data }, { on := 14, ground := Ground.chain }], guard := none }, { dst := some 221, op := Op.build 49 #[], type := 49, pos := "outright.go:146", after := #[{ on := 17, ground := Ground.guard }], guard := some (17, true) }, { dst := some 222, op := Op.load 37 (Operand.tmp 2), type := 37, pos := "outright.go:146", after := #[{ on := 17, ground := Ground.guard }], guard := some (17, true) }, { dst := some 223, op := Op.call { callee := Callee.value (Operand.func 23), args := #[Operand.const (Value.string { data := #[98] }), Operand.const (Value.int IntKind.u32 1)], argTypes := #[9, 22] }, type := 40, pos := "outright.go:146", after := #[{ on := 17, ground := Ground.chain }, { on := 17, ground := Ground.guard }], guard := some (17, true) }, { dst := some 224, op := Op.call { callee := Callee.value (Operand.func 18), args := #[Operand.tmp 221, Operand.tmp 222, Operand.tmp 223], argTypes := #[49, 37, 40] }, type := 9, pos := "outright.go:146", after := #[{ on := 18, ground := Ground.data }, { on := 19, ground := Ground.data }, { on := 20, ground := Ground.data }, { on := 20, ground := Ground.chain }, { on := 17, ground := Ground.guard }], guard := some (17, true) }, { dst := some 225, op := Op.binOp BinOp.eql 9 (Operand.tmp 224) (Operand.const (Value.string { data := #[] })) 9, type := 4, pos := "outright.go:146", after := #[{ on := 21, ground := Ground.data }, { on := 17, ground := Ground.guard }], guard := some (17, true) }, { dst := some 226, op := Op.pick (Operand.tmp 220) (Operand.tmp 225) (Operand.const (Value.bool false)), type := 4, pos := "outright.go:146", after := #[{ on := 17, ground := Ground.data }, { on := 22, ground := Ground.data }], guard := none }, { dst := some 227, op := Op.move (Operand.tmp 226), type := 4, pos := "outright.go:146", after := #[{ on := 23, ground := Ground.data }, { on := 21, ground := Ground.chain }], guard := none }, { dst := some 228, op := Op.move (Operand.tmp 25), type := 4, pos := "outright.go:146", after := #[{ on := 24, ground := Ground.guard }], guard := some (24, true) }, { dst := some 229, op := Op.pick (Operand.tmp 227) (Operand.tmp 228) (Operand.const (Value.bool false)), type := 4, pos := "outright.go:146", after := #[{ on := 24, ground := Ground.data }, { on := 25, ground := Ground.data }], guard := none }, { dst := some 230, op := Op.move (Operand.tmp 229), type := 4, pos := "outright.go:146", after := #[{ on := 26, ground := Ground.data }, { on := 24, ground := Ground.chain }], guard := none }, { dst := some 231, op := Op.fieldAddr 33 (Operand.tmp 24) 1, type := 0, pos := "outright.go:146", after := #[{ on := 27, ground := Ground.guard }], guard := some (27, true) }, { dst := some 232, op := Op.load 28 (Operand.tmp 231), type := 28, pos := "outright.go:146", after := #[{ on := 28, ground := Ground.data }, { on := 27, ground := Ground.guard }], guard := some (27, true) }, { dst := some 233, op := Op.buildSlice 29 1 #[(0, Operand.const (Value.int IntKind.u32 65000))], type := 29, pos := "outright.go:146", after := #[{ on := 27, ground := Ground.guard }], guard := some (27, true) }, { dst := some 234, op := Op.build 67 #[(0, Operand.const (Value.int IntKind.i64 3)), (1, Operand.tmp 233)], type := 67, pos := "outright.go:146", after := #[{ on := 30, ground := Ground.data }, { on := 27, ground := Ground.guard }], guard := some (27, true) }, { dst := some 235, op := Op.buildSlice 29 1 #[(0, Operand.const (Value.int IntKind.u32 65001))], type := 29, pos := "outright.go:146", after := #[{ on := 27, ground := Ground.guard }], guard := some (27, true) }, { dst := some 236, op := Op.build 67 #[(0, Operand.const (Value.int IntKind.i64 2)), (1, Operand.tmp 235)], type := 67, pos := "outright.go:146", after := #[{ on := 32, ground := Ground.data }, { on := 27, ground := Ground.guard }], guard := some (27, true) }, { dst := some 237, op := Op.buildSlice 28 2 #[(0, Operand.tmp 234), (1, Operand.tmp 236)], type := 28, pos := "outright.go:146", after := #[{ on := 31, ground := Ground.data }, { on := 33, ground := Ground.data }, { on := 27, ground := Ground.guard }], guard := some (27, true) }, { dst := some 238, op := Op.call { callee := Callee.value (Operand.func 24), args := #[Operand.tmp 232, Operand.tmp 237], argTypes := #[28, 28] }, type := 4, pos := "outright.go:146", after := #[{ on := 29, ground := Ground.data }, { on := 34, ground := Ground.data }, { on := 27, ground := Ground.chain }, { on := 27, ground := Ground.guard }], guard := some (27, true) }, { dst := some 239, op := Op.pick (Operand.tmp 230) (Operand.tmp 238) (Operand.const (Value.bool false)), type := 4, pos := "outright.go:146", after := #[{ on := 27, ground := Ground.data }, { on := 35, ground := Ground.data }], guard := none }, { dst := some 240, op := Op.move (Operand.tmp 239), type := 4, pos := "outright.go:146", after := #[{ on := 36, ground := Ground.data }, { on := 35, ground := Ground.chain }], guard := none }, { dst := some 241, op := Op.fieldAddr 33 (Operand.tmp 24) 6, type := 0, pos := "outright.go:146", after := #[{ on := 37, ground := Ground.guard }], guard := some (37, true) }, { dst := some 242, op := Op.load 22 (Operand.tmp 241), type := 22, pos := "outright.go:146", after := #[{ on := 38, ground := Ground.data }, { on := 37, ground := Ground.guard }], guard := some (37, true) }, { dst := some 243, op := Op.binOp BinOp.eql 22 (Operand.tmp 242) (Operand.const (Value.int IntKind.u32 100)) 22, type := 4, pos := "outright.go:146", after := #[{ on := 39, ground := Ground.data }, { on := 37, ground := Ground.guard }], guard := some (37, true) }, { dst := some 244, op := Op.pick (Operand.tmp 240) (Operand.tmp 243) (Operand.const (Value.bool false)), type := 4, pos := "outright.go:146", after := #[{ on := 37, ground := Ground.data }, { on := 40, ground := Ground.data }], guard := none }, { dst := some 245, op := Op.move (Operand.tmp 244), type := 4, pos := "outright.go:146", after := #[{ on := 41, ground := Ground.data }, { on := 37, ground := Ground.chain }], guard := none }, { dst := some 246, op := Op.move (Operand.tmp 27), type := 4, pos := "outright.go:146", after := #[{ on := 42, ground := Ground.guard }], guard := some (42, true) }, { dst := some 247, op := Op.pick (Operand.tmp 245) (Operand.tmp 246) (Operand.const (Value.bool false)), type := 4, pos := "outright.go:146", after := #[{ on := 42, ground := Ground.data }, { on := 43, ground := Ground.data }], guard := none }, { dst := some 248, op := Op.move (Operand.tmp 247), type := 4, pos := "outright.go:146", after := #[{ on := 44, ground := Ground.data }, { on := 42, ground := Ground.chain }], guard := none }, { dst := some 249, op := Op.fieldAddr 33 (Operand.tmp 26) 1, type := 0, pos := "outright.go:146", after := #[{ on := 45, ground := Ground.guard }], guard := some (45, true) }, { dst := some 250, op := Op.load 28 (Operand.tmp 249), type := 28, pos := "outright.go:146", after := #[{ on := 46, ground := Ground.data }, { on := 45, ground := Ground.guard }], guard := some (45, true) }, { dst := some 251, op := Op.call { callee := Callee.builtin Builtin.len, args := #[Operand.tmp 250], argTypes := #[28] }, type := 3, pos := "outright.go:146", after := #[{ on := 47, ground := Ground.data }, { on := 45, ground := Ground.guard }], guard := some (45, true) }, { dst := some 252, op := Op.binOp BinOp.eql 3 (Operand.tmp 251) (Operand.const (Value.int IntKind.i64 1)) 3, type := 4, pos := "outright.go:146", after := #[{ on := 48, ground := Ground.data }, { on := 45, ground := Ground.guard }], guard := some (45, true) }, { dst := some 253, op := Op.pick (Operand.tmp 248) (Operand.tmp 252) (Operand.const (Value.bool false)), type := 4, pos := "outright.go:146", after := #[{ on := 45, ground := Ground.data }, { on := 49, ground := Ground.data }], guard := none }, { dst := some 254, op := Op.move (Operand.tmp 253), type := 4, pos := "outright.go:146", after := #[{ on := 50, ground := Ground.data }, { on := 45, ground := Ground.chain }], guard := none }, { dst := some 255, op := Op.fieldAddr 33 (Operand.tmp 26) 1, type := 0, pos := "outright.go:146", after := #[{ on := 51, ground := Ground.guard }], guard := some (51, true) }, { dst := some 256, op := Op.load 28 (Operand.tmp 255), type := 28, pos := "outright.go:146", after := #[{ on := 52, ground := Ground.data }, { on := 51, ground := Ground.guard }], guard := some (51, true) }, { dst := some 257, op := Op.indexAddr 28 (Operand.tmp 256) (Operand.const (Value.int IntKind.i64 0)), type := 0, pos := "outright.go:146", after := #[{ on := 53, ground := Ground.data }, { on := 51, ground := Ground.guard }], guard := some (51, true) }, { dst := some 258, op := Op.fieldAddr 67 (Operand.tmp 257) 1, type := 0, pos := "outright.go:146", after := #[{ on := 54, ground := Ground.data }, { on := 51, ground := Ground.guard }], guard := some (51, true) }, { dst := some 259, op := Op.load 29 (Operand.tmp 258), type := 29, pos := "outright.go:146", after := #[{ on := 55, ground := Ground.data }, { on := 51, ground := Ground.guard }], guard := some (51, true) }, { dst := some 260, op := Op.indexAddr 29 (Operand.tmp 259) (Operand.const (Value.int IntKind.i64 0)), type := 0, pos := "outright.go:146", after := #[{ on := 56, ground := Ground.data }, { on := 51, ground := Ground.guard }], guard := some (51, true) }, { dst := some 261, op := Op.load 22 (Operand.tmp 260), type := 22, pos := "outright.go:146", after := #[{ on := 57, ground := Ground.data }, { on := 51, ground := Ground.guard }], guard := some (51, true) }, { dst := some 262, op := Op.binOp BinOp.eql 22 (Operand.tmp 261) (Operand.const (Value.int IntKind.u32 100)) 22, type := 4, pos := "outright.go:146", after := #[{ on := 58, ground := Ground.data }, { on := 51, ground := Ground.guard }], guard := some (51, true) }, { dst := some 263, op := Op.pick (Operand.tmp 254) (Operand.tmp 262) (Operand.const (Value.bool false)), type := 4, pos := "outright.go:146", after := #[{ on := 51, ground := Ground.data }, { on := 59, ground := Ground.data }], guard := none }, { dst := some 264, op := Op.move (Operand.tmp 263), type := 4, pos := "outright.go:146", after := #[{ on := 60, ground := Ground.data }, { on := 51, ground := Ground.chain }], guard := none }, { dst := some 265, op := Op.move (Operand.tmp 30), type := 4, pos := "outright.go:146", after := #[{ on := 61, ground := Ground.guard }], guard := some (61, true) }, { dst := some 266, op := Op.unOp UnOp.not 4 (Operand.tmp 265), type := 4, pos := "outright.go:146", after := #[{ on := 62, ground := Ground.data }, { on := 61, ground := Ground.guard }], guard := some (61, true) }, { dst := some 267, op := Op.pick (Operand.tmp 264) (Operand.tmp 266) (Operand.const (Value.bool false)), type := 4, pos := "outright.go:146", after := #[{ on := 61, ground := Ground.data }, { on := 63, ground := Ground.data }], guard := none }, { dst := some 268, op := Op.move (Operand.tmp 267), type := 4, pos := "outright.go:146", after := #[{ on := 64, ground := Ground.data }, { on := 61, ground := Ground.chain }], guard := none }, { dst := some 269, op := Op.move (Operand.tmp 33), type := 54, pos := "outright.go:146", after := #[{ on := 65, ground := Ground.guard }], guard := some (65, true) }, { dst := some 270, op := Op.binOp BinOp.eql 54 (Operand.tmp 269) (Operand.const (Value.int IntKind.i64 3)) 54, type := 4, pos := "outright.go:146", after := #[{ on := 66, ground := Ground.data }, { on := 65, ground := Ground.guard }], guard := some (65, true) }, { dst := some 271, op := Op.pick (Operand.tmp 268) (Operand.tmp 270) (Operand.const (Value.bool false)), type := 4, pos := "outright.go:146", after := #[{ on := 65, ground := Ground.data }, { on := 67, ground := Ground.data }], guard := none }, { dst := some 272, op := Op.move (Operand.tmp 271), type := 4, pos := "outright.go:146", after := #[{ on := 68, ground := Ground.data }, { on := 65, ground := Ground.chain }], guard := none }, { dst := some 273, op := Op.move (Operand.tmp 35), type := 54, pos := "outright.go:146", after := #[{ on := 69, ground := Ground.guard }], guard := some (69, true) }, { dst := some 274, op := Op.binOp BinOp.eql 54 (Operand.tmp 273) (Operand.const (Value.int IntKind.i64 2)) 54, type := 4, pos := "outright.go:146", after := #[{ on := 70, ground := Ground.data }, { on := 69, ground := Ground.guard }], guard := some (69, true) }, { dst := some 275, op := Op.pick (Operand.tmp 272) (Operand.tmp 274) (Operand.const (Value.bool false)), type := 4, pos := "outright.go:146", after := #[{ on := 69, ground := Ground.data }, { on := 71, ground := Ground.data }], guard := none }, { dst := some 0, op := Op.assign (Operand.tmp 275), type := 4, pos := "outright.go:146", after := ([{ on := 72, ground := Ground.data }, { on := 69, ground := Ground.chain }, { on := 0, ground := Ground.phase }, { on := 1, ground := Ground.phase }, { on := 2, ground := Ground.phase }, { on := 3, ground := Ground.phase }, { on := 4, ground := Ground.phase }, { on := 5, ground := Ground.phase }, { on := 6, ground := Ground.phase }, { on := 7, ground := Ground.phase }, { on := 8, ground := Ground.phase }, { on := 9, ground := Ground.phase }, { on := 10, ground := Ground.phase }, { on := 11, ground := Ground.phase }, { on := 12, ground := Ground.phase }, { on := 13, ground := Ground.phase }, { on := 14, ground := Ground.phase }, { on := 15, ground := Ground.phase }, { on := 16, ground := Ground.phase }, { on := 17, ground := Ground.phase }, { on := 18, ground := Ground.phase }, { on := 19, ground := Ground.phase }, { on := 20, ground := Ground.phase }, { on := 21, ground := Ground.phase }, { on := 22, ground := Ground.phase }, { on := 23, ground := Ground.phase }, { on := 24, ground := Ground.phase }, { on := 25, ground := Ground.phase }, { on := 26, ground := Ground.phase }, { on := 27, ground := Ground.phase }, { on := 28, ground := Ground.phase }, { on := 29, ground := Ground.phase }, { on := 30, ground := Ground.phase }, { on := 31, ground := Ground.phase }, { on := 32, ground := Ground.phase }, { on := 33, ground := Ground.phase }, { on := 34, ground := Ground.phase }].append [{ on := 35, ground := Ground.phase }, { on := 36, ground := Ground.phase }, { on := 37, ground := Ground.phase }, { on := 38, ground := Ground.phase }, { on := 39, ground := Ground.phase }, { on := 40, ground := Ground.phase }, { on := 41, ground := Ground.phase }, { on := 42, ground := Ground.phase }, { on := 43, ground := Ground.phase }, { on := 44, ground := Ground.phase }, { on := 45, ground := Ground.phase }, { on := 46, ground := Ground.phase }, { on := 47, ground := Ground.phase }, { on := 48, ground := Ground.phase }, { on := 49, ground := Ground.phase }, { on := 50, ground := Ground.phase }, { on := 51, ground := Ground.phase }, { on := 52, ground := Ground.phase }, { on := 53, ground := Ground.phase }, { on := 54, ground := Ground.phase }, { on := 55, ground := Ground.phase }, { on := 56, ground := Ground.phase }, { on := 57, ground := Ground.phase }, { on := 58, ground := Ground.phase }, { on := 59, ground := Ground.phase }, { on := 60, ground := Ground.phase }, { on := 61, ground := Ground.phase }, { on := 62, ground := Ground.phase }, { on := 63, ground := Ground.phase }, { on := 64, ground := Ground.phase }, { on := 65, ground := Ground.phase }, { on := 66, ground := Ground.phase }, { on := 67, ground := Ground.phase }, { on := 68, ground := Ground.phase }, { on := 69, ground := Ground.phase }, { on := 70, ground := Ground.phase }, { on := 71, ground := Ground.phase }, { on := 72, ground := Ground.phase }]).toArray, guard := none }] (by kernel_rfl) ?_
  refine wp_region_held_drew (S := fun w' => Led w w' [Ent.box k36 self.ar 40, Ent.fact m0 (fun W => AtrOk W x26), Ent.box k26 x26.ar 33, Ent.fact m1 (fun W => AtrOk W x24), Ent.box k24 x24.ar 33, Ent.fact m2 (fun W => PthOk W v), Ent.box k21 v.ar 37, Ent.box k2 (mkPth 2 b2).ar 37, Ent.fact m3 (fun W => PthOk W (mkPth 2 b2)), Ent.box k1 g0.ar 49]) (by kernel_rfl) (HL.out.below (below_drewN (Below.refl _ _) 1)) (fun hHeld => ?_)
  refine wpAnyH_take (i := 0) (oi := { dst := some 203, op := Op.move (Operand.const (Value.bool true)), type := 4, pos := "outright.go:146", after := #[], guard := none }) (v := ?_) rfl (by kernel_rfl) (by kernel_rfl) (by kernel_rfl) (fun _ _ _ h => absurd h (HP.out _ _ _)) (Or.inl ⟨by rfl, ?_⟩) hHeld ?_
  rotate_left
  · intro w hSw
    clear hSw
    go_simp
    first | done | with_reducible rfl | rfl | simp [*]
  try simp only [Act.put, sA, sZ, sS]
  refine wpAnyH_ready (rs := [1]) (by kernel_rfl) (by simp) ?_
  refine AllReadyH.cons (o := { dst := some 204, op := Op.call { callee := Callee.value (Operand.func 14), args := #[], argTypes := #[] }, type := 4, pos := "outright.go:146", after := #[{ on := 0, ground := Ground.chain }, { on := 0, ground := Ground.guard }], guard := some (0, true) }) rfl (fun K hK => ?_) AllReadyH.nil
  go_simp
  refine (HWK.out _).mono ?_
  rintro e y1 ⟨rfl, hb1⟩
  refine hK.out _ _ (hHeld.below hb1) (fun hHeld => ?_)
  clear hK K
  try simp only [Act.put, sA, sZ, sS]
  as_aux_lemma =>
  refine wpAnyH_take (i := 2) (oi := { dst := some 205, op := Op.pick (Operand.tmp 203) (Operand.tmp 204) (Operand.const (Value.bool false)), type := 4, pos := "outright.go:146", after := #[{ on := 0, ground := Ground.data }, { on := 1, ground := Ground.data }], guard := none }) (v := ?_) rfl (by kernel_rfl) (by kernel_rfl) (by kernel_rfl) (fun _ _ _ h => absurd h (HP.out _ _ _)) (Or.inl ⟨by rfl, ?_⟩) hHeld ?_
  rotate_left
  · intro w hSw
    clear hSw
    go_simp
    first | done | with_reducible rfl | rfl | simp [*]
  try simp only [Act.put, sA, sZ, sS]
  refine wpAnyH_take (i := 3) (oi := { dst := some 206, op := Op.move (Operand.tmp 205), type := 4, pos := "outright.go:146", after := #[{ on := 2, ground := Ground.data }, { on := 1, ground := Ground.chain }], guard := none }) (v := ?_) rfl (by kernel_rfl) (by kernel_rfl) (by kernel_rfl) (fun _ _ _ h => absurd h (HP.out _ _ _)) (Or.inl ⟨by rfl, ?_⟩) hHeld ?_
  rotate_left
  · intro w hSw
    clear hSw
    go_simp
    first | done | with_reducible rfl | rfl | simp [*]
  try simp only [Act.put, sA, sZ, sS]
  refine wpAnyH_take (i := 4) (oi := { dst := some 207, op := Op.load 49 (Operand.tmp 1), type := 49, pos := "outright.go:146", after := #[{ on := 3, ground := Ground.guard }], guard := some (3, true) }) (v := .agg g0.ar) rfl (by kernel_rfl) (by kernel_rfl) (by kernel_rfl) (fun _ _ _ h => absurd h (HP.out _ _ _)) (yields_row (by rfl) _ _ rfl k1 0 (by rfl) g0.ar confS 13 confZ rfl (fun w h => whole_range (h.box 9 rfl))) hHeld ?_
  try simp only [Act.put, sA, sZ, sS]
  refine wpAnyH_take (i := 5) (oi := { dst := some 208, op := Op.load 37 (Operand.tmp 21), type := 37, pos := "outright.go:146", after := #[{ on := 3, ground := Ground.guard }], guard := some (3, true) }) (v := .agg v.ar) rfl (by kernel_rfl) (by kernel_rfl) (by kernel_rfl) (fun _ _ _ h => absurd h (HP.out _ _ _)) (yields_row (by rfl) _ _ rfl k21 0 (by rfl) v.ar pathS 29 pathZ rfl (fun w h => whole_range (h.box 6 rfl))) hHeld ?_
  try simp only [Act.put, sA, sZ, sS]
  refine wpAnyH_ready (rs := [6]) (by kernel_rfl) (by simp) ?_
  refine AllReadyH.cons (o := { dst := some 209, op := Op.call { callee := Callee.value (Operand.func 23), args := #[Operand.const (Value.string { data := #[98] }), Operand.const (Value.int IntKind.u32 65002)], argTypes := #[9, 22] }, type := 40, pos := "outright.go:146", after := #[{ on := 3, ground := Ground.chain }, { on := 3, ground := Ground.guard }], guard := some (3, true) }) rfl (fun K hK => ?_) AllReadyH.nil
  go_simp
  refine (HTA.out ⟨#[98]⟩ 65002 _ (by decide) (by decide)).mono ?_
  rintro e y2 ⟨⟨b209, rfl, hr⟩, hb2⟩
  clear hr
  refine hK.out _ _ (hHeld.below hb2) (fun hHeld => ?_)
  clear hK K
  try simp only [Act.put, sA, sZ, sS]
  refine wpAnyH_ready (rs := [7]) (by kernel_rfl) (by simp) ?_
  refine AllReadyH.cons (o := { dst := some 210, op := Op.call { callee := Callee.value (Operand.func 18), args := #[Operand.tmp 207, Operand.tmp 208, Operand.tmp 209], argTypes := #[49, 37, 40] }, type := 9, pos := "outright.go:146", after := #[{ on := 4, ground := Ground.data }, { on := 5, ground := Ground.data }, { on := 6, ground := Ground.data }, { on := 6, ground := Ground.chain }, { on := 3, ground := Ground.guard }], guard := some (3, true) }) rfl (fun K hK => ?_) AllReadyH.nil
  go_simp
  refine (HNX.out g0 v (mkPr ⟨#[98]⟩ 65002 b209) _).mono ?_
  rintro e y3 ⟨rfl, hb3⟩
  rw [next_v v _ HV.out]
  refine hK.out _ _ (hHeld.below hb3) (fun hHeld => ?_)
  clear hK K
  try simp only [Act.put, sA, sZ, sS]
  as_aux_lemma =>
  refine wpAnyH_take (i := 8) (oi := { dst := some 211, op := Op.binOp BinOp.eql 9 (Operand.tmp 210) (Operand.const (Value.string { data := #[0, 0, 0, 0, 0, 0, 0, 0, 0, 0, 255, 255, 10, 0, 0, 1] })) 9, type := 4, pos := "outright.go:146", after := #[{ on := 7, ground := Ground.data }, { on := 3, ground := Ground.guard }], guard := some (3, true) }) (v := .bool true) rfl (by kernel_rfl) (by kernel_rfl) (by kernel_rfl) (fun _ _ _ h => absurd h (HP.out _ _ _)) (Or.inl ⟨by rfl, ?_⟩) hHeld ?_
  · intro w hSw
    clear hSw
    go_simp
    first | done | with_reducible rfl | rfl | simp [*]
  try simp only [Act.put, sA, sZ, sS]
  refine wpAnyH_take (i := 9) (oi := { dst := some 212, op := Op.pick (Operand.tmp 206) (Operand.tmp 211) (Operand.const (Value.bool false)), type := 4, pos := "outright.go:146", after := #[{ on := 3, ground := Ground.data }, { on := 8, ground := Ground.data }], guard := none }) (v := ?_) rfl (by kernel_rfl) (by kernel_rfl) (by kernel_rfl) (fun _ _ _ h => absurd h (HP.out _ _ _)) (Or.inl ⟨by rfl, ?_⟩) hHeld ?_
  rotate_left
  · intro w hSw
    clear hSw
    go_simp
    first | done | with_reducible rfl | rfl | simp [*]
  try simp only [Act.put, sA, sZ, sS]
  refine wpAnyH_take (i := 10) (oi := { dst := some 213, op := Op.move (Operand.tmp 212), type := 4, pos := "outright.go:146", after := #[{ on := 9, ground := Ground.data }, { on := 7, ground := Ground.chain }], guard := none }) (v := ?_) rfl (by kernel_rfl) (by kernel_rfl) (by kernel_rfl) (fun _ _ _ h => absurd h (HP.out _ _ _)) (Or.inl ⟨by rfl, ?_⟩) hHeld ?_
  rotate_left
  · intro w hSw
    clear hSw
    go_simp
    first | done | with_reducible rfl | rfl | simp [*]
  try simp only [Act.put, sA, sZ, sS]
  refine wpAnyH_take (i := 11) (oi := { dst := some 214, op := Op.load 49 (Operand.tmp 1), type := 49, pos := "outright.go:146", after := #[{ on := 10, ground := Ground.guard }], guard := some (10, true) }) (v := .agg g0.ar) rfl (by kernel_rfl) (by kernel_rfl) (by kernel_rfl) (fun _ _ _ h => absurd h (HP.out _ _ _)) (yields_row (by rfl) _ _ rfl k1 0 (by rfl) g0.ar confS 13 confZ rfl (fun w h => whole_range (h.box 9 rfl))) hHeld ?_
  try simp only [Act.put, sA, sZ, sS]
  refine wpAnyH_take (i := 12) (oi := { dst := some 215, op := Op.load 37 (Operand.tmp 2), type := 37, pos := "outright.go:146", after := #[{ on := 10, ground := Ground.guard }], guard := some (10, true) }) (v := .agg (mkPth 2 b2).ar) rfl (by kernel_rfl) (by kernel_rfl) (by kernel_rfl) (fun _ _ _ h => absurd h (HP.out _ _ _)) (yields_row (by rfl) _ _ rfl k2 0 (by rfl) (mkPth 2 b2).ar pathS 29 pathZ rfl (fun w h => whole_range (h.box 7 rfl))) hHeld ?_
  try simp only [Act.put, sA, sZ, sS]
  refine wpAnyH_take (i := 13) (oi := { dst := some 216, op := Op.load 40 (Operand.tmp 36), type := 40, pos := "outright.go:146", after := #[{ on := 10, ground := Ground.guard }], guard := some (10, true) }) (v := .agg self.ar) rfl (by kernel_rfl) (by kernel_rfl) (by kernel_rfl) (fun _ _ _ h => absurd h (HP.out _ _ _)) (yields_row (by rfl) _ _ rfl k36 0 (by rfl) self.ar peerS 23 peerZ rfl (fun w h => whole_range (h.box 0 rfl))) hHeld ?_
  try simp only [Act.put, sA, sZ, sS]
  refine wpAnyH_ready (rs := [14]) (by kernel_rfl) (by simp) ?_
  refine AllReadyH.cons (o := { dst := some 217, op := Op.call { callee := Callee.value (Operand.func 18), args := #[Operand.tmp 214, Operand.tmp 215, Operand.tmp 216], argTypes := #[49, 37, 40] }, type := 9, pos := "outright.go:146", after := #[{ on := 11, ground := Ground.data }, { on := 12, ground := Ground.data }, { on := 13, ground := Ground.data }, { on := 10, ground := Ground.chain }, { on := 10, ground := Ground.guard }], guard := some (10, true) }) rfl (fun K hK => ?_) AllReadyH.nil
  go_simp
  refine (HNX.out g0 (mkPth 2 b2) self _).mono ?_
  rintro e y4 ⟨rfl, hb4⟩
  rw [next_s _ self _ HSELF.out]
  refine hK.out _ _ (hHeld.below hb4) (fun hHeld => ?_)
  clear hK K
  try simp only [Act.put, sA, sZ, sS]
  as_aux_lemma =>
  refine wpAnyH_take (i := 15) (oi := { dst := some 218, op := Op.binOp BinOp.eql 9 (Operand.tmp 217) (Operand.const (Value.string { data := #[10, 0, 0, 1] })) 9, type := 4, pos := "outright.go:146", after := #[{ on := 14, ground := Ground.data }, { on := 10, ground := Ground.guard }], guard := some (10, true) }) (v := .bool true) rfl (by kernel_rfl) (by kernel_rfl) (by kernel_rfl) (fun _ _ _ h => absurd h (HP.out _ _ _)) (Or.inl ⟨by rfl, ?_⟩) hHeld ?_
  · intro w hSw
    clear hSw
    go_simp
    first | done | with_reducible rfl | rfl | simp [*]
  try simp only [Act.put, sA, sZ, sS]
  refine wpAnyH_take (i := 16) (oi := { dst := some 219, op := Op.pick (Operand.tmp 213) (Operand.tmp 218) (Operand.const (Value.bool false)), type := 4, pos := "outright.go:146", after := #[{ on := 10, ground := Ground.data }, { on := 15, ground := Ground.data }], guard := none }) (v := ?_) rfl (by kernel_rfl) (by kernel_rfl) (by kernel_rfl) (fun _ _ _ h => absurd h (HP.out _ _ _)) (Or.inl ⟨by rfl, ?_⟩) hHeld ?_
  rotate_left
  · intro w hSw
    clear hSw
    go_simp
    first | done | with_reducible rfl | rfl | simp [*]
  try simp only [Act.put, sA, sZ, sS]
  refine wpAnyH_take (i := 17) (oi := { dst := some 220, op := Op.move (Operand.tmp 219), type := 4, pos := "outright.go:146", after := #[{ on := 16, ground := Ground.data }, { on := 14, ground := Ground.chain }], guard := none }) (v := ?_) rfl (by kernel_rfl) (by kernel_rfl) (by kernel_rfl) (fun _ _ _ h => absurd h (HP.out _ _ _)) (Or.inl ⟨by rfl, ?_⟩) hHeld ?_
  rotate_left
  · intro w hSw
    clear hSw
    go_simp
    first | done | with_reducible rfl | rfl | simp [*]
  try simp only [Act.put, sA, sZ, sS]
  refine wpAnyH_take (i := 18) (oi := { dst := some 221, op := Op.build 49 #[], type := 49, pos := "outright.go:146", after := #[{ on := 17, ground := Ground.guard }], guard := some (17, true) }) (v := .agg g00.ar) rfl (by kernel_rfl) (by kernel_rfl) (by kernel_rfl) (fun _ _ _ h => absurd h (HP.out _ _ _)) (Or.inl ⟨by rfl, ?_⟩) hHeld ?_
  · intro w hSw
    clear hSw
    go_simp
    first | done | with_reducible rfl | rfl | simp [*]
  try simp only [Act.put, sA, sZ, sS]
  refine wpAnyH_take (i := 19) (oi := { dst := some 222, op := Op.load 37 (Operand.tmp 2), type := 37, pos := "outright.go:146", after := #[{ on := 17, ground := Ground.guard }], guard := some (17, true) }) (v := .agg (mkPth 2 b2).ar) rfl (by kernel_rfl) (by kernel_rfl) (by kernel_rfl) (fun _ _ _ h => absurd h (HP.out _ _ _)) (yields_row (by rfl) _ _ rfl k2 0 (by rfl) (mkPth 2 b2).ar pathS 29 pathZ rfl (fun w h => whole_range (h.box 7 rfl))) hHeld ?_
  try simp only [Act.put, sA, sZ, sS]
  refine wpAnyH_ready (rs := [20]) (by kernel_rfl) (by simp) ?_
  refine AllReadyH.cons (o := { dst := some 223, op := Op.call { callee := Callee.value (Operand.func 23), args := #[Operand.const (Value.string { data := #[98] }), Operand.const (Value.int IntKind.u32 1)], argTypes := #[9, 22] }, type := 40, pos := "outright.go:146", after := #[{ on := 17, ground := Ground.chain }, { on := 17, ground := Ground.guard }], guard := some (17, true) }) rfl (fun K hK => ?_) AllReadyH.nil
  go_simp
  refine (HTA.out ⟨#[98]⟩ 1 _ (by decide) (by decide)).mono ?_
  rintro e y5 ⟨⟨b223, rfl, hr⟩, hb5⟩
  clear hr
  refine hK.out _ _ (hHeld.below hb5) (fun hHeld => ?_)
  clear hK K
  try simp only [Act.put, sA, sZ, sS]
  refine wpAnyH_ready (rs := [21]) (by kernel_rfl) (by simp) ?_
  refine AllReadyH.cons (o := { dst := some 224, op := Op.call { callee := Callee.value (Operand.func 18), args := #[Operand.tmp 221, Operand.tmp 222, Operand.tmp 223], argTypes := #[49, 37, 40] }, type := 9, pos := "outright.go:146", after := #[{ on := 18, ground := Ground.data }, { on := 19, ground := Ground.data }, { on := 20, ground := Ground.data }, { on := 20, ground := Ground.chain }, { on := 17, ground := Ground.guard }], guard := some (17, true) }) rfl (fun K hK => ?_) AllReadyH.nil
  go_simp
  refine (HNX.out g00 (mkPth 2 b2) (mkPr ⟨#[98]⟩ 1 b223) _).mono ?_
  rintro e y6 ⟨rfl, hb6⟩
  rw [next_0]
  refine hK.out _ _ (hHeld.below hb6) (fun hHeld => ?_)
  clear hK K
  try simp only [Act.put, sA, sZ, sS]
  as_aux_lemma =>
  refine wpAnyH_take (i := 22) (oi := { dst := some 225, op := Op.binOp BinOp.eql 9 (Operand.tmp 224) (Operand.const (Value.string { data := #[] })) 9, type := 4, pos := "outright.go:146", after := #[{ on := 21, ground := Ground.data }, { on := 17, ground := Ground.guard }], guard := some (17, true) }) (v := .bool true) rfl (by kernel_rfl) (by kernel_rfl) (by kernel_rfl) (fun _ _ _ h => absurd h (HP.out _ _ _)) (Or.inl ⟨by rfl, ?_⟩) hHeld ?_
  · intro w hSw
    clear hSw
    go_simp
    first | done | with_reducible rfl | rfl | simp [*]
  try simp only [Act.put, sA, sZ, sS]
  refine wpAnyH_take (i := 23) (oi := { dst := some 226, op := Op.pick (Operand.tmp 220) (Operand.tmp 225) (Operand.const (Value.bool false)), type := 4, pos := "outright.go:146", after := #[{ on := 17, ground := Ground.data }, { on := 22, ground := Ground.data }], guard := none }) (v := ?_) rfl (by kernel_rfl) (by kernel_rfl) (by kernel_rfl) (fun _ _ _ h => absurd h (HP.out _ _ _)) (Or.inl ⟨by rfl, ?_⟩) hHeld ?_
  rotate_left
  · intro w hSw
    clear hSw
    go_simp
    first | done | with_reducible rfl | rfl | simp [*]
  try simp only [Act.put, sA, sZ, sS]
  refine wpAnyH_take (i := 24) (oi := { dst := some 227, op := Op.move (Operand.tmp 226), type := 4, pos := "outright.go:146", after := #[{ on := 23, ground := Ground.data }, { on := 21, ground := Ground.chain }], guard := none }) (v := ?_) rfl (by kernel_rfl) (by kernel_rfl) (by kernel_rfl) (fun _ _ _ h => absurd h (HP.out _ _ _)) (Or.inl ⟨by rfl, ?_⟩) hHeld ?_
  rotate_left
  · intro w hSw
    clear hSw
    go_simp
    first | done | with_reducible rfl | rfl | simp [*]
  try simp only [Act.put, sA, sZ, sS]
  refine wpAnyH_take (i := 25) (oi := { dst := some 228, op := Op.move (Operand.tmp 25), type := 4, pos := "outright.go:146", after := #[{ on := 24, ground := Ground.guard }], guard := some (24, true) }) (v := ?_) rfl (by kernel_rfl) (by kernel_rfl) (by kernel_rfl) (fun _ _ _ h => absurd h (HP.out _ _ _)) (Or.inl ⟨by rfl, ?_⟩) hHeld ?_
  rotate_left
  · intro w hSw
    clear hSw
    go_simp
    first | done | with_reducible rfl | rfl | simp [*]
  try simp only [Act.put, sA, sZ, sS]
  refine wpAnyH_take (i := 26) (oi := { dst := some 229, op := Op.pick (Operand.tmp 227) (Operand.tmp 228) (Operand.const (Value.bool false)), type := 4, pos := "outright.go:146", after := #[{ on := 24, ground := Ground.data }, { on := 25, ground := Ground.data }], guard := none }) (v := ?_) rfl (by kernel_rfl) (by kernel_rfl) (by kernel_rfl) (fun _ _ _ h => absurd h (HP.out _ _ _)) (Or.inl ⟨by rfl, ?_⟩) hHeld ?_
  rotate_left
  · intro w hSw
    clear hSw
    go_simp
    first | done | with_reducible rfl | rfl | simp [*]
  try simp only [Act.put, sA, sZ, sS]
  refine wpAnyH_take (i := 27) (oi := { dst := some 230, op := Op.move (Operand.tmp 229), type := 4, pos := "outright.go:146", after := #[{ on := 26, ground := Ground.data }, { on := 24, ground := Ground.chain }], guard := none }) (v := ?_) rfl (by kernel_rfl) (by kernel_rfl) (by kernel_rfl) (fun _ _ _ h => absurd h (HP.out _ _ _)) (Or.inl ⟨by rfl, ?_⟩) hHeld ?_
  rotate_left
  · intro w hSw
    clear hSw
    go_simp
    first | done | with_reducible rfl | rfl | simp [*]
  try simp only [Act.put, sA, sZ, sS]
  refine wpAnyH_take (i := 28) (oi := { dst := some 231, op := Op.fieldAddr 33 (Operand.tmp 24) 1, type := 0, pos := "outright.go:146", after := #[{ on := 27, ground := Ground.guard }], guard := some (27, true) }) (v := ?_) rfl (by kernel_rfl) (by kernel_rfl) (by kernel_rfl) (fun _ _ _ h => absurd h (HP.out _ _ _)) (Or.inl ⟨by rfl, ?_⟩) hHeld ?_
  rotate_left
  · intro w hSw
    clear hSw
    go_simp
    first | done | with_reducible rfl | rfl | simp [*]
  try simp only [Act.put, sA, sZ, sS]
  refine wpAnyH_take (i := 29) (oi := { dst := some 232, op := Op.load 28 (Operand.tmp 231), type := 28, pos := "outright.go:146", after := #[{ on := 28, ground := Ground.data }, { on := 27, ground := Ground.guard }], guard := some (27, true) }) (v := .slice x24.pA x24.segs.length x24.pC) rfl (by kernel_rfl) (by kernel_rfl) (by kernel_rfl) (fun _ _ _ h => absurd h (HP.out _ _ _)) (Or.inl ⟨by rfl, ?_⟩) hHeld ?_
  · intro w hSw
    have c : w.cell? ⟨k24, 1, none⟩ = some (.slice x24.pA x24.segs.length x24.pC) := ((hSw.box 4 rfl).c 1).trans rfl
    clear hSw
    go_simp
    first | done | with_reducible rfl | simp [*]
  try simp only [Act.put, sA, sZ, sS]
  refine wpAnyH_ready (rs := [30, 32]) (by kernel_rfl) (by simp) ?_
  refine AllReadyH.cons (o := { dst := some 233, op := Op.buildSlice 29 1 #[(0, Operand.const (Value.int IntKind.u32 65000))], type := 29, pos := "outright.go:146", after := #[{ on := 27, ground := Ground.guard }], guard := some (27, true) }) rfl (fun K hK => ?_) ?_
  · go_simp
    have h233 := CellsAt.new (y6) #[.int .u32 (65000 : Nat)] 22
    try simp only [World.size_alloc] at h233
    refine hK.out _ _ (hHeld.below (below1 _ _)) (fun hHeld => ?_)
    clear hK K
    try simp only [Act.put, sA, sZ, sS]
    refine wpAnyH_take (i := 31) (oi := { dst := some 234, op := Op.build 67 #[(0, Operand.const (Value.int IntKind.i64 3)), (1, Operand.tmp 233)], type := 67, pos := "outright.go:146", after := #[{ on := 30, ground := Ground.data }, { on := 27, ground := Ground.guard }], guard := some (27, true) }) (v := ?_) rfl (by kernel_rfl) (by kernel_rfl) (by kernel_rfl) (fun _ _ _ h => absurd h (HP.out _ _ _)) (Or.inl ⟨by rfl, ?_⟩) hHeld ?_
    rotate_left
    · intro w hSw
      clear hSw
      go_simp
      first | done | with_reducible rfl | rfl | simp [*]
    try simp only [Act.put, sA, sZ, sS]
    refine wpAnyH_ready (rs := [32]) (by kernel_rfl) (by simp) ?_
    refine AllReadyH.cons (o := { dst := some 235, op := Op.buildSlice 29 1 #[(0, Operand.const (Value.int IntKind.u32 65001))], type := 29, pos := "outright.go:146", after := #[{ on := 27, ground := Ground.guard }], guard := some (27, true) }) rfl (fun K hK => ?_) AllReadyH.nil
    go_simp
    have h235 := CellsAt.new ((y6).alloc (.cells #[.int .u32 (65000 : Nat)] 22)) #[.int .u32 (65001 : Nat)] 22
    try simp only [World.size_alloc] at h235
    refine hK.out _ _ (hHeld.below (below1 _ _)) (fun hHeld => ?_)
    clear hK K
    replace h233 := h233.alloc (.cells #[.int .u32 (65001 : Nat)] 22)
    try simp only [Act.put, sA, sZ, sS]
    refine wpAnyH_take (i := 33) (oi := { dst := some 236, op := Op.build 67 #[(0, Operand.const (Value.int IntKind.i64 2)), (1, Operand.tmp 235)], type := 67, pos := "outright.go:146", after := #[{ on := 32, ground := Ground.data }, { on := 27, ground := Ground.guard }], guard := some (27, true) }) (v := ?_) rfl (by kernel_rfl) (by kernel_rfl) (by kernel_rfl) (fun _ _ _ h => absurd h (HP.out _ _ _)) (Or.inl ⟨by rfl, ?_⟩) hHeld ?_
    rotate_left
    · intro w hSw
      clear hSw
      go_simp
      first | done | with_reducible rfl | rfl | simp [*]
    try simp only [Act.put, sA, sZ, sS]
    refine wpAnyH_ready (rs := [34]) (by kernel_rfl) (by simp) ?_
    refine AllReadyH.cons (o := { dst := some 237, op := Op.buildSlice 28 2 #[(0, Operand.tmp 234), (1, Operand.tmp 236)], type := 28, pos := "outright.go:146", after := #[{ on := 31, ground := Ground.data }, { on := 33, ground := Ground.data }, { on := 27, ground := Ground.guard }], guard := some (27, true) }) rfl (fun K hK => ?_) AllReadyH.nil
    go_simp
    have h237 := CellsAt.new (((y6).alloc (.cells #[.int .u32 (65000 : Nat)] 22)).alloc (.cells #[.int .u32 (65001 : Nat)] 22)) #[.int .i64 3, .slice (some ⟨y6.heap.size, 0, none⟩) 1 1, .int .i64 2, .slice (some ⟨y6.heap.size + 1, 0, none⟩) 1 1] 67
    simp only [World.size_alloc] at h237
    refine hK.out _ _ (hHeld.below (below1 _ _)) (fun hHeld => ?_)
    clear hK K
    try simp only [Act.put, sA, sZ, sS]
    refine wpAnyH_ready (rs := [35]) (by kernel_rfl) (by simp) ?_
    refine AllReadyH.cons (o := { dst := some 238, op := Op.call { callee := Callee.value (Operand.func 24), args := #[Operand.tmp 232, Operand.tmp 237], argTypes := #[28, 28] }, type := 4, pos := "outright.go:146", after := #[{ on := 29, ground := Ground.data }, { on := 34, ground := Ground.data }, { on := 27, ground := Ground.chain }, { on := 27, ground := Ground.guard }], guard := some (27, true) }) rfl (fun K hK => ?_) AllReadyH.nil
    go_simp
    refine (same26 (hHeld.fact 3 rfl) HX24.out (h233.alloc _) (h235.alloc _) h237).mono ?_
    rintro e y10 ⟨rfl, hb10⟩
    refine hK.out _ _ (hHeld.below hb10) (fun hHeld => ?_)
    clear hK K h233 h235 h237
    try simp only [Act.put, sA, sZ, sS]
    as_aux_lemma =>
    refine wpAnyH_take (i := 36) (oi := { dst := some 239, op := Op.pick (Operand.tmp 230) (Operand.tmp 238) (Operand.const (Value.bool false)), type := 4, pos := "outright.go:146", after := #[{ on := 27, ground := Ground.data }, { on := 35, ground := Ground.data }], guard := none }) (v := ?_) rfl (by kernel_rfl) (by kernel_rfl) (by kernel_rfl) (fun _ _ _ h => absurd h (HP.out _ _ _)) (Or.inl ⟨by rfl, ?_⟩) hHeld ?_
    rotate_left
    · intro w hSw
      clear hSw
      go_simp
      first | done | with_reducible rfl | rfl | simp [*]
    try simp only [Act.put, sA, sZ, sS]
    refine wpAnyH_take (i := 37) (oi := { dst := some 240, op := Op.move (Operand.tmp 239), type := 4, pos := "outright.go:146", after := #[{ on := 36, ground := Ground.data }, { on := 35, ground := Ground.chain }], guard := none }) (v := ?_) rfl (by kernel_rfl) (by kernel_rfl) (by kernel_rfl) (fun _ _ _ h => absurd h (HP.out _ _ _)) (Or.inl ⟨by rfl, ?_⟩) hHeld ?_
    rotate_left
    · intro w hSw
      clear hSw
      go_simp
      first | done | with_reducible rfl | rfl | simp [*]
    try simp only [Act.put, sA, sZ, sS]
    refine wpAnyH_take (i := 38) (oi := { dst := some 241, op := Op.fieldAddr 33 (Operand.tmp 24) 6, type := 0, pos := "outright.go:146", after := #[{ on := 37, ground := Ground.guard }], guard := some (37, true) }) (v := ?_) rfl (by kernel_rfl) (by kernel_rfl) (by kernel_rfl) (fun _ _ _ h => absurd h (HP.out _ _ _)) (Or.inl ⟨by rfl, ?_⟩) hHeld ?_
    rotate_left
    · intro w hSw
      clear hSw
      go_simp
      first | done | with_reducible rfl | rfl | simp [*]
    try simp only [Act.put, sA, sZ, sS]
    refine wpAnyH_take (i := 39) (oi := { dst := some 242, op := Op.load 22 (Operand.tmp 241), type := 22, pos := "outright.go:146", after := #[{ on := 38, ground := Ground.data }, { on := 37, ground := Ground.guard }], guard := some (37, true) }) (v := .int .u32 100) rfl (by kernel_rfl) (by kernel_rfl) (by kernel_rfl) (fun _ _ _ h => absurd h (HP.out _ _ _)) (Or.inl ⟨by rfl, ?_⟩) hHeld ?_
    · intro w hSw
      have c := x24_pref (hSw.box 4 rfl) HX24.out
      clear hSw
      go_simp
      first | done | with_reducible rfl | simp [*]
    try simp only [Act.put, sA, sZ, sS]
    refine wpAnyH_take (i := 40) (oi := { dst := some 243, op := Op.binOp BinOp.eql 22 (Operand.tmp 242) (Operand.const (Value.int IntKind.u32 100)) 22, type := 4, pos := "outright.go:146", after := #[{ on := 39, ground := Ground.data }, { on := 37, ground := Ground.guard }], guard := some (37, true) }) (v := .bool true) rfl (by kernel_rfl) (by kernel_rfl) (by kernel_rfl) (fun _ _ _ h => absurd h (HP.out _ _ _)) (Or.inl ⟨by rfl, ?_⟩) hHeld ?_
    · intro w hSw
      clear hSw
      go_simp
      first | done | with_reducible rfl | rfl | simp [*]
    try simp only [Act.put, sA, sZ, sS]
    refine wpAnyH_take (i := 41) (oi := { dst := some 244, op := Op.pick (Operand.tmp 240) (Operand.tmp 243) (Operand.const (Value.bool false)), type := 4, pos := "outright.go:146", after := #[{ on := 37, ground := Ground.data }, { on := 40, ground := Ground.data }], guard := none }) (v := ?_) rfl (by kernel_rfl) (by kernel_rfl) (by kernel_rfl) (fun _ _ _ h => absurd h (HP.out _ _ _)) (Or.inl ⟨by rfl, ?_⟩) hHeld ?_
    rotate_left
    · intro w hSw
      clear hSw
      go_simp
      first | done | with_reducible rfl | rfl | simp [*]
    try simp only [Act.put, sA, sZ, sS]
    refine wpAnyH_take (i := 42) (oi := { dst := some 245, op := Op.move (Operand.tmp 244), type := 4, pos := "outright.go:146", after := #[{ on := 41, ground := Ground.data }, { on := 37, ground := Ground.chain }], guard := none }) (v := ?_) rfl (by kernel_rfl) (by kernel_rfl) (by kernel_rfl) (fun _ _ _ h => absurd h (HP.out _ _ _)) (Or.inl ⟨by rfl, ?_⟩) hHeld ?_
    rotate_left
    · intro w hSw
      clear hSw
      go_simp
      first | done | with_reducible rfl | rfl | simp [*]
    try simp only [Act.put, sA, sZ, sS]
    refine wpAnyH_take (i := 43) (oi := { dst := some 246, op := Op.move (Operand.tmp 27), type := 4, pos := "outright.go:146", after := #[{ on := 42, ground := Ground.guard }], guard := some (42, true) }) (v := ?_) rfl (by kernel_rfl) (by kernel_rfl) (by kernel_rfl) (fun _ _ _ h => absurd h (HP.out _ _ _)) (Or.inl ⟨by rfl, ?_⟩) hHeld ?_
    rotate_left
    · intro w hSw
      clear hSw
      go_simp
      first | done | with_reducible rfl | rfl | simp [*]
    try simp only [Act.put, sA, sZ, sS]
    refine wpAnyH_take (i := 44) (oi := { dst := some 247, op := Op.pick (Operand.tmp 245) (Operand.tmp 246) (Operand.const (Value.bool false)), type := 4, pos := "outright.go:146", after := #[{ on := 42, ground := Ground.data }, { on := 43, ground := Ground.data }], guard := none }) (v := ?_) rfl (by kernel_rfl) (by kernel_rfl) (by kernel_rfl) (fun _ _ _ h => absurd h (HP.out _ _ _)) (Or.inl ⟨by rfl, ?_⟩) hHeld ?_
    rotate_left
    · intro w hSw
      clear hSw
      go_simp
      first | done | with_reducible rfl | rfl | simp [*]
    try simp only [Act.put, sA, sZ, sS]
    refine wpAnyH_take (i := 45) (oi := { dst := some 248, op := Op.move (Operand.tmp 247), type := 4, pos := "outright.go:146", after := #[{ on := 44, ground := Ground.data }, { on := 42, ground := Ground.chain }], guard := none }) (v := ?_) rfl (by kernel_rfl) (by kernel_rfl) (by kernel_rfl) (fun _ _ _ h => absurd h (HP.out _ _ _)) (Or.inl ⟨by rfl, ?_⟩) hHeld ?_
    rotate_left
    · intro w hSw
      clear hSw
      go_simp
      first | done | with_reducible rfl | rfl | simp [*]
    try simp only [Act.put, sA, sZ, sS]
    refine wpAnyH_take (i := 46) (oi := { dst := some 249, op := Op.fieldAddr 33 (Operand.tmp 26) 1, type := 0, pos := "outright.go:146", after := #[{ on := 45, ground := Ground.guard }], guard := some (45, true) }) (v := ?_) rfl (by kernel_rfl) (by kernel_rfl) (by kernel_rfl) (fun _ _ _ h => absurd h (HP.out _ _ _)) (Or.inl ⟨by rfl, ?_⟩) hHeld ?_
    rotate_left
    · intro w hSw
      clear hSw
      go_simp
      first | done | with_reducible rfl | rfl | simp [*]
    try simp only [Act.put, sA, sZ, sS]
    refine wpAnyH_take (i := 47) (oi := { dst := some 250, op := Op.load 28 (Operand.tmp 249), type := 28, pos := "outright.go:146", after := #[{ on := 46, ground := Ground.data }, { on := 45, ground := Ground.guard }], guard := some (45, true) }) (v := .slice (some ⟨pb, po, none⟩) 1 x26.pC) rfl (by kernel_rfl) (by kernel_rfl) (by kernel_rfl) (fun _ _ _ h => absurd h (HP.out _ _ _)) (Or.inl ⟨by rfl, ?_⟩) hHeld ?_
    · intro w hSw
      have c := x26_path (hSw.box 2 rfl) hs26 hp26
      clear hSw
      go_simp
      first | done | with_reducible rfl | simp [*]
    try simp only [Act.put, sA, sZ, sS]
    refine wpAnyH_take (i := 48) (oi := { dst := some 251, op := Op.call { callee := Callee.builtin Builtin.len, args := #[Operand.tmp 250], argTypes := #[28] }, type := 3, pos := "outright.go:146", after := #[{ on := 47, ground := Ground.data }, { on := 45, ground := Ground.guard }], guard := some (45, true) }) (v := ?_) rfl (by kernel_rfl) (by kernel_rfl) (by kernel_rfl) (fun _ _ _ h => absurd h (HP.out _ _ _)) (Or.inl ⟨by rfl, ?_⟩) hHeld ?_
    rotate_left
    · intro w hSw
      clear hSw
      go_simp
      first | done | with_reducible rfl | rfl | simp [*]
    try simp only [Act.put, sA, sZ, sS]
    refine wpAnyH_take (i := 49) (oi := { dst := some 252, op := Op.binOp BinOp.eql 3 (Operand.tmp 251) (Operand.const (Value.int IntKind.i64 1)) 3, type := 4, pos := "outright.go:146", after := #[{ on := 48, ground := Ground.data }, { on := 45, ground := Ground.guard }], guard := some (45, true) }) (v := .bool true) rfl (by kernel_rfl) (by kernel_rfl) (by kernel_rfl) (fun _ _ _ h => absurd h (HP.out _ _ _)) (Or.inl ⟨by rfl, ?_⟩) hHeld ?_
    · intro w hSw
      clear hSw
      go_simp
      first | done | with_reducible rfl | rfl | simp [*]
    try simp only [Act.put, sA, sZ, sS]
    refine wpAnyH_take (i := 50) (oi := { dst := some 253, op := Op.pick (Operand.tmp 248) (Operand.tmp 252) (Operand.const (Value.bool false)), type := 4, pos := "outright.go:146", after := #[{ on := 45, ground := Ground.data }, { on := 49, ground := Ground.data }], guard := none }) (v := ?_) rfl (by kernel_rfl) (by kernel_rfl) (by kernel_rfl) (fun _ _ _ h => absurd h (HP.out _ _ _)) (Or.inl ⟨by rfl, ?_⟩) hHeld ?_
    rotate_left
    · intro w hSw
      clear hSw
      go_simp
      first | done | with_reducible rfl | rfl | simp [*]
    try simp only [Act.put, sA, sZ, sS]
    refine wpAnyH_take (i := 51) (oi := { dst := some 254, op := Op.move (Operand.tmp 253), type := 4, pos := "outright.go:146", after := #[{ on := 50, ground := Ground.data }, { on := 45, ground := Ground.chain }], guard := none }) (v := ?_) rfl (by kernel_rfl) (by kernel_rfl) (by kernel_rfl) (fun _ _ _ h => absurd h (HP.out _ _ _)) (Or.inl ⟨by rfl, ?_⟩) hHeld ?_
    rotate_left
    · intro w hSw
      clear hSw
      go_simp
      first | done | with_reducible rfl | rfl | simp [*]
    try simp only [Act.put, sA, sZ, sS]
    refine wpAnyH_take (i := 52) (oi := { dst := some 255, op := Op.fieldAddr 33 (Operand.tmp 26) 1, type := 0, pos := "outright.go:146", after := #[{ on := 51, ground := Ground.guard }], guard := some (51, true) }) (v := ?_) rfl (by kernel_rfl) (by kernel_rfl) (by kernel_rfl) (fun _ _ _ h => absurd h (HP.out _ _ _)) (Or.inl ⟨by rfl, ?_⟩) hHeld ?_
    rotate_left
    · intro w hSw
      clear hSw
      go_simp
      first | done | with_reducible rfl | rfl | simp [*]
    try simp only [Act.put, sA, sZ, sS]
    refine wpAnyH_take (i := 53) (oi := { dst := some 256, op := Op.load 28 (Operand.tmp 255), type := 28, pos := "outright.go:146", after := #[{ on := 52, ground := Ground.data }, { on := 51, ground := Ground.guard }], guard := some (51, true) }) (v := .slice (some ⟨pb, po, none⟩) 1 x26.pC) rfl (by kernel_rfl) (by kernel_rfl) (by kernel_rfl) (fun _ _ _ h => absurd h (HP.out _ _ _)) (Or.inl ⟨by rfl, ?_⟩) hHeld ?_
    · intro w hSw
      have c := x26_path (hSw.box 2 rfl) hs26 hp26
      clear hSw
      go_simp
      first | done | with_reducible rfl | simp [*]
    try simp only [Act.put, sA, sZ, sS]
    refine wpAnyH_take (i := 54) (oi := { dst := some 257, op := Op.indexAddr 28 (Operand.tmp 256) (Operand.const (Value.int IntKind.i64 0)), type := 0, pos := "outright.go:146", after := #[{ on := 53, ground := Ground.data }, { on := 51, ground := Ground.guard }], guard := some (51, true) }) (v := .pointer (some ⟨pb, po, none⟩)) rfl (by kernel_rfl) (by kernel_rfl) (by kernel_rfl) (fun _ _ _ h => absurd h (HP.out _ _ _)) (Or.inl ⟨by rfl, ?_⟩) hHeld ?_
    · intro w hSw
      clear hSw
      go_simp
      first | done | with_reducible rfl | rfl | simp [*]
    try simp only [Act.put, sA, sZ, sS]
    refine wpAnyH_take (i := 55) (oi := { dst := some 258, op := Op.fieldAddr 67 (Operand.tmp 257) 1, type := 0, pos := "outright.go:146", after := #[{ on := 54, ground := Ground.data }, { on := 51, ground := Ground.guard }], guard := some (51, true) }) (v := .pointer (some ⟨pb, po + 1, none⟩)) rfl (by kernel_rfl) (by kernel_rfl) (by kernel_rfl) (fun _ _ _ h => absurd h (HP.out _ _ _)) (Or.inl ⟨by rfl, ?_⟩) hHeld ?_
    · intro w hSw
      clear hSw
      go_simp
      first | done | with_reducible rfl | rfl | simp [*]
    try simp only [Act.put, sA, sZ, sS]
    refine wpAnyH_take (i := 56) (oi := { dst := some 259, op := Op.load 29 (Operand.tmp 258), type := 29, pos := "outright.go:146", after := #[{ on := 55, ground := Ground.data }, { on := 51, ground := Ground.guard }], guard := some (51, true) }) (v := .slice (some ⟨sb, so, none⟩) 2 sc) rfl (by kernel_rfl) (by kernel_rfl) (by kernel_rfl) (fun _ _ _ h => absurd h (HP.out _ _ _)) (Or.inl ⟨by rfl, ?_⟩) hHeld ?_
    · intro w hSw
      have c := (x26_at (hSw.fact 1 rfl) hs26 hp26).1
      clear hSw
      go_simp
      first | done | with_reducible rfl | simp [*]
    try simp only [Act.put, sA, sZ, sS]
    refine wpAnyH_take (i := 57) (oi := { dst := some 260, op := Op.indexAddr 29 (Operand.tmp 259) (Operand.const (Value.int IntKind.i64 0)), type := 0, pos := "outright.go:146", after := #[{ on := 56, ground := Ground.data }, { on := 51, ground := Ground.guard }], guard := some (51, true) }) (v := .pointer (some ⟨sb, so, none⟩)) rfl (by kernel_rfl) (by kernel_rfl) (by kernel_rfl) (fun _ _ _ h => absurd h (HP.out _ _ _)) (Or.inl ⟨by rfl, ?_⟩) hHeld ?_
    · intro w hSw
      clear hSw
      go_simp
      first | done | with_reducible rfl | rfl | simp [*]
    try simp only [Act.put, sA, sZ, sS]
    refine wpAnyH_take (i := 58) (oi := { dst := some 261, op := Op.load 22 (Operand.tmp 260), type := 22, pos := "outright.go:146", after := #[{ on := 57, ground := Ground.data }, { on := 51, ground := Ground.guard }], guard := some (51, true) }) (v := .int .u32 100) rfl (by kernel_rfl) (by kernel_rfl) (by kernel_rfl) (fun _ _ _ h => absurd h (HP.out _ _ _)) (Or.inl ⟨by rfl, ?_⟩) hHeld ?_
    · intro w hSw
      have c := (x26_at (hSw.fact 1 rfl) hs26 hp26).2
      clear hSw
      go_simp
      first | done | with_reducible rfl | simp [*]
    try simp only [Act.put, sA, sZ, sS]
    refine wpAnyH_take (i := 59) (oi := { dst := some 262, op := Op.binOp BinOp.eql 22 (Operand.tmp 261) (Operand.const (Value.int IntKind.u32 100)) 22, type := 4, pos := "outright.go:146", after := #[{ on := 58, ground := Ground.data }, { on := 51, ground := Ground.guard }], guard := some (51, true) }) (v := .bool true) rfl (by kernel_rfl) (by kernel_rfl) (by kernel_rfl) (fun _ _ _ h => absurd h (HP.out _ _ _)) (Or.inl ⟨by rfl, ?_⟩) hHeld ?_
    · intro w hSw
      clear hSw
      go_simp
      first | done | with_reducible rfl | rfl | simp [*]
    try simp only [Act.put, sA, sZ, sS]
    refine wpAnyH_take (i := 60) (oi := { dst := some 263, op := Op.pick (Operand.tmp 254) (Operand.tmp 262) (Operand.const (Value.bool false)), type := 4, pos := "outright.go:146", after := #[{ on := 51, ground := Ground.data }, { on := 59, ground := Ground.data }], guard := none }) (v := ?_) rfl (by kernel_rfl) (by kernel_rfl) (by kernel_rfl) (fun _ _ _ h => absurd h (HP.out _ _ _)) (Or.inl ⟨by rfl, ?_⟩) hHeld ?_
    rotate_left
    · intro w hSw
      clear hSw
      go_simp
      first | done | with_reducible rfl | rfl | simp [*]
    try simp only [Act.put, sA, sZ, sS]
    refine wpAnyH_take (i := 61) (oi := { dst := some 264, op := Op.move (Operand.tmp 263), type := 4, pos := "outright.go:146", after := #[{ on := 60, ground := Ground.data }, { on := 51, ground := Ground.chain }], guard := none }) (v := ?_) rfl (by kernel_rfl) (by kernel_rfl) (by kernel_rfl) (fun _ _ _ h => absurd h (HP.out _ _ _)) (Or.inl ⟨by rfl, ?_⟩) hHeld ?_
    rotate_left
    · intro w hSw
      clear hSw
      go_simp
      first | done | with_reducible rfl | rfl | simp [*]
    try simp only [Act.put, sA, sZ, sS]
    refine wpAnyH_take (i := 62) (oi := { dst := some 265, op := Op.move (Operand.tmp 30), type := 4, pos := "outright.go:146", after := #[{ on := 61, ground := Ground.guard }], guard := some (61, true) }) (v := ?_) rfl (by kernel_rfl) (by kernel_rfl) (by kernel_rfl) (fun _ _ _ h => absurd h (HP.out _ _ _)) (Or.inl ⟨by rfl, ?_⟩) hHeld ?_
    rotate_left
    · intro w hSw
      clear hSw
      go_simp
      first | done | with_reducible rfl | rfl | simp [*]
    try simp only [Act.put, sA, sZ, sS]
    refine wpAnyH_take (i := 63) (oi := { dst := some 266, op := Op.unOp UnOp.not 4 (Operand.tmp 265), type := 4, pos := "outright.go:146", after := #[{ on := 62, ground := Ground.data }, { on := 61, ground := Ground.guard }], guard := some (61, true) }) (v := ?_) rfl (by kernel_rfl) (by kernel_rfl) (by kernel_rfl) (fun _ _ _ h => absurd h (HP.out _ _ _)) (Or.inl ⟨by rfl, ?_⟩) hHeld ?_
    rotate_left
    · intro w hSw
      clear hSw
      go_simp
      first | done | with_reducible rfl | rfl | simp [*]
    try simp only [Act.put, sA, sZ, sS]
    refine wpAnyH_take (i := 64) (oi := { dst := some 267, op := Op.pick (Operand.tmp 264) (Operand.tmp 266) (Operand.const (Value.bool false)), type := 4, pos := "outright.go:146", after := #[{ on := 61, ground := Ground.data }, { on := 63, ground := Ground.data }], guard := none }) (v := ?_) rfl (by kernel_rfl) (by kernel_rfl) (by kernel_rfl) (fun _ _ _ h => absurd h (HP.out _ _ _)) (Or.inl ⟨by rfl, ?_⟩) hHeld ?_
    rotate_left
    · intro w hSw
      clear hSw
      go_simp
      first | done | with_reducible rfl | rfl | simp [*]
    try simp only [Act.put, sA, sZ, sS]
    refine wpAnyH_take (i := 65) (oi := { dst := some 268, op := Op.move (Operand.tmp 267), type := 4, pos := "outright.go:146", after := #[{ on := 64, ground := Ground.data }, { on := 61, ground := Ground.chain }], guard := none }) (v := ?_) rfl (by kernel_rfl) (by kernel_rfl) (by kernel_rfl) (fun _ _ _ h => absurd h (HP.out _ _ _)) (Or.inl ⟨by rfl, ?_⟩) hHeld ?_
    rotate_left
    · intro w hSw
      clear hSw
      go_simp
      first | done | with_reducible rfl | rfl | simp [*]
    try simp only [Act.put, sA, sZ, sS]
    refine wpAnyH_take (i := 66) (oi := { dst := some 269, op := Op.move (Operand.tmp 33), type := 54, pos := "outright.go:146", after := #[{ on := 65, ground := Ground.guard }], guard := some (65, true) }) (v := ?_) rfl (by kernel_rfl) (by kernel_rfl) (by kernel_rfl) (fun _ _ _ h => absurd h (HP.out _ _ _)) (Or.inl ⟨by rfl, ?_⟩) hHeld ?_
    rotate_left
    · intro w hSw
      clear hSw
      go_simp
      first | done | with_reducible rfl | rfl | simp [*]
    try simp only [Act.put, sA, sZ, sS]
    refine wpAnyH_take (i := 67) (oi := { dst := some 270, op := Op.binOp BinOp.eql 54 (Operand.tmp 269) (Operand.const (Value.int IntKind.i64 3)) 54, type := 4, pos := "outright.go:146", after := #[{ on := 66, ground := Ground.data }, { on := 65, ground := Ground.guard }], guard := some (65, true) }) (v := ?_) rfl (by kernel_rfl) (by kernel_rfl) (by kernel_rfl) (fun _ _ _ h => absurd h (HP.out _ _ _)) (Or.inl ⟨by rfl, ?_⟩) hHeld ?_
    rotate_left
    · intro w hSw
      clear hSw
      go_simp
      first | done | with_reducible rfl | rfl | simp [*]
    try simp only [Act.put, sA, sZ, sS]
    refine wpAnyH_take (i := 68) (oi := { dst := some 271, op := Op.pick (Operand.tmp 268) (Operand.tmp 270) (Operand.const (Value.bool false)), type := 4, pos := "outright.go:146", after := #[{ on := 65, ground := Ground.data }, { on := 67, ground := Ground.data }], guard := none }) (v := ?_) rfl (by kernel_rfl) (by kernel_rfl) (by kernel_rfl) (fun _ _ _ h => absurd h (HP.out _ _ _)) (Or.inl ⟨by rfl, ?_⟩) hHeld ?_
    rotate_left
    · intro w hSw
      clear hSw
      go_simp
      first | done | with_reducible rfl | rfl | simp [*]
    try simp only [Act.put, sA, sZ, sS]
    refine wpAnyH_take (i := 69) (oi := { dst := some 272, op := Op.move (Operand.tmp 271), type := 4, pos := "outright.go:146", after := #[{ on := 68, ground := Ground.data }, { on := 65, ground := Ground.chain }], guard := none }) (v := ?_) rfl (by kernel_rfl) (by kernel_rfl) (by kernel_rfl) (fun _ _ _ h => absurd h (HP.out _ _ _)) (Or.inl ⟨by rfl, ?_⟩) hHeld ?_
    rotate_left
    · intro w hSw
      clear hSw
      go_simp
      first | done | with_reducible rfl | rfl | simp [*]
    try simp only [Act.put, sA, sZ, sS]
    refine wpAnyH_take (i := 70) (oi := { dst := some 273, op := Op.move (Operand.tmp 35), type := 54, pos := "outright.go:146", after := #[{ on := 69, ground := Ground.guard }], guard := some (69, true) }) (v := ?_) rfl (by kernel_rfl) (by kernel_rfl) (by kernel_rfl) (fun _ _ _ h => absurd h (HP.out _ _ _)) (Or.inl ⟨by rfl, ?_⟩) hHeld ?_
    rotate_left
    · intro w hSw
      clear hSw
      go_simp
      first | done | with_reducible rfl | rfl | simp [*]
    try simp only [Act.put, sA, sZ, sS]
    refine wpAnyH_take (i := 71) (oi := { dst := some 274, op := Op.binOp BinOp.eql 54 (Operand.tmp 273) (Operand.const (Value.int IntKind.i64 2)) 54, type := 4, pos := "outright.go:146", after := #[{ on := 70, ground := Ground.data }, { on := 69, ground := Ground.guard }], guard := some (69, true) }) (v := ?_) rfl (by kernel_rfl) (by kernel_rfl) (by kernel_rfl) (fun _ _ _ h => absurd h (HP.out _ _ _)) (Or.inl ⟨by rfl, ?_⟩) hHeld ?_
    rotate_left
    · intro w hSw
      clear hSw
      go_simp
      first | done | with_reducible rfl | rfl | simp [*]
    try simp only [Act.put, sA, sZ, sS]
    refine wpAnyH_take (i := 72) (oi := { dst := some 275, op := Op.pick (Operand.tmp 272) (Operand.tmp 274) (Operand.const (Value.bool false)), type := 4, pos := "outright.go:146", after := #[{ on := 69, ground := Ground.data }, { on := 71, ground := Ground.data }], guard := none }) (v := ?_) rfl (by kernel_rfl) (by kernel_rfl) (by kernel_rfl) (fun _ _ _ h => absurd h (HP.out _ _ _)) (Or.inl ⟨by rfl, ?_⟩) hHeld ?_
    rotate_left
    · intro w hSw
      clear hSw
      go_simp
      first | done | with_reducible rfl | rfl | simp [*]
    try simp only [Act.put, sA, sZ, sS]
    refine wpAnyH_take (i := 73) (oi := { dst := some 0, op := Op.assign (Operand.tmp 275), type := 4, pos := "outright.go:146", after := ([{ on := 72, ground := Ground.data }, { on := 69, ground := Ground.chain }, { on := 0, ground := Ground.phase }, { on := 1, ground := Ground.phase }, { on := 2, ground := Ground.phase }, { on := 3, ground := Ground.phase }, { on := 4, ground := Ground.phase }, { on := 5, ground := Ground.phase }, { on := 6, ground := Ground.phase }, { on := 7, ground := Ground.phase }, { on := 8, ground := Ground.phase }, { on := 9, ground := Ground.phase }, { on := 10, ground := Ground.phase }, { on := 11, ground := Ground.phase }, { on := 12, ground := Ground.phase }, { on := 13, ground := Ground.phase }, { on := 14, ground := Ground.phase }, { on := 15, ground := Ground.phase }, { on := 16, ground := Ground.phase }, { on := 17, ground := Ground.phase }, { on := 18, ground := Ground.phase }, { on := 19, ground := Ground.phase }, { on := 20, ground := Ground.phase }, { on := 21, ground := Ground.phase }, { on := 22, ground := Ground.phase }, { on := 23, ground := Ground.phase }, { on := 24, ground := Ground.phase }, { on := 25, ground := Ground.phase }, { on := 26, ground := Ground.phase }, { on := 27, ground := Ground.phase }, { on := 28, ground := Ground.phase }, { on := 29, ground := Ground.phase }, { on := 30, ground := Ground.phase }, { on := 31, ground := Ground.phase }, { on := 32, ground := Ground.phase }, { on := 33, ground := Ground.phase }, { on := 34, ground := Ground.phase }].append [{ on := 35, ground := Ground.phase }, { on := 36, ground := Ground.phase }, { on := 37, ground := Ground.phase }, { on := 38, ground := Ground.phase }, { on := 39, ground := Ground.phase }, { on := 40, ground := Ground.phase }, { on := 41, ground := Ground.phase }, { on := 42, ground := Ground.phase }, { on := 43, ground := Ground.phase }, { on := 44, ground := Ground.phase }, { on := 45, ground := Ground.phase }, { on := 46, ground := Ground.phase }, { on := 47, ground := Ground.phase }, { on := 48, ground := Ground.phase }, { on := 49, ground := Ground.phase }, { on := 50, ground := Ground.phase }, { on := 51, ground := Ground.phase }, { on := 52, ground := Ground.phase }, { on := 53, ground := Ground.phase }, { on := 54, ground := Ground.phase }, { on := 55, ground := Ground.phase }, { on := 56, ground := Ground.phase }, { on := 57, ground := Ground.phase }, { on := 58, ground := Ground.phase }, { on := 59, ground := Ground.phase }, { on := 60, ground := Ground.phase }, { on := 61, ground := Ground.phase }, { on := 62, ground := Ground.phase }, { on := 63, ground := Ground.phase }, { on := 64, ground := Ground.phase }, { on := 65, ground := Ground.phase }, { on := 66, ground := Ground.phase }, { on := 67, ground := Ground.phase }, { on := 68, ground := Ground.phase }, { on := 69, ground := Ground.phase }, { on := 70, ground := Ground.phase }, { on := 71, ground := Ground.phase }, { on := 72, ground := Ground.phase }]).toArray, guard := none }) (v := ?_) rfl (by kernel_rfl) (by kernel_rfl) (by kernel_rfl) (fun _ _ _ h => absurd h (HP.out _ _ _)) (Or.inl ⟨by rfl, ?_⟩) hHeld ?_
    rotate_left
    · intro w hSw
      clear hSw
      go_simp
      first | done | with_reducible rfl | rfl | simp [*]
    try simp only [Act.put, sA, sZ, sS]
    refine wpAnyH_done (by kernel_rfl) ?_ _
    rw [HQQ.out]
    exact ⟨rfl, _, _, _, _, _, _, _, _, _, _, _, _, _, _, _, _, _, _, _, _, _, _, _, _, _, _, _, _, _, _, _, _, _, _, _, _, _, _, _, _, _, _, _, _, _, _, _, _, _, _, _, _, _, _, _, _, _, _, _, _, _, _, _, _, _, _, _, _, _, _, _, _, _, rfl, Lib.hid hHeld.b⟩
  refine AllReadyH.cons (o := { dst := some 235, op := Op.buildSlice 29 1 #[(0, Operand.const (Value.int IntKind.u32 65001))], type := 29, pos := "outright.go:146", after := #[{ on := 27, ground := Ground.guard }], guard := some (27, true) }) rfl (fun K hK => ?_) AllReadyH.nil
  go_simp
  have h235 := CellsAt.new (y6) #[.int .u32 (65001 : Nat)] 22
  try simp only [World.size_alloc] at h235
  refine hK.out _ _ (hHeld.below (below1 _ _)) (fun hHeld => ?_)
  clear hK K
  try simp only [Act.put, sA, sZ, sS]
  refine wpAnyH_take (i := 33) (oi := { dst := some 236, op := Op.build 67 #[(0, Operand.const (Value.int IntKind.i64 2)), (1, Operand.tmp 235)], type := 67, pos := "outright.go:146", after := #[{ on := 32, ground := Ground.data }, { on := 27, ground := Ground.guard }], guard := some (27, true) }) (v := ?_) rfl (by kernel_rfl) (by kernel_rfl) (by kernel_rfl) (fun _ _ _ h => absurd h (HP.out _ _ _)) (Or.inl ⟨by rfl, ?_⟩) hHeld ?_
  rotate_left
  · intro w hSw
    clear hSw
    go_simp
    first | done | with_reducible rfl | rfl | simp [*]
  try simp only [Act.put, sA, sZ, sS]
  refine wpAnyH_ready (rs := [30]) (by kernel_rfl) (by simp) ?_
  refine AllReadyH.cons (o := { dst := some 233, op := Op.buildSlice 29 1 #[(0, Operand.const (Value.int IntKind.u32 65000))], type := 29, pos := "outright.go:146", after := #[{ on := 27, ground := Ground.guard }], guard := some (27, true) }) rfl (fun K hK => ?_) AllReadyH.nil
  go_simp
  have h233 := CellsAt.new ((y6).alloc (.cells #[.int .u32 (65001 : Nat)] 22)) #[.int .u32 (65000 : Nat)] 22
  try simp only [World.size_alloc] at h233
  refine hK.out _ _ (hHeld.below (below1 _ _)) (fun hHeld => ?_)
  clear hK K
  replace h235 := h235.alloc (.cells #[.int .u32 (65000 : Nat)] 22)
  try simp only [Act.put, sA, sZ, sS]
  refine wpAnyH_take (i := 31) (oi := { dst := some 234, op := Op.build 67 #[(0, Operand.const (Value.int IntKind.i64 3)), (1, Operand.tmp 233)], type := 67, pos := "outright.go:146", after := #[{ on := 30, ground := Ground.data }, { on := 27, ground := Ground.guard }], guard := some (27, true) }) (v := ?_) rfl (by kernel_rfl) (by kernel_rfl) (by kernel_rfl) (fun _ _ _ h => absurd h (HP.out _ _ _)) (Or.inl ⟨by rfl, ?_⟩) hHeld ?_
  rotate_left
  · intro w hSw
    clear hSw
    go_simp
    first | done | with_reducible rfl | rfl | simp [*]
  try simp only [Act.put, sA, sZ, sS]
  refine wpAnyH_ready (rs := [34]) (by kernel_rfl) (by simp) ?_
  refine AllReadyH.cons (o := { dst := some 237, op := Op.buildSlice 28 2 #[(0, Operand.tmp 234), (1, Operand.tmp 236)], type := 28, pos := "outright.go:146", after := #[{ on := 31, ground := Ground.data }, { on := 33, ground := Ground.data }, { on := 27, ground := Ground.guard }], guard := some (27, true) }) rfl (fun K hK => ?_) AllReadyH.nil
  go_simp
  have h237 := CellsAt.new (((y6).alloc (.cells #[.int .u32 (65001 : Nat)] 22)).alloc (.cells #[.int .u32 (65000 : Nat)] 22)) #[.int .i64 3, .slice (some ⟨y6.heap.size + 1, 0, none⟩) 1 1, .int .i64 2, .slice (some ⟨y6.heap.size, 0, none⟩) 1 1] 67
  simp only [World.size_alloc] at h237
  refine hK.out _ _ (hHeld.below (below1 _ _)) (fun hHeld => ?_)
  clear hK K
  try simp only [Act.put, sA, sZ, sS]
  refine wpAnyH_ready (rs := [35]) (by kernel_rfl) (by simp) ?_
  refine AllReadyH.cons (o := { dst := some 238, op := Op.call { callee := Callee.value (Operand.func 24), args := #[Operand.tmp 232, Operand.tmp 237], argTypes := #[28, 28] }, type := 4, pos := "outright.go:146", after := #[{ on := 29, ground := Ground.data }, { on := 34, ground := Ground.data }, { on := 27, ground := Ground.chain }, { on := 27, ground := Ground.guard }], guard := some (27, true) }) rfl (fun K hK => ?_) AllReadyH.nil
  go_simp
  refine (same26 (hHeld.fact 3 rfl) HX24.out (h233.alloc _) (h235.alloc _) h237).mono ?_
  rintro e y14 ⟨rfl, hb14⟩
  refine hK.out _ _ (hHeld.below hb14) (fun hHeld => ?_)
  clear hK K h233 h235 h237
  try simp only [Act.put, sA, sZ, sS]
  as_aux_lemma =>
  refine wpAnyH_take (i := 36) (oi := { dst := some 239, op := Op.pick (Operand.tmp 230) (Operand.tmp 238) (Operand.const (Value.bool false)), type := 4, pos := "outright.go:146", after := #[{ on := 27, ground := Ground.data }, { on := 35, ground := Ground.data }], guard := none }) (v := ?_) rfl (by kernel_rfl) (by kernel_rfl) (by kernel_rfl) (fun _ _ _ h => absurd h (HP.out _ _ _)) (Or.inl ⟨by rfl, ?_⟩) hHeld ?_
  rotate_left
  · intro w hSw
    clear hSw
    go_simp
    first | done | with_reducible rfl | rfl | simp [*]
  try simp only [Act.put, sA, sZ, sS]
  refine wpAnyH_take (i := 37) (oi := { dst := some 240, op := Op.move (Operand.tmp 239), type := 4, pos := "outright.go:146", after := #[{ on := 36, ground := Ground.data }, { on := 35, ground := Ground.chain }], guard := none }) (v := ?_) rfl (by kernel_rfl) (by kernel_rfl) (by kernel_rfl) (fun _ _ _ h => absurd h (HP.out _ _ _)) (Or.inl ⟨by rfl, ?_⟩) hHeld ?_
  rotate_left
  · intro w hSw
    clear hSw
    go_simp
    first | done | with_reducible rfl | rfl | simp [*]
  try simp only [Act.put, sA, sZ, sS]
  refine wpAnyH_take (i := 38) (oi := { dst := some 241, op := Op.fieldAddr 33 (Operand.tmp 24) 6, type := 0, pos := "outright.go:146", after := #[{ on := 37, ground := Ground.guard }], guard := some (37, true) }) (v := ?_) rfl (by kernel_rfl) (by kernel_rfl) (by kernel_rfl) (fun _ _ _ h => absurd h (HP.out _ _ _)) (Or.inl ⟨by rfl, ?_⟩) hHeld ?_
  rotate_left
  · intro w hSw
    clear hSw
    go_simp
    first | done | with_reducible rfl | rfl | simp [*]
  try simp only [Act.put, sA, sZ, sS]
  refine wpAnyH_take (i := 39) (oi := { dst := some 242, op := Op.load 22 (Operand.tmp 241), type := 22, pos := "outright.go:146", after := #[{ on := 38, ground := Ground.data }, { on := 37, ground := Ground.guard }], guard := some (37, true) }) (v := .int .u32 100) rfl (by kernel_rfl) (by kernel_rfl) (by kernel_rfl) (fun _ _ _ h => absurd h (HP.out _ _ _)) (Or.inl ⟨by rfl, ?_⟩) hHeld ?_
  · intro w hSw
    have c := x24_pref (hSw.box 4 rfl) HX24.out
    clear hSw
    go_simp
    first | done | with_reducible rfl | simp [*]
  try simp only [Act.put, sA, sZ, sS]
  refine wpAnyH_take (i := 40) (oi := { dst := some 243, op := Op.binOp BinOp.eql 22 (Operand.tmp 242) (Operand.const (Value.int IntKind.u32 100)) 22, type := 4, pos := "outright.go:146", after := #[{ on := 39, ground := Ground.data }, { on := 37, ground := Ground.guard }], guard := some (37, true) }) (v := .bool true) rfl (by kernel_rfl) (by kernel_rfl) (by kernel_rfl) (fun _ _ _ h => absurd h (HP.out _ _ _)) (Or.inl ⟨by rfl, ?_⟩) hHeld ?_
  · intro w hSw
    clear hSw
    go_simp
    first | done | with_reducible rfl | rfl | simp [*]
  try simp only [Act.put, sA, sZ, sS]
  refine wpAnyH_take (i := 41) (oi := { dst := some 244, op := Op.pick (Operand.tmp 240) (Operand.tmp 243) (Operand.const (Value.bool false)), type := 4, pos := "outright.go:146", after := #[{ on := 37, ground := Ground.data }, { on := 40, ground := Ground.data }], guard := none }) (v := ?_) rfl (by kernel_rfl) (by kernel_rfl) (by kernel_rfl) (fun _ _ _ h => absurd h (HP.out _ _ _)) (Or.inl ⟨by rfl, ?_⟩) hHeld ?_
  rotate_left
  · intro w hSw
    clear hSw
    go_simp
    first | done | with_reducible rfl | rfl | simp [*]
  try simp only [Act.put, sA, sZ, sS]
  refine wpAnyH_take (i := 42) (oi := { dst := some 245, op := Op.move (Operand.tmp 244), type := 4, pos := "outright.go:146", after := #[{ on := 41, ground := Ground.data }, { on := 37, ground := Ground.chain }], guard := none }) (v := ?_) rfl (by kernel_rfl) (by kernel_rfl) (by kernel_rfl) (fun _ _ _ h => absurd h (HP.out _ _ _)) (Or.inl ⟨by rfl, ?_⟩) hHeld ?_
  rotate_left
  · intro w hSw
    clear hSw
    go_simp
    first | done | with_reducible rfl | rfl | simp [*]
  try simp only [Act.put, sA, sZ, sS]
  refine wpAnyH_take (i := 43) (oi := { dst := some 246, op := Op.move (Operand.tmp 27), type := 4, pos := "outright.go:146", after := #[{ on := 42, ground := Ground.guard }], guard := some (42, true) }) (v := ?_) rfl (by kernel_rfl) (by kernel_rfl) (by kernel_rfl) (fun _ _ _ h => absurd h (HP.out _ _ _)) (Or.inl ⟨by rfl, ?_⟩) hHeld ?_
  rotate_left
  · intro w hSw
    clear hSw
    go_simp
    first | done | with_reducible rfl | rfl | simp [*]
  try simp only [Act.put, sA, sZ, sS]
  refine wpAnyH_take (i := 44) (oi := { dst := some 247, op := Op.pick (Operand.tmp 245) (Operand.tmp 246) (Operand.const (Value.bool false)), type := 4, pos := "outright.go:146", after := #[{ on := 42, ground := Ground.data }, { on := 43, ground := Ground.data }], guard := none }) (v := ?_) rfl (by kernel_rfl) (by kernel_rfl) (by kernel_rfl) (fun _ _ _ h => absurd h (HP.out _ _ _)) (Or.inl ⟨by rfl, ?_⟩) hHeld ?_
  rotate_left
  · intro w hSw
    clear hSw
    go_simp
    first | done | with_reducible rfl | rfl | simp [*]
  try simp only [Act.put, sA, sZ, sS]
  refine wpAnyH_take (i := 45) (oi := { dst := some 248, op := Op.move (Operand.tmp 247), type := 4, pos := "outright.go:146", after := #[{ on := 44, ground := Ground.data }, { on := 42, ground := Ground.chain }], guard := none }) (v := ?_) rfl (by kernel_rfl) (by kernel_rfl) (by kernel_rfl) (fun _ _ _ h => absurd h (HP.out _ _ _)) (Or.inl ⟨by rfl, ?_⟩) hHeld ?_
  rotate_left
  · intro w hSw
    clear hSw
    go_simp
    first | done | with_reducible rfl | rfl | simp [*]
  try simp only [Act.put, sA, sZ, sS]
  refine wpAnyH_take (i := 46) (oi := { dst := some 249, op := Op.fieldAddr 33 (Operand.tmp 26) 1, type := 0, pos := "outright.go:146", after := #[{ on := 45, ground := Ground.guard }], guard := some (45, true) }) (v := ?_) rfl (by kernel_rfl) (by kernel_rfl) (by kernel_rfl) (fun _ _ _ h => absurd h (HP.out _ _ _)) (Or.inl ⟨by rfl, ?_⟩) hHeld ?_
  rotate_left
  · intro w hSw
    clear hSw
    go_simp
    first | done | with_reducible rfl | rfl | simp [*]
  try simp only [Act.put, sA, sZ, sS]
  refine wpAnyH_take (i := 47) (oi := { dst := some 250, op := Op.load 28 (Operand.tmp 249), type := 28, pos := "outright.go:146", after := #[{ on := 46, ground := Ground.data }, { on := 45, ground := Ground.guard }], guard := some (45, true) }) (v := .slice (some ⟨pb, po, none⟩) 1 x26.pC) rfl (by kernel_rfl) (by kernel_rfl) (by kernel_rfl) (fun _ _ _ h => absurd h (HP.out _ _ _)) (Or.inl ⟨by rfl, ?_⟩) hHeld ?_
  · intro w hSw
    have c := x26_path (hSw.box 2 rfl) hs26 hp26
    clear hSw
    go_simp
    first | done | with_reducible rfl | simp [*]
  try simp only [Act.put, sA, sZ, sS]
  refine wpAnyH_take (i := 48) (oi := { dst := some 251, op := Op.call { callee := Callee.builtin Builtin.len, args := #[Operand.tmp 250], argTypes := #[28] }, type := 3, pos := "outright.go:146", after := #[{ on := 47, ground := Ground.data }, { on := 45, ground := Ground.guard }], guard := some (45, true) }) (v := ?_) rfl (by kernel_rfl) (by kernel_rfl) (by kernel_rfl) (fun _ _ _ h => absurd h (HP.out _ _ _)) (Or.inl ⟨by rfl, ?_⟩) hHeld ?_
  rotate_left
  · intro w hSw
    clear hSw
    go_simp
    first | done | with_reducible rfl | rfl | simp [*]
  try simp only [Act.put, sA, sZ, sS]
  refine wpAnyH_take (i := 49) (oi := { dst := some 252, op := Op.binOp BinOp.eql 3 (Operand.tmp 251) (Operand.const (Value.int IntKind.i64 1)) 3, type := 4, pos := "outright.go:146", after := #[{ on := 48, ground := Ground.data }, { on := 45, ground := Ground.guard }], guard := some (45, true) }) (v := .bool true) rfl (by kernel_rfl) (by kernel_rfl) (by kernel_rfl) (fun _ _ _ h => absurd h (HP.out _ _ _)) (Or.inl ⟨by rfl, ?_⟩) hHeld ?_
  · intro w hSw
    clear hSw
    go_simp
    first | done | with_reducible rfl | rfl | simp [*]
  try simp only [Act.put, sA, sZ, sS]
  refine wpAnyH_take (i := 50) (oi := { dst := some 253, op := Op.pick (Operand.tmp 248) (Operand.tmp 252) (Operand.const (Value.bool false)), type := 4, pos := "outright.go:146", after := #[{ on := 45, ground := Ground.data }, { on := 49, ground := Ground.data }], guard := none }) (v := ?_) rfl (by kernel_rfl) (by kernel_rfl) (by kernel_rfl) (fun _ _ _ h => absurd h (HP.out _ _ _)) (Or.inl ⟨by rfl, ?_⟩) hHeld ?_
  rotate_left
  · intro w hSw
    clear hSw
    go_simp
    first | done | with_reducible rfl | rfl | simp [*]
  try simp only [Act.put, sA, sZ, sS]
  refine wpAnyH_take (i := 51) (oi := { dst := some 254, op := Op.move (Operand.tmp 253), type := 4, pos := "outright.go:146", after := #[{ on := 50, ground := Ground.data }, { on := 45, ground := Ground.chain }], guard := none }) (v := ?_) rfl (by kernel_rfl) (by kernel_rfl) (by kernel_rfl) (fun _ _ _ h => absurd h (HP.out _ _ _)) (Or.inl ⟨by rfl, ?_⟩) hHeld ?_
  rotate_left
  · intro w hSw
    clear hSw
    go_simp
    first | done | with_reducible rfl | rfl | simp [*]
  try simp only [Act.put, sA, sZ, sS]
  refine wpAnyH_take (i := 52) (oi := { dst := some 255, op := Op.fieldAddr 33 (Operand.tmp 26) 1, type := 0, pos := "outright.go:146", after := #[{ on := 51, ground := Ground.guard }], guard := some (51, true) }) (v := ?_) rfl (by kernel_rfl) (by kernel_rfl) (by kernel_rfl) (fun _ _ _ h => absurd h (HP.out _ _ _)) (Or.inl ⟨by rfl, ?_⟩) hHeld ?_
  rotate_left
  · intro w hSw
    clear hSw
    go_simp
    first | done | with_reducible rfl | rfl | simp [*]
  try simp only [Act.put, sA, sZ, sS]
  refine wpAnyH_take (i := 53) (oi := { dst := some 256, op := Op.load 28 (Operand.tmp 255), type := 28, pos := "outright.go:146", after := #[{ on := 52, ground := Ground.data }, { on := 51, ground := Ground.guard }], guard := some (51, true) }) (v := .slice (some ⟨pb, po, none⟩) 1 x26.pC) rfl (by kernel_rfl) (by kernel_rfl) (by kernel_rfl) (fun _ _ _ h => absurd h (HP.out _ _ _)) (Or.inl ⟨by rfl, ?_⟩) hHeld ?_
  · intro w hSw
    have c := x26_path (hSw.box 2 rfl) hs26 hp26
    clear hSw
    go_simp
    first | done | with_reducible rfl | simp [*]
  try simp only [Act.put, sA, sZ, sS]
  refine wpAnyH_take (i := 54) (oi := { dst := some 257, op := Op.indexAddr 28 (Operand.tmp 256) (Operand.const (Value.int IntKind.i64 0)), type := 0, pos := "outright.go:146", after := #[{ on := 53, ground := Ground.data }, { on := 51, ground := Ground.guard }], guard := some (51, true) }) (v := .pointer (some ⟨pb, po, none⟩)) rfl (by kernel_rfl) (by kernel_rfl) (by kernel_rfl) (fun _ _ _ h => absurd h (HP.out _ _ _)) (Or.inl ⟨by rfl, ?_⟩) hHeld ?_
  · intro w hSw
    clear hSw
    go_simp
    first | done | with_reducible rfl | rfl | simp [*]
  try simp only [Act.put, sA, sZ, sS]
  refine wpAnyH_take (i := 55) (oi := { dst := some 258, op := Op.fieldAddr 67 (Operand.tmp 257) 1, type := 0, pos := "outright.go:146", after := #[{ on := 54, ground := Ground.data }, { on := 51, ground := Ground.guard }], guard := some (51, true) }) (v := .pointer (some ⟨pb, po + 1, none⟩)) rfl (by kernel_rfl) (by kernel_rfl) (by kernel_rfl) (fun _ _ _ h => absurd h (HP.out _ _ _)) (Or.inl ⟨by rfl, ?_⟩) hHeld ?_
  · intro w hSw
    clear hSw
    go_simp
    first | done | with_reducible rfl | rfl | simp [*]
  try simp only [Act.put, sA, sZ, sS]
  refine wpAnyH_take (i := 56) (oi := { dst := some 259, op := Op.load 29 (Operand.tmp 258), type := 29, pos := "outright.go:146", after := #[{ on := 55, ground := Ground.data }, { on := 51, ground := Ground.guard }], guard := some (51, true) }) (v := .slice (some ⟨sb, so, none⟩) 2 sc) rfl (by kernel_rfl) (by kernel_rfl) (by kernel_rfl) (fun _ _ _ h => absurd h (HP.out _ _ _)) (Or.inl ⟨by rfl, ?_⟩) hHeld ?_
  · intro w hSw
    have c := (x26_at (hSw.fact 1 rfl) hs26 hp26).1
    clear hSw
    go_simp
    first | done | with_reducible rfl | simp [*]
  try simp only [Act.put, sA, sZ, sS]
  refine wpAnyH_take (i := 57) (oi := { dst := some 260, op := Op.indexAddr 29 (Operand.tmp 259) (Operand.const (Value.int IntKind.i64 0)), type := 0, pos := "outright.go:146", after := #[{ on := 56, ground := Ground.data }, { on := 51, ground := Ground.guard }], guard := some (51, true) }) (v := .pointer (some ⟨sb, so, none⟩)) rfl (by kernel_rfl) (by kernel_rfl) (by kernel_rfl) (fun _ _ _ h => absurd h (HP.out _ _ _)) (Or.inl ⟨by rfl, ?_⟩) hHeld ?_
  · intro w hSw
    clear hSw
    go_simp
    first | done | with_reducible rfl | rfl | simp [*]
  try simp only [Act.put, sA, sZ, sS]
  refine wpAnyH_take (i := 58) (oi := { dst := some 261, op := Op.load 22 (Operand.tmp 260), type := 22, pos := "outright.go:146", after := #[{ on := 57, ground := Ground.data }, { on := 51, ground := Ground.guard }], guard := some (51, true) }) (v := .int .u32 100) rfl (by kernel_rfl) (by kernel_rfl) (by kernel_rfl) (fun _ _ _ h => absurd h (HP.out _ _ _)) (Or.inl ⟨by rfl, ?_⟩) hHeld ?_
  · intro w hSw
    have c := (x26_at (hSw.fact 1 rfl) hs26 hp26).2
    clear hSw
    go_simp
    first | done | with_reducible rfl | simp [*]
  try simp only [Act.put, sA, sZ, sS]
  refine wpAnyH_take (i := 59) (oi := { dst := some 262, op := Op.binOp BinOp.eql 22 (Operand.tmp 261) (Operand.const (Value.int IntKind.u32 100)) 22, type := 4, pos := "outright.go:146", after := #[{ on := 58, ground := Ground.data }, { on := 51, ground := Ground.guard }], guard := some (51, true) }) (v := .bool true) rfl (by kernel_rfl) (by kernel_rfl) (by kernel_rfl) (fun _ _ _ h => absurd h (HP.out _ _ _)) (Or.inl ⟨by rfl, ?_⟩) hHeld ?_
  · intro w hSw
    clear hSw
    go_simp
    first | done | with_reducible rfl | rfl | simp [*]
  try simp only [Act.put, sA, sZ, sS]
  refine wpAnyH_take (i := 60) (oi := { dst := some 263, op := Op.pick (Operand.tmp 254) (Operand.tmp 262) (Operand.const (Value.bool false)), type := 4, pos := "outright.go:146", after := #[{ on := 51, ground := Ground.data }, { on := 59, ground := Ground.data }], guard := none }) (v := ?_) rfl (by kernel_rfl) (by kernel_rfl) (by kernel_rfl) (fun _ _ _ h => absurd h (HP.out _ _ _)) (Or.inl ⟨by rfl, ?_⟩) hHeld ?_
  rotate_left
  · intro w hSw
    clear hSw
    go_simp
    first | done | with_reducible rfl | rfl | simp [*]
  try simp only [Act.put, sA, sZ, sS]
  refine wpAnyH_take (i := 61) (oi := { dst := some 264, op := Op.move (Operand.tmp 263), type := 4, pos := "outright.go:146", after := #[{ on := 60, ground := Ground.data }, { on := 51, ground := Ground.chain }], guard := none }) (v := ?_) rfl (by kernel_rfl) (by kernel_rfl) (by kernel_rfl) (fun _ _ _ h => absurd h (HP.out _ _ _)) (Or.inl ⟨by rfl, ?_⟩) hHeld ?_
  rotate_left
  · intro w hSw
    clear hSw
    go_simp
    first | done | with_reducible rfl | rfl | simp [*]
  try simp only [Act.put, sA, sZ, sS]
  refine wpAnyH_take (i := 62) (oi := { dst := some 265, op := Op.move (Operand.tmp 30), type := 4, pos := "outright.go:146", after := #[{ on := 61, ground := Ground.guard }], guard := some (61, true) }) (v := ?_) rfl (by kernel_rfl) (by kernel_rfl) (by kernel_rfl) (fun _ _ _ h => absurd h (HP.out _ _ _)) (Or.inl ⟨by rfl, ?_⟩) hHeld ?_
  rotate_left
  · intro w hSw
    clear hSw
    go_simp
    first | done | with_reducible rfl | rfl | simp [*]
  try simp only [Act.put, sA, sZ, sS]
  refine wpAnyH_take (i := 63) (oi := { dst := some 266, op := Op.unOp UnOp.not 4 (Operand.tmp 265), type := 4, pos := "outright.go:146", after := #[{ on := 62, ground := Ground.data }, { on := 61, ground := Ground.guard }], guard := some (61, true) }) (v := ?_) rfl (by kernel_rfl) (by kernel_rfl) (by kernel_rfl) (fun _ _ _ h => absurd h (HP.out _ _ _)) (Or.inl ⟨by rfl, ?_⟩) hHeld ?_
  rotate_left
  · intro w hSw
    clear hSw
    go_simp
    first | done | with_reducible rfl | rfl | simp [*]
  try simp only [Act.put, sA, sZ, sS]
  refine wpAnyH_take (i := 64) (oi := { dst := some 267, op := Op.pick (Operand.tmp 264) (Operand.tmp 266) (Operand.const (Value.bool false)), type := 4, pos := "outright.go:146", after := #[{ on := 61, ground := Ground.data }, { on := 63, ground := Ground.data }], guard := none }) (v := ?_) rfl (by kernel_rfl) (by kernel_rfl) (by kernel_rfl) (fun _ _ _ h => absurd h (HP.out _ _ _)) (Or.inl ⟨by rfl, ?_⟩) hHeld ?_
  rotate_left
  · intro w hSw
    clear hSw
    go_simp
    first | done | with_reducible rfl | rfl | simp [*]
  try simp only [Act.put, sA, sZ, sS]
  refine wpAnyH_take (i := 65) (oi := { dst := some 268, op := Op.move (Operand.tmp 267), type := 4, pos := "outright.go:146", after := #[{ on := 64, ground := Ground.data }, { on := 61, ground := Ground.chain }], guard := none }) (v := ?_) rfl (by kernel_rfl) (by kernel_rfl) (by kernel_rfl) (fun _ _ _ h => absurd h (HP.out _ _ _)) (Or.inl ⟨by rfl, ?_⟩) hHeld ?_
  rotate_left
  · intro w hSw
    clear hSw
    go_simp
    first | done | with_reducible rfl | rfl | simp [*]
  try simp only [Act.put, sA, sZ, sS]
  refine wpAnyH_take (i := 66) (oi := { dst := some 269, op := Op.move (Operand.tmp 33), type := 54, pos := "outright.go:146", after := #[{ on := 65, ground := Ground.guard }], guard := some (65, true) }) (v := ?_) rfl (by kernel_rfl) (by kernel_rfl) (by kernel_rfl) (fun _ _ _ h => absurd h (HP.out _ _ _)) (Or.inl ⟨by rfl, ?_⟩) hHeld ?_
  rotate_left
  · intro w hSw
    clear hSw
    go_simp
    first | done | with_reducible rfl | rfl | simp [*]
  try simp only [Act.put, sA, sZ, sS]
  refine wpAnyH_take (i := 67) (oi := { dst := some 270, op := Op.binOp BinOp.eql 54 (Operand.tmp 269) (Operand.const (Value.int IntKind.i64 3)) 54, type := 4, pos := "outright.go:146", after := #[{ on := 66, ground := Ground.data }, { on := 65, ground := Ground.guard }], guard := some (65, true) }) (v := ?_) rfl (by kernel_rfl) (by kernel_rfl) (by kernel_rfl) (fun _ _ _ h => absurd h (HP.out _ _ _)) (Or.inl ⟨by rfl, ?_⟩) hHeld ?_
  rotate_left
  · intro w hSw
    clear hSw
    go_simp
    first | done | with_reducible rfl | rfl | simp [*]
  try simp only [Act.put, sA, sZ, sS]
  refine wpAnyH_take (i := 68) (oi := { dst := some 271, op := Op.pick (Operand.tmp 268) (Operand.tmp 270) (Operand.const (Value.bool false)), type := 4, pos := "outright.go:146", after := #[{ on := 65, ground := Ground.data }, { on := 67, ground := Ground.data }], guard := none }) (v := ?_) rfl (by kernel_rfl) (by kernel_rfl) (by kernel_rfl) (fun _ _ _ h => absurd h (HP.out _ _ _)) (Or.inl ⟨by rfl, ?_⟩) hHeld ?_
  rotate_left
  · intro w hSw
    clear hSw
    go_simp
    first | done | with_reducible rfl | rfl | simp [*]
  try simp only [Act.put, sA, sZ, sS]
  refine wpAnyH_take (i := 69) (oi := { dst := some 272, op := Op.move (Operand.tmp 271), type := 4, pos := "outright.go:146", after := #[{ on := 68, ground := Ground.data }, { on := 65, ground := Ground.chain }], guard := none }) (v := ?_) rfl (by kernel_rfl) (by kernel_rfl) (by kernel_rfl) (fun _ _ _ h => absurd h (HP.out _ _ _)) (Or.inl ⟨by rfl, ?_⟩) hHeld ?_
  rotate_left
  · intro w hSw
    clear hSw
    go_simp
    first | done | with_reducible rfl | rfl | simp [*]
  try simp only [Act.put, sA, sZ, sS]
  refine wpAnyH_take (i := 70) (oi := { dst := some 273, op := Op.move (Operand.tmp 35), type := 54, pos := "outright.go:146", after := #[{ on := 69, ground := Ground.guard }], guard := some (69, true) }) (v := ?_) rfl (by kernel_rfl) (by kernel_rfl) (by kernel_rfl) (fun _ _ _ h => absurd h (HP.out _ _ _)) (Or.inl ⟨by rfl, ?_⟩) hHeld ?_
  rotate_left
  · intro w hSw
    clear hSw
    go_simp
    first | done | with_reducible rfl | rfl | simp [*]
  try simp only [Act.put, sA, sZ, sS]
  refine wpAnyH_take (i := 71) (oi := { dst := some 274, op := Op.binOp BinOp.eql 54 (Operand.tmp 273) (Operand.const (Value.int IntKind.i64 2)) 54, type := 4, pos := "outright.go:146", after := #[{ on := 70, ground := Ground.data }, { on := 69, ground := Ground.guard }], guard := some (69, true) }) (v := ?_) rfl (by kernel_rfl) (by kernel_rfl) (by kernel_rfl) (fun _ _ _ h => absurd h (HP.out _ _ _)) (Or.inl ⟨by rfl, ?_⟩) hHeld ?_
  rotate_left
  · intro w hSw
    clear hSw
    go_simp
    first | done | with_reducible rfl | rfl | simp [*]
  try simp only [Act.put, sA, sZ, sS]
  refine wpAnyH_take (i := 72) (oi := { dst := some 275, op := Op.pick (Operand.tmp 272) (Operand.tmp 274) (Operand.const (Value.bool false)), type := 4, pos := "outright.go:146", after := #[{ on := 69, ground := Ground.data }, { on := 71, ground := Ground.data }], guard := none }) (v := ?_) rfl (by kernel_rfl) (by kernel_rfl) (by kernel_rfl) (fun _ _ _ h => absurd h (HP.out _ _ _)) (Or.inl ⟨by rfl, ?_⟩) hHeld ?_
  rotate_left
  · intro w hSw
    clear hSw
    go_simp
    first | done | with_reducible rfl | rfl | simp [*]
  try simp only [Act.put, sA, sZ, sS]
  refine wpAnyH_take (i := 73) (oi := { dst := some 0, op := Op.assign (Operand.tmp 275), type := 4, pos := "outright.go:146", after := ([{ on := 72, ground := Ground.data }, { on := 69, ground := Ground.chain }, { on := 0, ground := Ground.phase }, { on := 1, ground := Ground.phase }, { on := 2, ground := Ground.phase }, { on := 3, ground := Ground.phase }, { on := 4, ground := Ground.phase }, { on := 5, ground := Ground.phase }, { on := 6, ground := Ground.phase }, { on := 7, ground := Ground.phase }, { on := 8, ground := Ground.phase }, { on := 9, ground := Ground.phase }, { on := 10, ground := Ground.phase }, { on := 11, ground := Ground.phase }, { on := 12, ground := Ground.phase }, { on := 13, ground := Ground.phase }, { on := 14, ground := Ground.phase }, { on := 15, ground := Ground.phase }, { on := 16, ground := Ground.phase }, { on := 17, ground := Ground.phase }, { on := 18, ground := Ground.phase }, { on := 19, ground := Ground.phase }, { on := 20, ground := Ground.phase }, { on := 21, ground := Ground.phase }, { on := 22, ground := Ground.phase }, { on := 23, ground := Ground.phase }, { on := 24, ground := Ground.phase }, { on := 25, ground := Ground.phase }, { on := 26, ground := Ground.phase }, { on := 27, ground := Ground.phase }, { on := 28, ground := Ground.phase }, { on := 29, ground := Ground.phase }, { on := 30, ground := Ground.phase }, { on := 31, ground := Ground.phase }, { on := 32, ground := Ground.phase }, { on := 33, ground := Ground.phase }, { on := 34, ground := Ground.phase }].append [{ on := 35, ground := Ground.phase }, { on := 36, ground := Ground.phase }, { on := 37, ground := Ground.phase }, { on := 38, ground := Ground.phase }, { on := 39, ground := Ground.phase }, { on := 40, ground := Ground.phase }, { on := 41, ground := Ground.phase }, { on := 42, ground := Ground.phase }, { on := 43, ground := Ground.phase }, { on := 44, ground := Ground.phase }, { on := 45, ground := Ground.phase }, { on := 46, ground := Ground.phase }, { on := 47, ground := Ground.phase }, { on := 48, ground := Ground.phase }, { on := 49, ground := Ground.phase }, { on := 50, ground := Ground.phase }, { on := 51, ground := Ground.phase }, { on := 52, ground := Ground.phase }, { on := 53, ground := Ground.phase }, { on := 54, ground := Ground.phase }, { on := 55, ground := Ground.phase }, { on := 56, ground := Ground.phase }, { on := 57, ground := Ground.phase }, { on := 58, ground := Ground.phase }, { on := 59, ground := Ground.phase }, { on := 60, ground := Ground.phase }, { on := 61, ground := Ground.phase }, { on := 62, ground := Ground.phase }, { on := 63, ground := Ground.phase }, { on := 64, ground := Ground.phase }, { on := 65, ground := Ground.phase }, { on := 66, ground := Ground.phase }, { on := 67, ground := Ground.phase }, { on := 68, ground := Ground.phase }, { on := 69, ground := Ground.phase }, { on := 70, ground := Ground.phase }, { on := 71, ground := Ground.phase }, { on := 72, ground := Ground.phase }]).toArray, guard := none }) (v := ?_) rfl (by kernel_rfl) (by kernel_rfl) (by kernel_rfl) (fun _ _ _ h => absurd h (HP.out _ _ _)) (Or.inl ⟨by rfl, ?_⟩) hHeld ?_
  rotate_left
  · intro w hSw
    clear hSw
    go_simp
    first | done | with_reducible rfl | rfl | simp [*]
  try simp only [Act.put, sA, sZ, sS]
  refine wpAnyH_done (by kernel_rfl) ?_ _
  rw [HQQ.out]
  exact ⟨rfl, _, _, _, _, _, _, _, _, _, _, _, _, _, _, _, _, _, _, _, _, _, _, _, _, _, _, _, _, _, _, _, _, _, _, _, _, _, _, _, _, _, _, _, _, _, _, _, _, _, _, _, _, _, _, _, _, _, _, _, _, _, _, _, _, _, _, _, _, _, _, _, _, _, rfl, Lib.hid hHeld.b⟩
end Go.Proofs.YtojiieghjhjoaaaGreat
