/- Walks (printed by auto.py, a program of this session's own). -/
import Derived.Test.YtakpgohimiidpaaU1
import Derived.Test.YtakpgohimiidpaaProg
import Derived.KernelRfl
import Derived.Test.YtakpgohimiidpaaSQ
set_option linter.unusedVariables false
set_option linter.unusedSimpArgs false
set_option maxRecDepth 8000
set_option maxHeartbeats 8000000
namespace Go.Ab
open Go.RowKit Go.Proofs

def c3 : MC := (.seq (.reg [rg 4 (.p true (.mv (.c (.bool false))))]) (.seq (.seq (.reg [mvt 32 0, mvt 33 1, rg 34 (.call true 4 [(.t 32), (.t 33)])]) (.cond (.t 34) (.seq (.reg [rg 4 (.p true (.mv (.c (.bool true))))]) .ret) .skip)) (.seq (.reg [mvt 35 0, rg 36 (.call true 5 [(.t 35)]), mvt 5 36]) (.seq (.reg [mvt 37 1, rg 38 (.call true 6 [(.t 37)]), mvt 6 38]) (.seq (.reg [mvt 40 5, mvt 41 6, rg 42 (.call true 7 [(.t 40), (.t 41)]), mvt 39 42, rg 43 (.p true (.ext (.t 39) 0)), rg 44 (.p true (.ext (.t 39) 1)), mvt 7 43, mvt 8 44]) (.seq (.reg [mvt 46 5, mvt 47 6, rg 48 (.call true 8 [(.t 46), (.t 47), (.c (.int .i64 8))]), mvt 45 48, rg 49 (.p true (.ext (.t 45) 0)), rg 50 (.p true (.ext (.t 45) 1)), mvt 9 49, mvt 10 50]) (.seq (.seq (.reg [mvt 51 8, rg 52 (.p true (.bin .neq (.t 51) (.c (.int .i64 0)))), mvt 53 52, ⟨(some 54), (some (53, false)), (.p true (.mv (.t 10)))⟩, ⟨(some 55), (some (53, false)), (.p true (.bin .neq (.t 54) (.c (.int .i64 0))))⟩, ⟨(some 56), (some (53, false)), (.p true (.mv (.t 55)))⟩, ⟨(some 57), (some (56, true)), (.p true (.mv (.t 10)))⟩, ⟨(some 58), (some (56, true)), (.p true (.bin .neq (.t 57) (.c (.int .i64 5))))⟩, ⟨(some 59), (some (53, false)), (.p true (.pick (.t 56) (.t 58) (.c (.bool false))))⟩, rg 60 (.p true (.pick (.t 53) (.c (.bool true)) (.t 59))), mvt 61 60, ⟨(some 62), (some (61, false)), (.p true (.mv (.t 10)))⟩, ⟨(some 63), (some (61, false)), (.p true (.bin .eql (.t 62) (.c (.int .i64 0))))⟩, ⟨(some 64), (some (61, false)), (.p true (.mv (.t 63)))⟩, ⟨(some 65), (some (64, true)), (.p true (.mv (.t 9)))⟩, ⟨(some 66), (some (64, true)), (.call true 9 [(.t 65)])⟩, ⟨(some 67), (some (64, true)), (.p true (.not (.t 66)))⟩, ⟨(some 68), (some (61, false)), (.p true (.pick (.t 64) (.t 67) (.c (.bool false))))⟩, rg 69 (.p true (.pick (.t 61) (.c (.bool true)) (.t 68)))]) (.cond (.t 69) (.seq (.reg [rg 4 (.p true (.mv (.c (.bool false))))]) .ret) .skip)) (.seq (.seq (.reg [rg 11 (.p true (.mv (.c (.int .i64 0))))]) (.block 0 (.loop (.seq (.seq (.reg [mvt 70 11, mvt 71 7, rg 72 (.p true (.len (.t 71))), rg 73 (.p true (.bin .lss (.t 70) (.t 72)))]) (.cond (.t 73) .skip (.exit 0))) (.seq (.block 1 (.seq (.reg [mvt 76 7, mvt 77 11, rg 78 (.p true (.iad (.t 76) (.t 77) 1)), rg 79 (.p true (.ld (.t 78) 1 false)), mvt 12 79]) (.seq (.seq (.reg [rg 80 (.p false (.mv (.t 12))), rg 81 (.p false (.len (.t 80))), rg 82 (.p false (.bin .neq (.t 81) (.c (.int .i64 2)))), rg 83 (.p false (.mv (.t 82))), ⟨(some 84), (some (83, false)), (.p false (.mv (.t 12)))⟩, ⟨(some 85), (some (83, false)), (.p false (.iad (.t 84) (.c (.int .i64 0)) 1))⟩, ⟨(some 86), (some (83, false)), (.p false (.ld (.t 85) 1 false))⟩, ⟨(some 87), (some (83, false)), (.p false (.bin .lss (.t 86) (.c (.int .i64 0))))⟩, rg 88 (.p false (.pick (.t 83) (.c (.bool true)) (.t 87))), rg 89 (.p false (.mv (.t 88))), ⟨(some 90), (some (89, false)), (.p false (.mv (.t 12)))⟩, ⟨(some 91), (some (89, false)), (.p false (.iad (.t 90) (.c (.int .i64 0)) 1))⟩, ⟨(some 92), (some (89, false)), (.p false (.ld (.t 91) 1 false))⟩, ⟨(some 93), (some (89, false)), (.p false (.mv (.t 6)))⟩, ⟨(some 94), (some (89, false)), (.p false (.len (.t 93)))⟩, ⟨(some 95), (some (89, false)), (.p false (.bin .geq (.t 92) (.t 94)))⟩, rg 96 (.p false (.pick (.t 89) (.c (.bool true)) (.t 95))), rg 97 (.p false (.mv (.t 96))), ⟨(some 98), (some (97, false)), (.p false (.mv (.t 12)))⟩, ⟨(some 99), (some (97, false)), (.p false (.iad (.t 98) (.c (.int .i64 1)) 1))⟩, ⟨(some 100), (some (97, false)), (.p false (.ld (.t 99) 1 false))⟩, ⟨(some 101), (some (97, false)), (.p false (.bin .lss (.t 100) (.c (.int .i64 0))))⟩, rg 102 (.p false (.pick (.t 97) (.c (.bool true)) (.t 101))), rg 103 (.p false (.mv (.t 102))), ⟨(some 104), (some (103, false)), (.p false (.mv (.t 12)))⟩, ⟨(some 105), (some (103, false)), (.p false (.iad (.t 104) (.c (.int .i64 1)) 1))⟩, ⟨(some 106), (some (103, false)), (.p false (.ld (.t 105) 1 false))⟩, ⟨(some 107), (some (103, false)), (.p false (.mv (.t 5)))⟩, ⟨(some 108), (some (103, false)), (.p false (.len (.t 107)))⟩, ⟨(some 109), (some (103, false)), (.p false (.bin .geq (.t 106) (.t 108)))⟩, rg 110 (.p false (.pick (.t 103) (.c (.bool true)) (.t 109))), rg 111 (.p false (.mv (.t 110))), ⟨(some 112), (some (111, false)), (.p false (.mv (.t 5)))⟩, ⟨(some 113), (some (111, false)), (.p false (.mv (.t 12)))⟩, ⟨(some 114), (some (111, false)), (.p false (.iad (.t 113) (.c (.int .i64 1)) 1))⟩, ⟨(some 115), (some (111, false)), (.p false (.ld (.t 114) 1 false))⟩, ⟨(some 116), (some (111, false)), (.p false (.iad (.t 112) (.t 115) 3))⟩, ⟨(some 117), (some (111, false)), (.p false (.fad (.t 116) 0))⟩, ⟨(some 118), (some (111, false)), (.p false (.ld (.t 117) 1 false))⟩, ⟨(some 119), (some (111, false)), (.p false (.mv (.t 6)))⟩, ⟨(some 120), (some (111, false)), (.p false (.mv (.t 12)))⟩, ⟨(some 121), (some (111, false)), (.p false (.iad (.t 120) (.c (.int .i64 0)) 1))⟩, ⟨(some 122), (some (111, false)), (.p false (.ld (.t 121) 1 false))⟩, ⟨(some 123), (some (111, false)), (.p false (.iad (.t 119) (.t 122) 3))⟩, ⟨(some 124), (some (111, false)), (.p false (.fad (.t 123) 0))⟩, ⟨(some 125), (some (111, false)), (.p false (.ld (.t 124) 1 false))⟩, ⟨(some 126), (some (111, false)), (.p false (.bin .neq (.t 118) (.t 125)))⟩, rg 127 (.p false (.pick (.t 111) (.c (.bool true)) (.t 126)))]) (.cond (.t 127) (.seq (.reg [rg 4 (.p true (.mv (.c (.bool false))))]) .ret) .skip)) (.seq (.reg [rg 128 (.p false (.mv (.t 5))), rg 129 (.p false (.mv (.t 12))), rg 130 (.p false (.iad (.t 129) (.c (.int .i64 1)) 1)), rg 131 (.p false (.ld (.t 130) 1 false)), rg 132 (.p false (.iad (.t 128) (.t 131) 3)), rg 133 (.p false (.fad (.t 132) 1)), rg 134 (.p false (.ld (.t 133) 1 false)), rg 135 (.p false (.mv (.t 5))), rg 136 (.p false (.mv (.t 12))), rg 137 (.p false (.iad (.t 136) (.c (.int .i64 1)) 1)), rg 138 (.p false (.ld (.t 137) 1 false)), rg 139 (.p false (.iad (.t 135) (.t 138) 3)), rg 140 (.p false (.fad (.t 139) 2)), rg 141 (.p false (.ld (.t 140) 1 false)), rg 142 (.p false (.bin .add (.t 134) (.t 141))), rg 143 (.p false (.mv (.t 6))), rg 144 (.p false (.mv (.t 12))), rg 145 (.p false (.iad (.t 144) (.c (.int .i64 0)) 1)), rg 146 (.p false (.ld (.t 145) 1 false)), rg 147 (.p false (.iad (.t 143) (.t 146) 3)), rg 148 (.p false (.fad (.t 147) 2)), rg 149 (.p false (.ld (.t 148) 1 false)), rg 150 (.p false (.bin .add (.t 142) (.t 149))), rg 13 (.p false (.mv (.t 150)))]) (.seq (.reg [rg 14 (.p true (.mv (.c (.bool false))))]) (.seq (.seq (.reg [rg 15 (.p true (.mv (.c (.int .i64 0))))]) (.block 2 (.loop (.seq (.seq (.reg [mvt 151 15, mvt 152 9, rg 153 (.p true (.len (.t 152))), rg 154 (.p true (.bin .lss (.t 151) (.t 153)))]) (.cond (.t 154) .skip (.exit 2))) (.seq (.block 3 (.reg [rg 157 (.p false (.mv (.t 14))), rg 158 (.p false (.mv (.t 157))), ⟨(some 159), (some (158, false)), (.p false (.mv (.t 9)))⟩, ⟨(some 160), (some (158, false)), (.p false (.mv (.t 15)))⟩, ⟨(some 161), (some (158, false)), (.p false (.iad (.t 159) (.t 160) 3))⟩, ⟨(some 162), (some (158, false)), (.p false (.fad (.t 161) 0))⟩, ⟨(some 163), (some (158, false)), (.p false (.ld (.t 162) 1 false))⟩, ⟨(some 164), (some (158, false)), (.p false (.mv (.t 6)))⟩, ⟨(some 165), (some (158, false)), (.p false (.mv (.t 12)))⟩, ⟨(some 166), (some (158, false)), (.p false (.iad (.t 165) (.c (.int .i64 0)) 1))⟩, ⟨(some 167), (some (158, false)), (.p false (.ld (.t 166) 1 false))⟩, ⟨(some 168), (some (158, false)), (.p false (.iad (.t 164) (.t 167) 3))⟩, ⟨(some 169), (some (158, false)), (.p false (.fad (.t 168) 1))⟩, ⟨(some 170), (some (158, false)), (.p false (.ld (.t 169) 1 false))⟩, ⟨(some 171), (some (158, false)), (.p false (.bin .eql (.t 163) (.t 170)))⟩, ⟨(some 172), (some (158, false)), (.p false (.mv (.t 171)))⟩, ⟨(some 173), (some (172, true)), (.p false (.mv (.t 9)))⟩, ⟨(some 174), (some (172, true)), (.p false (.mv (.t 15)))⟩, ⟨(some 175), (some (172, true)), (.p false (.iad (.t 173) (.t 174) 3))⟩, ⟨(some 176), (some (172, true)), (.p false (.fad (.t 175) 1))⟩, ⟨(some 177), (some (172, true)), (.p false (.ld (.t 176) 1 false))⟩, ⟨(some 178), (some (172, true)), (.p false (.mv (.t 13)))⟩, ⟨(some 179), (some (172, true)), (.p false (.bin .eql (.t 177) (.t 178)))⟩, ⟨(some 180), (some (158, false)), (.p false (.pick (.t 172) (.t 179) (.c (.bool false))))⟩, rg 181 (.p false (.pick (.t 158) (.c (.bool true)) (.t 180))), rg 14 (.p false (.mv (.t 181)))])) (.reg [mvt 155 15, rg 156 (.p true (.bin .add (.t 155) (.c (.int .i64 1)))), mvt 15 156])))))) (.seq (.reg [mvt 182 10, rg 183 (.p true (.bin .eql (.t 182) (.c (.int .i64 0)))), mvt 184 183, ⟨(some 185), (some (184, true)), (.p true (.mv (.t 14)))⟩, ⟨(some 186), (some (184, true)), (.p true (.not (.t 185)))⟩, rg 187 (.p true (.pick (.t 184) (.t 186) (.c (.bool false))))]) (.cond (.t 187) (.seq (.reg [rg 4 (.p true (.mv (.c (.bool false))))]) .ret) .skip)))))))) (.reg [mvt 74 11, rg 75 (.p true (.bin .add (.t 74) (.c (.int .i64 1)))), mvt 11 75])))))) (.seq (.reg [mvt 189 5, rg 190 (.call true 10 [(.t 189)]), mvt 188 190, rg 191 (.p true (.ext (.t 188) 0)), rg 192 (.p true (.ext (.t 188) 1)), mvt 16 191, mvt 17 192]) (.seq (.seq (.reg [mvt 193 17, rg 194 (.p true (.bin .neq (.t 193) (.c (.int .i64 0))))]) (.cond (.t 194) (.seq (.reg [rg 4 (.p true (.mv (.c (.bool false))))]) .ret) .skip)) (.seq (.seq (.reg [rg 18 (.p true (.mv (.c (.int .i64 0))))]) (.block 4 (.loop (.seq (.seq (.reg [mvt 195 18, mvt 196 16, rg 197 (.p true (.len (.t 196))), rg 198 (.p true (.bin .lss (.t 195) (.t 197)))]) (.cond (.t 198) .skip (.exit 4))) (.seq (.block 5 (.seq (.seq (.reg [rg 201 (.p false (.mv (.t 16))), rg 202 (.p false (.mv (.t 18))), rg 203 (.p false (.iad (.t 201) (.t 202) 1)), rg 204 (.p false (.ld (.t 203) 1 false)), rg 205 (.p false (.len (.t 204))), rg 206 (.p false (.bin .neq (.t 205) (.c (.int .i64 2)))), rg 207 (.p false (.mv (.t 206))), ⟨(some 208), (some (207, false)), (.p false (.mv (.t 16)))⟩, ⟨(some 209), (some (207, false)), (.p false (.mv (.t 18)))⟩, ⟨(some 210), (some (207, false)), (.p false (.iad (.t 208) (.t 209) 1))⟩, ⟨(some 211), (some (207, false)), (.p false (.ld (.t 210) 1 false))⟩, ⟨(some 212), (some (207, false)), (.p false (.iad (.t 211) (.c (.int .i64 0)) 1))⟩, ⟨(some 213), (some (207, false)), (.p false (.ld (.t 212) 1 false))⟩, ⟨(some 214), (some (207, false)), (.p false (.mv (.t 16)))⟩, ⟨(some 215), (some (207, false)), (.p false (.mv (.t 18)))⟩, ⟨(some 216), (some (207, false)), (.p false (.iad (.t 214) (.t 215) 1))⟩, ⟨(some 217), (some (207, false)), (.p false (.ld (.t 216) 1 false))⟩, ⟨(some 218), (some (207, false)), (.p false (.iad (.t 217) (.c (.int .i64 1)) 1))⟩, ⟨(some 219), (some (207, false)), (.p false (.ld (.t 218) 1 false))⟩, ⟨(some 220), (some (207, false)), (.p false (.bin .geq (.t 213) (.t 219)))⟩, rg 221 (.p false (.pick (.t 207) (.c (.bool true)) (.t 220))), rg 222 (.p false (.mv (.t 221))), ⟨(some 223), (some (222, false)), (.p false (.mv (.t 16)))⟩, ⟨(some 224), (some (222, false)), (.p false (.mv (.t 18)))⟩, ⟨(some 225), (some (222, false)), (.p false (.iad (.t 223) (.t 224) 1))⟩, ⟨(some 226), (some (222, false)), (.p false (.ld (.t 225) 1 false))⟩, ⟨(some 227), (some (222, false)), (.p false (.iad (.t 226) (.c (.int .i64 0)) 1))⟩, ⟨(some 228), (some (222, false)), (.p false (.ld (.t 227) 1 false))⟩, ⟨(some 229), (some (222, false)), (.p false (.bin .lss (.t 228) (.c (.int .i64 0))))⟩, rg 230 (.p false (.pick (.t 222) (.c (.bool true)) (.t 229))), rg 231 (.p false (.mv (.t 230))), ⟨(some 232), (some (231, false)), (.p false (.mv (.t 16)))⟩, ⟨(some 233), (some (231, false)), (.p false (.mv (.t 18)))⟩, ⟨(some 234), (some (231, false)), (.p false (.iad (.t 232) (.t 233) 1))⟩, ⟨(some 235), (some (231, false)), (.p false (.ld (.t 234) 1 false))⟩, ⟨(some 236), (some (231, false)), (.p false (.iad (.t 235) (.c (.int .i64 1)) 1))⟩, ⟨(some 237), (some (231, false)), (.p false (.ld (.t 236) 1 false))⟩, ⟨(some 238), (some (231, false)), (.p false (.bin .gtr (.t 237) (.c (.int .i64 200))))⟩, rg 239 (.p false (.pick (.t 231) (.c (.bool true)) (.t 238)))]) (.cond (.t 239) (.seq (.reg [rg 4 (.p true (.mv (.c (.bool false))))]) .ret) .skip)) (.seq (.reg [mvt 240 16, mvt 241 18, rg 242 (.p true (.iad (.t 240) (.t 241) 1)), rg 243 (.p true (.ld (.t 242) 1 false)), rg 244 (.p true (.iad (.t 243) (.c (.int .i64 0)) 1)), rg 245 (.p true (.ld (.t 244) 1 false)), mvt 19 245]) (.block 6 (.loop (.seq (.seq (.reg [mvt 246 19, mvt 247 16, mvt 248 18, rg 249 (.p true (.iad (.t 247) (.t 248) 1)), rg 250 (.p true (.ld (.t 249) 1 false)), rg 251 (.p true (.iad (.t 250) (.c (.int .i64 1)) 1)), rg 252 (.p true (.ld (.t 251) 1 false)), rg 253 (.p true (.bin .lss (.t 246) (.t 252)))]) (.cond (.t 253) .skip (.exit 6))) (.seq (.block 7 (.seq (.reg [mvt 257 5, mvt 258 19, rg 259 (.call true 11 [(.t 257), (.t 258)]), mvt 256 259, rg 260 (.p true (.ext (.t 256) 0)), rg 261 (.p true (.ext (.t 256) 1)), mvt 20 260, mvt 21 261]) (.seq (.reg [mvt 262 21, rg 263 (.p true (.bin .neq (.t 262) (.c (.int .i64 0)))), mvt 264 263, ⟨(some 265), (some (264, false)), (.p true (.mv (.t 20)))⟩, ⟨(some 266), (some (264, false)), (.p true (.len (.t 265)))⟩, ⟨(some 267), (some (264, false)), (.p true (.bin .neq (.t 266) (.c (.int .i64 0))))⟩, rg 268 (.p true (.pick (.t 264) (.c (.bool true)) (.t 267)))]) (.cond (.t 268) (.seq (.reg [rg 4 (.p true (.mv (.c (.bool false))))]) .ret) .skip)))) (.reg [mvt 254 19, rg 255 (.p true (.bin .add (.t 254) (.c (.int .i64 1)))), mvt 19 255])))))))) (.reg [mvt 199 18, rg 200 (.p true (.bin .add (.t 199) (.c (.int .i64 1)))), mvt 18 200])))))) (.seq (.seq (.reg [mvt 269 5, rg 270 (.p true (.len (.t 269))), rg 271 (.p true (.bin .eql (.t 270) (.c (.int .i64 0))))]) (.cond (.t 271) (.seq (.reg [rg 4 (.p true (.mv (.c (.bool true))))]) .ret) .skip)) (.seq (.reg [mvt 272 5, rg 273 (.p true (.iad (.t 272) (.c (.int .i64 0)) 3)), rg 274 (.p true (.fad (.t 273) 0)), rg 275 (.p true (.ld (.t 274) 1 false)), mvt 22 275]) (.seq (.reg [rg 23 (.p true (.mv (.c (.int .i64 0))))]) (.seq (.seq (.reg [rg 24 (.p true (.mv (.c (.int .i64 0))))]) (.block 8 (.loop (.seq (.seq (.reg [mvt 276 24, mvt 277 5, rg 278 (.p true (.len (.t 277))), rg 279 (.p true (.bin .lss (.t 276) (.t 278)))]) (.cond (.t 279) .skip (.exit 8))) (.seq (.block 9 (.seq (.reg [mvt 282 5, mvt 283 24, rg 284 (.p true (.iad (.t 282) (.t 283) 3)), rg 285 (.p true (.fad (.t 284) 0)), rg 286 (.p true (.ld (.t 285) 1 false)), mvt 287 22, rg 288 (.p true (.bin .eql (.t 286) (.t 287)))]) (.cond (.t 288) (.reg [mvt 289 23, mvt 290 5, mvt 291 24, rg 292 (.p true (.iad (.t 290) (.t 291) 3)), rg 293 (.p true (.fad (.t 292) 2)), rg 294 (.p true (.ld (.t 293) 1 false)), rg 295 (.p true (.bin .add (.t 289) (.t 294))), mvt 23 295]) .skip))) (.reg [mvt 280 24, rg 281 (.p true (.bin .add (.t 280) (.c (.int .i64 1)))), mvt 24 281])))))) (.seq (.reg [mvt 297 5, mvt 298 22, rg 299 (.call true 12 [(.t 297), (.t 298)]), mvt 296 299, rg 300 (.p true (.ext (.t 296) 0)), rg 301 (.p true (.ext (.t 296) 1)), mvt 25 300, mvt 26 301]) (.seq (.reg [mvt 303 5, rg 304 (.call true 13 [(.t 303)]), mvt 302 304, rg 305 (.p true (.ext (.t 302) 0)), rg 306 (.p true (.ext (.t 302) 1)), rg 307 (.p true (.ext (.t 302) 2)), mvt 27 305, mvt 28 306, mvt 29 307]) (.seq (.reg [mvt 309 5, mvt 310 27, rg 311 (.call true 11 [(.t 309), (.t 310)]), mvt 308 311, rg 312 (.p true (.ext (.t 308) 0)), rg 313 (.p true (.ext (.t 308) 1)), mvt 30 312, mvt 31 313]) (.seq (.reg [mvt 314 26, rg 315 (.p true (.bin .eql (.t 314) (.c (.int .i64 0)))), mvt 316 315, ⟨(some 317), (some (316, true)), (.p true (.mv (.t 25)))⟩, ⟨(some 318), (some (316, true)), (.p true (.bin .geq (.t 317) (.c (.int .i64 0))))⟩, rg 319 (.p true (.pick (.t 316) (.t 318) (.c (.bool false)))), mvt 320 319, ⟨(some 321), (some (320, true)), (.p true (.mv (.t 25)))⟩, ⟨(some 322), (some (320, true)), (.p true (.mv (.t 23)))⟩, ⟨(some 323), (some (320, true)), (.p true (.bin .leq (.t 321) (.t 322)))⟩, rg 324 (.p true (.pick (.t 320) (.t 323) (.c (.bool false)))), mvt 325 324, ⟨(some 326), (some (325, true)), (.p true (.mv (.t 29)))⟩, ⟨(some 327), (some (325, true)), (.p true (.bin .eql (.t 326) (.c (.int .i64 0))))⟩, rg 328 (.p true (.pick (.t 325) (.t 327) (.c (.bool false)))), mvt 329 328, ⟨(some 330), (some (329, true)), (.p true (.mv (.t 28)))⟩, ⟨(some 331), (some (329, true)), (.p true (.bin .geq (.t 330) (.c (.int .i64 1))))⟩, rg 332 (.p true (.pick (.t 329) (.t 331) (.c (.bool false)))), mvt 333 332, ⟨(some 334), (some (333, true)), (.p true (.mv (.t 31)))⟩, ⟨(some 335), (some (333, true)), (.p true (.bin .eql (.t 334) (.c (.int .i64 0))))⟩, rg 336 (.p true (.pick (.t 333) (.t 335) (.c (.bool false)))), mvt 337 336, ⟨(some 338), (some (337, true)), (.p true (.mv (.t 30)))⟩, ⟨(some 339), (some (337, true)), (.p true (.len (.t 338)))⟩, ⟨(some 340), (some (337, true)), (.p true (.mv (.t 28)))⟩, ⟨(some 341), (some (337, true)), (.p true (.bin .eql (.t 339) (.t 340)))⟩, rg 342 (.p true (.pick (.t 337) (.t 341) (.c (.bool false)))), mvt 4 342]) .ret)))))))))))))))))))
theorem c3_is : compFn Try.prog 3 = some (c3, [(.tmp 4)]) := by kernel_rfl
theorem c3_ok : okFn Try.prog 3 = true := by kernel_rfl

noncomputable def F_laws_FnEnsemble_l2 (v1002 : List TAnswer) (v1004 : (List TTurn) × Int) (v1009 : List Int) (v1027 : TTurn) (v1029 : TTurn) (v1031 : TAnswer) (v50051 : Int) (k17 : Int → Option (Bool)) (k24 : Bool × Int → Option (Bool)) : Bool × Int → Option (Bool)
 | (v50070, v50071) => (bif (decide (v50071 < (v1004.1.length : Int))) then (bif v50070 then k24 (true, w64 (v50071 + 1))
 else ((ix v1004.1 v50071).bind fun v1040 => ((ix v1009 0).bind fun v1041 => ((ix v1002 v1041).bind fun v1042 => (bif (decide (v1040.1 = v1042.2.1)) then ((ix v1004.1 v50071).bind fun v1043 => k24 ((decide (v1043.2.1 = w64 ((w64 (v1027.2.1 + v1029.2.2)) + v1031.2.2))), w64 (v50071 + 1)))
 else k24 (false, w64 (v50071 + 1)))))))
 else (bif (decide (v1004.2 = (0 : Int))) then (bif (!v50070) then some false
 else k17 (w64 (v50051 + 1)))
 else k17 (w64 (v50051 + 1))))
noncomputable def F_laws_FnEnsemble_l6 (v1001 : List TTurn) (v1044 : (List (List Int)) × Int) (v50077 : Int) (k27 : Int → Option (Bool)) (k28 : Int → Option (Bool)) : Int → Option (Bool)
 | v50079 => ((ix v1044.1 v50077).bind fun v1129 => ((ix v1129 1).bind fun v1130 => (bif (decide (v50079 < v1130)) then ((F_impl_PlayersAt v1001 v50079).bind fun v1131 => (bif (decide (v1131.2 ≠ (0 : Int))) then some false
 else (bif (decide ((v1131.1.length : Int) ≠ (0 : Int))) then some false
 else k28 (w64 (v50079 + 1)))))
 else k27 (w64 (v50077 + 1)))))
noncomputable def F_laws_FnEnsemble_l7 (v1001 : List TTurn) (v1132 : TTurn) (k29 : Int × Int → Option (Bool)) : Int × Int → Option (Bool)
 | (v50082, v50083) => (bif (decide (v50083 < (v1001.length : Int))) then ((ix v1001 v50083).bind fun v1137 => (bif (decide (v1137.1 = v1132.1)) then ((ix v1001 v50083).bind fun v1138 => k29 (w64 (v50082 + v1138.2.2), w64 (v50083 + 1)))
 else k29 (v50082, w64 (v50083 + 1))))
 else ((F_impl_SoloTime v1001 v1132.1).bind fun v1139 => ((F_impl_FullestTime v1001).bind fun v1140 => ((F_impl_PlayersAt v1001 v1140.1).bind fun v1141 => (bif (decide (v1139.2 = (0 : Int))) then (bif (decide ((0 : Int) ≤ v1139.1)) then (bif (decide (v1139.1 ≤ v50082)) then (bif (decide (v1140.2.2 = (0 : Int))) then (bif (decide ((1 : Int) ≤ v1140.2.1)) then (bif (decide (v1141.2 = (0 : Int))) then some (decide ((v1141.1.length : Int) = v1140.2.1))
 else some false)
 else some false)
 else some false)
 else some false)
 else some false)
 else some false)))))
noncomputable def F_laws_FnEnsemble_l5 (v1001 : List TTurn) (v1044 : (List (List Int)) × Int) (k27 : Int → Option (Bool)) : Int → Option (Bool)
 | v50077 => (bif (decide (v50077 < (v1044.1.length : Int))) then ((ix v1044.1 v50077).bind fun v1112 => (bif (decide ((v1112.length : Int) ≠ (2 : Int))) then some false
 else ((ix v1044.1 v50077).bind fun v1113 => ((ix v1113 0).bind fun v1114 => ((ix v1044.1 v50077).bind fun v1115 => ((ix v1115 1).bind fun v1116 => (bif (decide (v1116 ≤ v1114)) then some false
 else ((ix v1044.1 v50077).bind fun v1117 => ((ix v1117 0).bind fun v1118 => (bif (decide (v1118 < (0 : Int))) then some false
 else ((ix v1044.1 v50077).bind fun v1119 => ((ix v1119 1).bind fun v1120 => (bif (decide ((200 : Int) < v1120)) then some false
 else ((ix v1044.1 v50077).bind fun v1121 => ((ix v1121 0).bind fun v1122 => loop (F_laws_FnEnsemble_l6 v1001 v1044 v50077 k27) v1122)))))))))))))))
 else (bif (decide ((v1001.length : Int) = (0 : Int))) then some true
 else ((ix v1001 0).bind fun v1132 => loop (F_laws_FnEnsemble_l7 v1001 v1132) (0, 0))))
noncomputable def F_laws_FnEnsemble_l1 (v1001 : List TTurn) (v1002 : List TAnswer) (v1003 : (List (List Int)) × Int) (v1004 : (List TTurn) × Int) (k17 : Int → Option (Bool)) : Int → Option (Bool)
 | v50051 => (bif (decide (v50051 < (v1003.1.length : Int))) then ((ix v1003.1 v50051).bind fun v1009 => (bif (decide ((v1009.length : Int) ≠ (2 : Int))) then some false
 else ((ix v1009 0).bind fun v1018 => (bif (decide (v1018 < (0 : Int))) then some false
 else ((ix v1009 0).bind fun v1019 => (bif (decide ((v1002.length : Int) ≤ v1019)) then some false
 else ((ix v1009 1).bind fun v1020 => (bif (decide (v1020 < (0 : Int))) then some false
 else ((ix v1009 1).bind fun v1021 => (bif (decide ((v1001.length : Int) ≤ v1021)) then some false
 else ((ix v1009 1).bind fun v1022 => ((ix v1001 v1022).bind fun v1023 => ((ix v1009 0).bind fun v1024 => ((ix v1002 v1024).bind fun v1025 => (bif (decide (v1023.1 ≠ v1025.1)) then some false
 else ((ix v1009 1).bind fun v1026 => ((ix v1001 v1026).bind fun v1027 => ((ix v1009 1).bind fun v1028 => ((ix v1001 v1028).bind fun v1029 => ((ix v1009 0).bind fun v1030 => ((ix v1002 v1030).bind fun v1031 => loop (F_laws_FnEnsemble_l2 v1002 v1004 v1009 v1027 v1029 v1031 v50051 k17) (false, 0))))))))))))))))))))))
 else ((F_impl_SilencesOf v1001).bind fun v1044 => (bif (decide (v1044.2 ≠ (0 : Int))) then some false
 else loop (F_laws_FnEnsemble_l5 v1001 v1044) 0)))
noncomputable def F_laws_FnEnsemble_j0 (v1001 : List TTurn) (v1002 : List TAnswer) (v1003 : (List (List Int)) × Int) (v1004 : (List TTurn) × Int) : Option (Bool) :=
 loop (F_laws_FnEnsemble_l1 v1001 v1002 v1003 v1004) 0
noncomputable def F_laws_FnEnsemble (v0 : List Int) (v1 : List Int) : Option (Bool) :=
 ((F_laws_r8Long v0 v1).bind fun v1000 => (bif v1000 then some true
 else ((F_spec_R8Turns v0).bind fun v1001 => ((F_spec_R8Answers v1).bind fun v1002 => ((F_impl_MissedAnswers v1001 v1002).bind fun v1003 => ((F_impl_AddAnswers v1001 v1002 8).bind fun v1004 => (bif (decide (v1003.2 ≠ (0 : Int))) then some false
 else (bif (decide (v1004.2 ≠ (0 : Int))) then (bif (decide (v1004.2 ≠ (5 : Int))) then some false
 else (bif (decide (v1004.2 = (0 : Int))) then ((F_spec_ValidTurns v1004.1).bind fun v1007 => (bif (!v1007) then some false
 else F_laws_FnEnsemble_j0 v1001 v1002 v1003 v1004))
 else F_laws_FnEnsemble_j0 v1001 v1002 v1003 v1004))
 else (bif (decide (v1004.2 = (0 : Int))) then ((F_spec_ValidTurns v1004.1).bind fun v1008 => (bif (!v1008) then some false
 else F_laws_FnEnsemble_j0 v1001 v1002 v1003 v1004))
 else F_laws_FnEnsemble_j0 v1001 v1002 v1003 v1004)))))))))
@[simp] def res_laws_FnEnsemble (r : Bool) : RV := .one (.one (.val (.bool r)))
theorem con_laws_FnEnsemble {v0 : List Int} {v1 : List Int} {r : Bool} (hF : F_laws_FnEnsemble v0 v1 = some r) : Con Try.prog 3 [.sl 1 (v0.map (V.int .u8)), .sl 1 (v1.map (V.int .u8))] (res_laws_FnEnsemble r) := by
 unfold F_laws_FnEnsemble at hF
 refine con_of c3_is fun N => ?_
 refine ws 0 64 ?_
 refine qp (AB false) rfl ?_
 refine r_nil ?_
 refine w_seq ?_
 refine ws 64 256 ?_
 refine qp (AL 1 (v0.map (V.int .u8))) rfl (qp (AL 1 (v1.map (V.int .u8))) rfl ?_)
 obtain ⟨v1000, e1000, hF⟩ := bind_get hF
 refine qc (AB v1000) [] false (con_laws_r8Long e1000) c4_ok (by first | rfl | simp) rfl ?_
 refine r_nil ?_
 refine cF hF (fun hF => ?_) fun hF => ?_
 ·
  refine ws 256 320 ?_
  refine qp (AB true) rfl ?_
  refine r_nil ?_
  refine w_ret ?_
  refine thenQ_r ?_
  cases hF
  exact eR
 ·
  refine w_skip ?_
  refine thenQ_n ?_
  refine ws 256 448 ?_
  refine qp (AL 1 (v0.map (V.int .u8))) rfl ?_
  obtain ⟨v1001, e1001, hF⟩ := bind_get hF
  refine qc (.sl 320 0 v1001.length) [(320, .row true 3 (v1001.map eTurn))] false (con_spec_R8Turns e1001) c5_ok (by first | rfl | simp) (by simp [res_spec_R8Turns]) ?_
  refine qp (.sl 320 0 v1001.length) rfl ?_
  refine r_nil ?_
  refine ws 448 640 ?_
  refine qp (AL 1 (v1.map (V.int .u8))) rfl ?_
  obtain ⟨v1002, e1002, hF⟩ := bind_get hF
  refine qc (.sl 512 0 v1002.length) [(512, .row true 3 (v1002.map eAnswer)), (320, .row true 3 (v1001.map eTurn))] false (con_spec_R8Answers e1002) c6_ok (by first | rfl | simp) (by simp [res_spec_R8Answers]) ?_
  refine qp (.sl 512 0 v1002.length) rfl ?_
  refine r_nil ?_
  refine ws 640 1152 ?_
  refine qp (.sl 320 0 v1001.length) rfl (qp (.sl 512 0 v1002.length) rfl ?_)
  obtain ⟨v1003, e1003, hF⟩ := bind_get hF
  refine qc (.tup [.sl 768 0 v1003.1.length, AI v1003.2]) [(768, .row true 1 (v1003.1.map (eL 1 vI))), (512, .row true 3 (v1002.map eAnswer)), (320, .row true 3 (v1001.map eTurn))] true (con_impl_MissedAnswers e1003) c7_ok (by simp [List.take_of_length_le]) (by simp [res_impl_MissedAnswers]) ?_
  refine qp (.tup [.sl 768 0 v1003.1.length, AI v1003.2]) rfl (qp (.sl 768 0 v1003.1.length) rfl (qp (AI v1003.2) rfl (qp (.sl 768 0 v1003.1.length) rfl (qp (AI v1003.2) rfl ?_))))
  refine r_nil ?_
  refine ws 1152 1664 ?_
  refine qp (.sl 320 0 v1001.length) rfl (qp (.sl 512 0 v1002.length) rfl ?_)
  obtain ⟨v1004, e1004, hF⟩ := bind_get hF
  refine qc (.tup [.sl 1280 0 v1004.1.length, AI v1004.2]) [(1280, .row true 3 (v1004.1.map eTurn)), (768, .row true 1 (v1003.1.map (eL 1 vI))), (512, .row true 3 (v1002.map eAnswer)), (320, .row true 3 (v1001.map eTurn))] true (con_impl_AddAnswers e1004) c8_ok (by simp [List.take_of_length_le]) (by simp [res_impl_AddAnswers]) ?_
  refine qp (.tup [.sl 1280 0 v1004.1.length, AI v1004.2]) rfl (qp (.sl 1280 0 v1004.1.length) rfl (qp (AI v1004.2) rfl (qp (.sl 1280 0 v1004.1.length) rfl (qp (AI v1004.2) rfl ?_))))
  refine r_nil ?_
  refine w_meet (fun s' => s' = mkS [(5, .sl 0 0 v1001.length), (6, .sl 1 0 v1002.length), (7, .sl 2 0 v1003.1.length), (9, .sl 3 0 v1004.1.length), (10, AI v1004.2)] (fo [(3, .row true 3 (v1004.1.map eTurn)), (2, .row true 1 (v1003.1.map (eL 1 vI))), (1, .row true 3 (v1002.map eAnswer)), (0, .row true 3 (v1001.map eTurn))]) 4 ∧ F_laws_FnEnsemble_j0 v1001 v1002 v1003 v1004 = some r) ?_ ?_
  ·
   refine ws 1664 2880 ?_
   refine qp (AI v1003.2) rfl (qp (AB (decide (v1003.2 ≠ (0 : Int)))) rfl (qp (AB (decide (v1003.2 ≠ (0 : Int)))) rfl ?_))
   refine q_case 53 hF rfl (fun hF => ?_) (fun hF => ?_)
   ·
    refine qn rfl (qn rfl (qn rfl (qu rfl (qu rfl (qn rfl (qp (AB true) rfl (qp (AB true) rfl ?_)))))))
    refine qn rfl (qn rfl (qn rfl (qu rfl (qu rfl (qu rfl (qn rfl (qp (AB true) rfl ?_)))))))
    refine r_nil ?_
    refine w_true rfl ?_
    refine ws 2880 2944 ?_
    refine qp (AB false) rfl ?_
    refine r_nil ?_
    refine w_ret ?_
    refine thenQ_r ?_
    cases hF
    exact eR
   ·
    refine qg (AI v1004.2) rfl rfl (qg (AB (decide (v1004.2 ≠ (0 : Int)))) rfl rfl (qg (AB (decide (v1004.2 ≠ (0 : Int)))) rfl rfl ?_))
    refine q_case 56 hF rfl (fun hF => ?_) (fun hF => ?_)
    ·
     refine qg (AI v1004.2) rfl rfl (qg (AB (decide (v1004.2 ≠ (5 : Int)))) rfl rfl (qg (AB (decide (v1004.2 ≠ (5 : Int)))) rfl rfl (qp (AB (decide (v1004.2 ≠ (5 : Int)))) rfl (qp (AB (decide (v1004.2 ≠ (5 : Int)))) rfl ?_))))
     refine q_case 61 hF rfl (fun hF => ?_) (fun hF => ?_)
     ·
      refine qn rfl (qn rfl (qn rfl (qu rfl (qu rfl (qu rfl (qn rfl (qp (AB true) rfl ?_)))))))
      refine r_nil ?_
      refine w_true rfl ?_
      refine ws 2880 2944 ?_
      refine qp (AB false) rfl ?_
      refine r_nil ?_
      refine w_ret ?_
      refine thenQ_r ?_
      cases hF
      exact eR
     ·
      refine qg (AI v1004.2) rfl rfl (qg (AB (decide (v1004.2 = (0 : Int)))) rfl rfl (qg (AB (decide (v1004.2 = (0 : Int)))) rfl rfl ?_))
      refine q_case 64 hF rfl (fun hF => ?_) (fun hF => ?_)
      ·
       refine qg (.sl 1280 0 v1004.1.length) rfl rfl ?_
       obtain ⟨v1007, e1007, hF⟩ := bind_get hF
       refine qcg (AB v1007) [(1280, .row true 3 (v1004.1.map eTurn)), (768, .row true 1 (v1003.1.map (eL 1 vI))), (512, .row true 3 (v1002.map eAnswer)), (320, .row true 3 (v1001.map eTurn))] true rfl (con_spec_ValidTurns e1007) c9_ok (by simp [List.take_of_length_le]) rfl ?_
       refine qg (AB (!v1007)) rfl rfl (qg (AB (!v1007)) rfl rfl (qp (AB (!v1007)) rfl ?_))
       refine r_nil ?_
       refine cF hF (fun hF => ?_) fun hF => ?_
       ·
        refine ws 2880 2944 ?_
        refine qp (AB false) rfl ?_
        refine r_nil ?_
        refine w_ret ?_
        refine thenQ_r ?_
        cases hF
        exact eR
       ·
        refine w_skip ?_
        refine thenQ_n ?_
        refine ar (l' := [(5, .sl 0 0 v1001.length), (6, .sl 1 0 v1002.length), (7, .sl 2 0 v1003.1.length), (9, .sl 3 0 v1004.1.length), (10, AI v1004.2)]) (L := [(3, .row true 3 (v1004.1.map eTurn)), (2, .row true 1 (v1003.1.map (eL 1 vI))), (1, .row true 3 (v1002.map eAnswer)), (0, .row true 3 (v1001.map eTurn))]) [5, 6, 7, 9, 10] [(1280, 3), (768, 2), (512, 1), (320, 0)] 4 ⟨rfl, hF⟩
      ·
       refine qn rfl (qn rfl (qn rfl (qg (AB false) rfl rfl (qp (AB false) rfl ?_))))
       refine r_nil ?_
       refine w_false rfl ?_
       refine w_skip ?_
       refine thenQ_n ?_
       refine ar (l' := [(5, .sl 0 0 v1001.length), (6, .sl 1 0 v1002.length), (7, .sl 2 0 v1003.1.length), (9, .sl 3 0 v1004.1.length), (10, AI v1004.2)]) (L := [(3, .row true 3 (v1004.1.map eTurn)), (2, .row true 1 (v1003.1.map (eL 1 vI))), (1, .row true 3 (v1002.map eAnswer)), (0, .row true 3 (v1001.map eTurn))]) [5, 6, 7, 9, 10] [(1280, 3), (768, 2), (512, 1), (320, 0)] 4 ⟨rfl, hF⟩
    ·
     refine qn rfl (qn rfl (qg (AB false) rfl rfl (qp (AB false) rfl (qp (AB false) rfl (qg (AI v1004.2) rfl rfl (qg (AB (decide (v1004.2 = (0 : Int)))) rfl rfl (qg (AB (decide (v1004.2 = (0 : Int)))) rfl rfl ?_)))))))
     refine q_case 64 hF rfl (fun hF => ?_) (fun hF => ?_)
     ·
      refine qg (.sl 1280 0 v1004.1.length) rfl rfl ?_
      obtain ⟨v1008, e1008, hF⟩ := bind_get hF
      refine qcg (AB v1008) [(1280, .row true 3 (v1004.1.map eTurn)), (768, .row true 1 (v1003.1.map (eL 1 vI))), (512, .row true 3 (v1002.map eAnswer)), (320, .row true 3 (v1001.map eTurn))] true rfl (con_spec_ValidTurns e1008) c9_ok (by simp [List.take_of_length_le]) rfl ?_
      refine qg (AB (!v1008)) rfl rfl (qg (AB (!v1008)) rfl rfl (qp (AB (!v1008)) rfl ?_))
      refine r_nil ?_
      refine cF hF (fun hF => ?_) fun hF => ?_
      ·
       refine ws 2880 2944 ?_
       refine qp (AB false) rfl ?_
       refine r_nil ?_
       refine w_ret ?_
       refine thenQ_r ?_
       cases hF
       exact eR
      ·
       refine w_skip ?_
       refine thenQ_n ?_
       refine ar (l' := [(5, .sl 0 0 v1001.length), (6, .sl 1 0 v1002.length), (7, .sl 2 0 v1003.1.length), (9, .sl 3 0 v1004.1.length), (10, AI v1004.2)]) (L := [(3, .row true 3 (v1004.1.map eTurn)), (2, .row true 1 (v1003.1.map (eL 1 vI))), (1, .row true 3 (v1002.map eAnswer)), (0, .row true 3 (v1001.map eTurn))]) [5, 6, 7, 9, 10] [(1280, 3), (768, 2), (512, 1), (320, 0)] 4 ⟨rfl, hF⟩
     ·
      refine qn rfl (qn rfl (qn rfl (qg (AB false) rfl rfl (qp (AB false) rfl ?_))))
      refine r_nil ?_
      refine w_false rfl ?_
      refine w_skip ?_
      refine thenQ_n ?_
      refine ar (l' := [(5, .sl 0 0 v1001.length), (6, .sl 1 0 v1002.length), (7, .sl 2 0 v1003.1.length), (9, .sl 3 0 v1004.1.length), (10, AI v1004.2)]) (L := [(3, .row true 3 (v1004.1.map eTurn)), (2, .row true 1 (v1003.1.map (eL 1 vI))), (1, .row true 3 (v1002.map eAnswer)), (0, .row true 3 (v1001.map eTurn))]) [5, 6, 7, 9, 10] [(1280, 3), (768, 2), (512, 1), (320, 0)] 4 ⟨rfl, hF⟩
  ·
   rintro s' ⟨rfl, hF⟩
   unfold F_laws_FnEnsemble_j0 at hF
   refine w_seq ?_
   refine ws 4 68 ?_
   refine qp (AI 0) rfl ?_
   refine r_nil ?_
   refine w_block ?_
   refine wr (l' := [(5, .sl 0 0 v1001.length), (6, .sl 1 0 v1002.length), (7, .sl 2 0 v1003.1.length), (9, .sl 3 0 v1004.1.length), (10, AI v1004.2), (11, AI 0)]) (L := [(3, .row true 3 (v1004.1.map eTurn)), (2, .row true 1 (v1003.1.map (eL 1 vI))), (1, .row true 3 (v1002.map eAnswer)), (0, .row true 3 (v1001.map eTurn))]) [5, 6, 7, 9, 10, 11] [(3, 3), (2, 2), (1, 1), (0, 0)] 4 ?_
   refine w_loopF (F_laws_FnEnsemble_l1 v1001 v1002 v1003 v1004) (fun s : Int => mkS [(5, .sl 0 0 v1001.length), (6, .sl 1 0 v1002.length), (7, .sl 2 0 v1003.1.length), (9, .sl 3 0 v1004.1.length), (10, AI v1004.2), (11, AI s)] (fo [(3, .row true 3 (v1004.1.map eTurn)), (2, .row true 1 (v1003.1.map (eL 1 vI))), (1, .row true 3 (v1002.map eAnswer)), (0, .row true 3 (v1001.map eTurn))]) 4) hF ?_
   rintro k17 v50051 hF
   rw [F_laws_FnEnsemble_l1] at hF
   try dsimp only
   refine w_seq ?_
   refine ws 4 260 ?_
   refine qp (AI v50051) rfl (qp (.sl 2 0 v1003.1.length) rfl (qp (AI (v1003.1.length : Int)) rfl (qp (AB (decide (v50051 < (v1003.1.length : Int)))) rfl ?_)))
   refine r_nil ?_
   refine cF hF (fun hF => ?_) fun hF => ?_
   ·
    refine w_skip ?_
    refine thenQ_n ?_
    refine w_seq ?_
    refine w_block ?_
    refine ws 260 580 ?_
    refine qp (.sl 2 0 v1003.1.length) rfl (qp (AI v50051) rfl ?_)
    obtain ⟨v1009, e1009, hF⟩ := bind_get hF
    refine qp (.ptr 2 v50051.toNat 0) (ev_iad_r rfl (by simp) rfl rfl e1009) (qp (.val (some 2) (.sl 1 (v1009.map vI))) (ev_ld_r rfl rfl (ix_some e1009).2 rfl rfl) (qp (.val (some 2) (.sl 1 (v1009.map vI))) rfl ?_))
    refine r_nil ?_
    refine w_seq ?_
    refine ws 580 3652 ?_
    refine qp (.val (some 2) (.sl 1 (v1009.map vI))) rfl (qp (AI (v1009.length : Int)) (ev_len_s rfl rfl) (qp (AB (decide ((v1009.length : Int) ≠ (2 : Int)))) rfl (qp (AB (decide ((v1009.length : Int) ≠ (2 : Int)))) rfl ?_)))
    refine q_case 83 hF rfl (fun hF => ?_) (fun hF => ?_)
    ·
     refine qn rfl (qn rfl (qn rfl (qn rfl (qp (AB true) rfl (qp (AB true) rfl (qn rfl (qn rfl ?_)))))))
     refine qn rfl (qn rfl (qn rfl (qn rfl (qp (AB true) rfl (qp (AB true) rfl (qn rfl (qn rfl ?_)))))))
     refine qn rfl (qn rfl (qp (AB true) rfl (qp (AB true) rfl (qn rfl (qn rfl (qn rfl (qn rfl ?_)))))))
     refine qn rfl (qn rfl (qp (AB true) rfl (qp (AB true) rfl (qn rfl (qn rfl (qn rfl (qn rfl ?_)))))))
     refine qn rfl (qn rfl (qn rfl (qn rfl (qn rfl (qn rfl (qn rfl (qn rfl ?_)))))))
     refine qn rfl (qn rfl (qn rfl (qp (AB true) rfl ?_)))
     refine r_nil ?_
     refine w_true rfl ?_
     refine ws 3652 3716 ?_
     refine qp (AB false) rfl ?_
     refine r_nil ?_
     refine w_ret ?_
     refine thenQ_r ?_
     refine blockQ_r ?_
     refine thenQ_r ?_
     refine thenQ_r ?_
     refine blockQ_r ?_
     refine thenQ_r ?_
     cases hF
     exact eR
    ·
     refine qg (.val (some 2) (.sl 1 (v1009.map vI))) rfl rfl ?_
     obtain ⟨v1018, e1018, hF⟩ := bind_get hF
     refine qg (.val (some 2) (.ptr [.int .i64 v1018])) rfl (ev_iad_s rfl rfl rfl e1018 rfl) (qg (AI v1018) rfl rfl (qg (AB (decide (v1018 < (0 : Int)))) rfl rfl (qp (AB (decide (v1018 < (0 : Int)))) rfl (qp (AB (decide (v1018 < (0 : Int)))) rfl ?_))))
     refine q_case 89 hF rfl (fun hF => ?_) (fun hF => ?_)
     ·
      refine qn rfl (qn rfl (qn rfl (qn rfl (qn rfl (qn rfl (qp (AB true) rfl (qp (AB true) rfl ?_)))))))
      refine qn rfl (qn rfl (qn rfl (qn rfl (qp (AB true) rfl (qp (AB true) rfl (qn rfl (qn rfl ?_)))))))
      refine qn rfl (qn rfl (qn rfl (qn rfl (qp (AB true) rfl (qp (AB true) rfl (qn rfl (qn rfl ?_)))))))
      refine qn rfl (qn rfl (qn rfl (qn rfl (qn rfl (qn rfl (qn rfl (qn rfl ?_)))))))
      refine qn rfl (qn rfl (qn rfl (qn rfl (qn rfl (qp (AB true) rfl ?_)))))
      refine r_nil ?_
      refine w_true rfl ?_
      refine ws 3652 3716 ?_
      refine qp (AB false) rfl ?_
      refine r_nil ?_
      refine w_ret ?_
      refine thenQ_r ?_
      refine blockQ_r ?_
      refine thenQ_r ?_
      refine thenQ_r ?_
      refine blockQ_r ?_
      refine thenQ_r ?_
      cases hF
      exact eR
     ·
      refine qg (.val (some 2) (.sl 1 (v1009.map vI))) rfl rfl ?_
      obtain ⟨v1019, e1019, hF⟩ := bind_get hF
      refine qg (.val (some 2) (.ptr [.int .i64 v1019])) rfl (ev_iad_s rfl rfl rfl e1019 rfl) (qg (AI v1019) rfl rfl (qg (.sl 1 0 v1002.length) rfl rfl (qg (AI (v1002.length : Int)) rfl rfl (qg (AB (decide ((v1002.length : Int) ≤ v1019))) rfl rfl (qp (AB (decide ((v1002.length : Int) ≤ v1019))) rfl (qp (AB (decide ((v1002.length : Int) ≤ v1019))) rfl ?_))))))
      refine q_case 97 hF rfl (fun hF => ?_) (fun hF => ?_)
      ·
       refine qn rfl (qn rfl (qn rfl (qn rfl (qp (AB true) rfl (qp (AB true) rfl (qn rfl (qn rfl ?_)))))))
       refine qn rfl (qn rfl (qn rfl (qn rfl (qp (AB true) rfl (qp (AB true) rfl (qn rfl (qn rfl ?_)))))))
       refine qn rfl (qn rfl (qn rfl (qn rfl (qn rfl (qn rfl (qn rfl (qn rfl ?_)))))))
       refine qn rfl (qn rfl (qn rfl (qn rfl (qn rfl (qp (AB true) rfl ?_)))))
       refine r_nil ?_
       refine w_true rfl ?_
       refine ws 3652 3716 ?_
       refine qp (AB false) rfl ?_
       refine r_nil ?_
       refine w_ret ?_
       refine thenQ_r ?_
       refine blockQ_r ?_
       refine thenQ_r ?_
       refine thenQ_r ?_
       refine blockQ_r ?_
       refine thenQ_r ?_
       cases hF
       exact eR
      ·
       refine qg (.val (some 2) (.sl 1 (v1009.map vI))) rfl rfl ?_
       obtain ⟨v1020, e1020, hF⟩ := bind_get hF
       refine qg (.val (some 2) (.ptr [.int .i64 v1020])) rfl (ev_iad_s rfl rfl rfl e1020 rfl) (qg (AI v1020) rfl rfl (qg (AB (decide (v1020 < (0 : Int)))) rfl rfl (qp (AB (decide (v1020 < (0 : Int)))) rfl (qp (AB (decide (v1020 < (0 : Int)))) rfl ?_))))
       refine q_case 103 hF rfl (fun hF => ?_) (fun hF => ?_)
       ·
        refine qn rfl (qn rfl (qn rfl (qn rfl (qn rfl (qn rfl (qp (AB true) rfl (qp (AB true) rfl ?_)))))))
        refine qn rfl (qn rfl (qn rfl (qn rfl (qn rfl (qn rfl (qn rfl (qn rfl ?_)))))))
        refine qn rfl (qn rfl (qn rfl (qn rfl (qn rfl (qn rfl (qn rfl (qp (AB true) rfl ?_)))))))
        refine r_nil ?_
        refine w_true rfl ?_
        refine ws 3652 3716 ?_
        refine qp (AB false) rfl ?_
        refine r_nil ?_
        refine w_ret ?_
        refine thenQ_r ?_
        refine blockQ_r ?_
        refine thenQ_r ?_
        refine thenQ_r ?_
        refine blockQ_r ?_
        refine thenQ_r ?_
        cases hF
        exact eR
       ·
        refine qg (.val (some 2) (.sl 1 (v1009.map vI))) rfl rfl ?_
        obtain ⟨v1021, e1021, hF⟩ := bind_get hF
        refine qg (.val (some 2) (.ptr [.int .i64 v1021])) rfl (ev_iad_s rfl rfl rfl e1021 rfl) (qg (AI v1021) rfl rfl (qg (.sl 0 0 v1001.length) rfl rfl (qg (AI (v1001.length : Int)) rfl rfl (qg (AB (decide ((v1001.length : Int) ≤ v1021))) rfl rfl (qp (AB (decide ((v1001.length : Int) ≤ v1021))) rfl (qp (AB (decide ((v1001.length : Int) ≤ v1021))) rfl ?_))))))
        refine q_case 111 hF rfl (fun hF => ?_) (fun hF => ?_)
        ·
         refine qn rfl (qn rfl (qn rfl (qn rfl (qn rfl (qn rfl (qn rfl (qn rfl ?_)))))))
         refine qn rfl (qn rfl (qn rfl (qn rfl (qn rfl (qn rfl (qn rfl (qp (AB true) rfl ?_)))))))
         refine r_nil ?_
         refine w_true rfl ?_
         refine ws 3652 3716 ?_
         refine qp (AB false) rfl ?_
         refine r_nil ?_
         refine w_ret ?_
         refine thenQ_r ?_
         refine blockQ_r ?_
         refine thenQ_r ?_
         refine thenQ_r ?_
         refine blockQ_r ?_
         refine thenQ_r ?_
         cases hF
         exact eR
        ·
         refine qg (.sl 0 0 v1001.length) rfl rfl (qg (.val (some 2) (.sl 1 (v1009.map vI))) rfl rfl ?_)
         obtain ⟨v1022, e1022, hF⟩ := bind_get hF
         refine qg (.val (some 2) (.ptr [.int .i64 v1022])) rfl (ev_iad_s rfl rfl rfl e1022 rfl) (qg (AI v1022) rfl rfl ?_)
         obtain ⟨v1023, e1023, hF⟩ := bind_get hF
         refine qg (.ptr 0 v1022.toNat 0) rfl (ev_iad_r rfl (by simp) rfl rfl e1023) (qg (.ptr 0 v1022.toNat 0) rfl rfl (qg (AS v1023.1) rfl (ev_ld_r rfl rfl (ix_some e1023).2 rfl rfl) (qg (.sl 1 0 v1002.length) rfl rfl (qg (.val (some 2) (.sl 1 (v1009.map vI))) rfl rfl ?_))))
         obtain ⟨v1024, e1024, hF⟩ := bind_get hF
         refine qg (.val (some 2) (.ptr [.int .i64 v1024])) rfl (ev_iad_s rfl rfl rfl e1024 rfl) (qg (AI v1024) rfl rfl ?_)
         obtain ⟨v1025, e1025, hF⟩ := bind_get hF
         refine qg (.ptr 1 v1024.toNat 0) rfl (ev_iad_r rfl (by simp) rfl rfl e1025) (qg (.ptr 1 v1024.toNat 0) rfl rfl (qg (AS v1025.1) rfl (ev_ld_r rfl rfl (ix_some e1025).2 rfl rfl) (qg (AB (decide (v1023.1 ≠ v1025.1))) rfl rfl (qp (AB (decide (v1023.1 ≠ v1025.1))) rfl ?_))))
         refine r_nil ?_
         refine cF hF (fun hF => ?_) fun hF => ?_
         ·
          refine ws 3652 3716 ?_
          refine qp (AB false) rfl ?_
          refine r_nil ?_
          refine w_ret ?_
          refine thenQ_r ?_
          refine blockQ_r ?_
          refine thenQ_r ?_
          refine thenQ_r ?_
          refine blockQ_r ?_
          refine thenQ_r ?_
          cases hF
          exact eR
         ·
          refine w_skip ?_
          refine thenQ_n ?_
          refine ws 3652 5188 ?_
          refine qp (.sl 0 0 v1001.length) rfl (qp (.val (some 2) (.sl 1 (v1009.map vI))) rfl ?_)
          obtain ⟨v1026, e1026, hF⟩ := bind_get hF
          refine qp (.val (some 2) (.ptr [.int .i64 v1026])) (ev_iad_s rfl rfl rfl e1026 rfl) (qp (AI v1026) rfl ?_)
          obtain ⟨v1027, e1027, hF⟩ := bind_get hF
          refine qp (.ptr 0 v1026.toNat 0) (ev_iad_r rfl (by simp) rfl rfl e1027) (qp (.ptr 0 v1026.toNat 1) rfl (qp (AI v1027.2.1) (ev_ld_r rfl rfl (ix_some e1027).2 rfl rfl) (qp (.sl 0 0 v1001.length) rfl (qp (.val (some 2) (.sl 1 (v1009.map vI))) rfl ?_))))
          obtain ⟨v1028, e1028, hF⟩ := bind_get hF
          refine qp (.val (some 2) (.ptr [.int .i64 v1028])) (ev_iad_s rfl rfl rfl e1028 rfl) (qp (AI v1028) rfl ?_)
          obtain ⟨v1029, e1029, hF⟩ := bind_get hF
          refine qp (.ptr 0 v1028.toNat 0) (ev_iad_r rfl (by simp) rfl rfl e1029) (qp (.ptr 0 v1028.toNat 2) rfl (qp (AI v1029.2.2) (ev_ld_r rfl rfl (ix_some e1029).2 rfl rfl) (qp (AI (w64 (v1027.2.1 + v1029.2.2))) rfl (qp (.sl 1 0 v1002.length) rfl (qp (.val (some 2) (.sl 1 (v1009.map vI))) rfl ?_)))))
          obtain ⟨v1030, e1030, hF⟩ := bind_get hF
          refine qp (.val (some 2) (.ptr [.int .i64 v1030])) (ev_iad_s rfl rfl rfl e1030 rfl) (qp (AI v1030) rfl ?_)
          obtain ⟨v1031, e1031, hF⟩ := bind_get hF
          refine qp (.ptr 1 v1030.toNat 0) (ev_iad_r rfl (by simp) rfl rfl e1031) (qp (.ptr 1 v1030.toNat 2) rfl (qp (AI v1031.2.2) (ev_ld_r rfl rfl (ix_some e1031).2 rfl rfl) (qp (AI (w64 ((w64 (v1027.2.1 + v1029.2.2)) + v1031.2.2))) rfl (qp (AI (w64 ((w64 (v1027.2.1 + v1029.2.2)) + v1031.2.2))) rfl ?_))))
          refine r_nil ?_
          refine ws 5188 5252 ?_
          refine qp (AB false) rfl ?_
          refine r_nil ?_
          refine w_seq ?_
          refine ws 5252 5316 ?_
          refine qp (AI 0) rfl ?_
          refine r_nil ?_
          refine w_block ?_
          refine wr (l' := [(5, .sl 0 0 v1001.length), (6, .sl 1 0 v1002.length), (7, .sl 2 0 v1003.1.length), (9, .sl 3 0 v1004.1.length), (10, AI v1004.2), (11, AI v50051), (12, .val (some 2) (.sl 1 (v1009.map vI))), (13, AI (w64 ((w64 (v1027.2.1 + v1029.2.2)) + v1031.2.2))), (14, AB false), (15, AI 0)]) (L := [(3, .row true 3 (v1004.1.map eTurn)), (2, .row true 1 (v1003.1.map (eL 1 vI))), (1, .row true 3 (v1002.map eAnswer)), (0, .row true 3 (v1001.map eTurn))]) [5, 6, 7, 9, 10, 11, 12, 13, 14, 15] [(3, 3), (2, 2), (1, 1), (0, 0)] 4 ?_
          refine w_loopF (F_laws_FnEnsemble_l2 v1002 v1004 v1009 v1027 v1029 v1031 v50051 k17) (fun s : Bool × Int => mkS [(5, .sl 0 0 v1001.length), (6, .sl 1 0 v1002.length), (7, .sl 2 0 v1003.1.length), (9, .sl 3 0 v1004.1.length), (10, AI v1004.2), (11, AI v50051), (12, .val (some 2) (.sl 1 (v1009.map vI))), (13, AI (w64 ((w64 (v1027.2.1 + v1029.2.2)) + v1031.2.2))), (14, AB s.1), (15, AI s.2)] (fo [(3, .row true 3 (v1004.1.map eTurn)), (2, .row true 1 (v1003.1.map (eL 1 vI))), (1, .row true 3 (v1002.map eAnswer)), (0, .row true 3 (v1001.map eTurn))]) 4) hF ?_
          rintro k24 ⟨v50070, v50071⟩ hF
          rw [F_laws_FnEnsemble_l2] at hF
          try dsimp only
          refine w_seq ?_
          refine ws 4 260 ?_
          refine qp (AI v50071) rfl (qp (.sl 3 0 v1004.1.length) rfl (qp (AI (v1004.1.length : Int)) rfl (qp (AB (decide (v50071 < (v1004.1.length : Int)))) rfl ?_)))
          refine r_nil ?_
          refine cF hF (fun hF => ?_) fun hF => ?_
          ·
           refine w_skip ?_
           refine thenQ_n ?_
           refine w_seq ?_
           refine w_block ?_
           refine w_reg 260 1924 rfl rfl ?_
           refine qp (AB v50070) rfl (qp (AB v50070) rfl ?_)
           refine q_case 158 hF rfl (fun hF => ?_) (fun hF => ?_)
           ·
            refine qn rfl (qn rfl (qn rfl (qn rfl (qn rfl (qn rfl (qn rfl (qn rfl ?_)))))))
            refine qn rfl (qn rfl (qn rfl (qn rfl (qn rfl (qn rfl (qu rfl (qu rfl ?_)))))))
            refine qu rfl (qu rfl (qu rfl (qu rfl (qu rfl (qn rfl (qp (AB true) rfl (qp (AB true) rfl ?_)))))))
            refine r_nil ?_
            refine blockQ_n ?_
            refine thenQ_n ?_
            refine w_reg 1924 2116 rfl rfl ?_
            refine qp (AI v50071) rfl (qp (AI (w64 (v50071 + 1))) rfl (qp (AI (w64 (v50071 + 1))) rfl ?_))
            refine r_nil ?_
            refine thenQ_n ?_
            refine ar (l' := [(5, .sl 0 0 v1001.length), (6, .sl 1 0 v1002.length), (7, .sl 2 0 v1003.1.length), (9, .sl 3 0 v1004.1.length), (10, AI v1004.2), (11, AI v50051), (12, .val (some 2) (.sl 1 (v1009.map vI))), (13, AI (w64 ((w64 (v1027.2.1 + v1029.2.2)) + v1031.2.2))), (14, AB true), (15, AI (w64 (v50071 + 1)))]) (L := [(3, .row true 3 (v1004.1.map eTurn)), (2, .row true 1 (v1003.1.map (eL 1 vI))), (1, .row true 3 (v1002.map eAnswer)), (0, .row true 3 (v1001.map eTurn))]) [5, 6, 7, 9, 10, 11, 12, 13, 14, 15] [(3, 3), (2, 2), (1, 1), (0, 0)] 4 ⟨_, by rfl, hF⟩
           ·
            refine qg (.sl 3 0 v1004.1.length) rfl rfl (qg (AI v50071) rfl rfl ?_)
            obtain ⟨v1040, e1040, hF⟩ := bind_get hF
            refine qg (.ptr 3 v50071.toNat 0) rfl (ev_iad_r rfl (by simp) rfl rfl e1040) (qg (.ptr 3 v50071.toNat 0) rfl rfl (qg (AS v1040.1) rfl (ev_ld_r rfl rfl (ix_some e1040).2 rfl rfl) (qg (.sl 1 0 v1002.length) rfl rfl (qg (.val (some 2) (.sl 1 (v1009.map vI))) rfl rfl ?_))))
            obtain ⟨v1041, e1041, hF⟩ := bind_get hF
            refine qg (.val (some 2) (.ptr [.int .i64 v1041])) rfl (ev_iad_s rfl rfl rfl e1041 rfl) (qg (AI v1041) rfl rfl ?_)
            obtain ⟨v1042, e1042, hF⟩ := bind_get hF
            refine qg (.ptr 1 v1041.toNat 0) rfl (ev_iad_r rfl (by simp) rfl rfl e1042) (qg (.ptr 1 v1041.toNat 1) rfl rfl (qg (AS v1042.2.1) rfl (ev_ld_r rfl rfl (ix_some e1042).2 rfl rfl) (qg (AB (decide (v1040.1 = v1042.2.1))) rfl rfl (qg (AB (decide (v1040.1 = v1042.2.1))) rfl rfl ?_))))
            refine q_case 172 hF rfl (fun hF => ?_) (fun hF => ?_)
            ·
             refine qg (.sl 3 0 v1004.1.length) rfl rfl (qg (AI v50071) rfl rfl ?_)
             obtain ⟨v1043, e1043, hF⟩ := bind_get hF
             refine qg (.ptr 3 v50071.toNat 0) rfl (ev_iad_r rfl (by simp) rfl rfl e1043) (qg (.ptr 3 v50071.toNat 1) rfl rfl (qg (AI v1043.2.1) rfl (ev_ld_r rfl rfl (ix_some e1043).2 rfl rfl) (qg (AI (w64 ((w64 (v1027.2.1 + v1029.2.2)) + v1031.2.2))) rfl rfl (qg (AB (decide (v1043.2.1 = w64 ((w64 (v1027.2.1 + v1029.2.2)) + v1031.2.2)))) rfl rfl (qg (AB (decide (v1043.2.1 = w64 ((w64 (v1027.2.1 + v1029.2.2)) + v1031.2.2)))) rfl rfl (qp (AB (decide (v1043.2.1 = w64 ((w64 (v1027.2.1 + v1029.2.2)) + v1031.2.2)))) rfl (qp (AB (decide (v1043.2.1 = w64 ((w64 (v1027.2.1 + v1029.2.2)) + v1031.2.2)))) rfl ?_)))))))
             refine r_nil ?_
             refine blockQ_n ?_
             refine thenQ_n ?_
             refine w_reg 1924 2116 rfl rfl ?_
             refine qp (AI v50071) rfl (qp (AI (w64 (v50071 + 1))) rfl (qp (AI (w64 (v50071 + 1))) rfl ?_))
             refine r_nil ?_
             refine thenQ_n ?_
             refine ar (l' := [(5, .sl 0 0 v1001.length), (6, .sl 1 0 v1002.length), (7, .sl 2 0 v1003.1.length), (9, .sl 3 0 v1004.1.length), (10, AI v1004.2), (11, AI v50051), (12, .val (some 2) (.sl 1 (v1009.map vI))), (13, AI (w64 ((w64 (v1027.2.1 + v1029.2.2)) + v1031.2.2))), (14, AB (decide (v1043.2.1 = w64 ((w64 (v1027.2.1 + v1029.2.2)) + v1031.2.2)))), (15, AI (w64 (v50071 + 1)))]) (L := [(3, .row true 3 (v1004.1.map eTurn)), (2, .row true 1 (v1003.1.map (eL 1 vI))), (1, .row true 3 (v1002.map eAnswer)), (0, .row true 3 (v1001.map eTurn))]) [5, 6, 7, 9, 10, 11, 12, 13, 14, 15] [(3, 3), (2, 2), (1, 1), (0, 0)] 4 ⟨_, by rfl, hF⟩
            ·
             refine qn rfl (qn rfl (qn rfl (qn rfl (qn rfl (qn rfl (qn rfl (qg (AB false) rfl rfl ?_)))))))
             refine qp (AB false) rfl (qp (AB false) rfl ?_)
             refine r_nil ?_
             refine blockQ_n ?_
             refine thenQ_n ?_
             refine w_reg 1924 2116 rfl rfl ?_
             refine qp (AI v50071) rfl (qp (AI (w64 (v50071 + 1))) rfl (qp (AI (w64 (v50071 + 1))) rfl ?_))
             refine r_nil ?_
             refine thenQ_n ?_
             refine ar (l' := [(5, .sl 0 0 v1001.length), (6, .sl 1 0 v1002.length), (7, .sl 2 0 v1003.1.length), (9, .sl 3 0 v1004.1.length), (10, AI v1004.2), (11, AI v50051), (12, .val (some 2) (.sl 1 (v1009.map vI))), (13, AI (w64 ((w64 (v1027.2.1 + v1029.2.2)) + v1031.2.2))), (14, AB false), (15, AI (w64 (v50071 + 1)))]) (L := [(3, .row true 3 (v1004.1.map eTurn)), (2, .row true 1 (v1003.1.map (eL 1 vI))), (1, .row true 3 (v1002.map eAnswer)), (0, .row true 3 (v1001.map eTurn))]) [5, 6, 7, 9, 10, 11, 12, 13, 14, 15] [(3, 3), (2, 2), (1, 1), (0, 0)] 4 ⟨_, by rfl, hF⟩
          ·
           refine w_exit ?_
           refine thenQ_e ?_
           refine thenQ_e ?_
           refine blockQ_e ?_
           refine thenQ_n ?_
           refine ws 260 644 ?_
           refine qp (AI v1004.2) rfl (qp (AB (decide (v1004.2 = (0 : Int)))) rfl (qp (AB (decide (v1004.2 = (0 : Int)))) rfl ?_))
           refine q_case 184 hF rfl (fun hF => ?_) (fun hF => ?_)
           ·
            refine qg (AB v50070) rfl rfl (qg (AB (!v50070)) rfl rfl (qp (AB (!v50070)) rfl ?_))
            refine r_nil ?_
            refine cF hF (fun hF => ?_) fun hF => ?_
            ·
             refine ws 644 708 ?_
             refine qp (AB false) rfl ?_
             refine r_nil ?_
             refine w_ret ?_
             refine blockQ_r ?_
             refine thenQ_r ?_
             refine thenQ_r ?_
             refine blockQ_r ?_
             refine thenQ_r ?_
             cases hF
             exact eR
            ·
             refine w_skip ?_
             refine blockQ_n ?_
             refine thenQ_n ?_
             refine w_reg 644 836 rfl rfl ?_
             refine qp (AI v50051) rfl (qp (AI (w64 (v50051 + 1))) rfl (qp (AI (w64 (v50051 + 1))) rfl ?_))
             refine r_nil ?_
             refine thenQ_n ?_
             refine ar (l' := [(5, .sl 0 0 v1001.length), (6, .sl 1 0 v1002.length), (7, .sl 2 0 v1003.1.length), (9, .sl 3 0 v1004.1.length), (10, AI v1004.2), (11, AI (w64 (v50051 + 1)))]) (L := [(3, .row true 3 (v1004.1.map eTurn)), (2, .row true 1 (v1003.1.map (eL 1 vI))), (1, .row true 3 (v1002.map eAnswer)), (0, .row true 3 (v1001.map eTurn))]) [5, 6, 7, 9, 10, 11] [(3, 3), (2, 2), (1, 1), (0, 0)] 4 ⟨_, by rfl, hF⟩
           ·
            refine qn rfl (qn rfl (qp (AB false) rfl ?_))
            refine r_nil ?_
            refine w_false rfl ?_
            refine w_skip ?_
            refine blockQ_n ?_
            refine thenQ_n ?_
            refine w_reg 644 836 rfl rfl ?_
            refine qp (AI v50051) rfl (qp (AI (w64 (v50051 + 1))) rfl (qp (AI (w64 (v50051 + 1))) rfl ?_))
            refine r_nil ?_
            refine thenQ_n ?_
            refine ar (l' := [(5, .sl 0 0 v1001.length), (6, .sl 1 0 v1002.length), (7, .sl 2 0 v1003.1.length), (9, .sl 3 0 v1004.1.length), (10, AI v1004.2), (11, AI (w64 (v50051 + 1)))]) (L := [(3, .row true 3 (v1004.1.map eTurn)), (2, .row true 1 (v1003.1.map (eL 1 vI))), (1, .row true 3 (v1002.map eAnswer)), (0, .row true 3 (v1001.map eTurn))]) [5, 6, 7, 9, 10, 11] [(3, 3), (2, 2), (1, 1), (0, 0)] 4 ⟨_, by rfl, hF⟩
   ·
    refine w_exit ?_
    refine thenQ_e ?_
    refine thenQ_e ?_
    refine blockQ_e ?_
    refine thenQ_n ?_
    refine ws 260 708 ?_
    refine qp (.sl 0 0 v1001.length) rfl ?_
    obtain ⟨v1044, e1044, hF⟩ := bind_get hF
    refine qc (.tup [.sl 324 0 v1044.1.length, AI v1044.2]) [(324, .row true 1 (v1044.1.map (eL 1 vI))), (3, .row true 3 (v1004.1.map eTurn)), (2, .row true 1 (v1003.1.map (eL 1 vI))), (1, .row true 3 (v1002.map eAnswer)), (0, .row true 3 (v1001.map eTurn))] true (con_impl_SilencesOf e1044) c10_ok (by simp [List.take_of_length_le]) (by simp [res_impl_SilencesOf]) ?_
    refine qp (.tup [.sl 324 0 v1044.1.length, AI v1044.2]) rfl (qp (.sl 324 0 v1044.1.length) rfl (qp (AI v1044.2) rfl (qp (.sl 324 0 v1044.1.length) rfl (qp (AI v1044.2) rfl ?_))))
    refine r_nil ?_
    refine w_seq ?_
    refine ws 708 836 ?_
    refine qp (AI v1044.2) rfl (qp (AB (decide (v1044.2 ≠ (0 : Int)))) rfl ?_)
    refine r_nil ?_
    refine cF hF (fun hF => ?_) fun hF => ?_
    ·
     refine ws 836 900 ?_
     refine qp (AB false) rfl ?_
     refine r_nil ?_
     refine w_ret ?_
     refine thenQ_r ?_
     cases hF
     exact eR
    ·
     refine w_skip ?_
     refine thenQ_n ?_
     refine w_seq ?_
     refine ws 836 900 ?_
     refine qp (AI 0) rfl ?_
     refine r_nil ?_
     refine w_block ?_
     refine wr (l' := [(5, .sl 0 0 v1001.length), (16, .sl 1 0 v1044.1.length), (18, AI 0)]) (L := [(1, .row true 1 (v1044.1.map (eL 1 vI))), (0, .row true 3 (v1001.map eTurn))]) [5, 16, 18] [(324, 1), (0, 0)] 2 ?_
     refine w_loopF (F_laws_FnEnsemble_l5 v1001 v1044) (fun s : Int => mkS [(5, .sl 0 0 v1001.length), (16, .sl 1 0 v1044.1.length), (18, AI s)] (fo [(1, .row true 1 (v1044.1.map (eL 1 vI))), (0, .row true 3 (v1001.map eTurn))]) 2) hF ?_
     rintro k27 v50077 hF
     rw [F_laws_FnEnsemble_l5] at hF
     try dsimp only
     refine w_seq ?_
     refine ws 2 258 ?_
     refine qp (AI v50077) rfl (qp (.sl 1 0 v1044.1.length) rfl (qp (AI (v1044.1.length : Int)) rfl (qp (AB (decide (v50077 < (v1044.1.length : Int)))) rfl ?_)))
     refine r_nil ?_
     refine cF hF (fun hF => ?_) fun hF => ?_
     ·
      refine w_skip ?_
      refine thenQ_n ?_
      refine w_seq ?_
      refine w_block ?_
      refine w_seq ?_
      refine ws 258 2754 ?_
      refine qp (.sl 1 0 v1044.1.length) rfl (qp (AI v50077) rfl ?_)
      obtain ⟨v1112, e1112, hF⟩ := bind_get hF
      refine qp (.ptr 1 v50077.toNat 0) (ev_iad_r rfl (by simp) rfl rfl e1112) (qp (.val (some 1) (.sl 1 (v1112.map vI))) (ev_ld_r rfl rfl (ix_some e1112).2 rfl rfl) (qp (AI (v1112.length : Int)) (ev_len_s rfl rfl) (qp (AB (decide ((v1112.length : Int) ≠ (2 : Int)))) rfl (qp (AB (decide ((v1112.length : Int) ≠ (2 : Int)))) rfl ?_))))
      refine q_case 207 hF rfl (fun hF => ?_) (fun hF => ?_)
      ·
       refine qn rfl (qn rfl (qn rfl (qn rfl (qn rfl (qn rfl (qn rfl (qn rfl ?_)))))))
       refine qn rfl (qn rfl (qn rfl (qn rfl (qn rfl (qp (AB true) rfl (qp (AB true) rfl (qn rfl ?_)))))))
       refine qn rfl (qn rfl (qn rfl (qn rfl (qn rfl (qn rfl (qp (AB true) rfl (qp (AB true) rfl ?_)))))))
       refine qn rfl (qn rfl (qn rfl (qn rfl (qn rfl (qn rfl (qn rfl (qp (AB true) rfl ?_)))))))
       refine r_nil ?_
       refine w_true rfl ?_
       refine ws 2754 2818 ?_
       refine qp (AB false) rfl ?_
       refine r_nil ?_
       refine w_ret ?_
       refine thenQ_r ?_
       refine blockQ_r ?_
       refine thenQ_r ?_
       refine thenQ_r ?_
       refine blockQ_r ?_
       refine thenQ_r ?_
       cases hF
       exact eR
      ·
       refine qg (.sl 1 0 v1044.1.length) rfl rfl (qg (AI v50077) rfl rfl ?_)
       obtain ⟨v1113, e1113, hF⟩ := bind_get hF
       refine qg (.ptr 1 v50077.toNat 0) rfl (ev_iad_r rfl (by simp) rfl rfl e1113) (qg (.val (some 1) (.sl 1 (v1113.map vI))) rfl (ev_ld_r rfl rfl (ix_some e1113).2 rfl rfl) ?_)
       obtain ⟨v1114, e1114, hF⟩ := bind_get hF
       refine qg (.val (some 1) (.ptr [.int .i64 v1114])) rfl (ev_iad_s rfl rfl rfl e1114 rfl) (qg (AI v1114) rfl rfl (qg (.sl 1 0 v1044.1.length) rfl rfl (qg (AI v50077) rfl rfl ?_)))
       obtain ⟨v1115, e1115, hF⟩ := bind_get hF
       refine qg (.ptr 1 v50077.toNat 0) rfl (ev_iad_r rfl (by simp) rfl rfl e1115) (qg (.val (some 1) (.sl 1 (v1115.map vI))) rfl (ev_ld_r rfl rfl (ix_some e1115).2 rfl rfl) ?_)
       obtain ⟨v1116, e1116, hF⟩ := bind_get hF
       refine qg (.val (some 1) (.ptr [.int .i64 v1116])) rfl (ev_iad_s rfl rfl rfl e1116 rfl) (qg (AI v1116) rfl rfl (qg (AB (decide (v1116 ≤ v1114))) rfl rfl (qp (AB (decide (v1116 ≤ v1114))) rfl (qp (AB (decide (v1116 ≤ v1114))) rfl ?_))))
       refine q_case 222 hF rfl (fun hF => ?_) (fun hF => ?_)
       ·
        refine qn rfl (qn rfl (qn rfl (qn rfl (qn rfl (qn rfl (qn rfl (qp (AB true) rfl ?_)))))))
        refine qp (AB true) rfl (qn rfl (qn rfl (qn rfl (qn rfl (qn rfl (qn rfl (qn rfl ?_)))))))
        refine qp (AB true) rfl ?_
        refine r_nil ?_
        refine w_true rfl ?_
        refine ws 2754 2818 ?_
        refine qp (AB false) rfl ?_
        refine r_nil ?_
        refine w_ret ?_
        refine thenQ_r ?_
        refine blockQ_r ?_
        refine thenQ_r ?_
        refine thenQ_r ?_
        refine blockQ_r ?_
        refine thenQ_r ?_
        cases hF
        exact eR
       ·
        refine qg (.sl 1 0 v1044.1.length) rfl rfl (qg (AI v50077) rfl rfl ?_)
        obtain ⟨v1117, e1117, hF⟩ := bind_get hF
        refine qg (.ptr 1 v50077.toNat 0) rfl (ev_iad_r rfl (by simp) rfl rfl e1117) (qg (.val (some 1) (.sl 1 (v1117.map vI))) rfl (ev_ld_r rfl rfl (ix_some e1117).2 rfl rfl) ?_)
        obtain ⟨v1118, e1118, hF⟩ := bind_get hF
        refine qg (.val (some 1) (.ptr [.int .i64 v1118])) rfl (ev_iad_s rfl rfl rfl e1118 rfl) (qg (AI v1118) rfl rfl (qg (AB (decide (v1118 < (0 : Int)))) rfl rfl (qp (AB (decide (v1118 < (0 : Int)))) rfl (qp (AB (decide (v1118 < (0 : Int)))) rfl ?_))))
        refine q_case 231 hF rfl (fun hF => ?_) (fun hF => ?_)
        ·
         refine qn rfl (qn rfl (qn rfl (qn rfl (qn rfl (qn rfl (qn rfl (qp (AB true) rfl ?_)))))))
         refine r_nil ?_
         refine w_true rfl ?_
         refine ws 2754 2818 ?_
         refine qp (AB false) rfl ?_
         refine r_nil ?_
         refine w_ret ?_
         refine thenQ_r ?_
         refine blockQ_r ?_
         refine thenQ_r ?_
         refine thenQ_r ?_
         refine blockQ_r ?_
         refine thenQ_r ?_
         cases hF
         exact eR
        ·
         refine qg (.sl 1 0 v1044.1.length) rfl rfl (qg (AI v50077) rfl rfl ?_)
         obtain ⟨v1119, e1119, hF⟩ := bind_get hF
         refine qg (.ptr 1 v50077.toNat 0) rfl (ev_iad_r rfl (by simp) rfl rfl e1119) (qg (.val (some 1) (.sl 1 (v1119.map vI))) rfl (ev_ld_r rfl rfl (ix_some e1119).2 rfl rfl) ?_)
         obtain ⟨v1120, e1120, hF⟩ := bind_get hF
         refine qg (.val (some 1) (.ptr [.int .i64 v1120])) rfl (ev_iad_s rfl rfl rfl e1120 rfl) (qg (AI v1120) rfl rfl (qg (AB (decide ((200 : Int) < v1120))) rfl rfl (qp (AB (decide ((200 : Int) < v1120))) rfl ?_)))
         refine r_nil ?_
         refine cF hF (fun hF => ?_) fun hF => ?_
         ·
          refine ws 2754 2818 ?_
          refine qp (AB false) rfl ?_
          refine r_nil ?_
          refine w_ret ?_
          refine thenQ_r ?_
          refine blockQ_r ?_
          refine thenQ_r ?_
          refine thenQ_r ?_
          refine blockQ_r ?_
          refine thenQ_r ?_
          cases hF
          exact eR
         ·
          refine w_skip ?_
          refine thenQ_n ?_
          refine ws 2754 3202 ?_
          refine qp (.sl 1 0 v1044.1.length) rfl (qp (AI v50077) rfl ?_)
          obtain ⟨v1121, e1121, hF⟩ := bind_get hF
          refine qp (.ptr 1 v50077.toNat 0) (ev_iad_r rfl (by simp) rfl rfl e1121) (qp (.val (some 1) (.sl 1 (v1121.map vI))) (ev_ld_r rfl rfl (ix_some e1121).2 rfl rfl) ?_)
          obtain ⟨v1122, e1122, hF⟩ := bind_get hF
          refine qp (.val (some 1) (.ptr [.int .i64 v1122])) (ev_iad_s rfl rfl rfl e1122 rfl) (qp (AI v1122) rfl (qp (AI v1122) rfl ?_))
          refine r_nil ?_
          refine w_block ?_
          refine wr (l' := [(5, .sl 0 0 v1001.length), (16, .sl 1 0 v1044.1.length), (18, AI v50077), (19, AI v1122)]) (L := [(1, .row true 1 (v1044.1.map (eL 1 vI))), (0, .row true 3 (v1001.map eTurn))]) [5, 16, 18, 19] [(1, 1), (0, 0)] 2 ?_
          refine w_loopF (F_laws_FnEnsemble_l6 v1001 v1044 v50077 k27) (fun s : Int => mkS [(5, .sl 0 0 v1001.length), (16, .sl 1 0 v1044.1.length), (18, AI v50077), (19, AI s)] (fo [(1, .row true 1 (v1044.1.map (eL 1 vI))), (0, .row true 3 (v1001.map eTurn))]) 2) hF ?_
          rintro k28 v50079 hF
          rw [F_laws_FnEnsemble_l6] at hF
          try dsimp only
          refine w_seq ?_
          refine ws 2 514 ?_
          refine qp (AI v50079) rfl (qp (.sl 1 0 v1044.1.length) rfl (qp (AI v50077) rfl ?_))
          obtain ⟨v1129, e1129, hF⟩ := bind_get hF
          refine qp (.ptr 1 v50077.toNat 0) (ev_iad_r rfl (by simp) rfl rfl e1129) (qp (.val (some 1) (.sl 1 (v1129.map vI))) (ev_ld_r rfl rfl (ix_some e1129).2 rfl rfl) ?_)
          obtain ⟨v1130, e1130, hF⟩ := bind_get hF
          refine qp (.val (some 1) (.ptr [.int .i64 v1130])) (ev_iad_s rfl rfl rfl e1130 rfl) (qp (AI v1130) rfl (qp (AB (decide (v50079 < v1130))) rfl ?_))
          refine r_nil ?_
          refine cF hF (fun hF => ?_) fun hF => ?_
          ·
           refine w_skip ?_
           refine thenQ_n ?_
           refine w_seq ?_
           refine w_block ?_
           refine ws 514 1026 ?_
           refine qp (.sl 0 0 v1001.length) rfl (qp (AI v50079) rfl ?_)
           obtain ⟨v1131, e1131, hF⟩ := bind_get hF
           refine qc (.tup [.sl 642 0 v1131.1.length, AI v1131.2]) [(642, .row true 1 (v1131.1.map V.str)), (1, .row true 1 (v1044.1.map (eL 1 vI))), (0, .row true 3 (v1001.map eTurn))] true (con_impl_PlayersAt e1131) c11_ok (by simp [List.take_of_length_le]) (by simp [res_impl_PlayersAt]) ?_
           refine qp (.tup [.sl 642 0 v1131.1.length, AI v1131.2]) rfl (qp (.sl 642 0 v1131.1.length) rfl (qp (AI v1131.2) rfl (qp (.sl 642 0 v1131.1.length) rfl (qp (AI v1131.2) rfl ?_))))
           refine r_nil ?_
           refine ws 1026 1474 ?_
           refine qp (AI v1131.2) rfl (qp (AB (decide (v1131.2 ≠ (0 : Int)))) rfl (qp (AB (decide (v1131.2 ≠ (0 : Int)))) rfl ?_))
           refine q_case 264 hF rfl (fun hF => ?_) (fun hF => ?_)
           ·
            refine qn rfl (qn rfl (qn rfl (qp (AB true) rfl ?_)))
            refine r_nil ?_
            refine w_true rfl ?_
            refine ws 1474 1538 ?_
            refine qp (AB false) rfl ?_
            refine r_nil ?_
            refine w_ret ?_
            refine blockQ_r ?_
            refine thenQ_r ?_
            refine thenQ_r ?_
            refine blockQ_r ?_
            refine blockQ_r ?_
            refine thenQ_r ?_
            refine thenQ_r ?_
            refine blockQ_r ?_
            refine thenQ_r ?_
            cases hF
            exact eR
           ·
            refine qg (.sl 642 0 v1131.1.length) rfl rfl (qg (AI (v1131.1.length : Int)) rfl rfl (qg (AB (decide ((v1131.1.length : Int) ≠ (0 : Int)))) rfl rfl (qp (AB (decide ((v1131.1.length : Int) ≠ (0 : Int)))) rfl ?_)))
            refine r_nil ?_
            refine cF hF (fun hF => ?_) fun hF => ?_
            ·
             refine ws 1474 1538 ?_
             refine qp (AB false) rfl ?_
             refine r_nil ?_
             refine w_ret ?_
             refine blockQ_r ?_
             refine thenQ_r ?_
             refine thenQ_r ?_
             refine blockQ_r ?_
             refine blockQ_r ?_
             refine thenQ_r ?_
             refine thenQ_r ?_
             refine blockQ_r ?_
             refine thenQ_r ?_
             cases hF
             exact eR
            ·
             refine w_skip ?_
             refine blockQ_n ?_
             refine thenQ_n ?_
             refine w_reg 1474 1666 rfl rfl ?_
             refine qp (AI v50079) rfl (qp (AI (w64 (v50079 + 1))) rfl (qp (AI (w64 (v50079 + 1))) rfl ?_))
             refine r_nil ?_
             refine thenQ_n ?_
             refine ar (l' := [(5, .sl 0 0 v1001.length), (16, .sl 1 0 v1044.1.length), (18, AI v50077), (19, AI (w64 (v50079 + 1)))]) (L := [(1, .row true 1 (v1044.1.map (eL 1 vI))), (0, .row true 3 (v1001.map eTurn))]) [5, 16, 18, 19] [(1, 1), (0, 0)] 2 ⟨_, by rfl, hF⟩
          ·
           refine w_exit ?_
           refine thenQ_e ?_
           refine thenQ_e ?_
           refine blockQ_e ?_
           refine blockQ_n ?_
           refine thenQ_n ?_
           refine w_reg 514 706 rfl rfl ?_
           refine qp (AI v50077) rfl (qp (AI (w64 (v50077 + 1))) rfl (qp (AI (w64 (v50077 + 1))) rfl ?_))
           refine r_nil ?_
           refine thenQ_n ?_
           refine ar (l' := [(5, .sl 0 0 v1001.length), (16, .sl 1 0 v1044.1.length), (18, AI (w64 (v50077 + 1)))]) (L := [(1, .row true 1 (v1044.1.map (eL 1 vI))), (0, .row true 3 (v1001.map eTurn))]) [5, 16, 18] [(1, 1), (0, 0)] 2 ⟨_, by rfl, hF⟩
     ·
      refine w_exit ?_
      refine thenQ_e ?_
      refine thenQ_e ?_
      refine blockQ_e ?_
      refine thenQ_n ?_
      refine w_seq ?_
      refine ws 258 450 ?_
      refine qp (.sl 0 0 v1001.length) rfl (qp (AI (v1001.length : Int)) rfl (qp (AB (decide ((v1001.length : Int) = (0 : Int)))) rfl ?_))
      refine r_nil ?_
      refine cF hF (fun hF => ?_) fun hF => ?_
      ·
       refine ws 450 514 ?_
       refine qp (AB true) rfl ?_
       refine r_nil ?_
       refine w_ret ?_
       refine thenQ_r ?_
       cases hF
       exact eR
      ·
       refine w_skip ?_
       refine thenQ_n ?_
       refine ws 450 770 ?_
       refine qp (.sl 0 0 v1001.length) rfl ?_
       obtain ⟨v1132, e1132, hF⟩ := bind_get hF
       refine qp (.ptr 0 ((0 : Int).toNat) 0) (ev_iad_r rfl (by simp) rfl rfl e1132) (qp (.ptr 0 ((0 : Int).toNat) 0) rfl (qp (AS v1132.1) (ev_ld_r rfl rfl (ix_some e1132).2 rfl rfl) (qp (AS v1132.1) rfl ?_)))
       refine r_nil ?_
       refine ws 770 834 ?_
       refine qp (AI 0) rfl ?_
       refine r_nil ?_
       refine w_seq ?_
       refine ws 834 898 ?_
       refine qp (AI 0) rfl ?_
       refine r_nil ?_
       refine w_block ?_
       refine wr (l' := [(5, .sl 0 0 v1001.length), (22, AS v1132.1), (23, AI 0), (24, AI 0)]) (L := [(0, .row true 3 (v1001.map eTurn))]) [5, 22, 23, 24] [(0, 0)] 1 ?_
       refine w_loopF (F_laws_FnEnsemble_l7 v1001 v1132) (fun s : Int × Int => mkS [(5, .sl 0 0 v1001.length), (22, AS v1132.1), (23, AI s.1), (24, AI s.2)] (fo [(0, .row true 3 (v1001.map eTurn))]) 1) hF ?_
       rintro k29 ⟨v50082, v50083⟩ hF
       rw [F_laws_FnEnsemble_l7] at hF
       try dsimp only
       refine w_seq ?_
       refine ws 1 257 ?_
       refine qp (AI v50083) rfl (qp (.sl 0 0 v1001.length) rfl (qp (AI (v1001.length : Int)) rfl (qp (AB (decide (v50083 < (v1001.length : Int)))) rfl ?_)))
       refine r_nil ?_
       refine cF hF (fun hF => ?_) fun hF => ?_
       ·
        refine w_skip ?_
        refine thenQ_n ?_
        refine w_seq ?_
        refine w_block ?_
        refine ws 257 705 ?_
        refine qp (.sl 0 0 v1001.length) rfl (qp (AI v50083) rfl ?_)
        obtain ⟨v1137, e1137, hF⟩ := bind_get hF
        refine qp (.ptr 0 v50083.toNat 0) (ev_iad_r rfl (by simp) rfl rfl e1137) (qp (.ptr 0 v50083.toNat 0) rfl (qp (AS v1137.1) (ev_ld_r rfl rfl (ix_some e1137).2 rfl rfl) (qp (AS v1132.1) rfl (qp (AB (decide (v1137.1 = v1132.1))) rfl ?_))))
        refine r_nil ?_
        refine cF hF (fun hF => ?_) fun hF => ?_
        ·
         refine w_reg 705 1217 rfl rfl ?_
         refine qp (AI v50082) rfl (qp (.sl 0 0 v1001.length) rfl (qp (AI v50083) rfl ?_))
         obtain ⟨v1138, e1138, hF⟩ := bind_get hF
         refine qp (.ptr 0 v50083.toNat 0) (ev_iad_r rfl (by simp) rfl rfl e1138) (qp (.ptr 0 v50083.toNat 2) rfl (qp (AI v1138.2.2) (ev_ld_r rfl rfl (ix_some e1138).2 rfl rfl) (qp (AI (w64 (v50082 + v1138.2.2))) rfl (qp (AI (w64 (v50082 + v1138.2.2))) rfl ?_))))
         refine r_nil ?_
         refine blockQ_n ?_
         refine thenQ_n ?_
         refine w_reg 1217 1409 rfl rfl ?_
         refine qp (AI v50083) rfl (qp (AI (w64 (v50083 + 1))) rfl (qp (AI (w64 (v50083 + 1))) rfl ?_))
         refine r_nil ?_
         refine thenQ_n ?_
         refine ar (l' := [(5, .sl 0 0 v1001.length), (22, AS v1132.1), (23, AI (w64 (v50082 + v1138.2.2))), (24, AI (w64 (v50083 + 1)))]) (L := [(0, .row true 3 (v1001.map eTurn))]) [5, 22, 23, 24] [(0, 0)] 1 ⟨_, by rfl, hF⟩
        ·
         refine w_skip ?_
         refine blockQ_n ?_
         refine thenQ_n ?_
         refine w_reg 705 897 rfl rfl ?_
         refine qp (AI v50083) rfl (qp (AI (w64 (v50083 + 1))) rfl (qp (AI (w64 (v50083 + 1))) rfl ?_))
         refine r_nil ?_
         refine thenQ_n ?_
         refine ar (l' := [(5, .sl 0 0 v1001.length), (22, AS v1132.1), (23, AI v50082), (24, AI (w64 (v50083 + 1)))]) (L := [(0, .row true 3 (v1001.map eTurn))]) [5, 22, 23, 24] [(0, 0)] 1 ⟨_, by rfl, hF⟩
       ·
        refine w_exit ?_
        refine thenQ_e ?_
        refine thenQ_e ?_
        refine blockQ_e ?_
        refine thenQ_n ?_
        refine ws 257 769 ?_
        refine qp (.sl 0 0 v1001.length) rfl (qp (AS v1132.1) rfl ?_)
        obtain ⟨v1139, e1139, hF⟩ := bind_get hF
        refine qc (.tup [AI v1139.1, AI v1139.2]) [(0, .row true 3 (v1001.map eTurn))] true (con_impl_SoloTime e1139) c12_ok (by simp [List.take_of_length_le]) rfl ?_
        refine qp (.tup [AI v1139.1, AI v1139.2]) rfl (qp (AI v1139.1) rfl (qp (AI v1139.2) rfl (qp (AI v1139.1) rfl (qp (AI v1139.2) rfl ?_))))
        refine r_nil ?_
        refine ws 769 1345 ?_
        refine qp (.sl 0 0 v1001.length) rfl ?_
        obtain ⟨v1140, e1140, hF⟩ := bind_get hF
        refine qc (.tup [AI v1140.1, AI v1140.2.1, AI v1140.2.2]) [(0, .row true 3 (v1001.map eTurn))] true (con_impl_FullestTime e1140) c13_ok (by simp [List.take_of_length_le]) rfl ?_
        refine qp (.tup [AI v1140.1, AI v1140.2.1, AI v1140.2.2]) rfl (qp (AI v1140.1) rfl (qp (AI v1140.2.1) rfl (qp (AI v1140.2.2) rfl (qp (AI v1140.1) rfl (qp (AI v1140.2.1) rfl (qp (AI v1140.2.2) rfl ?_))))))
        refine r_nil ?_
        refine ws 1345 1857 ?_
        refine qp (.sl 0 0 v1001.length) rfl (qp (AI v1140.1) rfl ?_)
        obtain ⟨v1141, e1141, hF⟩ := bind_get hF
        refine qc (.tup [.sl 1473 0 v1141.1.length, AI v1141.2]) [(1473, .row true 1 (v1141.1.map V.str)), (0, .row true 3 (v1001.map eTurn))] true (con_impl_PlayersAt e1141) c11_ok (by simp [List.take_of_length_le]) (by simp [res_impl_PlayersAt]) ?_
        refine qp (.tup [.sl 1473 0 v1141.1.length, AI v1141.2]) rfl (qp (.sl 1473 0 v1141.1.length) rfl (qp (AI v1141.2) rfl (qp (.sl 1473 0 v1141.1.length) rfl (qp (AI v1141.2) rfl ?_))))
        refine r_nil ?_
        refine ws 1857 3777 ?_
        refine qp (AI v1139.2) rfl (qp (AB (decide (v1139.2 = (0 : Int)))) rfl (qp (AB (decide (v1139.2 = (0 : Int)))) rfl ?_))
        refine q_case 316 hF rfl (fun hF => ?_) (fun hF => ?_)
        ·
         refine qg (AI v1139.1) rfl rfl (qg (AB (decide ((0 : Int) ≤ v1139.1))) rfl rfl (qp (AB (decide ((0 : Int) ≤ v1139.1))) rfl (qp (AB (decide ((0 : Int) ≤ v1139.1))) rfl ?_)))
         refine q_case 320 hF rfl (fun hF => ?_) (fun hF => ?_)
         ·
          refine qg (AI v1139.1) rfl rfl (qg (AI v50082) rfl rfl (qg (AB (decide (v1139.1 ≤ v50082))) rfl rfl (qp (AB (decide (v1139.1 ≤ v50082))) rfl (qp (AB (decide (v1139.1 ≤ v50082))) rfl ?_))))
          refine q_case 325 hF rfl (fun hF => ?_) (fun hF => ?_)
          ·
           refine qg (AI v1140.2.2) rfl rfl (qg (AB (decide (v1140.2.2 = (0 : Int)))) rfl rfl (qp (AB (decide (v1140.2.2 = (0 : Int)))) rfl (qp (AB (decide (v1140.2.2 = (0 : Int)))) rfl ?_)))
           refine q_case 329 hF rfl (fun hF => ?_) (fun hF => ?_)
           ·
            refine qg (AI v1140.2.1) rfl rfl (qg (AB (decide ((1 : Int) ≤ v1140.2.1))) rfl rfl (qp (AB (decide ((1 : Int) ≤ v1140.2.1))) rfl (qp (AB (decide ((1 : Int) ≤ v1140.2.1))) rfl ?_)))
            refine q_case 333 hF rfl (fun hF => ?_) (fun hF => ?_)
            ·
             refine qg (AI v1141.2) rfl rfl (qg (AB (decide (v1141.2 = (0 : Int)))) rfl rfl (qp (AB (decide (v1141.2 = (0 : Int)))) rfl (qp (AB (decide (v1141.2 = (0 : Int)))) rfl ?_)))
             refine q_case 337 hF rfl (fun hF => ?_) (fun hF => ?_)
             ·
              refine qg (.sl 1473 0 v1141.1.length) rfl rfl (qg (AI (v1141.1.length : Int)) rfl rfl (qg (AI v1140.2.1) rfl rfl (qg (AB (decide ((v1141.1.length : Int) = v1140.2.1))) rfl rfl (qp (AB (decide ((v1141.1.length : Int) = v1140.2.1))) rfl (qp (AB (decide ((v1141.1.length : Int) = v1140.2.1))) rfl ?_)))))
              refine r_nil ?_
              refine w_ret ?_
              cases hF
              exact eR
             ·
              refine qn rfl (qn rfl (qn rfl (qn rfl (qp (AB false) rfl (qp (AB false) rfl ?_)))))
              refine r_nil ?_
              refine w_ret ?_
              cases hF
              exact eR
            ·
             refine qn rfl (qn rfl (qp (AB false) rfl (qp (AB false) rfl (qn rfl (qn rfl (qn rfl (qn rfl ?_)))))))
             refine qp (AB false) rfl (qp (AB false) rfl ?_)
             refine r_nil ?_
             refine w_ret ?_
             cases hF
             exact eR
           ·
            refine qn rfl (qn rfl (qp (AB false) rfl (qp (AB false) rfl (qn rfl (qn rfl (qp (AB false) rfl (qp (AB false) rfl ?_)))))))
            refine qn rfl (qn rfl (qn rfl (qn rfl (qp (AB false) rfl (qp (AB false) rfl ?_)))))
            refine r_nil ?_
            refine w_ret ?_
            cases hF
            exact eR
          ·
           refine qn rfl (qn rfl (qp (AB false) rfl (qp (AB false) rfl (qn rfl (qn rfl (qp (AB false) rfl (qp (AB false) rfl ?_)))))))
           refine qn rfl (qn rfl (qp (AB false) rfl (qp (AB false) rfl (qn rfl (qn rfl (qn rfl (qn rfl ?_)))))))
           refine qp (AB false) rfl (qp (AB false) rfl ?_)
           refine r_nil ?_
           refine w_ret ?_
           cases hF
           exact eR
         ·
          refine qn rfl (qn rfl (qn rfl (qp (AB false) rfl (qp (AB false) rfl (qn rfl (qn rfl (qp (AB false) rfl ?_)))))))
          refine qp (AB false) rfl (qn rfl (qn rfl (qp (AB false) rfl (qp (AB false) rfl (qn rfl (qn rfl (qp (AB false) rfl ?_)))))))
          refine qp (AB false) rfl (qn rfl (qn rfl (qn rfl (qn rfl (qp (AB false) rfl (qp (AB false) rfl ?_))))))
          refine r_nil ?_
          refine w_ret ?_
          cases hF
          exact eR
        ·
         refine qn rfl (qn rfl (qp (AB false) rfl (qp (AB false) rfl (qn rfl (qn rfl (qn rfl (qp (AB false) rfl ?_)))))))
         refine qp (AB false) rfl (qn rfl (qn rfl (qp (AB false) rfl (qp (AB false) rfl (qn rfl (qn rfl (qp (AB false) rfl ?_)))))))
         refine qp (AB false) rfl (qn rfl (qn rfl (qp (AB false) rfl (qp (AB false) rfl (qn rfl (qn rfl (qn rfl ?_)))))))
         refine qn rfl (qp (AB false) rfl (qp (AB false) rfl ?_))
         refine r_nil ?_
         refine w_ret ?_
         cases hF
         exact eR

end Go.Ab
