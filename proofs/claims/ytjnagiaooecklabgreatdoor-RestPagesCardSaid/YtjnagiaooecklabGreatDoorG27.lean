/-
 The abstract code of the law RestPages, printed by gen.py, in pieces; each stands for the given one. No condition.
-/
import Derived.Test.YtjnagiaooecklabGreatDoorProg
import Derived.Test.YtjnagiaooecklabGreatDoorG26
import Derived.Test.YtjnagiaooecklabGreatDoorG15
import Derived.Test.YtjnagiaooecklabGreatDoorG14
set_option linter.all false
namespace Go.Hx
open Go.Proofs
variable [Glob]
abbrev zJr:=6
abbrev zS8:=oN [o4 5 0,o4 8 3,oO 10]
abbrev zS9:=oR [oT 33 5 2,oo 34 zFh 33,om 35 34 0,oA 36 35,o6 36 37 4,vc 36 38 zFg 37,vi 36 39 38 0,oS 40 36 39] [33,34,35,36,37,38,39]
abbrev zTa:=oR [oC 41 zDS [],oA 10 41] [41]
abbrev zTb:HCode:=.drg [o8 0 42 5 0 1,oa 1 43 42 1,qY 2 44 zFw 43,o8 3 45 5 0 1,oa 4 46 45 1,qY 5 47 zCW 46,oD 6 false (oV 48 (.bld [.nl 5,.nl 3] [(0,1,.t 44),(1,1,.t 47)])),oD 7 false ⟨none,.alo 11 0 302 [.nl 5,.nl 3]⟩,qE 8 11 0 302 0 2 48] [.frz 0 302 2,.forget [42,43,44,45,46,47,48]]
abbrev zTc:=oR [oA 49 4,oo 50 zBB 49,oA 12 50] [49,50]
abbrev zTd:=oR [oT 52 5 2,oA 53 1,oA 54 2,oT 55 8 1,vN 56 zCZ 52 53 54 55,oA 51 56,qD 57 51 0,qD 58 51 1,ox 13 1 304 5 3,oL 13 1 304 0 2 57,oA 14 58] [51,52,53,54,55,56,57,58]
abbrev zTe:=oN [oE 15 0]
abbrev zTf:=oR [oA 59 15,oZ 60 13 0,oZ 61 60 0,oh 62 61 1 304 0 1,oI 63 62,oM 64 59 63] [59,60,61,62,63]
abbrev zTg:=oN [oE 16 0]
abbrev zTh:=oR [oA 67 16,oZ 68 13 0,oZ 69 68 0,oh 70 69 1 304 0 1,oA 71 15,oK 72 5 70 71,oJ 73 72 3 1,oB 74 73 1,oI 75 74,oM 76 67 75] [67,68,69,70,71,72,73,74,75]
abbrev zPx:HCode:=.jreg [oZ 79 13 0,oZ 80 79 0,oh 81 80 1 304 0 1,oA 82 15,oK 83 5 81 82,oJ 84 83 3 1,oB 85 84 1,oA 86 16,oK 87 1 85 86] (.t 87) 1 (.c (sv [115,112,111,105,108,116])) [(304,1,304),(305,1,304)] [.forget [79,80,81,82,83,84,85,86,87]]
abbrev zPy:=oR [oA 77 16,oF 78 77 1,oA 16 78] [77,78]
abbrev zPz:=oN [oE 17 0]
abbrev zPA:=oR [oA 88 17,oZ 89 13 0,oZ 90 89 0,oh 91 90 1 304 0 1,oA 92 15,oK 93 5 91 92,oJ 94 93 4 1,oB 95 94 1,oI 96 95,oM 97 88 96] [88,89,90,91,92,93,94,95,96]
abbrev zPB:HCode:=.jreg [oZ 100 13 0,oZ 101 100 0,oh 102 101 1 304 0 1,oA 103 15,oK 104 5 102 103,oJ 105 104 4 1,oB 106 105 1,oA 107 17,oV 108 (.bld [.v (mkS []),.v (mkS [])] []),oK 109 2 106 107] (.t 109) 2 (.t 108) [(304,1,304),(305,1,304)] [.forget [100,101,102,103,104,105,106,107,108,109]]
abbrev zPC:=oR [oA 98 17,oF 99 98 1,oA 17 99] [98,99]
abbrev zPD:HCode:=.jreg [oZ 110 13 0,oZ 111 110 0,oh 112 111 1 304 0 1,oA 113 15,oV 114 (.bld [.v (.int .i64 0),.v (mkS []),.v (mkS []),.nl 1,.nl 2] []),oK 115 5 112 113] (.t 115) 5 (.t 114) [(304,1,304),(305,1,304)] [.forget [110,111,112,113,114,115]]
abbrev zPE:=oR [oA 65 15,oF 66 65 1,oA 15 66] [65,66]
abbrev zPF:=oN [oE 18 0]
abbrev zPG:=oR [oA 116 18,oZ 117 13 1,oh 118 117 1 304 1 1,oI 119 118,oM 120 116 119] [116,117,118,119]
abbrev zPH:=oN [oE 19 0]
abbrev zPI:=oR [oA 123 19,oZ 124 13 1,oh 125 124 1 304 1 1,oA 126 18,oK 127 3 125 126,oJ 128 127 2 1,oB 129 128 1,oI 130 129,oM 131 123 130] [123,124,125,126,127,128,129,130]
abbrev zPJ:HCode:=.jreg [oZ 134 13 1,oh 135 134 1 304 1 1,oA 136 18,oK 137 3 135 136,oJ 138 137 2 1,oB 139 138 1,oA 140 19,oK 141 1 139 140] (.t 141) 1 (.c (iv (-1))) [(304,1,304),(305,1,304)] [.forget [134,135,136,137,138,139,140,141]]
abbrev zPK:=oR [oA 132 19,oF 133 132 1,oA 19 133] [132,133]
abbrev zPL:=oR [oA 121 18,oF 122 121 1,oA 18 122] [121,122]
abbrev zPM:=oR [oA 143 4,oo 144 zDM 143,oA 142 144,qD 145 142 0,qD 146 142 1,oA 20 145,oA 21 146] [142,143,144,145,146]
abbrev zPN:=oN [oE 22 0]
abbrev zPO:=oR [oA 147 22,oA 148 20,oI 149 148,oM 150 147 149] [147,148,149]
abbrev zPP:=oN [oE 23 0]
abbrev zPQ:=oR [oA 153 23,oA 154 20,oA 155 22,oK 156 2 154 155,oJ 157 156 1 1,oB 158 157 1,oI 159 158,oM 160 153 159] [153,154,155,156,157,158,159]
abbrev zPR:HCode:=.jreg [oA 163 20,oA 164 22,oK 165 2 163 164,oJ 166 165 1 1,oB 167 166 1,oA 168 23,oK 169 1 167 168] (.t 169) 1 (.c (iv 0)) [(20,0,0)] [.forget [163,164,165,166,167,168,169]]
abbrev zPS:=oR [oA 161 23,oF 162 161 1,oA 23 162] [161,162]
abbrev zPT:=oN [oE 24 0]
abbrev zPU:=oR [oA 170 24,oA 171 20,oA 172 22,oK 173 2 171 172,oJ 174 173 0 1,oB 175 174 1,oI 176 175,oM 177 170 176] [170,171,172,173,174,175,176]
abbrev zPV:=oN [oE 25 0]
abbrev zPW:=oR [oA 180 25,oA 181 20,oA 182 22,oK 183 2 181 182,oJ 184 183 0 1,oB 185 184 1,oA 186 24,oK 187 2 185 186,oJ 188 187 1 1,oB 189 188 1,oI 190 189,oM 191 180 190] [180,181,182,183,184,185,186,187,188,189,190]
abbrev zPX:=oN [oE 26 0]
abbrev zPY:=oR [oA 194 26,oA 195 20,oA 196 22,oK 197 2 195 196,oJ 198 197 0 1,oB 199 198 1,oA 200 24,oK 201 2 199 200,oJ 202 201 1 1,oB 203 202 1,oA 204 25,oK 205 6 203 204,oJ 206 205 5 1,oB 207 206 1,oI 208 207,oM 209 194 208] [194,195,196,197,198,199,200,201,202,203,204,205,206,207,208]
abbrev zPZ:HCode:=.jreg [oA 212 20,oA 213 22,oK 214 2 212 213,oJ 215 214 0 1,oB 216 215 1,oA 217 24,oK 218 2 216 217,oJ 219 218 1 1,oB 220 219 1,oA 221 25,oK 222 6 220 221,oJ 223 222 5 1,oB 224 223 1,oA 225 26,v6 226 2 1,oK 227 2 224 225] (.t 227) 2 (.t 226) [(20,0,0)] [.forget [212,213,214,215,216,217,218,219,220,221,222,223,224,225,226,227]]
abbrev zP0:=oR [oA 210 26,oF 211 210 1,oA 26 211] [210,211]
abbrev zP1:HCode:=.jreg [oA 228 20,oA 229 22,oK 230 2 228 229,oJ 231 230 0 1,oB 232 231 1,oA 233 24,oK 234 2 232 233,oJ 235 234 1 1,oB 236 235 1,oA 237 25,oV 238 (.bld [.v (.int .i64 0),.v (mkS []),.v (mkS []),.v (.int .i64 0),.v (.int .i64 0),.nl 2] []),oK 239 6 236 237] (.t 239) 6 (.t 238) [(20,0,0)] [.forget [228,229,230,231,232,233,234,235,236,237,238,239]]
abbrev zP2:=oR [oA 192 25,oF 193 192 1,oA 25 193] [192,193]
abbrev zP3:=oR [oA 178 24,oF 179 178 1,oA 24 179] [178,179]
abbrev zP4:=oR [oA 151 22,oF 152 151 1,oA 22 152] [151,152]
abbrev zP5:=oR [oT 241 5 2,oA 242 1,oA 243 2,oT 244 8 1,vN 245 zCZ 241 242 243 244,oA 240 245,qD 246 240 0,qD 247 240 1,ox 27 2 306 5 3,oL 27 2 306 0 2 246,oA 28 247] [240,241,242,243,244,245,246,247]
abbrev zP6:=oR [oJ 249 5 0 1,oT 250 249 1,oA 251 1,oA 252 2,oT 253 8 1,vN 254 zFj 250 251 252 253,qD 255 254 0,qD 256 254 1,qC 257 zI9 255 256,oA 248 257,qD 258 248 0,qD 259 248 1,ox 29 3 308 5 3,oL 29 3 308 0 2 258,oA 30 259] [248,249,250,251,252,253,254,255,256,257,258,259]
abbrev zP7:=oR [oA 261 4,oo 262 zDM 261,oA 260 262,qD 263 260 0,qD 264 260 1,oA 31 263,oA 32 264] [260,261,262,263,264]
abbrev zP8:=oR [oC 265 zDS [],oA 266 265,oc 266 267 14,oc 266 268 28,vC 266 269 267 268,oP 270 266 269,oA 271 270,oc 271 272 28,oc 271 273 30,vC 271 274 272 273,oP 275 271 274,oA 276 275,oc 276 277 21,oc 276 278 32,vC 276 279 277 278,oP 280 276 279,oA 281 280,oG 281 true 282 (.ldB (.t 27) 2 306 0 2 true),oG 281 true 283 (.ldB (.t 29) 3 308 0 2 true),qQ 281 284 zDU 282 283,oP 285 281 284,oA 286 285,qt 286 287 5 2,qt 286 288 11 2,qQ 286 289 zDU 287 288,oP 290 286 289,oA 291 290,oc 291 292 4,oc 291 293 12,qQ 291 294 zBK 292 293,oP 295 291 294,oA 296 295,oc 296 297 31,oc 296 298 4,qN 296 299 zG4 298,qQ 296 300 zBK 297 299,oP 301 296 300,oA 10 301] [265,266,267,268,269,270,271,272,273,274,275,276,277,278,279,280,281,282,283,284,285,286,287,288,289,290,291,292,293,294,295,296,297,298,299,300,301]
abbrev xBU:Env:={N:=302,Γ:=[(302,2),(304,2),(306,2),(308,2)],L:=310,nfix:=0,una:=[302]}
abbrev zDl:List RSrc:=[.tmp 10]
abbrev yZM:HCode:=.loop (jV (jU zPW (jO 191 16)) (.block 17 (jU (jU zPX (jR 18 zPY 209 19 zPZ zP0)) zP1)) zP2)
abbrev rp0:HCode:=zS8
abbrev rpX:=jU zS9 (jP 40 zTa)
abbrev rp3:HCode:=zTb
abbrev rp4:HCode:=zTc
abbrev rp5:HCode:=zTd
abbrev yZg:=jU zTe (jR 0 zTf 64 1 (jV (jU zTg (jR 2 zTh 76 3 zPx zPy)) (jU zPz (jR 4 zPA 97 5 zPB zPC)) zPD) zPE)
abbrev yZh:=jU zPF (jR 6 zPG 120 7 (jU zPH (jR 8 zPI 131 9 zPJ zPK)) zPL)
abbrev yZi:HCode:=zPM
abbrev yZj:=jU zPN (jR 10 zPO 150 11 (jV (jU zPP (jR 12 zPQ 160 13 zPR zPS)) zPT (jR 14 zPU 177 15 (jU zPV (.block 16 yZM)) zP3)) zP4)
abbrev rpC:=jX zP5 zP6 zP7 zP8 .ret
theorem yZk:zMR Tryz.prog xBU (cdL (Tryz.f6.body.getD .skip)) rp0=true:=by kernel_rfl
theorem yZl:zMR Tryz.prog xBU (cdL (cdR (Tryz.f6.body.getD .skip))) rpX=true:=by kernel_rfl
theorem yZm:zMR Tryz.prog xBU (cdL (cdR (cdR (Tryz.f6.body.getD .skip)))) rp3=true:=by kernel_rfl
theorem yZn:zMR Tryz.prog xBU (cdL (cdR (cdR (cdR (Tryz.f6.body.getD .skip))))) rp4=true:=by kernel_rfl
theorem yZo:zMR Tryz.prog xBU (cdL (cdR (cdR (cdR (cdR (Tryz.f6.body.getD .skip)))))) rp5=true:=by kernel_rfl
theorem yXl:zBM true Tryz.prog xBU (cdL (cdR (cdR (cdR (cdR (cdR (Tryz.f6.body.getD .skip))))))) yZg=true:=by kernel_rfl
theorem yXm:zBM true Tryz.prog xBU (cdL (cdR (cdR (cdR (cdR (cdR (cdR (Tryz.f6.body.getD .skip)))))))) yZh=true:=by kernel_rfl
theorem yXn:zMR Tryz.prog xBU (cdL (cdR (cdR (cdR (cdR (cdR (cdR (cdR (Tryz.f6.body.getD .skip))))))))) yZi=true:=by kernel_rfl
theorem yXo:zBM true Tryz.prog xBU (cdL (cdR (cdR (cdR (cdR (cdR (cdR (cdR (cdR (Tryz.f6.body.getD .skip)))))))))) yZj=true:=by kernel_rfl
theorem yZp:zMR Tryz.prog xBU (cdR (cdR (cdR (cdR (cdR (cdR (cdR (cdR (cdR (Tryz.f6.body.getD .skip)))))))))) rpC=true:=by kernel_rfl
theorem yZq:(Tryz.f6.body.getD .skip)=(.seq (cdL (Tryz.f6.body.getD .skip)) (.seq (cdL (cdR (Tryz.f6.body.getD .skip))) (.seq (cdL (cdR (cdR (Tryz.f6.body.getD .skip)))) (.seq (cdL (cdR (cdR (cdR (Tryz.f6.body.getD .skip))))) (.seq (cdL (cdR (cdR (cdR (cdR (Tryz.f6.body.getD .skip)))))) (.seq (cdL (cdR (cdR (cdR (cdR (cdR (Tryz.f6.body.getD .skip))))))) (.seq (cdL (cdR (cdR (cdR (cdR (cdR (cdR (Tryz.f6.body.getD .skip)))))))) (.seq (cdL (cdR (cdR (cdR (cdR (cdR (cdR (cdR (Tryz.f6.body.getD .skip))))))))) (.seq (cdL (cdR (cdR (cdR (cdR (cdR (cdR (cdR (cdR (Tryz.f6.body.getD .skip)))))))))) (cdR (cdR (cdR (cdR (cdR (cdR (cdR (cdR (cdR (Tryz.f6.body.getD .skip))))))))))))))))))):=by kernel_rfl
theorem yZN:(xBU.ok&&xBU.unaOk)=true:=by kernel_rfl
theorem yZY:zDp Tryz.prog xBU zDl Tryz.f6.results.toList=true:=by kernel_rfl
end Go.Hx
