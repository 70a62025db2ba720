/-
  Walks of functions of the program over an abstract layer, and the laws that they use: each contract says what the function computes, for every input that its conditions let by. No other condition.
-/
import Derived.Test.YtjnagiaooecklabGreatDoorProg
import Derived.Test.YtjnagiaooecklabGreatDoorG12
import Derived.Test.YtjnagiaooecklabGreatDoorG11
set_option linter.all false
section
namespace Go.Hx
open Go.Proofs
variable [Glob]
noncomputable abbrev j0 (f:FuncId) (h:HCode) (E:Env) (R:List RSrc):=zBp Tryz.prog f h E R
abbrev zDe:=32
abbrev zB8:=140
abbrev zEW:=141
abbrev zDt:=82
abbrev zFU:=81
abbrev zFw:=40
abbrev zDJ:=89
abbrev zFV:=91
abbrev zEm:=21
abbrev zFe:=142
abbrev zFf:=193
abbrev zLb:=83
abbrev zFx:=85
abbrev zB9:=87
abbrev zIW:=84
abbrev zAS:=80
abbrev zDX:=73
abbrev zAC:=53
abbrev zAz:=3
abbrev zAq:=130
abbrev zE6:=9
abbrev yCM:=oN [oO 6]
abbrev yCN:=oR [oA 7 0,oA 8 1,jD 9 7 8,oA 10 9,oc 10 11 0,oc 10 12 2,oG 10 true 13 (.ints .leq (.t 11) (.t 12)),oP 14 10 13,oA 6 14] [7,8,9,10,11,12,13,14]
abbrev yNv:=jV yCM yCN .ret
abbrev zJU:=jZ 15 [] 15 0
abbrev yZ0:List RSrc:=[.tmp 6]
theorem zMW:j0 zAS yNv zJU yZ0:=by kernel_rfl
abbrev yCO:=oN [oO 2]
abbrev yCP:=oR [oA 5 0,vO 6 5,qR 7 zAS 6 1 12,qJ 8 7,oA 9 8,o6 9 10 0,oG 9 false 11 (.idxS (.t 10) (.c (iv 0))),oG 9 false 12 (.ints .lss (.t 11) (.c (.one (.v (.int .u8 97))))),oS 13 9 12,oA 14 13,o6 14 15 0,oG 14 false 16 (.idxS (.t 15) (.c (iv 0))),vx 14 17 16 122,oS 18 14 17] [5,6,7,8,9,10,11,12,13,14,15,16,17]
abbrev yCQ:=oN [oO 2]
abbrev yCR:=oN [oE 3 0]
abbrev yCS:=oR [oA 19 3,oA 20 0,vO 21 20,oM 22 19 21] [19,20,21]
abbrev yCT:=oR [oA 25 0,oA 26 3,oV 27 (.idxS (.t 25) (.t 26)),oA 4 27] [25,26,27]
abbrev yCU:=oR [oA 28 4,oV 29 (.ints .geq (.t 28) (.c (.one (.v (.int .u8 97))))),oA 30 29,oc 30 31 4,vI 30 32 31 122,oP 33 30 32,oA 34 33,o6 34 35 4,oG 34 false 36 (.ints .geq (.t 35) (.c (.one (.v (.int .u8 48))))),o6 34 37 36,oc 37 38 4,vI 37 39 38 57,og 34 40 37 39,oS 41 34 40,oA 42 41,o6 42 43 4,vy 42 44 43 45,oS 45 42 44,qJ 46 45] [28,29,30,31,32,33,34,35,36,37,38,39,40,41,42,43,44,45]
abbrev yCV:=oN [oO 2]
abbrev yCW:=oR [oA 23 3,oF 24 23 1,oA 3 24] [23,24]
abbrev yCX:=oN [o9 2]
abbrev yNw:=jX yCO (jU yCP (jP 18 yCQ)) (jU yCR (jR 0 yCS 22 1 (jV yCT yCU (jP 46 yCV)) yCW)) yCX .ret
abbrev zQn:=jZ 47 [] 47 0
abbrev yZ1:List RSrc:=[.tmp 2]
theorem yCY:j0 zB8 yNw zQn yZ1:=by kernel_rfl
abbrev zYt:=oN [oO 2]
abbrev zYu:=oR [oA 4 0,vO 5 4,qT 6 5 16] [4,5]
abbrev zYv:=oN [oO 2]
abbrev zYw:=oN [oE 3 0]
abbrev zYx:=oR [oA 7 3,oA 8 0,vO 9 8,oM 10 7 9] [7,8,9]
abbrev zYy:=oR [oA 13 0,oA 14 3,oV 15 (.idxS (.t 13) (.t 14)),oV 16 (.ints .lss (.t 15) (.c (.one (.v (.int .u8 32))))),oA 17 16,o6 17 18 0,o6 17 19 3,oG 17 false 20 (.idxS (.t 18) (.t 19)),vx 17 21 20 126,oS 22 17 21,oA 23 22,o6 23 24 0,o6 23 25 3,oG 23 false 26 (.idxS (.t 24) (.t 25)),vy 23 27 26 34,oS 28 23 27] [13,14,15,16,17,18,19,20,21,22,23,24,25,26,27]
abbrev zYz:=oN [oO 2]
abbrev zYA:=oR [oA 11 3,oF 12 11 1,oA 3 12] [11,12]
abbrev zYB:=oN [o9 2]
abbrev yJr:=jX zYt (jU zYu (jP 6 zYv)) (jU zYw (jR 0 zYx 10 1 (jU zYy (jP 28 zYz)) zYA)) zYB .ret
abbrev zMX:=jZ 29 [] 29 0
abbrev yZ2:List RSrc:=[.tmp 2]
theorem zYC:j0 zEW yJr zMX yZ2:=by kernel_rfl
abbrev zUx:=oN [o4 1 0,oO 2]
abbrev zUy:=oR [oJ 5 1 1 1,oB 6 5 1,oo 7 zB8 6,qJ 8 7,oA 9 8,oe 9 10 1 2 1,o7 9 11 10 1,oG 9 false 12 (.strs .neq (.t 11) (.c (sv []))),o6 9 13 12,oY 13 14 1 2 1,oU 13 15 14 1,qN 13 16 zB8 15,qj 13 17 16,og 9 18 13 17,oS 19 9 18,oA 20 19,oe 20 21 1 3 1,o7 20 22 21 1,oz 20 23 22,qU 20 24 23 6,oS 25 20 24,oA 26 25,oe 26 27 1 4 1,o7 26 28 27 1,oz 26 29 28,qU 26 30 29 4,oS 31 26 30] [5,6,7,8,9,10,11,12,13,14,15,16,17,18,19,20,21,22,23,24,25,26,27,28,29,30]
abbrev zUz:=oN [oO 2]
abbrev zUA:=oN [oE 3 0]
abbrev zUB:=oR [oA 32 3,oJ 33 1 3 1,oB 34 33 1,oI 35 34,oM 36 32 35] [32,33,34,35]
abbrev zUC:=oQ [o8 0 39 1 3 1,oX 1 40 39 1,oH 2 41 3,o3 3 42 1 40 41,oX 4 43 42 1,qb 5 44 zB8 43,qw 6 45 44,oH 7 46 45,od 8 46 47 3,oD 9 false (oG 46 false 48 (.ints .gtr (.t 47) (.c (iv 0)))),od 10 46 49 48,ot 11 49 50 1 3 1,oi 12 49 51 50 1,qG 13 49 52 3,oD 14 false (oG 49 true 53 (.ints .sub (.t 52) (.c (iv 1)))),qr 15 49 54 1 51 53,oi 16 49 55 54 1,ot 17 49 56 1 3 1,oi 18 49 57 56 1,qG 19 49 58 3,qr 20 49 59 1 57 58,oi 21 49 60 59 1,oD 22 false (oG 49 true 61 (.strs .geq (.t 55) (.t 60))),jG 23 46 62 49 61,qM 24 63 46 62] [39,40,41,42,43,44,45,46,47,48,49,50,51,52,53,54,55,56,57,58,59,60,61,62]
abbrev zUD:=oN [oO 2]
abbrev zUE:=oR [oA 37 3,oF 38 37 1,oA 3 38] [37,38]
abbrev zUF:=oN [oE 4 0]
abbrev zUG:=oR [oA 64 4,oJ 65 1 4 1,oB 66 65 1,oI 67 66,oM 68 64 67] [64,65,66,67]
abbrev zQS:=oQ [o8 0 71 1 4 1,oX 1 72 71 1,oH 2 73 4,o3 3 74 2 72 73,o8 4 75 74 0 1,oX 5 76 75 1,qb 6 77 zB8 76,qw 7 78 77,oH 8 79 78,qk 9 79 80 1 4 1,q8 10 79 81 80 1,od 11 79 82 4,qI 12 79 83 2 81 82,qk 13 79 84 83 1 1,q8 14 79 85 84 1,oD 15 true ⟨some (79,false),.call (some 86) zEW [(.t 85,.v)]⟩,oD 16 false (oG 79 false 87 (.not (.t 86))),qM 17 88 79 87,oH 18 89 88,od 19 89 90 4,oD 20 false (oG 89 false 91 (.ints .gtr (.t 90) (.c (iv 0)))),od 21 89 92 91,ot 22 92 93 1 4 1,oi 23 92 94 93 1,qG 24 92 95 4,oD 25 false (oG 92 true 96 (.ints .sub (.t 95) (.c (iv 1)))),qr 26 92 97 2 94 96,ot 27 92 98 97 0 1,oi 28 92 99 98 1,ot 29 92 100 1 4 1,oi 30 92 101 100 1,qG 31 92 102 4,qr 32 92 103 2 101 102,ot 33 92 104 103 0 1,oi 34 92 105 104 1,oD 35 false (oG 92 true 106 (.strs .geq (.t 99) (.t 105))),jG 36 89 107 92 106,qM 37 108 89 107] [71,72,73,74,75,76,77,78,79,80,81,82,83,84,85,86,87,88,89,90,91,92,93,94,95,96,97,98,99,100,101,102,103,104,105,106,107]
abbrev zQT:=oN [oO 2]
abbrev zQU:=oR [oA 69 4,oF 70 69 1,oA 4 70] [69,70]
abbrev zQV:=oN [o9 2]
abbrev yG0:=jX zUx (jU zUy (jP 31 zUz)) (jU zUA (jR 0 zUB 36 1 (jU zUC (jP 63 zUD)) zUE)) (jU zUF (jR 2 zUG 68 3 (jU zQS (jP 108 zQT)) zQU)) (jU zQV .ret)
abbrev zLy:=jZ 109 [] 109 0
abbrev yZ3:List RSrc:=[.tmp 2]
theorem zUH:j0 zFU yG0 zLy yZ3:=by kernel_rfl
abbrev zUI:=oN [o4 1 0,oE 2 0]
abbrev zUJ:=oR [oJ 6 1 0 1,oB 7 6 1,oI 8 7,qR 9 zAS 8 1 64,qJ 10 9] [6,7,8,9]
abbrev zUK:=oN [oE 2 2]
abbrev zUL:=oN [oE 3 0]
abbrev zUM:=oR [oA 11 3,oJ 12 1 0 1,oB 13 12 1,oI 14 13,oM 15 11 14] [11,12,13,14]
abbrev zUN:=oR [oJ 18 1 0 1,oB 19 18 1,oA 20 3,oK 21 5 19 20,oT 22 21 5,oo 23 zFU 22,qJ 24 23,oA 25 24,o6 25 26 3,vg 25 27 26 0,o6 25 28 27,oY 28 29 1 0 1,oU 28 30 29 1,oc 28 31 3,jK 28 32 5 30 31,oY 28 33 32 0 1,oU 28 34 33 1,oG 28 true 35 (.ints .neq (.t 34) (.c (iv (-1)))),og 25 36 28 35,oS 37 25 36] [18,19,20,21,22,23,24,25,26,27,28,29,30,31,32,33,34,35,36]
abbrev zUO:=oN [oE 2 1]
abbrev zUP:=oR [oA 38 3,ol 39 38 0,oA 4 39] [38,39]
abbrev zUQ:=oR [oA 40 3,vU 41 40 1,oA 5 41] [40,41]
abbrev zUR:=oR [oA 42 5,vV 43 42 0,oA 44 43,oc 44 45 4,qj 44 46 45,oP 47 44 46] [42,43,44,45,46]
abbrev zQW:=oR [oA 54 5,oJ 55 1 0 1,oB 56 55 1,oA 57 3,oK 58 5 56 57,oJ 59 58 0 1,oB 60 59 1,qy 61 54 60,oA 4 61] [54,55,56,57,58,59,60,61]
abbrev zQX:=oR [oJ 48 1 0 1,oB 49 48 1,oA 50 5,oK 51 5 49 50,oJ 52 51 0 1,oB 53 52 1,oA 5 53] [48,49,50,51,52,53]
abbrev zQY:=oR [oA 62 4,qJ 63 62] [62]
abbrev zQZ:=oN [oE 2 1]
abbrev zQ0:=oR [oA 16 3,oF 17 16 1,oA 3 17] [16,17]
abbrev zQ1:=oN [oE 2 0]
abbrev yG1:=jX zUI (jU zUJ (jP 10 zUK)) (jU zUL (jR 0 zUM 15 1 (jX (jU zUN (jP 37 zUO)) zUP (jU zUQ (jR 2 zUR 47 3 zQW zQX)) zQY (jP 63 zQZ)) zQ0)) zQ1 .ret
abbrev zLz:=jZ 64 [] 64 0
abbrev yZ4:List RSrc:=[.tmp 2]
theorem zUS:j0 zDe yG1 zLz yZ4:=by kernel_rfl
abbrev yCZ:=oN [o4 2 0,qV 4 zAz 1]
abbrev yC0:=oN [qV 5 zAz 1]
abbrev yC1:=oN [oE 6 0]
abbrev yC2:=oR [oA 7 6,oJ 8 2 0 1,oB 9 8 1,oI 10 9,oM 11 7 10] [7,8,9,10]
abbrev yC3:=oR [oJ 14 2 0 1,oB 15 14 1,oA 16 6,oK 17 5 15 16,oJ 18 17 0 1,oB 19 18 1,oA 20 1,qy 21 19 20] [14,15,16,17,18,19,20]
abbrev yC4:=oR [ou 22 5,oA 23 6,qK 24 1 23,oy 25 zAz 1 22 24,ou 5 25] [22,23,24,25]
abbrev yC5:=oR [oA 12 6,oF 13 12 1,oA 6 13] [12,13]
abbrev yC6:=oR [ou 26 5,ou 4 26] [26]
abbrev yNx:=jX yCZ yC0 (jU yC1 (jR 0 yC2 11 1 (jU yC3 (jQ 21 yC4 .skip)) yC5)) yC6 .ret
abbrev zQo:=jZ 27 [] 27 0
abbrev yZ5:List RSrc:=[.tmp 4]
theorem yC7:j0 zDt yNx zQo yZ5:=by kernel_rfl
abbrev zYD:=oN [vz 1 0 14 5 0,qP 2 1 19 0 1 2]
abbrev zYE:=oR [va 3 zE6 1,oZ 4 1 3,oh 5 4 0 14 3 1,oy 6 zE6 1 3 5,oZ 7 1 3,oL 7 0 14 3 1 6] [3,4,5,6,7]
abbrev zYF:=oR [va 8 zDX 2,oZ 9 1 4,oh 10 9 0 14 4 1,oy 11 zDX 2 8 10,oZ 12 1 4,oL 12 0 14 4 1 11] [8,9,10,11,12]
abbrev zYG:=oR [oq 13 1 0 14 0 5,oL 2 1 19 0 5 13] [13]
abbrev yJs:=jX zYD zYE zYF zYG .ret
abbrev zMY:=jZ 14 [(14,5),(19,5)] 24 0
abbrev yZ6:List RSrc:=[.cellB 2 1 19 0 5 true]
theorem zYH:j0 zDJ yJs zMY yZ6:=by kernel_rfl
abbrev yNy:=oN [vz 4 0 35 6 1,qV 6 zAC 5]
abbrev yNz:=oR [oA 9 0,oI 10 9,oA 7 10] [9,10]
abbrev yNA:=oR [oA 11 2,oZ 12 4 0,oZ 13 12 0,oL 13 0 35 0 1 11] [11,12,13]
abbrev yNB:=oR [ou 14 0,oZ 15 4 0,oq 16 15 0 35 0 5,qK 17 5 16,oy 18 zAC 5 14 17,ou 0 18] [14,15,16,17,18]
abbrev yNC:=oN [oE 8 0]
abbrev yND:=oR [oA 19 8,oZ 20 4 5,oh 21 20 0 35 5 1,oI 22 21,oM 23 19 22] [19,20,21,22]
abbrev yNE:=oR [ou 26 0,oZ 27 4 5,oh 28 27 0 35 5 1,oA 29 8,oK 30 6 28 29,oT 31 30 6,oA 32 7,oC 33 zLb [(.t 26,.o),(.t 31,.v),(.t 32,.v)],ou 0 33] [26,27,28,29,30,31,32,33]
abbrev yNF:=oR [oA 24 8,oF 25 24 1,oA 8 25] [24,25]
abbrev yNG:=oR [ou 34 0,ou 6 34] [34]
abbrev yUw:=jX yNy yNz yNA yNB (jV (jU yNC (jR 0 yND 23 1 yNE yNF)) yNG .ret)
abbrev yG2:=jZ 35 [(35,6)] 41 0
abbrev yZ7:List RSrc:=[.tmp 6]
theorem yNH:j0 zLb yUw yG2 yZ7:=by kernel_rfl
abbrev yC8:=oN [o4 2 0,qA 4 0 36 0 1 2 6]
abbrev yC9:=oR [oJ 8 2 0 1,oB 9 8 1,oA 10 1,oK 11 5 9 10,oT 12 11 5,oo 13 zDJ 12,jA 14 0 1 2 6 0 5 13,qA 5 1 42 0 1 2 6,oL 5 1 42 0 6 14] [8,9,10,11,12,13,14]
abbrev yDa:=oR [oT 15 2 1,oA 16 1,qC 17 zDt 15 16,oA 6 17] [15,16,17]
abbrev yDb:=oN [oE 7 0]
abbrev yDc:=oR [oA 18 7,oA 19 6,oI 20 19,oM 21 18 20] [18,19,20]
abbrev yDd:=oQ [oW 0 24 5 5,vM 1 25 24 1 42 5 zAq 6,oa 2 26 2 1,oH 3 27 6,oH 4 28 7,o3 5 29 1 27 28,oX 6 30 29 1,qO 7 31 zB9 26 30,qe 8 32 6 31,qg 9 33 zAq 6 25 32,oW 10 34 5 5,vF 11 34 1 42 5 33] [24,25,26,27,28,29,30,31,32,33,34]
abbrev yDe:=oR [oA 22 7,oF 23 22 1,oA 7 23] [22,23]
abbrev yDf:=oR [oq 35 5 1 42 0 6,oL 4 0 36 0 6 35] [35]
abbrev yNI:=jX yC8 yC9 yDa (jU yDb (jR 0 yDc 21 1 yDd yDe)) (jU yDf .ret)
abbrev zQp:=jZ 36 [(36,6),(42,6)] 48 0
abbrev yZ8:List RSrc:=[.cellB 4 0 36 0 6 true]
theorem yDg:j0 zB9 yNI zQp yZ8:=by kernel_rfl
abbrev yDh:=oN [o4 2 0,qA 4 0 36 0 1 2 6]
abbrev yDi:=oR [oT 8 2 1,oA 9 1,qC 10 zB9 8 9,qA 5 1 42 0 1 2 6,oL 5 1 42 0 6 10] [8,9,10]
abbrev yDj:=oR [oA 11 1,oZ 12 5 0,oZ 13 12 0,oL 13 1 42 0 1 11] [11,12,13]
abbrev yDk:=oR [oT 14 2 1,oA 15 1,qC 16 zDt 14 15,oA 6 16] [14,15,16]
abbrev yDl:=oR [oZ 17 5 5,⟨none,.sto (.t 17) 1 42 5 1 (.c (.one (.nl 0)))⟩] [17]
abbrev yDm:=oN [oE 7 0]
abbrev yDn:=oR [oA 18 7,oA 19 6,oI 20 19,oM 21 18 20] [18,19,20]
abbrev yDo:=oQ [oW 0 24 5 5,vM 1 25 24 1 42 5 zAq 6,oa 2 26 2 1,oH 3 27 6,oH 4 28 7,o3 5 29 1 27 28,oX 6 30 29 1,qO 7 31 zFx 26 30,qe 8 32 6 31,qg 9 33 zAq 6 25 32,oW 10 34 5 5,vF 11 34 1 42 5 33] [24,25,26,27,28,29,30,31,32,33,34]
abbrev yDp:=oR [oA 22 7,oF 23 22 1,oA 7 23] [22,23]
abbrev yDq:=oR [oq 35 5 1 42 0 6,oL 4 0 36 0 6 35] [35]
abbrev yNJ:=jX yDh yDi yDj yDk (jW yDl (jU yDm (jR 0 yDn 21 1 yDo yDp)) yDq .ret)
abbrev zQq:=jZ 36 [(36,6),(42,6)] 48 0
abbrev yZ9:List RSrc:=[.cellB 4 0 36 0 6 true]
theorem yDr:j0 zFx yNJ zQq yZ9:=by kernel_rfl
abbrev yJt:=oN [vz 4 0 63 6 0,o4 7 3,qA 8 1 69 0 1 2 6]
abbrev yJu:=oN [qV 9 zAq 6]
abbrev yJv:=oN [oE 10 0]
abbrev yJw:=oR [oA 11 10,oZ 12 4 5,oh 13 12 0 63 5 1,oI 14 13,oM 15 11 14] [11,12,13,14]
abbrev yJx:=oR [oZ 18 4 0,oZ 19 18 0,oh 20 19 0 63 0 1,oA 21 1,qy 22 20 21,oA 23 22,oc 23 24 10,oc 23 25 2,vC 23 26 24 25,oP 27 23 26] [18,19,20,21,22,23,24,25,26]
abbrev yJy:=oR [ou 28 9,oT 29 7 6,qK 30 6 29,oy 31 zAq 6 28 30,ou 9 31] [28,29,30,31]
abbrev yJz:=oQ [oD 0 false ⟨none,.mvo 32 9⟩,oW 1 33 4 5,qB 2 34 33 0 63 5 1,oH 3 35 10,o3 4 36 6 34 35,oa 5 37 36 6,oH 6 38 1,oH 7 39 2,oa 8 40 7 6,oD 9 true (oC 41 zIW [(.t 37,.v),(.t 38,.v),(.t 39,.v),(.t 40,.v)]),qe 10 42 6 41,qg 11 43 zAq 6 32 42,oD 12 false ⟨none,.mvo 9 43⟩] [32,33,34,35,36,37,38,39,40,41,42,43]
abbrev yJA:=oR [oA 16 10,oF 17 16 1,oA 10 17] [16,17]
abbrev yJB:=oR [oZ 44 4 0,oZ 45 44 0,oh 46 45 0 63 0 1,oA 47 1,qy 48 46 47,oA 49 48,oc 49 50 2,oG 49 true 51 (.fldP (.t 4) 5),oG 49 true 52 (.ldB (.t 51) 0 63 5 1 false),qh 49 53 52,vC 49 54 50 53,oP 55 49 54] [44,45,46,47,48,49,50,51,52,53,54]
abbrev yJC:=oR [ou 56 9,oT 57 7 6,qK 58 6 57,oy 59 zAq 6 56 58,ou 9 59] [56,57,58,59]
abbrev yG3:HCode:=.reg [oA 60 9,oZ 61 4 5,oL 61 0 63 5 1 60] false [.frz 0 63 6,.forget [60,61]]
abbrev yG4:=oR [oT 62 4 6,oL 8 1 69 0 6 62] [62]
abbrev yRv:=jX yJt yJu (jU yJv (jR 0 yJw 15 1 (jU (jU yJx (jQ 27 yJy .skip)) yJz) yJA)) (jU yJB (jQ 55 yJC .skip)) (jV yG3 yG4 .ret)
abbrev yBz:=jZ 63 [(63,6),(69,6)] 75 0
abbrev xAa:List RSrc:=[.cellB 8 1 69 0 6 true]
theorem yJD:j0 zIW yRv yBz xAa:=by kernel_rfl
abbrev yDs:=oN [o4 1 0,qn 2 0 24 5]
abbrev yDt:=oN [qn 3 1 25 5]
abbrev yDu:=oN [oE 4 0]
abbrev yDv:=oR [oA 5 4,oJ 6 1 0 1,oB 7 6 1,oI 8 7,oM 9 5 8] [5,6,7,8]
abbrev yDw:=oQ [oW 0 12 3 0,vM 1 13 12 1 25 0 zAC 5,o8 2 14 1 0 1,oX 3 15 14 1,oH 4 16 4,o3 5 17 5 15 16,oa 6 18 17 5,qb 7 19 zDJ 18,qe 8 20 5 19,qg 9 21 zAC 5 13 20,oW 10 22 3 0,vF 11 22 1 25 0 21] [12,13,14,15,16,17,18,19,20,21,22]
abbrev yDx:=oR [oA 10 4,oF 11 10 1,oA 4 11] [10,11]
abbrev yDy:=oR [oq 23 3 1 25 0 1,oL 2 0 24 0 1 23] [23]
abbrev yNK:=jX yDs yDt (jU yDu (jR 0 yDv 9 1 yDw yDx)) yDy .ret
abbrev zQr:=jZ 24 [(24,1),(25,1)] 26 0
abbrev xAb:List RSrc:=[.cellB 2 0 24 0 1 true]
theorem yDz:j0 zFw yNK zQr xAb:=by kernel_rfl
abbrev zQ2:=oN [oO 4]
abbrev zQ3:=oR [oA 6 0,oI 7 6,oA 8 1,oI 9 8,qL 10 7 9] [6,7,8,9]
abbrev zQ4:=oN [oO 4]
abbrev zQ5:=oN [oE 5 0]
abbrev zQ6:=oR [oA 11 5,oA 12 0,oI 13 12,oM 14 11 13] [11,12,13]
abbrev zQ7:=oQ [oH 0 17 0,oH 1 18 5,o3 2 19 1 17 18,oX 3 20 19 1,oH 4 21 1,oH 5 22 5,o3 6 23 1 21 22,oX 7 24 23 1,oD 8 false (oV 25 (.strs .neq (.t 20) (.t 24)))] [17,18,19,20,21,22,23,24]
abbrev zQ8:=oN [oO 4]
abbrev zQ9:=oR [oA 15 5,oF 16 15 1,oA 5 16] [15,16]
abbrev zRa:=oN [o9 4]
abbrev yDA:=jX zQ2 (jU zQ3 (jP 10 zQ4)) (jU zQ5 (jR 0 zQ6 14 1 (jU zQ7 (jP 25 zQ8)) zQ9)) zRa .ret
abbrev zJV:=jZ 26 [] 26 0
abbrev xAc:List RSrc:=[.tmp 4]
theorem zRb:j0 zFf yDA zJV xAc:=by kernel_rfl
abbrev zUT:=oN [oO 4]
abbrev zUU:=oR [oA 6 0,oI 7 6,oA 8 1,oI 9 8,qL 10 7 9] [6,7,8,9]
abbrev zUV:=oN [oO 4]
abbrev zUW:=oN [oE 5 0]
abbrev zUX:=oR [oA 11 5,oA 12 0,oI 13 12,oM 14 11 13] [11,12,13]
abbrev zUY:=oQ [oH 0 17 0,oH 1 18 5,o3 2 19 1 17 18,oX 3 20 19 1,oH 4 21 1,oH 5 22 5,o3 6 23 1 21 22,oX 7 24 23 1,vh 8 25 20 24] [17,18,19,20,21,22,23,24]
abbrev zUZ:=oN [oO 4]
abbrev zU0:=oR [oA 15 5,oF 16 15 1,oA 5 16] [15,16]
abbrev zU1:=oN [o9 4]
abbrev yG5:=jX zUT (jU zUU (jP 10 zUV)) (jU zUW (jR 0 zUX 14 1 (jU zUY (jP 25 zUZ)) zU0)) zU1 .ret
abbrev zLA:=jZ 26 [] 26 0
abbrev xAd:List RSrc:=[.tmp 4]
theorem zU2:j0 zEm yG5 zLA xAd:=by kernel_rfl
abbrev zRc:=oN [o4 2 0,o4 3 1,oO 4]
abbrev zRd:=oR [oJ 6 2 0 1,oB 7 6 1,oJ 8 3 0 1,oB 9 8 1,qL 10 7 9,oA 11 10,oe 11 12 2 1 1,o7 11 13 12 1,oe 11 14 3 1 1,o7 11 15 14 1,oG 11 false 16 (.strs .neq (.t 13) (.t 15)),oS 17 11 16,oA 18 17,oe 18 19 2 2 1,o7 18 20 19 1,oe 18 21 3 2 1,o7 18 22 21 1,oG 18 false 23 (.strs .neq (.t 20) (.t 22)),oS 24 18 23,oA 25 24,oe 25 26 2 3 1,o7 25 27 26 1,oe 25 28 3 3 1,o7 25 29 28 1,⟨some (25,false),.call (some 30) zFf [(.t 27,.v),(.t 29,.v)]⟩,qi 25 31 30,oS 32 25 31,oA 33 32,oe 33 34 2 4 1,o7 33 35 34 1,oz 33 36 35,oe 33 37 3 4 1,o7 33 38 37 1,oz 33 39 38,vW 33 40 36 39,oS 41 33 40] [6,7,8,9,10,11,12,13,14,15,16,17,18,19,20,21,22,23,24,25,26,27,28,29,30,31,32,33,34,35,36,37,38,39,40]
abbrev zRe:=oN [oO 4]
abbrev zRf:=oN [oE 5 0]
abbrev zRg:=oR [oA 42 5,oJ 43 2 4 1,oB 44 43 1,oI 45 44,oM 46 42 45] [42,43,44,45]
abbrev zRh:=oQ [o8 0 49 2 4 1,oX 1 50 49 1,oH 2 51 5,o3 3 52 2 50 51,oa 4 53 52 2,o8 5 54 3 4 1,oX 6 55 54 1,oH 7 56 5,o3 8 57 2 55 56,oa 9 58 57 2,oD 10 false (oV 59 (.steq true [2,2] (.t 53) (.t 58)))] [49,50,51,52,53,54,55,56,57,58]
abbrev zRi:=oN [oO 4]
abbrev zRj:=oR [oA 47 5,oF 48 47 1,oA 5 48] [47,48]
abbrev zRk:=oN [o9 4]
abbrev yDB:=jX zRc (jU zRd (jP 41 zRe)) (jU zRf (jR 0 zRg 46 1 (jU zRh (jP 59 zRi)) zRj)) zRk .ret
abbrev zJW:=jZ 60 [] 60 0
abbrev xAe:List RSrc:=[.tmp 4]
theorem zRl:j0 zFe yDB zJW xAe:=by kernel_rfl
abbrev zU3:=oN [o4 2 0,o4 3 1,oO 4]
abbrev zU4:=oR [oJ 6 2 0 1,oB 7 6 1,oI 8 7,oJ 9 3 0 1,oB 10 9 1,oI 11 10,qL 12 8 11] [6,7,8,9,10,11]
abbrev zU5:=oN [oO 4]
abbrev zU6:=oN [oE 5 0]
abbrev zU7:=oR [oA 13 5,oJ 14 2 0 1,oB 15 14 1,oI 16 15,oM 17 13 16] [13,14,15,16]
abbrev zU8:=oQ [o8 0 20 2 0 1,oX 1 21 20 1,oH 2 22 5,o3 3 23 5 21 22,oa 4 24 23 5,o8 5 25 3 0 1,oX 6 26 25 1,oH 7 27 5,o3 8 28 5 26 27,oa 9 29 28 5,qO 10 30 zFe 24 29,qw 11 31 30] [20,21,22,23,24,25,26,27,28,29,30]
abbrev zU9:=oN [oO 4]
abbrev zVa:=oR [oA 18 5,oF 19 18 1,oA 5 19] [18,19]
abbrev zVb:=oN [o9 4]
abbrev yG6:=jX zU3 (jU zU4 (jP 12 zU5)) (jU zU6 (jR 0 zU7 17 1 (jU zU8 (jP 31 zU9)) zVa)) zVb .ret
abbrev zLB:=jZ 32 [] 32 0
abbrev xAf:List RSrc:=[.tmp 4]
theorem zVc:j0 zFV yG6 zLB xAf:=by kernel_rfl
end Go.Hx
end

section
namespace Go.Hx
open Go.Proofs
variable [Glob]
abbrev zD5:=99
abbrev zIX:=138
abbrev zFy:=187
abbrev zFz:=189
abbrev zEn:=191
abbrev zIY:=75
abbrev zDf:=132
abbrev zEo:=133
abbrev zDg:=185
abbrev zGt:=139
abbrev zIZ:=77
abbrev zDh:=137
abbrev zGu:=192
abbrev zDu:=131
abbrev zLZ:=130
abbrev zCU:=135
abbrev zDi:=188
abbrev zDY:=186
abbrev zGv:=136
abbrev zJX:=61
abbrev zBt:=72
abbrev zBe:=71
abbrev zCa:=134
abbrev zB0:=190
abbrev zL0:=184
abbrev zCn:=228
abbrev zJs:=oN [qV 2 zE6 1]
abbrev zJt:=oR [oA 3 0,jF 4 3] [3]
abbrev zJu:=oN [qV 2 zE6 1]
abbrev zJv:=oR [va 5 zE6 1,oA 6 0,oy 7 zE6 1 5 6,ou 2 7] [5,6,7]
abbrev zL1:=jW zJs (jU zJt (jP 4 zJu)) zJv .ret
abbrev zE7:=jZ 8 [] 8 0
abbrev xAg:List RSrc:=[.tmp 2]
theorem zJw:j0 zBe zL1 zE7 xAg:=by kernel_rfl
abbrev zLh:=oN [qV 2 zDX 2]
abbrev zLi:=oR [oA 3 0,jF 4 3] [3]
abbrev zLj:=oN [qV 2 zDX 2]
abbrev zLk:=oR [va 5 zDX 2,oA 6 0,oy 7 zDX 2 5 6,ou 2 7] [5,6,7]
abbrev zOI:=jW zLh (jU zLi (jP 4 zLj)) zLk .ret
abbrev zFW:=jZ 8 [] 8 0
abbrev xAh:List RSrc:=[.tmp 2]
theorem zLl:j0 zBt zOI zFW xAh:=by kernel_rfl
abbrev zHg:=oN [oE 4 0]
abbrev zHh:=oR [oA 6 0,oI 7 6,oE 8 0] [6]
abbrev zHi:=oN [oM 9 8 7]
abbrev zHj:=oR [oA 10 8,oA 5 10] [10]
abbrev zHk:=oR [oA 11 1,oA 12 0,oA 13 5,oK 14 2 12 13,oT 15 14 2,qW 16 11 15] [11,12,13,14,15]
abbrev zHl:=oR [oA 17 5,oA 4 17] [17]
abbrev zHm:=oR [oF 18 8 1,oA 8 18] [18]
abbrev zHn:=oN [oE 4 (-1)]
abbrev zJY:=jW zHg (jU zHh (jS 0 zHi 9 1 (jV zHj zHk (jP 16 zHl)) zHm)) zHn .ret
abbrev zEp:=jZ 19 [] 19 0
abbrev xAi:List RSrc:=[.tmp 4]
theorem zHo:j0 zCn zJY zEp xAi:=by kernel_rfl
abbrev zFX:=oN [oO 4]
abbrev zFY:=oR [oA 5 0,oA 6 1,qC 7 zCn 5 6,vV 8 7 0,oA 4 8] [5,6,7,8]
abbrev zHp:=jV zFX zFY .ret
abbrev zDC:=jZ 9 [] 9 0
abbrev xAj:List RSrc:=[.tmp 4]
theorem zFZ:j0 zB0 zHp zDC xAj:=by kernel_rfl
abbrev zL2:=oN [oO 4]
abbrev zL3:=oN [vf 5]
abbrev zL4:=oN [oA 8 0,oI 9 8,oE 10 0]
abbrev zL5:=oN [oM 11 10 9]
abbrev zL6:=oR [oK 12 1 8 10,oB 13 12 1,oA 7 13] [12,13]
abbrev zL7:=oR [oA 14 1,oA 15 7,qW 16 14 15,oo 17 zDg 16,qJ 18 17,oA 19 18,o6 19 20 1,o6 19 21 7,⟨some (19,false),.callv (some 22) (.t 20) [(.t 21,.v)]⟩,o6 19 23 5,oG 19 false 24 (.strs .leq (.t 22) (.t 23)),oS 25 19 24] [14,15,16,17,18,19,20,21,22,23,24]
abbrev zL8:=oN [oO 4]
abbrev zL9:=oR [oA 26 1,oA 27 7,qW 28 26 27,oA 5 28] [26,27,28]
abbrev zMa:=oR [oF 29 10 1,oA 10 29] [29]
abbrev zMb:=oN [o9 4]
abbrev zRm:=jX zL2 zL3 (jU zL4 (jS 0 zL5 11 1 (jV zL6 (jU zL7 (jP 25 zL8)) zL9) zMa)) zMb .ret
abbrev zGw:=jZ 30 [] 30 0
abbrev xAk:List RSrc:=[.tmp 4]
theorem zMc:j0 zDY zRm zGw xAk:=by kernel_rfl
abbrev zJZ:=oN [oO 4]
abbrev zJ0:=oN [vf 5]
abbrev zJ1:=oN [oA 8 0,oI 9 8,oE 10 0]
abbrev zJ2:=oN [oM 11 10 9]
abbrev zJ3:=oR [oK 12 2 8 10,oT 13 12 2,⟨none,.alloc 7 0 30 [.v (mkS []),.v (mkS [])]⟩,oL 7 0 30 0 2 13] [12,13]
abbrev zJ4:=oR [oA 14 1,oq 15 7 0 30 0 2,qW 16 14 15,oo 17 zDg 16,qJ 18 17,oA 19 18,o6 19 20 1,oG 19 false 21 (.ldB (.t 7) 0 30 0 2 true),⟨some (19,false),.callv (some 22) (.t 20) [(.t 21,.v)]⟩,o6 19 23 5,oG 19 false 24 (.strs .leq (.t 22) (.t 23)),oS 25 19 24] [14,15,16,17,18,19,20,21,22,23,24]
abbrev zJ5:=oN [oO 4]
abbrev zJ6:=oR [oA 26 1,oq 27 7 0 30 0 2,qW 28 26 27,oA 5 28] [26,27,28]
abbrev zJ7:=oR [oF 29 10 1,oA 10 29] [29]
abbrev zJ8:=oN [o9 4]
abbrev zMZ:=jX zJZ zJ0 (jU zJ1 (jS 0 zJ2 11 1 (jV zJ3 (jU zJ4 (jP 25 zJ5)) zJ6) zJ7)) zJ8 .ret
abbrev zFo:=jZ 30 [(30,2)] 32 0
abbrev xAl:List RSrc:=[.tmp 4]
theorem zJ9:j0 zDi zMZ zFo xAl:=by kernel_rfl
abbrev yJE:=oN [o4 1 0,oO 2]
abbrev yJF:=oR [oJ 3 1 1 1,oB 4 3 1,oo 5 zDg 4,oA 6 5,oY 6 7 1 2 1,oU 6 8 7 1,qu 6 9 8,oc 6 10 9,oe 10 11 1 2 1,o7 10 12 11 1,vc 10 13 zDg 12,vB 6 14 10 13,oP 15 6 14,oA 16 15,oY 16 17 1 3 1,oU 16 18 17 1,qh 16 19 18,vj 16 20 19 6,oP 21 16 20,oA 22 21,oY 22 23 1 4 1,oU 22 24 23 1,qh 22 25 24,vj 22 26 25 4,oP 27 22 26,oA 28 27,oY 28 29 1 3 1,oU 28 30 29 1,qq 28 31 zDY 30 zFy,oP 32 28 31,oA 33 32,oY 33 34 1 4 1,oU 33 35 34 1,qq 33 36 zDi 35 zFz,oP 37 33 36,oA 38 37,oY 38 39 1 4 1,oU 38 40 39 1,qq 38 41 zB0 40 zEn,qj 38 42 41,oP 43 38 42,oA 2 43] [3,4,5,6,7,8,9,10,11,12,13,14,15,16,17,18,19,20,21,22,23,24,25,26,27,28,29,30,31,32,33,34,35,36,37,38,39,40,41,42,43]
abbrev yRw:=jV yJE yJF .ret
abbrev yBA:=jZ 44 [] 44 0
abbrev xAm:List RSrc:=[.tmp 2]
theorem yJG:j0 zIX yRw yBA xAm:=by kernel_rfl
abbrev yDC:=oN [vf 2]
abbrev yDD:=oR [oA 3 0,oA 2 3] [3]
abbrev yNL:=jV yDC yDD .ret
abbrev zQs:=jZ 4 [] 4 0
abbrev xAn:List RSrc:=[.tmp 2]
theorem yDE:j0 zFy yNL zQs xAn:=by kernel_rfl
abbrev yDF:=oN [o4 1 0,vf 2]
abbrev yDG:=oR [oJ 3 1 0 1,oB 4 3 1,oA 2 4] [3,4]
abbrev yNM:=jV yDF yDG .ret
abbrev zQt:=jZ 5 [] 5 0
abbrev xAo:List RSrc:=[.tmp 2]
theorem yDH:j0 zFz yNM zQt xAo:=by kernel_rfl
abbrev yDI:=oN [o4 1 0,oO 2]
abbrev yDJ:=oR [oJ 3 1 1 1,oB 4 3 1,oo 5 zGu 4,qJ 6 5,oA 2 6] [3,4,5,6]
abbrev yNN:=jV yDI yDJ .ret
abbrev zQu:=jZ 7 [] 7 0
abbrev xAp:List RSrc:=[.tmp 2]
theorem yDK:j0 zEn yNN zQu xAp:=by kernel_rfl
abbrev yG7:=oN [o4 1 0,oE 2 0]
abbrev yG8:=oR [oJ 6 1 0 1,oB 7 6 1,oI 8 7,qS 9 8 1,oA 10 9,oe 10 11 1 0 1,o7 10 12 11 1,oz 10 13 12,qU 10 14 13 64,oS 15 10 14] [6,7,8,9,10,11,12,13,14]
abbrev yG9:=oN [oE 2 2]
abbrev yHa:=oN [⟨none,.nlk 3 zAz 1⟩]
abbrev yHb:=oR [oJ 16 1 0 1,oB 17 16 1,oI 18 17,oE 19 0] [16]
abbrev yHc:=oN [oM 20 19 18]
abbrev yHd:HCode:=.reg [oA 21 19,oK 22 5 17 19,oT 23 22 5,qP 5 0 69 0 1 2,oA 4 21,oL 5 0 69 0 5 23] false [.frz 0 69 5,.forget [21,22,23]]
abbrev yHe:HCode:=.rdr 3 [oA 24 3,oI 25 24,qT 26 25 0,oA 27 26,oc 27 28 3,oc 27 29 3,qh 27 30 29,oG 27 true 31 (.ints .sub (.t 30) (.c (iv 1))),jK 27 32 1 28 31,oU 27 33 32 1,oY 27 34 5 0 1,oU 27 35 34 1,oG 27 true 36 (.ints .neq (.t 33) (.t 35)),oP 37 27 36] true [.forget [24,25,26,27,28,29,30,31,32,33,34,35,36]]
abbrev yHf:=oR [⟨none,.mvk 38 3⟩,oA 39 3,oI 40 39,vU 41 40 1,⟨none,.trk 42 38 (.t 41)⟩,⟨none,.mvk 3 42⟩] [38,39,40,41,42]
abbrev yHg:HCode:=.rdr 3 [oT 43 5 5,oo 44 zIX 43,qJ 45 44,oA 46 45,o6 46 47 4,vg 46 48 47 0,o6 46 49 48,oY 49 50 5 0 1,oU 49 51 50 1,oG 49 true 52 (.ints .neq (.t 51) (.c (iv (-1)))),og 46 53 49 52,oS 54 46 53,oA 55 54,o6 55 56 4,qU 55 57 56 0,o6 55 58 57,oc 58 59 3,qh 58 60 59,qc 58 61 60 0,og 55 62 58 61,oS 63 55 62] false [.forget [43,44,45,46,47,48,49,50,51,52,53,54,55,56,57,58,59,60,61,62]]
abbrev yDL:=oN [oE 2 1]
abbrev yDM:=oR [⟨none,.mvk 64 3⟩,oA 65 4,qK 66 1 65,⟨none,.apk 67 zAz 1 64 (.t 66)⟩,⟨none,.mvk 3 67⟩] [64,65,66,67]
abbrev yDN:=oR [oF 68 19 1,oA 19 68] [68]
abbrev yDO:=oN [oE 2 0]
abbrev yPF:=jX yG7 (jU yG8 (jP 15 yG9)) yHa (jU yHb (jS 0 yHc 20 1 (jW yHd (jT 2 (jU (jU yHe (jO 37 2)) (.block 3 yHf))) (jU yHg (jP 63 yDL)) yDM) yDN)) (jU yDO .ret)
abbrev zVd:=jZ 69 [(69,5)] 74 0
abbrev xAq:List RSrc:=[.tmp 2]
theorem yHh:j0 zD5 yPF zVd xAq:=by kernel_rfl
abbrev yDP:=oN [o4 2 0,oE 4 0]
abbrev yDQ:=oR [oA 6 1,oF 7 6 1,oA 5 7] [6,7]
abbrev yDR:=oR [oA 8 5,oJ 9 2 0 1,oB 10 9 1,oI 11 10,oM 12 8 11,oA 13 12,oY 13 14 2 0 1,oU 13 15 14 1,oc 13 16 5,jK 13 17 5 15 16,oY 13 18 17 0 1,oU 13 19 18 1,oc 13 20 1,oG 13 true 21 (.ints .geq (.t 19) (.t 20)),oP 22 13 21] [8,9,10,11,12,13,14,15,16,17,18,19,20,21]
abbrev yDS:=oR [oA 23 5,oF 24 23 1,oA 5 24] [23,24]
abbrev yDT:=oR [oA 25 5,oA 4 25] [25]
abbrev yNO:=jX yDP yDQ (jT 0 (jU (jU yDR (jO 22 0)) (.block 1 yDS))) yDT .ret
abbrev zQv:=jZ 26 [] 26 0
abbrev xAr:List RSrc:=[.tmp 4]
theorem yDU:j0 zDu yNO zQv xAr:=by kernel_rfl
abbrev yHi:=oN [o4 2 0,oE 4 0]
abbrev yHj:=oR [oT 6 2 1,oo 7 zD5 6,oA 5 7] [6,7]
abbrev yHk:=oR [oA 8 5,om 9 8 0] [8]
abbrev yHl:=oR [oA 10 5,oA 4 10] [10]
abbrev yHm:=oR [oA 11 1,qS 12 11 0,oA 13 12,o6 13 14 1,oe 13 15 2 0 1,o7 13 16 15 1,oz 13 17 16,vo 13 18 14 17,oS 19 13 18] [11,12,13,14,15,16,17,18]
abbrev yHn:=oN [oE 4 5]
abbrev yHo:=oN [oE 4 0]
abbrev yPG:=jX yHi (jV yHj yHk (jP 9 yHl)) (jU yHm (jP 19 yHn)) yHo .ret
abbrev zVe:=jZ 20 [] 20 0
abbrev xAs:List RSrc:=[.tmp 4]
theorem yHp:j0 zGv yPG zVe xAs:=by kernel_rfl
abbrev yJH:=oN [o4 2 0,qV 4 zAz 1]
abbrev yJI:=oN [qV 5 zAz 1]
abbrev yJJ:=oR [oA 7 1,oF 8 7 1,oA 6 8] [7,8]
abbrev yJK:=oR [oA 9 6,oT 10 2 1,oA 11 1,qC 12 zDu 10 11,oM 13 9 12] [9,10,11,12]
abbrev yJL:=oR [ou 17 5,oA 18 6,qK 19 1 18,oy 20 zAz 1 17 19,ou 5 20] [17,18,19,20]
abbrev yJM:=oR [oT 14 2 1,oA 15 6,qC 16 zDu 14 15,oA 6 16] [14,15,16]
abbrev yJN:=oR [ou 21 5,ou 4 21] [21]
abbrev yRx:=jX yJH yJI (jU yJJ (jR 0 yJK 13 1 yJL yJM)) yJN .ret
abbrev yBB:=jZ 22 [] 22 0
abbrev xAt:List RSrc:=[.tmp 4]
theorem yJO:j0 zLZ yRx yBB xAt:=by kernel_rfl
abbrev yNP:=oN [qV 4 zAC 5]
abbrev yNQ:=oN [qV 5 zAC 5]
abbrev yNR:=oN [oA 8 0,oI 9 8,oE 10 0]
abbrev yNS:=oN [oM 11 10 9]
abbrev yNT:=oR [oK 12 5 8 10,oT 13 12 5,qP 7 0 33 0 1 2,oL 7 0 33 0 5 13] [12,13]
abbrev yNU:=oQ [oH 0 14 1,oW 1 15 7 0,qB 2 16 15 0 33 0 1,jL 3 17 14 16,oW 4 18 7 3,qB 5 19 18 0 33 3 1,qY 6 20 zBe 19,oW 7 21 7 4,qB 8 22 21 0 33 4 1,qY 9 23 zBt 22,oW 10 24 7 0,qE 11 24 0 33 0 1 17,oW 12 25 7 3,qE 13 25 0 33 3 1 20,oW 14 26 7 4,qE 15 26 0 33 4 1 23] [14,15,16,17,18,19,20,21,22,23,24,25,26]
abbrev yNV:=oR [ou 27 5,oq 28 7 0 33 0 5,qK 29 5 28,oy 30 zAC 5 27 29,ou 5 30] [27,28,29,30]
abbrev yNW:=oR [oF 31 10 1,oA 10 31] [31]
abbrev yNX:=oR [ou 32 5,ou 4 32] [32]
abbrev yUx:=jX yNP yNQ (jU yNR (jS 0 yNS 11 1 (jV yNT yNU yNV) yNW)) yNX .ret
abbrev yHq:=jZ 33 [(33,5)] 38 0
abbrev xAu:List RSrc:=[.tmp 4]
theorem yNY:j0 zCU yUx yHq xAu:=by kernel_rfl
abbrev yDV:=oN [o4 4 0,o4 5 1,o4 7 3,qn 8 0 89 5,oE 9 0]
abbrev yDW:=oR [oT 16 4 1,oo 17 zD5 16,oA 10 17] [16,17]
abbrev yDX:=oR [oA 18 10,om 19 18 0] [18]
abbrev yDY:=oR [qX 20 5,oA 21 10,oL 8 0 89 0 1 20,oA 9 21] [20,21]
abbrev yDZ:=oR [oT 22 7 1,oo 23 zD5 22,oA 11 23] [22,23]
abbrev yD0:=oR [oA 24 11,om 25 24 0] [24]
abbrev yD1:=oR [qX 26 5,oA 27 11,oL 8 0 89 0 1 26,oA 9 27] [26,27]
abbrev yD2:=oR [oB 28 5 1,qS 29 28 0,oA 30 29,o7 30 31 5 1,oe 30 32 4 0 1,o7 30 33 32 1,oz 30 34 33,vo 30 35 31 34,oS 36 30 35] [28,29,30,31,32,33,34,35]
abbrev yD3:=oR [qX 37 5,oL 8 0 89 0 1 37,oE 9 5] [37]
abbrev yD4:=oQ [oa 0 38 4 1,oX 1 39 5 1,vD 2 40 zLZ 38 39,oa 3 41 4 1,oX 4 42 5 1,qO 5 43 zDu 41 42,qe 6 44 1 43,qg 7 45 zAz 1 40 44,oH 8 12 45] [38,39,40,41,42,43,44,45]
abbrev zYI:=oR [oA 46 2,qS 47 46 0,oA 48 47,o6 48 49 2,o6 48 50 12,oz 48 51 50,vo 48 52 49 51,oS 53 48 52] [46,47,48,49,50,51,52]
abbrev zYJ:=oR [qX 54 5,oL 8 0 89 0 1 54,oE 9 3] [54]
abbrev zYK:=oR [oJ 55 4 0 1,oB 56 55 1,oI 57 56,oJ 58 7 0 1,oB 59 58 1,oI 60 59,qp 61 57 60,qT 62 61 64] [55,56,57,58,59,60,61]
abbrev zYL:=oR [qX 63 5,oL 8 0 89 0 1 63,oE 9 2] [63]
abbrev zYM:HCode:=.reg [oA 64 12,oA 65 2,oK 66 1 64 65,oB 67 66 1,⟨none,.alloc 13 1 90 [.v (.int .i64 0)]⟩,oL 13 1 90 0 1 67] false [.frz 1 90 1,.forget [64,65,66,67]]
abbrev zYN:=oR [vb 68 zDf 13 7,oA 14 68] [68]
abbrev zYO:=oR [vb 69 zEo 5 13,oA 15 69] [69]
abbrev zYP:=oQ [o8 0 70 4 0 1,oX 1 71 70 1,oX 2 72 13 1,oD 3 false (oV 73 (.slr 5 (.t 71) none (some (.t 72)))),oH 4 74 14,vD 5 75 zCU 73 74,o8 6 76 7 0 1,oX 7 77 76 1,oH 8 78 15,vD 9 79 zCU 77 78,o8 10 80 4 0 1,oX 11 81 80 1,oX 12 82 13 1,qz 13 83 5 81 82,oH 14 84 14,qO 15 85 zCU 83 84,oD 16 false (oV 86 (.bslF 1 [.t 75,.t 79,.t 85])),qb 17 87 zCa 86,vt 18 88 5 0 1 87,qE 19 8 0 89 0 1 88,vY 20 9 0] [70,71,72,73,74,75,76,77,78,79,80,81,82,83,84,85,86,87,88]
abbrev yNZ:=jX yDV (jV yDW yDX (jP 19 yDY)) (jV yDZ yD0 (jP 25 yD1)) (jU yD2 (jP 36 yD3)) (jX yD4 (jU zYI (jP 53 zYJ)) (jU zYK (jP 62 zYL)) zYM (jW zYN zYO zYP .ret))
abbrev zQw:=jZ 89 [(89,1),(90,1)] 91 0
abbrev xAv:List RSrc:=[.cellB 8 0 89 0 1 true,.tmp 9]
theorem yD5:j0 zIY yNZ zQw xAv:=by kernel_rfl
abbrev zVf:=oN [oE 4 0]
abbrev zVg:=oR [oA 5 0,oB 6 1 1,jD 7 5 6] [5,6]
abbrev zVh:=oR [oA 8 0,oJ 9 2 0 1,oB 10 9 1,oI 11 10,qp 12 8 11,oA 4 12] [8,9,10,11,12]
abbrev zVi:=oR [oA 13 0,oA 4 13] [13]
abbrev yHr:=jW zVf (jU zVg (jP 7 zVh)) zVi .ret
abbrev zLC:=jZ 14 [] 14 0
abbrev xAw:List RSrc:=[.tmp 4]
theorem zVj:j0 zDf yHr zLC xAw:=by kernel_rfl
abbrev zVk:=oN [oE 4 0]
abbrev zVl:=oR [oA 5 0,qS 6 5 0] [5]
abbrev zVm:=oR [oB 7 1 1,oA 4 7] [7]
abbrev zVn:=oR [oA 8 0,oB 9 2 1,qp 10 8 9,oA 4 10] [8,9,10]
abbrev yHs:=jW zVk (jU zVl (jP 6 zVm)) zVn .ret
abbrev zLD:=jZ 11 [] 11 0
abbrev xAx:List RSrc:=[.tmp 4]
theorem zVo:j0 zEo yHs zLD xAx:=by kernel_rfl
abbrev yD6:=oN [o4 2 0,o4 3 1,qn 4 0 38 5,oE 5 0]
abbrev yD7:=oR [oT 9 2 1,oB 10 3 1,qC 11 zGv 9 10,oA 6 11] [9,10,11]
abbrev yD8:=oR [oA 12 6,om 13 12 0] [12]
abbrev yD9:=oR [qX 14 5,oA 15 6,oL 4 0 38 0 1 14,oA 5 15] [14,15]
abbrev yEa:=oR [oB 16 3 1,ol 17 16 0] [16]
abbrev yEb:=oR [qX 18 5,oL 4 0 38 0 1 18,oE 5 3] [18]
abbrev yEc:HCode:=.reg [oT 19 2 1,oB 20 3 1,qC 21 zDu 19 20,⟨none,.alloc 7 1 39 [.v (.int .i64 0)]⟩,oL 7 1 39 0 1 21] false [.frz 1 39 1,.forget [19,20,21]]
abbrev yEd:=oR [vb 22 zDh 7 3,oA 8 22] [22]
abbrev yEe:=oQ [o8 0 23 2 0 1,oX 1 24 23 1,oX 2 25 3 1,oD 3 false (oV 26 (.slr 5 (.t 24) none (some (.t 25)))),oH 4 27 8,vD 5 28 zCU 26 27,o8 6 29 2 0 1,oX 7 30 29 1,oX 8 31 7 1,qz 9 32 5 30 31,oH 10 33 8,qO 11 34 zCU 32 33,oD 12 false (oV 35 (.bslF 1 [.t 28,.t 34])),qb 13 36 zCa 35,vt 14 37 5 0 1 36,qE 15 4 0 38 0 1 37,vY 16 5 0] [23,24,25,26,27,28,29,30,31,32,33,34,35,36,37]
abbrev yN0:=jX yD6 (jV yD7 yD8 (jP 13 yD9)) (jU yEa (jP 17 yEb)) yEc (jV yEd yEe .ret)
abbrev zQx:=jZ 38 [(38,1),(39,1)] 40 0
abbrev xAy:List RSrc:=[.cellB 4 0 38 0 1 true,.tmp 5]
theorem yEf:j0 zIZ yN0 zQx xAy:=by kernel_rfl
abbrev zVp:=oN [oE 4 0]
abbrev zVq:=oR [oA 5 0,oB 6 1 1,jD 7 5 6] [5,6]
abbrev zVr:=oR [oA 8 0,oB 9 1 1,oV 10 (.ints .sub (.t 8) (.t 9)),oB 11 2 1,qp 12 10 11,oA 4 12] [8,9,10,11,12]
abbrev zVs:=oR [oA 13 0,oA 4 13] [13]
abbrev yHt:=jW zVp (jU zVq (jP 7 zVr)) zVs .ret
abbrev zLE:=jZ 14 [] 14 0
abbrev xAz:List RSrc:=[.tmp 4]
theorem zVt:j0 zDh yHt zLE xAz:=by kernel_rfl
abbrev yHu:=oN [oE 2 0]
abbrev yHv:=oR [oA 3 0,oA 2 3] [3]
abbrev yPH:=jV yHu yHv .ret
abbrev zVu:=jZ 4 [] 4 0
abbrev xAA:List RSrc:=[.tmp 2]
theorem yHw:j0 zGt yPH zVu xAA:=by kernel_rfl
abbrev zKa:=oN [qV 2 zAC 5]
abbrev zKb:=oN [oE 3 0]
abbrev zKc:=oN [oA 9 0,oI 10 9,oE 11 0]
abbrev zKd:=oN [oM 12 11 10]
abbrev zKe:=oR [oK 13 1 9 11,oB 14 13 1,oA 5 14] [13,14]
abbrev zKf:=oR [oA 15 3,oA 16 5,oI 17 16,qp 18 15 17,oA 3 18] [15,16,17,18]
abbrev zKg:=oR [oA 19 3,qS 20 19 0] [19]
abbrev zKh:=oR [oV 21 (.mki zE6 (.c (sv [108,101,110,32,111,117,116,32,111,102,32,114,97,110,103,101]))),⟨none,.pan (.t 21)⟩] [21]
abbrev zKi:=oR [oF 22 11 1,oA 11 22] [22]
abbrev zKj:=oR [oA 23 3,oC 24 zL0 [(.c (.one (.nl 5)),.r),(.t 23,.v)],ou 6 24] [23,24]
abbrev zJx:=oN [oA 25 0,oI 26 25,oE 27 0]
abbrev zJy:=oN [oM 28 27 26]
abbrev zJz:=oR [oK 29 1 25 27,oB 30 29 1,oA 8 30] [29,30]
abbrev zJA:=oR [ou 31 6,oA 32 8,oy 33 zAC 5 31 32,ou 6 33] [31,32,33]
abbrev zJB:=oR [oF 34 27 1,oA 27 34] [34]
abbrev zJC:=oR [ou 35 6,ou 2 35] [35]
abbrev zM0:=jX zKa zKb (jU zKc (jS 0 zKd 12 1 (jW zKe zKf zKg (jQ 20 zKh .skip)) zKi)) zKj (jV (jU zJx (jS 2 zJy 28 3 (jU zJz zJA) zJB)) zJC .ret)
abbrev zFp:=jZ 36 [] 36 0
abbrev xAB:List RSrc:=[.tmp 2]
theorem zKk:j0 zCa zM0 zFp xAB:=by kernel_rfl
abbrev yHx:=oN [qn 0 0 13 5]
abbrev yHy:=oR [oV 1 (.bld [.v (.int .i64 0),.v (mkS []),.v (mkS []),.nl 1,.nl 2] [(0,1,.c (iv (-1))),(1,1,.c (sv [108,105,115,116])),(2,1,.c (sv [116,111,112]))]),jJ 2 1 97,qZ 3 0 1 2 0 1 0 1 1 105 116 101 109 3 1 2,jJ 4 1 98,qZ 5 0 1 2 0 1 0 1 1 105 116 101 109 3 1 4,oV 6 (.bld [.v (mkS []),.v (mkS [])] [(0,1,.c (sv [116,111])),(1,1,.c (sv [111,110,101,32,116,119,111]))]),qK 7 2 6,qZ 8 0 1 2 0 1 2 1 1 108 105 110 107 4 1 7,jJ 9 1 97,qZ 10 0 1 2 0 1 0 1 1 105 116 101 109 3 1 9,oV 11 (.bslF 5 [.t 1,.t 3,.t 5,.t 8,.t 10]),oV 12 (.bld [.nl 5] [(0,1,.t 11)]),oL 0 0 13 0 1 12] [1,2,3,4,5,6,7,8,9,10,11,12]
abbrev yPI:=jV yHx yHy .ret
abbrev zVv:=jZ 13 [(13,1)] 14 0
abbrev xAC:List RSrc:=[.cellB 0 0 13 0 1 true]
theorem yHz:j0 zJX yPI zVv xAC:=by kernel_rfl
end Go.Hx
end

section
namespace Go.Hx
open Go.Proofs
variable [Glob]
abbrev zDv:=239
abbrev zCV:=240
abbrev zBQ:=238
abbrev zF0:=237
abbrev yJP:=oN [oO 2]
abbrev yJQ:=oR [oA 3 0,vO 4 3,qT 5 4 0,oA 6 5,oc 6 7 0,oG 6 true 8 (.len true (.t 7)),vj 6 9 8 12,oP 10 6 9,oA 11 10,oc 11 12 0,oG 11 true 13 (.idxS (.t 12) (.c (iv 0))),oG 11 true 14 (.ints .geq (.t 13) (.c (.one (.v (.int .u8 97))))),oP 15 11 14,oA 16 15,oc 16 17 0,oG 16 true 18 (.idxS (.t 17) (.c (iv 0))),vI 16 19 18 122,oP 20 16 19,oA 21 20,oc 21 22 0,⟨some (21,true),.call (some 23) zF0 [(.t 22,.v),(.c (sv [97,98,99,100,101,102,103,104,105,106,107,108,109,110,111,112,113,114,115,116,117,118,119,120,121,122,48,49,50,51,52,53,54,55,56,57,45]),.v)]⟩,qu 21 24 23,oP 25 21 24,oA 26 25,oc 26 27 0,qq 26 28 zBQ 27 zDv,qj 26 29 28,oP 30 26 29,oA 2 30] [3,4,5,6,7,8,9,10,11,12,13,14,15,16,17,18,19,20,21,22,23,24,25,26,27,28,29,30]
abbrev yRy:=jV yJP yJQ .ret
abbrev yBC:=jZ 31 [] 31 0
abbrev xAD:List RSrc:=[.tmp 2]
theorem yJR:j0 zDg yRy yBC xAD:=by kernel_rfl
abbrev yEg:=oN [oO 2]
abbrev yEh:=oR [oA 3 0,jB 4 3 97,oA 5 4,o6 5 6 0,vG 5 7 6 122,oS 8 5 7,oA 9 8,oc 9 10 0,oG 9 true 11 (.ints .lss (.t 10) (.c (.one (.v (.int .i32 48))))),oc 9 12 11,o6 12 13 0,vG 12 14 13 57,vB 9 15 12 14,oP 16 9 15,oA 17 16,oc 17 18 0,oG 17 true 19 (.ints .neq (.t 18) (.c (.one (.v (.int .i32 45))))),oP 20 17 19,oA 2 20] [3,4,5,6,7,8,9,10,11,12,13,14,15,16,17,18,19,20]
abbrev yN1:=jV yEg yEh .ret
abbrev zQy:=jZ 21 [] 21 0
abbrev xAE:List RSrc:=[.tmp 2]
theorem yEi:j0 zDv yN1 zQy xAE:=by kernel_rfl
abbrev yHA:=oN [oO 2]
abbrev yHB:=oR [oA 3 0,vO 4 3,oV 5 (.ints .leq (.t 4) (.c (iv 16))),oA 6 5,oc 6 7 0,qq 6 8 zBQ 7 zCV,qj 6 9 8,oP 10 6 9,oA 2 10] [3,4,5,6,7,8,9,10]
abbrev yPJ:=jV yHA yHB .ret
abbrev zVw:=jZ 11 [] 11 0
abbrev xAF:List RSrc:=[.tmp 2]
theorem yHC:j0 zGu yPJ zVw xAF:=by kernel_rfl
abbrev zYQ:=oN [oO 2]
abbrev zYR:=oR [oA 3 0,jB 4 3 32,oA 5 4,o6 5 6 0,vG 5 7 6 126,oS 8 5 7,oA 9 8,o6 9 10 0,oG 9 false 11 (.ints .eql (.t 10) (.c (.one (.v (.int .i32 34))))),oS 12 9 11,oA 2 12] [3,4,5,6,7,8,9,10,11,12]
abbrev yJS:=jV zYQ zYR .ret
abbrev zM1:=jZ 13 [] 13 0
abbrev xAG:List RSrc:=[.tmp 2]
theorem zYS:j0 zCV yJS zM1 xAG:=by kernel_rfl
end Go.Hx
end

section
namespace Go.Hx
open Go.Proofs
variable [Glob]
abbrev zKl:=221
abbrev zF1:=144
abbrev yHD:=oN [o4 1 0,oE 2 0]
abbrev yHE:=oR [oJ 5 1 0 1,oB 6 5 1,oJ 7 1 1 1,oB 8 7 1,oV 9 (.bld [.v (.int .i64 0),.v (.int .i64 0)] [(0,1,.t 6),(1,1,.t 8)]),oE 10 0] [5,6,7,8]
abbrev yHF:=oN [qS 11 10 2]
abbrev yHG:=oR [oV 12 (.idxV 2 (.t 9) (.t 10)),oA 4 12] [12]
abbrev yHH:=oR [oA 13 4,qS 14 13 (-1048576),oA 15 14,o6 15 16 4,qU 15 17 16 1048576,oS 18 15 17] [13,14,15,16,17]
abbrev yHI:=oN [oE 2 3]
abbrev yHJ:=oR [oF 19 10 1,oA 10 19] [19]
abbrev yHK:=oN [oE 2 0]
abbrev yPK:=jW yHD (jU yHE (jS 0 yHF 11 1 (jV yHG yHH (jP 18 yHI)) yHJ)) yHK .ret
abbrev zVx:=jZ 20 [] 20 0
abbrev xAH:List RSrc:=[.tmp 2]
theorem yHL:j0 zKl yPK zVx xAH:=by kernel_rfl
abbrev zVy:=oN [o4 1 0,oE 2 0]
abbrev zVz:=oR [oJ 3 1 0 1,oB 4 3 1,qR 5 zAS 4 (-1048576) 1048576,qJ 6 5,oA 7 6,oe 7 8 1 1 1,o7 7 9 8 1,vw 7 10 zAS 9 (-1048576) 1048576,qi 7 11 10,oS 12 7 11] [3,4,5,6,7,8,9,10,11]
abbrev zVA:=oN [oE 2 3]
abbrev zVB:=oN [oE 2 0]
abbrev yHM:=jW zVy (jU zVz (jP 12 zVA)) zVB .ret
abbrev zLF:=jZ 13 [] 13 0
abbrev xAI:List RSrc:=[.tmp 2]
theorem zVC:j0 zF1 yHM zLF xAI:=by kernel_rfl
end Go.Hx
end

section
namespace Go.Hx
open Go.Proofs
variable [Glob]
end Go.Hx
end

section
namespace Go.Hx
open Go.Proofs
variable [Glob]
abbrev zI0:=54
abbrev zBU:=110
abbrev zAA:=163
abbrev zDw:=164
abbrev zOJ:=220
abbrev zI1:=111
abbrev zFg:=39
abbrev zEX:=94
abbrev zEY:=93
abbrev zFA:=95
abbrev zHq:=143
abbrev zEZ:=92
abbrev yN2:=oN [vZ 2 0 31,oO 3]
abbrev yN3:=oN [oA 4 0]
abbrev yN4:=oR [ol 6 4 1,oA 5 6] [6]
abbrev yN5:=oR [ol 7 4 2,oA 5 7] [7]
abbrev yN6:=oR [ol 8 4 3,oA 5 8] [8]
abbrev yN7:=oR [qf 9 0 1,oL 2 0 31 0 4 9,o9 3] [9]
abbrev yN8:=oR [ol 11 4 4,oA 10 11] [11]
abbrev yN9:=oR [ol 12 4 5,oA 10 12] [12]
abbrev yOa:=oR [ol 13 4 6,oA 10 13] [13]
abbrev yOb:=oR [ol 14 4 7,oA 10 14] [14]
abbrev yJT:=oR [ol 15 4 8,oA 10 15] [15]
abbrev yJU:=oR [oV 16 (.bld [.v (.bool false),.v (.bool false),.v (.bool false),.v (.bool false)] [(0,1,.c (bv true)),(1,1,.c (bv true))]),oL 2 0 31 0 4 16,o9 3] [16]
abbrev yJV:=oR [ol 18 4 9,oA 17 18] [18]
abbrev yJW:=oR [ol 19 4 10,oA 17 19] [19]
abbrev yJX:=oR [qf 20 2 1,oL 2 0 31 0 4 20,o9 3] [20]
abbrev yJY:=oR [ol 22 4 11,oA 21 22] [22]
abbrev yJZ:=oR [ol 23 4 12,oA 21 23] [23]
abbrev yJ0:=oR [vP 24,oL 2 0 31 0 4 24,o9 3] [24]
abbrev yJ1:=oR [ol 26 4 13,oA 25 26] [26]
abbrev yJ2:=oR [ol 27 4 14,oA 25 27] [27]
abbrev yJ3:=oR [ol 28 4 15,oA 25 28] [28]
abbrev yJ4:=oR [qf 29 3 1,oL 2 0 31 0 4 29,o9 3] [29]
abbrev yJ5:=oR [vP 30,oL 2 0 31 0 4 30,oO 3] [30]
abbrev yUy:=jW yN2 (jU yN3 (.block 0 (jU (jU yN4 (jQ 5 .skip (jU yN5 (jQ 5 .skip yN6)))) (jQ 5 (jU yN7 .ret) (jU (jU yN8 (jQ 10 .skip (jU yN9 (jQ 10 .skip (jU yOa (jQ 10 .skip (jU yOb (jQ 10 .skip yJT)))))))) (jQ 10 (jU yJU .ret) (jU (jU yJV (jQ 17 .skip yJW)) (jQ 17 (jU yJX .ret) (jU (jU yJY (jQ 21 .skip yJZ)) (jQ 21 (jU yJ0 .ret) (jU (jU yJ1 (jQ 25 .skip (jU yJ2 (jQ 25 .skip yJ3)))) (jP 25 yJ4)))))))))))) yJ5 .ret
abbrev yHN:=jZ 31 [(31,4)] 35 0
abbrev xAJ:List RSrc:=[.cellB 2 0 31 0 4 true,.tmp 3]
theorem yOc:j0 zOJ yUy yHN xAJ:=by kernel_rfl
abbrev yEj:=oN [⟨none,.alloc 0 0 2 [.v (.int .i64 0),.v (.int .i64 0),.v (.int .i64 0),.v (.int .i64 0)]⟩]
abbrev yEk:=oR [oV 1 (.bld [.v (.int .i64 0),.v (.int .i64 0),.v (.int .i64 0),.v (.int .i64 0)] [(0,1,.c (iv 2)),(1,1,.c (iv 4)),(2,1,.c (iv 1)),(3,1,.c (iv 3))]),oL 0 0 2 0 4 1] [1]
abbrev yOd:=jV yEj yEk .ret
abbrev zQz:=jZ 2 [(2,4)] 6 0
abbrev xAK:List RSrc:=[.cellB 0 0 2 0 4 true]
theorem yEl:j0 zI1 yOd zQz xAK:=by kernel_rfl
abbrev zOK:=oN [oA 6 1]
abbrev zOL:=oQ [oH 0 7 0,oH 1 8 2,vu 2 9 7,oW 3 10 9 0,oD 4 false (oV 11 (.ixB 5 (.t 10) (.t 8))),oD 5 false (oV 12 (.ldD (.t 11) 0 17 5)),oD 6 false (oV 13 (.ints .add (.t 12) (.c (iv 1)))),vu 7 14 7,oW 8 15 14 0,oD 9 false (oV 16 (.ixB 5 (.t 15) (.t 8))),oD 10 false ⟨none,.std (.t 16) 0 17 5 (.t 13)⟩] [7,8,9,10,11,12,13,14,15,16]
abbrev zYT:=jU zOK (jQ 6 zOL .skip)
abbrev zCL:=jZ 17 [(17,5)] 22 1
abbrev xAL:List RSrc:=[]
theorem zDx:j0 zAA zYT zCL xAL:=by kernel_rfl
abbrev zOM:=oR [oA 12 2,qT 13 12 3,oA 14 13,o6 14 15 1,oz 14 16 15,oG 14 false 17 (.ints .lss (.t 16) (.c (iv 1))),oS 18 14 17,oA 19 18,o6 19 20 1,oz 19 21 20,qU 19 22 21 5,oS 23 19 22] [12,13,14,15,16,17,18,19,20,21,22]
abbrev zON:=oR [oA 24 0,vd 25 zAA 24 0 83 5 2] [24,25]
abbrev zOO:=oN [oA 26 1,oI 27 26,oE 28 0]
abbrev zOP:=oN [oM 29 28 27]
abbrev zOQ:HCode:=.reg [oK 30 2 26 28,oT 31 30 2,ox 7 1 88 2 1,oL 7 1 88 0 2 31] false [.frz 1 88 2,.forget [30,31]]
abbrev zOR:=oR [oJ 32 7 0 1,oB 33 32 1,oI 34 33,qS 35 34 1,oA 36 35,oe 36 37 7 0 1,o7 36 38 37 1,oz 36 39 38,qU 36 40 39 5,oS 41 36 40,oA 42 41,oe 42 43 7 1 1,o7 42 44 43 1,oz 42 45 44,oe 42 46 7 0 1,o7 42 47 46 1,oz 42 48 47,oG 42 false 49 (.ints .sub (.t 48) (.c (iv 1))),vW 42 50 45 49,oS 51 42 50] [32,33,34,35,36,37,38,39,40,41,42,43,44,45,46,47,48,49,50]
abbrev zOS:=oR [oA 52 0,vd 53 zAA 52 0 83 5 2] [52,53]
abbrev zOT:=oR [oJ 54 7 1 1,oB 55 54 1,oI 56 55,oE 57 0] [54]
abbrev zOU:=oN [oM 58 57 56]
abbrev zOV:=oR [oK 59 1 55 57,oB 60 59 1,oA 9 60] [59,60]
abbrev zM2:=oR [oA 61 0,oA 62 9,qS 63 62 1,oA 64 63,o6 64 65 9,qU 64 66 65 4,oS 67 64 66,qa 68 zAA 61 0 83 5 67 4] [61,62,63,64,65,66,67,68]
abbrev zM3:=oR [oF 69 57 1,oA 57 69] [69]
abbrev zM4:=oR [oJ 70 7 0 1,oB 71 70 1,oI 72 71,oE 73 0] [70]
abbrev zM5:=oN [oM 74 73 72]
abbrev zM6:=oR [oK 75 2 71 73,oT 76 75 2,qH 11 2 90 6,oL 11 2 90 0 2 76] [75,76]
abbrev zM7:=oR [oA 77 0,oq 78 11 2 90 0 2,oA 79 2,oC 80 zDw [(.t 77,.i 0 83 5),(.t 78,.v),(.t 79,.v)]] [77,78,79,80]
abbrev zM8:=oR [oF 81 73 1,oA 73 81] [81]
abbrev zM9:=oR [oF 82 28 1,oA 28 82] [82]
abbrev zYU:=jV (jU zOM (jP 23 zON)) zOO (jS 0 zOP 29 1 (jX zOQ (jU zOR (jP 51 zOS)) (jU zOT (jS 2 zOU 58 3 (jU zOV zM2) zM3)) zM4 (jS 4 zM5 74 5 (jU zM6 zM7) zM8)) zM9)
abbrev zJn:=jZ 83 [(83,5),(88,2),(90,2)] 92 1
abbrev xAM:List RSrc:=[]
theorem zOW:j0 zBU zYU zJn xAM:=by kernel_rfl
abbrev zOX:=oN [o4 4 1]
abbrev zOY:=oR [oJ 10 4 1 1,oB 11 10 1,oI 12 11,qT 13 12 6] [10,11,12]
abbrev zOZ:=oR [oA 14 0,vd 15 zAA 14 0 121 5 2] [14,15]
abbrev zO0:=oR [oA 16 0,oJ 17 4 0 1,oB 18 17 1,vJ 19 18,oA 20 19,oY 20 21 4 0 1,oU 20 22 21 1,qN 20 23 zDg 22,qj 20 24 23,oP 25 20 24,qa 26 zAA 16 0 121 5 25 1] [16,17,18,19,20,21,22,23,24,25,26]
abbrev zO1:=oR [oJ 27 4 1 1,oB 28 27 1,oI 29 28,oE 30 0] [27]
abbrev zO2:=oN [oM 31 30 29]
abbrev zO3:HCode:=.reg [oK 32 6 28 30,oT 33 32 6,o5 7 1 126 0 0 0 2,oL 7 1 126 0 6 33] false [.frz 1 126 6,.forget [32,33]]
abbrev zO4:HCode:=.reg [oJ 35 7 0 1,oB 36 35 1,oo 37 zOJ 36,oA 34 37,qD 38 34 0,qD 39 34 1,vZ 8 2 132,oL 8 2 132 0 4 38,oA 9 39] false [.frz 2 132 4,.forget [34,35,36,37,38,39]]
abbrev zO5:=oR [oA 40 0,oA 41 9,qJ 42 41,qa 43 zAA 40 0 121 5 42 4] [40,41,42,43]
abbrev zO6:=oR [oA 44 0,oJ 45 8 0 1,oB 46 45 1,oA 47 46,oY 47 48 7 1 1,oU 47 49 48 1,qN 47 50 zDg 49,qj 47 51 50,oP 52 47 51,oA 53 52,oe 53 54 8 0 1,o7 53 55 54 1,qi 53 56 55,o6 53 57 56,oY 57 58 7 1 1,oU 57 59 58 1,vE 57 60 59,og 53 61 57 60,oS 62 53 61,qa 63 zAA 44 0 121 5 62 1] [44,45,46,47,48,49,50,51,52,53,54,55,56,57,58,59,60,61,62,63]
abbrev zNa:=oR [oA 64 0,oJ 65 8 1 1,oB 66 65 1,oA 67 66,oY 67 68 7 2 1,oU 67 69 68 1,qN 67 70 zGu 69,qj 67 71 70,oP 72 67 71,oA 73 72,oe 73 74 8 1 1,o7 73 75 74 1,qi 73 76 75,o6 73 77 76,oY 77 78 7 2 1,oU 77 79 78 1,vE 77 80 79,og 73 81 77 80,oS 82 73 81,qa 83 zAA 64 0 121 5 82 1] [64,65,66,67,68,69,70,71,72,73,74,75,76,77,78,79,80,81,82,83]
abbrev zNb:=oR [oA 84 0,oJ 85 8 2 1,oB 86 85 1,qJ 87 86,oA 88 87,oY 88 89 7 3 2,qt 88 90 89 2,jH 88 91 0 0,oG 88 true 92 (.steq true [0,0] (.t 90) (.t 91)),oP 93 88 92,oA 94 93,oe 94 95 8 3 1,o7 94 96 95 1,qi 94 97 96,o6 94 98 97,oY 98 99 7 5 1,oU 98 100 99 1,qh 98 101 100,oG 98 true 102 (.ints .gtr (.t 101) (.c (iv 0))),og 94 103 98 102,oS 104 94 103,qa 105 zAA 84 0 121 5 104 1] [84,85,86,87,88,89,90,91,92,93,94,95,96,97,98,99,100,101,102,103,104,105]
abbrev zNc:=oR [oA 106 0,oJ 107 7 3 2,oT 108 107 2,oo 109 zKl 108,om 110 109 0,qa 111 zAA 106 0 121 5 110 3] [106,107,108,109,110,111]
abbrev zNd:=oR [oJ 112 8 3 1,oB 113 112 1] [112]
abbrev zNe:=oR [oA 114 0,oJ 115 7 5 1,oB 116 115 1,oA 117 2,oF 118 117 1,oC 119 zBU [(.t 114,.i 0 121 5),(.t 116,.v),(.t 118,.v)]] [114,115,116,117,118,119]
abbrev zNf:=oR [oF 120 30 1,oA 30 120] [120]
abbrev zYV:=jX zOX (jU zOY (jP 13 zOZ)) zO0 zO1 (jS 0 zO2 31 1 (jX zO3 zO4 zO5 zO6 (jX zNa zNb zNc zNd (jQ 113 zNe .skip))) zNf)
abbrev zJo:=jZ 121 [(121,5),(126,6),(132,4)] 136 1
abbrev xAN:List RSrc:=[]
theorem zO7:j0 zDw zYV zJo xAN:=by kernel_rfl
abbrev yEm:=oN [oE 2 0]
abbrev yEn:=oR [oV 6 (.bld [.v (.int .i64 0),.v (.int .i64 0),.v (.int .i64 0),.v (.int .i64 0),.v (.int .i64 0)] []),vz 7 0 24 5 6,oA 3 7] [6,7]
abbrev yEo:=oR [oA 8 3,oA 9 0,qa 10 zBU 8 0 24 5 9 1] [8,9,10]
abbrev yEp:=oN [oC 11 zI1 [],oE 12 0]
abbrev yEq:=oN [qS 13 12 4]
abbrev yEr:=oR [oV 14 (.idxV 4 (.t 11) (.t 12)),oA 5 14] [14]
abbrev yEs:=oR [oA 15 3,oA 16 5,oV 17 (.nilck (.t 15)),oZ 18 17 0,oV 19 (.ixB 5 (.t 18) (.t 16)),oV 20 (.ldD (.t 19) 0 24 5),qT 21 20 0] [15,16,17,18,19,20]
abbrev yEt:=oR [oA 22 5,oA 2 22] [22]
abbrev yEu:=oR [oF 23 12 1,oA 12 23] [23]
abbrev yEv:=oN [oE 2 0]
abbrev yOe:=jX yEm yEn yEo (jU yEp (jS 0 yEq 13 1 (jV yEr yEs (jP 21 yEt)) yEu)) (jU yEv .ret)
abbrev zQA:=jZ 24 [(24,5)] 29 0
abbrev xAO:List RSrc:=[.tmp 2]
theorem yEw:j0 zI0 yOe zQA xAO:=by kernel_rfl
abbrev yOf:=oN [oO 2,oO 3,oO 4,oO 5]
abbrev yOg:=oR [oA 6 0,qR 7 zAS 6 1 8,oA 8 0,qR 9 zAS 8 4 8,oA 10 0,ol 11 10 9,oA 12 11,o6 12 13 0,vg 12 14 13 10,oS 15 12 14,oA 16 0,qR 17 zAS 16 13 15,oA 2 7,oA 3 9,oA 4 15,oA 5 17] [6,7,8,9,10,11,12,13,14,15,16,17]
abbrev yUz:=jV yOf yOg .ret
abbrev yHO:=jZ 18 [] 18 0
abbrev xAP:List RSrc:=[.tmp 2,.tmp 3,.tmp 4,.tmp 5]
theorem yOh:j0 zHq yUz yHO xAP:=by kernel_rfl
abbrev zYW:=oN [oO 4]
abbrev zYX:=oR [oA 14 1,qT 15 14 3,oA 16 15,o6 16 17 0,oz 16 18 17,vw 16 19 zAS 18 1 5,qi 16 20 19,oS 21 16 20] [14,15,16,17,18,19,20]
abbrev zYY:=oN [o9 4]
abbrev zYZ:=oN [oE 5 0]
abbrev zY0:=oR [oA 22 5,oA 23 0,oI 24 23,oM 25 22 24] [22,23,24]
abbrev zY1:HCode:=.reg [oA 28 0,oA 29 5,oK 30 2 28 29,oT 31 30 2,ox 6 0 98 2 1,oL 6 0 98 0 2 31] false [.frz 0 98 2,.forget [28,29,30,31]]
abbrev zY2:=oR [oJ 32 6 0 1,oB 33 32 1,oI 34 33,qR 35 zAS 34 1 5,qJ 36 35,oA 37 36,oe 37 38 6 1 1,o7 37 39 38 1,oz 37 40 39,oe 37 41 6 0 1,o7 37 42 41 1,oz 37 43 42,oG 37 false 44 (.ints .sub (.t 43) (.c (iv 1))),vW 37 45 40 44,oS 46 37 45] [32,33,34,35,36,37,38,39,40,41,42,43,44,45]
abbrev zY3:=oN [o9 4]
abbrev zY4:=oN [oE 7 0]
abbrev zY5:=oR [oA 47 7,oJ 48 6 0 1,oB 49 48 1,oI 50 49,oM 51 47 50] [47,48,49,50]
abbrev zVD:=oR [oJ 54 6 0 1,oB 55 54 1,oA 56 7,oK 57 2 55 56,oJ 58 57 1 1,oB 59 58 1,oI 60 59,qT 61 60 6] [54,55,56,57,58,59,60]
abbrev zVE:=oN [o9 4]
abbrev zVF:=oN [oE 8 0]
abbrev zVG:=oR [oA 62 8,oJ 63 6 0 1,oB 64 63 1,oA 65 7,oK 66 2 64 65,oJ 67 66 1 1,oB 68 67 1,oI 69 68,oM 70 62 69] [62,63,64,65,66,67,68,69]
abbrev zVH:HCode:=.reg [oJ 73 6 0 1,oB 74 73 1,oA 75 7,oK 76 2 74 75,oJ 77 76 1 1,oB 78 77 1,oA 79 8,oK 80 6 78 79,oT 81 80 6,o5 9 1 100 0 0 0 2,oL 9 1 100 0 6 81] false [.frz 1 100 6,.forget [73,74,75,76,77,78,79,80,81]]
abbrev zVI:=oR [oJ 83 9 0 1,oB 84 83 1,oo 85 zHq 84,oA 82 85,qD 86 82 0,qD 87 82 1,qD 88 82 2,qD 89 82 3,oA 10 86,oA 11 87,oA 12 88,oA 13 89] [10,11,12,82,83,84,85,86,87,88,89]
abbrev zVJ:=oR [oA 90 13,oA 91 90,oY 91 92 9 5 1,oU 91 93 92 1,oc 91 94 1,oG 91 true 95 (.ints .add (.t 94) (.c (iv 1))),qQ 91 96 zEZ 93 95,oP 97 91 96] [90,91,92,93,94,95,96]
abbrev zVK:=oN [o9 4]
abbrev zVL:=oR [oA 71 8,oF 72 71 1,oA 8 72] [71,72]
abbrev zVM:=oR [oA 52 7,oF 53 52 1,oA 7 53] [52,53]
abbrev zVN:=oR [oA 26 5,oF 27 26 1,oA 5 27] [26,27]
abbrev zVO:=oN [oO 4]
abbrev yJ6:=jX zYW (jU zYX (jP 21 zYY)) (jU zYZ (jR 0 zY0 25 1 (jW zY1 (jU zY2 (jP 46 zY3)) zY4 (jR 2 zY5 51 3 (jV (jU zVD (jP 61 zVE)) zVF (jR 4 zVG 70 5 (jW zVH zVI zVJ (jP 97 zVK)) zVL)) zVM)) zVN)) zVO .ret
abbrev zNg:=jZ 98 [(98,2),(100,6)] 106 0
abbrev xAQ:List RSrc:=[.tmp 4]
theorem zY6:j0 zEZ yJ6 zNg xAQ:=by kernel_rfl
abbrev zY7:=oN [oO 2]
abbrev zY8:=oN [oE 3 0]
abbrev zY9:=oR [oA 12 3,oA 13 0,oI 14 13,oM 15 12 14] [12,13,14]
abbrev zZa:=oN [oE 4 0]
abbrev zZb:=oR [oA 18 4,oA 19 0,oA 20 3,oK 21 2 19 20,oJ 22 21 1 1,oB 23 22 1,oI 24 23,oM 25 18 24] [18,19,20,21,22,23,24]
abbrev zZc:=oR [oA 28 0,oA 29 3,oK 30 2 28 29,oJ 31 30 1 1,oB 32 31 1,oA 33 4,oK 34 1 32 33,oB 35 34 1,qR 36 zAS 35 1 4,qJ 37 36] [28,29,30,31,32,33,34,35,36]
abbrev zZd:=oN [o9 2]
abbrev zZe:=oR [oA 26 4,oF 27 26 1,oA 4 27] [26,27]
abbrev zZf:=oN [oE 5 0]
abbrev zZg:=oR [oA 38 5,oA 39 0,oA 40 3,oK 41 2 39 40,oJ 42 41 0 1,oB 43 42 1,oI 44 43,oM 45 38 44] [38,39,40,41,42,43,44]
abbrev zVP:=oN [oE 6 0]
abbrev zVQ:=oR [oA 48 6,oA 49 0,oA 50 3,oK 51 2 49 50,oJ 52 51 0 1,oB 53 52 1,oA 54 5,oK 55 2 53 54,oJ 56 55 1 1,oB 57 56 1,oI 58 57,oM 59 48 58] [48,49,50,51,52,53,54,55,56,57,58]
abbrev zVR:HCode:=.reg [oA 62 0,oA 63 3,oK 64 2 62 63,oJ 65 64 0 1,oB 66 65 1,oA 67 5,oK 68 2 66 67,oJ 69 68 1 1,oB 70 69 1,oA 71 6,oK 72 6 70 71,oT 73 72 6,o5 7 0 94 0 0 0 2,oL 7 0 94 0 6 73] false [.frz 0 94 6,.forget [62,63,64,65,66,67,68,69,70,71,72,73]]
abbrev zVS:=oR [oJ 75 7 0 1,oB 76 75 1,oo 77 zHq 76,oA 74 77,qD 78 74 0,qD 79 74 1,qD 80 74 2,qD 81 74 3,oA 8 78,oA 9 79,oA 10 80,oA 11 81] [8,9,10,74,75,76,77,78,79,80,81]
abbrev zVT:=oR [oJ 82 7 0 1,oB 83 82 1,qR 84 zAS 83 1 15,qJ 85 84,oA 86 85,o6 86 87 11,o6 86 88 87,oY 88 89 7 5 1,oU 88 90 89 1,qN 88 91 zEY 90,og 86 92 88 91,oS 93 86 92] [82,83,84,85,86,87,88,89,90,91,92]
abbrev zVU:=oN [o9 2]
abbrev zVV:=oR [oA 60 6,oF 61 60 1,oA 6 61] [60,61]
abbrev zVW:=oR [oA 46 5,oF 47 46 1,oA 5 47] [46,47]
abbrev zVX:=oR [oA 16 3,oF 17 16 1,oA 3 17] [16,17]
abbrev zVY:=oN [oO 2]
abbrev yJ7:=jW zY7 (jU zY8 (jR 0 zY9 15 1 (jV (jU zZa (jR 2 zZb 25 3 (jU zZc (jP 37 zZd)) zZe)) zZf (jR 4 zZg 45 5 (jU zVP (jR 6 zVQ 59 7 (jW zVR zVS zVT (jP 93 zVU)) zVV)) zVW)) zVX)) zVY .ret
abbrev zNh:=jZ 94 [(94,6)] 100 0
abbrev xAR:List RSrc:=[.tmp 2]
theorem zZh:j0 zEY yJ7 zNh xAR:=by kernel_rfl
abbrev zZi:=oN [oO 2]
abbrev zZj:=oN [oE 3 0]
abbrev zZk:=oR [oA 12 3,oA 13 0,oI 14 13,oM 15 12 14] [12,13,14]
abbrev zZl:=oN [oE 4 0]
abbrev zZm:=oR [oA 18 4,oA 19 0,oA 20 3,oK 21 2 19 20,oJ 22 21 0 1,oB 23 22 1,oI 24 23,oM 25 18 24] [18,19,20,21,22,23,24]
abbrev zZn:HCode:=.reg [oA 28 0,oA 29 3,oK 30 2 28 29,oJ 31 30 0 1,oB 32 31 1,oA 33 4,oK 34 2 32 33,oT 35 34 2,qH 5 0 127 6,oL 5 0 127 0 2 35] false [.frz 0 127 2,.forget [28,29,30,31,32,33,34,35]]
abbrev zZo:=oR [oJ 36 5 0 1,oB 37 36 1,vJ 38 37,oA 39 38,oY 39 40 5 0 1,oU 39 41 40 1,qN 39 42 zB8 41,qj 39 43 42,oP 44 39 43] [36,37,38,39,40,41,42,43]
abbrev zZp:=oN [o9 2]
abbrev zZq:=oN [oE 6 0]
abbrev zZr:=oR [oA 45 6,oJ 46 5 1 1,oB 47 46 1,oI 48 47,oM 49 45 48] [45,46,47,48]
abbrev zVZ:HCode:=.reg [oJ 52 5 1 1,oB 53 52 1,oA 54 6,oK 55 6 53 54,oT 56 55 6,o5 7 1 129 0 0 0 2,oL 7 1 129 0 6 56] false [.frz 1 129 6,.forget [52,53,54,55,56]]
abbrev zV0:=oR [oJ 58 7 0 1,oB 59 58 1,oo 60 zHq 59,oA 57 60,qD 61 57 0,qD 62 57 1,qD 63 57 2,qD 64 57 3,oA 8 61,oA 9 62,oA 10 63,oA 11 64] [57,58,59,60,61,62,63,64]
abbrev zV1:=oR [oA 65 8,oA 66 65,oY 66 67 7 1 1,oU 66 68 67 1,qN 66 69 zB8 68,qj 66 70 69,oP 71 66 70,oA 72 71,o6 72 73 8,qi 72 74 73,o6 72 75 74,oY 75 76 7 1 1,oU 75 77 76 1,vE 75 78 77,og 72 79 75 78,oS 80 72 79,oA 81 80,o6 81 82 9,o6 81 83 82,oY 83 84 7 2 1,oU 83 85 84 1,qN 83 86 zEW 85,qj 83 87 86,og 81 88 83 87,oS 89 81 88,oA 90 89,o6 90 91 9,qi 90 92 91,o6 90 93 92,oY 93 94 7 2 1,oU 93 95 94 1,vE 93 96 95,og 90 97 93 96,oS 98 90 97,oA 99 98,o6 99 100 10,qi 99 101 100,o6 99 102 101,oY 102 103 7 3 2,qt 102 104 103 2,jH 102 105 0 0,oG 102 true 106 (.steq true [0,0] (.t 104) (.t 105)),og 99 107 102 106,oS 108 99 107,oA 109 108,o6 109 110 11,qi 109 111 110,o6 109 112 111,oY 112 113 7 5 1,oU 112 114 113 1,qh 112 115 114,oG 112 true 116 (.ints .gtr (.t 115) (.c (iv 0))),og 109 117 112 116,oS 118 109 117,oA 119 118,o6 119 120 11,o6 119 121 120,oY 121 122 7 5 1,oU 121 123 122 1,qN 121 124 zEX 123,og 119 125 121 124,oS 126 119 125] [65,66,67,68,69,70,71,72,73,74,75,76,77,78,79,80,81,82,83,84,85,86,87,88,89,90,91,92,93,94,95,96,97,98,99,100,101,102,103,104,105,106,107,108,109,110,111,112,113,114,115,116,117,118,119,120,121,122,123,124,125]
abbrev zV2:=oN [o9 2]
abbrev zV3:=oR [oA 50 6,oF 51 50 1,oA 6 51] [50,51]
abbrev zV4:=oR [oA 26 4,oF 27 26 1,oA 4 27] [26,27]
abbrev zV5:=oR [oA 16 3,oF 17 16 1,oA 3 17] [16,17]
abbrev zV6:=oN [oO 2]
abbrev yJ8:=jW zZi (jU zZj (jR 0 zZk 15 1 (jU zZl (jR 2 zZm 25 3 (jW zZn (jU zZo (jP 44 zZp)) zZq (jR 4 zZr 49 5 (jW zVZ zV0 zV1 (jP 126 zV2)) zV3)) zV4)) zV5)) zV6 .ret
abbrev zNi:=jZ 127 [(127,2),(129,6)] 135 0
abbrev xAS:List RSrc:=[.tmp 2]
theorem zZs:j0 zEX yJ8 zNi xAS:=by kernel_rfl
abbrev yEx:=oN [oO 2]
abbrev yEy:=oN [oE 3 0]
abbrev yEz:=oR [oA 7 3,oA 8 0,oI 9 8,oM 10 7 9] [7,8,9]
abbrev yEA:=oN [oE 4 0]
abbrev yEB:=oR [oA 13 4,oA 14 0,oA 15 3,oK 16 2 14 15,oJ 17 16 0 1,oB 18 17 1,oI 19 18,oM 20 13 19] [13,14,15,16,17,18,19]
abbrev yEC:=oN [oE 5 0]
abbrev yED:=oR [oA 23 5,oA 24 0,oA 25 3,oK 26 2 24 25,oJ 27 26 0 1,oB 28 27 1,oA 29 4,oK 30 2 28 29,oJ 31 30 1 1,oB 32 31 1,oI 33 32,oM 34 23 33] [23,24,25,26,27,28,29,30,31,32,33]
abbrev yEE:HCode:=.reg [oA 37 0,oA 38 3,oK 39 2 37 38,oJ 40 39 0 1,oB 41 40 1,oA 42 4,oK 43 2 41 42,oJ 44 43 1 1,oB 45 44 1,oA 46 5,oK 47 6 45 46,oT 48 47 6,o5 6 0 58 0 0 0 2,oL 6 0 58 0 6 48] false [.frz 0 58 6,.forget [37,38,39,40,41,42,43,44,45,46,47,48]]
abbrev yEF:=oR [oJ 49 6 3 2,oT 50 49 2,oo 51 zF1 50,om 52 51 0,oA 53 52,oe 53 54 6 5 1,o7 53 55 54 1,vc 53 56 zFA 55,oS 57 53 56] [49,50,51,52,53,54,55,56]
abbrev yEG:=oN [o9 2]
abbrev zZt:=oR [oA 35 5,oF 36 35 1,oA 5 36] [35,36]
abbrev zZu:=oR [oA 21 4,oF 22 21 1,oA 4 22] [21,22]
abbrev zZv:=oR [oA 11 3,oF 12 11 1,oA 3 12] [11,12]
abbrev zZw:=oN [oO 2]
abbrev yOi:=jW yEx (jU yEy (jR 0 yEz 10 1 (jU yEA (jR 2 yEB 20 3 (jU yEC (jR 4 yED 34 5 (jV yEE yEF (jP 57 yEG)) zZt)) zZu)) zZv)) zZw .ret
abbrev zQB:=jZ 58 [(58,6)] 64 0
abbrev xAT:List RSrc:=[.tmp 2]
theorem yEH:j0 zFA yOi zQB xAT:=by kernel_rfl
abbrev zRn:=oN [oE 2 0]
abbrev zRo:=oR [oA 4 0,oC 5 zEZ [(.t 4,.v),(.c (iv 1),.v)],oA 3 5] [4,5]
abbrev zRp:=oN [oE 2 2]
abbrev zRq:=oR [oA 7 0,oo 8 zEY 7,oA 6 8] [7,8]
abbrev zRr:=oN [oE 2 4]
abbrev zRs:=oR [oA 10 0,oo 11 zEX 10,oA 9 11] [10,11]
abbrev zRt:=oN [oE 2 1]
abbrev zRu:=oR [oA 13 0,oo 14 zFA 13,oA 12 14] [13,14]
abbrev zRv:=oN [oE 2 3]
abbrev zRw:=oN [oE 2 0]
abbrev yEI:=jW zRn (.block 0 (jU zRo (jQ 3 (jU zRp .ret) (jU zRq (jQ 6 (jU zRr .ret) (jU zRs (jQ 9 (jU zRt .ret) (jU zRu (jP 12 zRv))))))))) zRw .ret
abbrev zKm:=jZ 15 [] 15 0
abbrev xAU:List RSrc:=[.tmp 2]
theorem zRx:j0 zFg yEI zKm xAU:=by kernel_rfl
end Go.Hx
end

section
namespace Go.Hx
open Go.Proofs
variable [Glob]
end Go.Hx
end

section
namespace Go.Hx
open Go.Proofs
variable [Glob]
abbrev zB1:=114
abbrev zB2:=222
abbrev zCo:=167
abbrev zCp:=256
abbrev zF2:=oN [oO 4]
abbrev zF3:=oR [oA 5 0,oA 6 1,qC 7 zCo 5 6,vV 8 7 0,oA 4 8] [5,6,7,8]
abbrev zHr:=jV zF2 zF3 .ret
abbrev zDD:=jZ 9 [] 9 0
abbrev xAV:List RSrc:=[.tmp 4]
theorem zF4:j0 zB1 zHr zDD xAV:=by kernel_rfl
abbrev zHs:=oN [oE 4 0]
abbrev zHt:=oR [oA 6 0,oI 7 6,oE 8 0] [6]
abbrev zHu:=oN [oM 9 8 7]
abbrev zHv:=oR [oA 10 8,oA 5 10] [10]
abbrev zHw:=oR [oA 11 1,oA 12 0,oA 13 5,oK 14 2 12 13,oT 15 14 2,qW 16 11 15] [11,12,13,14,15]
abbrev zHx:=oR [oA 17 5,oA 4 17] [17]
abbrev zHy:=oR [oF 18 8 1,oA 8 18] [18]
abbrev zHz:=oN [oE 4 (-1)]
abbrev zKn:=jW zHs (jU zHt (jS 0 zHu 9 1 (jV zHv zHw (jP 16 zHx)) zHy)) zHz .ret
abbrev zEq:=jZ 19 [] 19 0
abbrev xAW:List RSrc:=[.tmp 4]
theorem zHA:j0 zCo zKn zEq xAW:=by kernel_rfl
abbrev zF5:=oN [oO 4]
abbrev zF6:=oR [oA 5 0,oA 6 1,qC 7 zCp 5 6,vV 8 7 0,oA 4 8] [5,6,7,8]
abbrev zHB:=jV zF5 zF6 .ret
abbrev zDE:=jZ 9 [] 9 0
abbrev xAX:List RSrc:=[.tmp 4]
theorem zF7:j0 zB2 zHB zDE xAX:=by kernel_rfl
abbrev zHC:=oN [oE 4 0]
abbrev zHD:=oR [oA 6 0,oI 7 6,oE 8 0] [6]
abbrev zHE:=oN [oM 9 8 7]
abbrev zHF:=oR [oA 10 8,oA 5 10] [10]
abbrev zHG:=oR [oA 11 1,oA 12 0,oA 13 5,oK 14 6 12 13,oT 15 14 6,qW 16 11 15] [11,12,13,14,15]
abbrev zHH:=oR [oA 17 5,oA 4 17] [17]
abbrev zHI:=oR [oF 18 8 1,oA 8 18] [18]
abbrev zHJ:=oN [oE 4 (-1)]
abbrev zKo:=jW zHC (jU zHD (jS 0 zHE 9 1 (jV zHF zHG (jP 16 zHH)) zHI)) zHJ .ret
abbrev zEr:=jZ 19 [] 19 0
abbrev xAY:List RSrc:=[.tmp 4]
theorem zHK:j0 zCp zKo zEr xAY:=by kernel_rfl
end Go.Hx
end

section
namespace Go.Hx
open Go.Proofs
variable [Glob]
abbrev zEs:=149
abbrev zDj:=150
abbrev zI2:=148
abbrev zDR:=205
abbrev zCC:=206
abbrev zDK:=44
abbrev zI3:=103
abbrev zEt:=152
abbrev zBA:=101
abbrev zCW:=41
abbrev zFh:=33
abbrev zCb:=47
abbrev zB7:=97
abbrev zMd:=96
abbrev zDZ:=102
abbrev zCf:=151
abbrev zCD:=123
abbrev zAF:=75
abbrev yJ9:=oN [o4 1 0,vp 2 zAF 3]
abbrev yKa:=oR [oJ 5 1 1 1,oB 6 5 1,vK 7 0 1 0 1 1 1 1 6 2 zAz 1,⟨none,.vbs 8 zAF 3 7⟩,qd 3 8] [5,6,7,8]
abbrev yKb:=oR [oJ 9 1 2 1,oB 10 9 1,vJ 11 10] [9,10]
abbrev yKc:=oR [qd 12 3,oJ 13 1 2 1,oB 14 13 1,vK 15 0 1 0 1 2 1 1 14 2 zAz 1,⟨none,.vbs 16 zAF 3 15⟩,qx 17 zAF 3 12 16,qd 3 17] [12,13,14,15,16,17]
abbrev yKd:=oN [oE 4 0]
abbrev yKe:=oR [oA 18 4,oJ 19 1 3 1,oB 20 19 1,oI 21 20,oM 22 18 21] [18,19,20,21]
abbrev yKf:=oR [qd 25 3,oJ 26 1 3 1,oB 27 26 1,oA 28 4,oK 29 1 27 28,oB 30 29 1,vK 31 0 1 0 1 3 1 1 30 2 zAz 1,⟨none,.vbs 32 zAF 3 31⟩,qx 33 zAF 3 25 32,qd 3 33] [25,26,27,28,29,30,31,32,33]
abbrev yKg:=oR [oA 23 4,oF 24 23 1,oA 4 24] [23,24]
abbrev yKh:=oR [qd 34 3,qd 2 34] [34]
abbrev yRz:=jX yJ9 yKa (jU yKb (jQ 11 yKc .skip)) (jU yKd (jR 0 yKe 22 1 yKf yKg)) (jU yKh .ret)
abbrev yBD:=jZ 35 [] 35 0
abbrev xAZ:List RSrc:=[.tmp 2]
theorem yKi:j0 zMd yRz yBD xAZ:=by kernel_rfl
abbrev zRy:=oN [o4 2 0,o4 3 1,oO 4]
abbrev zRz:=oR [oJ 5 2 0 1,oB 6 5 1,oJ 7 3 0 1,oB 8 7 1,qL 9 6 8] [5,6,7,8]
abbrev zRA:=oR [oJ 10 2 0 1,oB 11 10 1,oJ 12 3 0 1,oB 13 12 1,oV 14 (.ints .gtr (.t 11) (.t 13)),oA 4 14] [10,11,12,13,14]
abbrev zRB:=oR [oJ 15 2 1 1,oB 16 15 1,oJ 17 3 1 1,oB 18 17 1,oV 19 (.strs .gtr (.t 16) (.t 18)),oA 4 19] [15,16,17,18,19]
abbrev yEJ:=jW zRy (jU zRz (jP 9 zRA)) zRB .ret
abbrev zKp:=jZ 20 [] 20 0
abbrev xA0:List RSrc:=[.tmp 4]
theorem zRC:j0 zB7 yEJ zKp xA0:=by kernel_rfl
abbrev yEK:=oN [oE 2 0]
abbrev yEL:=oN [oE 3 0]
abbrev yEM:=oN [oA 6 0,oI 7 6,oE 8 0]
abbrev yEN:=oN [oM 9 8 7]
abbrev yEO:=oR [oK 10 1 6 8,oB 11 10 1,oA 5 11] [10,11]
abbrev yEP:=oR [oA 12 5,oA 13 3,qL 14 12 13] [12,13]
abbrev yEQ:=oR [oA 15 5,oA 2 15] [15]
abbrev yER:=oR [oF 16 8 1,oA 8 16] [16]
abbrev yES:=oR [oA 17 3,oA 2 17] [17]
abbrev yOj:=jX yEK yEL (jU yEM (jS 0 yEN 9 1 (jV yEO yEP (jP 14 yEQ)) yER)) yES .ret
abbrev zQC:=jZ 18 [] 18 0
abbrev xA1:List RSrc:=[.tmp 2]
theorem yET:j0 zI2 yOj zQC xA1:=by kernel_rfl
abbrev zNj:=oN [oE 4 0]
abbrev zNk:=oR [oA 7 0,oo 8 zDR 7,oA 5 8] [7,8]
abbrev zNl:=oR [oA 9 1,oo 10 zDR 9,oA 6 10] [9,10]
abbrev zNm:=oN [oA 11 5]
abbrev zNn:=oN [oA 12 6]
abbrev zNo:=oN [oE 4 0]
abbrev zNp:=oN [oE 4 (-1)]
abbrev zNq:=oN [oA 13 6]
abbrev zNr:=oN [oE 4 1]
abbrev zNs:=oR [oA 14 0,oA 15 1,oM 16 14 15] [14,15]
abbrev zMe:=oN [oE 4 (-1)]
abbrev zMf:=oR [oA 17 0,oA 18 1,oV 19 (.ints .gtr (.t 17) (.t 18))] [17,18]
abbrev zMg:=oN [oE 4 1]
abbrev zMh:=oN [oE 4 0]
abbrev zV7:=jX zNj zNk zNl (jU zNm (jQ 11 (jV (jU zNn (jP 12 zNo)) zNp .ret) .skip)) (jX (jU zNq (jP 13 zNr)) (jU zNs (jP 16 zMe)) (jU zMf (jP 19 zMg)) zMh .ret)
abbrev zHL:=jZ 20 [] 20 0
abbrev xA2:List RSrc:=[.tmp 4]
theorem zNt:j0 zEs zV7 zHL xA2:=by kernel_rfl
abbrev zRD:=oN [oO 2]
abbrev zRE:=oR [oA 3 0,oA 4 0,qL 5 3 4,oA 2 5] [3,4,5]
abbrev yEU:=jV zRD zRE .ret
abbrev zKq:=jZ 6 [] 6 0
abbrev xA3:List RSrc:=[.tmp 2]
theorem zRF:j0 zDR yEU zKq xA3:=by kernel_rfl
abbrev zKr:=oN [oE 4 0]
abbrev zKs:=oR [oA 7 0,oo 8 zCC 7,oA 5 8] [7,8]
abbrev zKt:=oR [oA 9 1,oo 10 zCC 9,oA 6 10] [9,10]
abbrev zKu:=oN [oA 11 5]
abbrev zKv:=oN [oA 12 6]
abbrev zKw:=oN [oE 4 0]
abbrev zKx:=oN [oE 4 (-1)]
abbrev zKy:=oN [oA 13 6]
abbrev zKz:=oN [oE 4 1]
abbrev zKA:=oR [oA 14 0,oA 15 1,oV 16 (.strs .lss (.t 14) (.t 15))] [14,15]
abbrev zJD:=oN [oE 4 (-1)]
abbrev zJE:=oR [oA 17 0,oA 18 1,oV 19 (.strs .gtr (.t 17) (.t 18))] [17,18]
abbrev zJF:=oN [oE 4 1]
abbrev zJG:=oN [oE 4 0]
abbrev zNu:=jX zKr zKs zKt (jU zKu (jQ 11 (jV (jU zKv (jP 12 zKw)) zKx .ret) .skip)) (jX (jU zKy (jP 13 zKz)) (jU zKA (jP 16 zJD)) (jU zJE (jP 19 zJF)) zJG .ret)
abbrev zFq:=jZ 20 [] 20 0
abbrev xA4:List RSrc:=[.tmp 4]
theorem zKB:j0 zDj zNu zFq xA4:=by kernel_rfl
abbrev zMi:=oN [oO 2]
abbrev zMj:=oR [oA 3 0,oA 4 0,oV 5 (.strs .neq (.t 3) (.t 4)),oA 2 5] [3,4,5]
abbrev zRG:=jV zMi zMj .ret
abbrev zGx:=jZ 6 [] 6 0
abbrev xA5:List RSrc:=[.tmp 2]
theorem zMk:j0 zCC zRG zGx xA5:=by kernel_rfl
abbrev zZx:=oN [o4 2 0,o4 3 1,oE 4 0]
abbrev zZy:=oQ [o8 0 5 2 0 1,oX 1 6 5 1,o8 2 7 3 0 1,oX 3 8 7 1,vD 4 9 zEs 6 8,o8 5 10 2 1 1,oX 6 11 10 1,o8 7 12 3 1 1,oX 8 13 12 1,qO 9 14 zDj 11 13,oD 10 false (oV 15 (.bslF 1 [.t 9,.t 14])),qb 11 16 zI2 15,oH 12 4 16] [5,6,7,8,9,10,11,12,13,14,15,16]
abbrev yKj:=jV zZx zZy .ret
abbrev zNv:=jZ 17 [] 17 0
abbrev xA6:List RSrc:=[.tmp 4]
theorem zZz:j0 zBA yKj zNv xA6:=by kernel_rfl
abbrev zMl:=oN [qV 2 zAz 1]
abbrev zMm:=oR [oA 3 0,jF 4 3] [3]
abbrev zMn:=oN [qV 2 zAz 1]
abbrev zMo:=oR [va 5 zAz 1,oA 6 0,oy 7 zAz 1 5 6,ou 2 7] [5,6,7]
abbrev zRH:=jW zMl (jU zMm (jP 4 zMn)) zMo .ret
abbrev zGy:=jZ 8 [] 8 0
abbrev xA7:List RSrc:=[.tmp 2]
theorem zMp:j0 zDZ zRH zGy xA7:=by kernel_rfl
abbrev zMq:=oN [oO 4]
abbrev zMr:=oR [oA 6 0,oI 7 6,oA 8 1,oI 9 8,qL 10 7 9] [6,7,8,9]
abbrev zMs:=oN [oO 4]
abbrev zMt:=oR [oA 11 0,oI 12 11,oE 13 0] [11]
abbrev zMu:=oN [oM 14 13 12]
abbrev zMv:=oR [oA 15 13,oA 5 15] [15]
abbrev zMw:=oQ [oH 0 16 0,oH 1 17 5,o3 2 18 1 16 17,oX 3 19 18 1,oH 4 20 1,oH 5 21 5,o3 6 22 1 20 21,oX 7 23 22 1,vh 8 24 19 23] [16,17,18,19,20,21,22,23]
abbrev zMx:=oN [oO 4]
abbrev zMy:=oR [oF 25 13 1,oA 13 25] [25]
abbrev zMz:=oN [o9 4]
abbrev zRI:=jX zMq (jU zMr (jP 10 zMs)) (jU zMt (jS 0 zMu 14 1 (jV zMv zMw (jP 24 zMx)) zMy)) zMz .ret
abbrev zGz:=jZ 26 [] 26 0
abbrev xA8:List RSrc:=[.tmp 4]
theorem zMA:j0 zCD zRI zGz xA8:=by kernel_rfl
abbrev zV8:=oN [o4 2 0,o4 3 1,oO 4]
abbrev zV9:=oR [oT 5 2 3,oT 6 3 3,qC 7 zBA 5 6,ol 8 7 0,oA 9 8,oY 9 10 2 2 1,oU 9 11 10 1,oY 9 12 3 2 1,oU 9 13 12 1,qQ 9 14 zCD 11 13,oP 15 9 14,oA 4 15] [5,6,7,8,9,10,11,12,13,14,15]
abbrev yHP:=jV zV8 zV9 .ret
abbrev zLG:=jZ 16 [] 16 0
abbrev xA9:List RSrc:=[.tmp 4]
theorem zWa:j0 zEt yHP zLG xA9:=by kernel_rfl
abbrev zGJ:=oN [oO 6]
abbrev zGK:=oR [oA 10 0,oI 11 10,oA 12 1,oI 13 12,qL 14 11 13] [10,11,12,13]
abbrev zGL:=oN [oO 6]
abbrev zGM:=oN [oA 15 0,oI 16 15,oE 17 0]
abbrev zGN:=oN [oM 18 17 16]
abbrev zGO:=oR [oA 19 17,oK 20 3 15 17,oT 21 20 3,⟨none,.alloc 8 0 32 [.v (.int .i64 0),.v (mkS []),.nl 1]⟩,oA 7 19,oL 8 0 32 0 3 21] [19,20,21]
abbrev zGP:=oR [oA 22 1,oA 23 7,oK 24 3 22 23,oT 25 24 3,⟨none,.alloc 9 1 35 [.v (.int .i64 0),.v (mkS []),.nl 1]⟩,oL 9 1 35 0 3 25] [22,23,24,25]
abbrev zGQ:=oR [oA 26 2,oq 27 8 0 32 0 3,oq 28 9 1 35 0 3,q9 29 26 27 28,qJ 30 29] [26,27,28,29]
abbrev zGR:=oN [oO 6]
abbrev zGS:=oR [oF 31 17 1,oA 17 31] [31]
abbrev zGe:=oN [o9 6]
abbrev zJH:=jX zGJ (jU zGK (jP 14 zGL)) (jU zGM (jS 0 zGN 18 1 (jW zGO zGP zGQ (jP 30 zGR)) zGS)) zGe .ret
abbrev zD6:=jZ 32 [(32,3),(35,3)] 38 0
abbrev xBa:List RSrc:=[.tmp 6]
theorem zGT:j0 zCf zJH zD6 xBa:=by kernel_rfl
abbrev yEV:=oN [o4 1 0,oE 2 0]
abbrev yEW:=oR [oJ 6 1 0 1,oT 7 6 1,oo 8 zDK 7,oA 5 8,qD 9 5 0,qD 10 5 1,oA 3 9,oA 4 10] [5,6,7,8,9,10]
abbrev yEX:=oR [oA 11 4,om 12 11 0] [11]
abbrev yEY:=oR [oA 13 4,oA 2 13] [13]
abbrev yEZ:=oR [oA 14 3,oJ 15 1 1 1,oB 16 15 1,oC 17 zCf [(.t 14,.v),(.t 16,.v),(.f zEt,.v)],qJ 18 17] [14,15,16,17]
abbrev yE0:=oN [oE 2 1]
abbrev yE1:=oN [oE 2 0]
abbrev yOk:=jX yEV yEW (jU yEX (jP 12 yEY)) (jU yEZ (jP 18 yE0)) (jU yE1 .ret)
abbrev zQD:=jZ 19 [] 19 0
abbrev xBb:List RSrc:=[.tmp 2]
theorem yE2:j0 zI3 yOk zQD xBb:=by kernel_rfl
abbrev zNw:=oN [oO 4]
abbrev zNx:=oR [oA 6 0,oI 7 6,oA 8 1,oI 9 8,qL 10 7 9] [6,7,8,9]
abbrev zNy:=oN [oO 4]
abbrev zNz:=oN [oE 5 0]
abbrev zNA:=oR [oA 11 5,oA 12 0,oI 13 12,oM 14 11 13] [11,12,13]
abbrev zNB:=oQ [oH 0 17 0,oH 1 18 5,o3 2 19 3 17 18,o8 3 20 19 0 1,oX 4 21 20 1,oH 5 22 1,oH 6 23 5,o3 7 24 3 22 23,o8 8 25 24 0 1,oX 9 26 25 1,vh 10 27 21 26,oH 11 28 27,od 12 28 29 0,od 13 28 30 5,qI 14 28 31 3 29 30,qk 15 28 32 31 1 1,q8 16 28 33 32 1,od 17 28 34 1,od 18 28 35 5,qI 19 28 36 3 34 35,qk 20 28 37 36 1 1,q8 21 28 38 37 1,oD 22 false (oG 28 false 39 (.strs .neq (.t 33) (.t 38))),qM 23 40 28 39,oH 24 41 40,od 25 41 42 0,od 26 41 43 5,qI 27 41 44 3 42 43,qk 28 41 45 44 2 1,q8 29 41 46 45 1,od 30 41 47 1,od 31 41 48 5,qI 32 41 49 3 47 48,qk 33 41 50 49 2 1,q8 34 41 51 50 1,qv 35 41 52 zEm 46 51,oD 36 false (oG 41 false 53 (.not (.t 52))),qM 37 54 41 53] [17,18,19,20,21,22,23,24,25,26,27,28,29,30,31,32,33,34,35,36,37,38,39,40,41,42,43,44,45,46,47,48,49,50,51,52,53]
abbrev zNC:=oN [oO 4]
abbrev zND:=oR [oA 15 5,oF 16 15 1,oA 5 16] [15,16]
abbrev zNE:=oN [o9 4]
abbrev zWb:=jX zNw (jU zNx (jP 10 zNy)) (jU zNz (jR 0 zNA 14 1 (jU zNB (jP 54 zNC)) zND)) zNE .ret
abbrev zHM:=jZ 55 [] 55 0
abbrev xBc:List RSrc:=[.tmp 4]
theorem zNF:j0 zCb zWb zHM xBc:=by kernel_rfl
abbrev zRJ:=oN [o4 1 0,oE 2 0]
abbrev zRK:=oR [oJ 4 1 0 1,oT 5 4 1,oo 6 zDe 5,oA 3 6] [4,5,6]
abbrev zRL:=oR [oA 7 3,om 8 7 0] [7]
abbrev zRM:=oR [oA 9 3,oA 2 9] [9]
abbrev zRN:=oQ [o8 0 10 1 1 1,oX 1 11 10 1,o8 2 12 1 0 1,oa 3 13 12 1,qb 4 14 zCW 13,qO 5 15 zCb 11 14,qw 6 16 15] [10,11,12,13,14,15]
abbrev zRO:=oN [oE 2 1]
abbrev zRP:=oN [oE 2 0]
abbrev yE3:=jX zRJ (jV zRK zRL (jP 8 zRM)) (jU zRN (jP 16 zRO)) zRP .ret
abbrev zKC:=jZ 17 [] 17 0
abbrev xBd:List RSrc:=[.tmp 2]
theorem zRQ:j0 zFh yE3 zKC xBd:=by kernel_rfl
end Go.Hx
end

section
namespace Go.Hx
open Go.Proofs
variable [Glob]
attribute [local go_sem] zAh zAj zAg zAd ndV zAm
attribute [local go_sem] reduceCtorEq Nat.reduceAdd Nat.reduceEqDiff reduceIte Nat.reduceLeDiff Nat.reduceLT Nat.reduceSub
theorem zBC (n lo hi:Int):Contract Tryz.prog zAS [.val (iv n),.val (iv lo),.val (iv hi)] {res:=.val (bv (decide (lo≤n∧n≤hi)))}:=by
 refine mkA zMW (base:=0) (fo rfl) (fun hfit=>?_)
 unfold F0 zJU
 refine goU ?_
 refine zAb rfl trivial (.inl ?_)
 congr 3
 by_cases h1:lo≤n<;>by_cases h2:n≤hi<;>simp [h1,h2]
theorem zD7 (s:Bys):Contract Tryz.prog zB8 [.val (sv s)] {res:=.val (bv (zCg s))}:=by
 refine mkA yCY (base:=0) (fo rfl) (fun hfit=>?_)
 unfold F0 zQn
 refine goU ?_
 refine zAe (by repeat' constructor) (zBC _ _ _) ?_
 refine goW ?_
 refine zAa (by rfl) trivial (fun h=>?_) (fun h=>?_)
 ·refine goW ?_
  refine zAb rfl trivial (.inl ?_)
  congr 3
  cases hn:zCg s with
  |false=>rfl
  |true=>exfalso;simp [zCg] at hn h;omega
 have hl:s.length≤12:=by simp at h;omega
 refine goW ?_
 refine zAc (fun i:Nat=>[(3,.pv (iv i)),(4,.un),(22,.un),(46,.un)]) (fun i=>s.length-i) (fun i=>i≤s.length∧(s.take i).all zQj=true) 0 ?_ ⟨Nat.zero_le _,rfl⟩ ?_
 ·simp (maxSteps:=2000000) only [go_sem,zAu,zAE,zA9,zAv]
 intro i ⟨hi,hall⟩
 refine goW ?_
 refine zAa (by rfl) trivial (fun h2=>?_) (fun h2=>?_)
 ·have hlt:i < s.length:=by simpa using h2
  refine goW ?_
  refine zAa (by rfl) trivial (fun h3=>?_) (fun h3=>?_)
  ·refine goW ?_
   refine zAb rfl trivial (.inl ?_)
   congr 3
   cases hn:zCg s with
   |false=>rfl
   |true=>
    exfalso
    simp only [zCg,Bool.and_eq_true,List.all_eq_true] at hn
    have h4:=hn.2 (s.getD i 0) (by simp [hlt])
    simp [zQj,hlt] at h3 h4
    omega
  ·refine goW ?_
   refine ⟨i+1,by omega,⟨hlt,?_⟩,?_⟩
   ·rw [zMT hlt (d:=0),hall]
    simp [zQj,hlt] at h3 ⊢
    omega
   ·simp (maxSteps:=2000000) only [go_sem,zAu,zAE,zA9,zAv]
    exact zAI (by omega)
 ·refine goW ?_
  refine zAb rfl trivial (.inl ?_)
  congr 3
  have hi2:i=s.length:=by simp at h2;omega
  subst hi2
  simp [zCg] at hall h ⊢
  exact ⟨by omega,hall⟩
theorem zNG (s:Bys):Contract Tryz.prog zEW [.val (sv s)] {res:=.val (bv (zFd s))}:=by
 refine mkA zYC (base:=0) (fo rfl) (fun hfit=>?_)
 unfold F0 zMX
 refine goU ?_
 refine zAa (by rfl) trivial (fun h=>?_) (fun h=>?_)
 ·refine goW ?_
  refine zAb rfl trivial (.inl ?_)
  simp [zFd] at h ⊢
  intro h';omega
 have hl:s.length≤16:=by simp at h;omega
 refine goW ?_
 refine zAc (fun i:Nat=>[(3,.pv (iv i)),(10,.un),(28,.un)]) (fun i=>s.length-i) (fun i=>i≤s.length∧(s.take i).all yNs=true) 0 ?_ ⟨Nat.zero_le _,rfl⟩ ?_
 ·simp (maxSteps:=2000000) only [go_sem,zAu,zAE,zA9,zAv]
 intro i ⟨hi,hall⟩
 refine goW ?_
 refine zAa (by rfl) trivial (fun h=>?_) (fun h=>?_)
 ·have hlt:i < s.length:=by simpa using h
  refine goW ?_
  refine zAa (by rfl) trivial (fun h2=>?_) (fun h2=>?_)
  ·refine goW ?_
   refine zAb rfl trivial (.inl ?_)
   congr 3
   cases hn:zFd s with
   |false=>rfl
   |true=>
    exfalso
    simp only [zFd,Bool.and_eq_true,List.all_eq_true] at hn
    have h4:=hn.2 (s.getD i 0) (by simp [hlt])
    simp [yNs,hlt] at h2 h4
    omega
  ·refine goW ?_
   refine ⟨i+1,by omega,⟨hlt,?_⟩,?_⟩
   ·rw [zMT hlt (d:=0),hall]
    simp [yNs,hlt] at h2 ⊢
    omega
   ·simp (maxSteps:=2000000) only [go_sem,zAu,zAE,zA9,zAv]
    exact zAI (by omega)
 ·refine goW ?_
  refine zAb rfl trivial (.inl ?_)
  have hi2:i=s.length:=by simp at h;omega
  subst hi2
  simp [zFd,hl] at hall ⊢
  exact hall
end Go.Hx
end

section
set_option maxRecDepth 100000
namespace Go.Hx
open Go.Proofs
variable [Glob]
attribute [local go_sem] zAh zAj zAg zAd ndV zAm
attribute [local go_sem] reduceCtorEq Nat.reduceAdd Nat.reduceEqDiff reduceIte Nat.reduceLeDiff Nat.reduceLT Nat.reduceSub
theorem zLH (a b:List Int):Contract Tryz.prog zEm [.val (.one (.sl 1 (zAM a))),.val (.one (.sl 1 (zAM b)))] {res:=.val (bv (decide (a=b)))}:=by
 refine mkA zU2 (base:=0) (fo rfl) (fun hfit=>?_)
 unfold F0 zLA
 refine goU ?_
 have hm:=zC2 (k:=1) hfit.1
 rw [zAd] at hm
 refine zAa (by rfl) trivial (fun h=>?_) (fun h=>?_)
 ·refine goW ?_
  refine zAb rfl trivial (.inl ?_)
  congr 3
  simp [zAd] at h
  exact decide_eq_false (fun e=>h (by subst e;rfl))
 have hl:a.length=b.length:=by simp [zAd] at h;omega
 refine goW ?_
 refine zAc (fun i:Nat=>[(5,.pv (iv i)),(14,.un),(25,.un)]) (fun i=>a.length-i) (fun i=>i≤a.length∧a.take i=b.take i) 0 ?_ ⟨Nat.zero_le _,rfl⟩ ?_
 ·simp (maxSteps:=2000000) only [go_sem,zAu,zAE,zA9,zAv]
 intro i ⟨hi,heq⟩
 try simp (maxSteps:=2000000) only [go_sem,zAd]
 repeat with_reducible refine zAt ?_
 refine zAa (by rfl) trivial (fun h2=>?_) (fun h2=>?_)
 ·have hlt:i < a.length:=by simpa using h2
  have hltb:i < b.length:=by omega
  try simp (maxSteps:=2000000) only [go_sem,zDc _ _ hlt,zDc _ _ hltb,zAd]
  repeat with_reducible refine zAt ?_
  refine zAa (by rfl) trivial (fun h3=>?_) (fun h3=>?_)
  ·refine goW ?_
   refine zAb rfl trivial (.inl ?_)
   congr 3
   simp only [bne_iff_ne,ne_eq] at h3
   exact (decide_eq_false (zOH 0 h3))
  ·refine goW ?_
   refine ⟨i+1,by omega,⟨hlt,zGs 0 heq hlt hltb ?_⟩,?_⟩
   ·simpa only [bne_eq_false_iff_eq] using h3
   ·simp (maxSteps:=2000000) only [go_sem,zAu,zAE,zA9,zAv]
    exact zAI (by omega)
 ·refine goW ?_
  refine zAb rfl trivial (.inl ?_)
  congr 3
  have hi2:i=a.length:=by simp at h2;omega
  subst hi2
  exact decide_eq_true (zK8 hl heq)
end Go.Hx
end

section
set_option maxRecDepth 100000
namespace Go.Hx
open Go.Proofs
variable [Glob]
attribute [local go_sem] zAh zAj zAg zAd ndV zAm
attribute [local go_sem] reduceCtorEq Nat.reduceAdd Nat.reduceEqDiff reduceIte Nat.reduceLeDiff Nat.reduceLT Nat.reduceSub
theorem zZA (x:Nd):Contract Tryz.prog zFU [.val (.agg (ndV x))] {res:=.val (bv (zBo x))}:=by
 unfold ndV
 refine mkA zUH (base:=0) (fo rfl) (fun hfit=>?_)
 unfold F0 zLy
 refine goU ?_
 refine zAe (by repeat' constructor) (zD7 _) ?_
 refine goW ?_
 apply zAo (h2:=fun _=>zD7 _)
 ·(simp (maxSteps:=2000000) only [go_sem];rfl)
 ·intro h;repeat' (first|exact trivial|exact h|refine And.intro ?_ ?_)
 try simp (maxSteps:=2000000) only [go_sem,zAj,zAg]
 repeat with_reducible refine zAt ?_
 refine zAa (by rfl) trivial (fun h=>?_) (fun h=>?_)
 ·refine goW ?_
  refine zAb rfl trivial (.inl ?_)
  congr 3
  cases hn:zBo x with
  |false=>rfl
  |true=>
   exfalso
   simp only [zBo,Bool.and_eq_true,Bool.or_eq_true,decide_eq_true_eq,beq_iff_eq] at hn
   obtain ⟨⟨⟨⟨⟨h1,h2⟩,h3⟩,h4⟩,_⟩,_⟩:=hn
   rcases h2 with h2|h2
   ·simp [h1,h2] at h;omega
   ·simp [h1,h2] at h;omega
 have hh:zCg x.tag=true∧(x.id=[]∨zCg x.id=true)∧x.cls.length≤6∧x.att.length≤4:=by
  simp at h
  refine ⟨h.1.1.1,?_,by omega,by omega⟩
  by_cases h0:x.id=[]
  ·exact .inl h0
  ·exact .inr (h.1.1.2 h0)
 obtain ⟨hh1,hh2,hh3,hh4⟩:=hh
 refine goW ?_
 refine zAc (fun i:Nat=>[(3,.pv (iv i)),(36,.un),(63,.un)]) (fun i=>x.cls.length-i) (fun i=>i≤x.cls.length∧okC x.cls i=true) 0 ?_ ⟨Nat.zero_le _,rfl⟩ ?_
 ·simp (maxSteps:=2000000) only [go_sem,zAu,zAE,zA9,zAv]
 intro i ⟨hi,hok⟩
 try simp (maxSteps:=2000000) only [go_sem,zAj]
 repeat with_reducible refine zAt ?_
 refine zAa (by rfl) trivial (fun h2=>?_) (fun h2=>?_)
 ·have hlt:i < x.cls.length:=by simpa using h2
  have e1:((i:Int)-1).toNat=i-1:=by omega
  try simp (maxSteps:=2000000) only [go_sem,zGq _ _ hlt,zAj]
  repeat with_reducible refine zAt ?_
  refine zAe (by repeat' constructor) (zD7 _) ?_
  try simp (maxSteps:=2000000) only [go_sem,zGq _ _ hlt,zAj,e1,zGq _ _ (show i-1 < x.cls.length by omega)]
  repeat with_reducible refine zAt ?_
  refine zAa (by rfl) trivial (fun h3=>?_) (fun h3=>?_)
  ·refine goW ?_
   refine zAb rfl trivial (.inl ?_)
   congr 3
   cases hn:zBo x with
   |false=>rfl
   |true=>
    exfalso
    simp only [zBo,Bool.and_eq_true] at hn
    have h4:=zBi hn.1.2 hlt
    simp [cOk,hlt] at h3 h4
    grind
  ·refine goW ?_
   refine ⟨i+1,by omega,⟨hlt,?_⟩,?_⟩
   ·show (List.range (i+1)).all (cOk x.cls)=true
    rw [zDH]
    have hok':(List.range i).all (cOk x.cls)=true:=hok
    rw [hok']
    simp [cOk,hlt] at h3 ⊢
    refine ⟨h3.1,?_⟩
    rcases Nat.eq_zero_or_pos i with h5|h5
    ·exact .inl h5
    ·exact .inr (h3.2 h5)
   ·simp (maxSteps:=2000000) only [go_sem,zAu,zAE,zA9,zAv]
    exact zAI (by omega)
 refine goW ?_
 have hi2:i=x.cls.length:=by simp at h2;omega
 refine zAc (fun i:Nat=>[(4,.pv (iv i)),(68,.un),(108,.un)]) (fun i=>x.att.length-i) (fun i=>i≤x.att.length∧okA x.att i=true) 0 ?_ ⟨Nat.zero_le _,rfl⟩ ?_
 ·simp (maxSteps:=2000000) only [go_sem,zAu,zAE,zA9,zAv]
 intro k ⟨hk,hokA⟩
 try simp (maxSteps:=2000000) only [go_sem,zAg]
 repeat with_reducible refine zAt ?_
 refine zAa (by rfl) trivial (fun h3=>?_) (fun h3=>?_)
 ·have hlt:k < x.att.length:=by simpa using h3
  have e1:((k:Int)-1).toNat=k-1:=by omega
  try simp (maxSteps:=2000000) only [go_sem,zGr _ _ hlt,zAg]
  repeat with_reducible refine zAt ?_
  refine zAe (by repeat' constructor) (zD7 _) ?_
  try simp (maxSteps:=2000000) only [go_sem,zGr _ _ hlt,zAg]
  repeat with_reducible refine zAt ?_
  apply zAo (h2:=fun _=>zNG _)
  ·(simp (maxSteps:=2000000) only [go_sem];rfl)
  ·intro h;repeat' (first|exact trivial|exact h|refine And.intro ?_ ?_)
  try simp (maxSteps:=2000000) only [go_sem,zGr _ _ hlt,zAg,e1,zGr _ _ (show k-1 < x.att.length by omega)]
  repeat with_reducible refine zAt ?_
  refine zAa (by rfl) trivial (fun h4=>?_) (fun h4=>?_)
  ·refine goW ?_
   refine zAb rfl trivial (.inl ?_)
   congr 3
   cases hn:zBo x with
   |false=>rfl
   |true=>
    exfalso
    simp only [zBo,Bool.and_eq_true] at hn
    have h5:=zBi hn.2 hlt
    simp [aOk,hlt] at h4 h5
    grind
  ·refine goW ?_
   refine ⟨k+1,by omega,⟨hlt,?_⟩,?_⟩
   ·show (List.range (k+1)).all (aOk x.att)=true
    rw [zDH]
    have hok':(List.range k).all (aOk x.att)=true:=hokA
    rw [hok']
    simp [aOk,hlt] at h4 ⊢
    refine ⟨h4.1,?_⟩
    rcases Nat.eq_zero_or_pos k with h5|h5
    ·exact .inl h5
    ·exact .inr (h4.2 h5)
   ·simp (maxSteps:=2000000) only [go_sem,zAu,zAE,zA9,zAv]
    exact zAI (by omega)
 ·refine goW ?_
  refine zAb rfl trivial (.inl ?_)
  congr 3
  have hk2:k=x.att.length:=by simp at h3;omega
  subst hk2 hi2
  simp only [zBo,hh1,hok,hokA,hh3,hh4,decide_true,Bool.and_true,Bool.true_and]
  rcases hh2 with h|h<;>simp [h]
theorem zI4 (x:Nd) (h1:x.cls.length≤64) (h2:x.att.length≤64):Contract Tryz.prog zDJ [.val (.agg (ndV x))] {res:=.val (.agg (ndV x))}:=by
 unfold ndV
 refine mkA zYH (base:=0) (fo rfl) (fun hfit=>?_)
 unfold F0 zMY
 refine goU ?_
 try simp (maxSteps:=2000000) only [go_sem,zAj,zAg]
 repeat with_reducible refine zAt ?_
 exact zCH rfl rfl rfl
end Go.Hx
end

section
set_option maxRecDepth 100000
set_option maxHeartbeats 4000000
namespace Go.Hx
open Go.Proofs
variable [Glob]
attribute [local go_sem] zAh zAj zAg zAd ndV zAm zAn
attribute [local go_sem] reduceCtorEq Nat.reduceAdd Nat.reduceEqDiff reduceIte Nat.reduceLeDiff Nat.reduceLT Nat.reduceSub
def entV (e:Ent):List PV:=[bI e.kind,bS e.name,.sl 1 (zAM e.nodes)]
def zEf (l:List Ent):List (List PV):=l.map entV
theorem zCq (l:List Ent):(zEf l).length=l.length:=by simp [zEf]
theorem zNH (l:List Ent) (i:Nat) (h:i < l.length):(zEf l).getD i []=entV (l.getD i default):=by simp [zEf,h]
theorem yPL (a:Int):Contract Tryz.prog zDR [.val (iv a)] {res:=.val (bv false)}:=by
 refine mkA zRF (base:=0) (fo rfl) (fun hfit=>?_)
 unfold F0 zKq
 refine goU ?_
 have e:(a != a)=false:=by simp
 try simp (maxSteps:=2000000) only [go_sem,e]
 repeat with_reducible refine zAt ?_
 exact zAb rfl trivial (.inl rfl)
theorem yHQ (a:Bys):Contract Tryz.prog zCC [.val (sv a)] {res:=.val (bv false)}:=by
 refine mkA zMk (base:=0) (fo rfl) (fun hfit=>?_)
 unfold F0 zGx
 refine goU ?_
 have e:(a==a)=true:=by simp
 try simp (maxSteps:=2000000) only [go_sem,e,Bool.not_true]
 repeat with_reducible refine zAt ?_
 exact zAb rfl trivial (.inl rfl)
def yRA (a b:Int):Int:=if a < b then -1 else if a > b then 1 else 0
theorem yPM (a b:Int):Contract Tryz.prog zEs [.val (iv a),.val (iv b)] {res:=.val (iv (yRA a b))}:=by
 unfold yRA
 refine mkA zNt (base:=0) (fo rfl) (fun hfit=>?_)
 unfold F0 zHL
 refine goU ?_
 refine zAe (by repeat' constructor) (yPL a) ?_
 refine goW ?_
 refine zAe (by repeat' constructor) (yPL b) ?_
 refine goW ?_
 refine zAa (by rfl) trivial (fun h1=>?_) (fun h1=>?_)
 ·cases h1
 ·refine goW ?_
  refine zAa (by rfl) trivial (fun h2=>?_) (fun h2=>?_)
  ·cases h2
  ·refine goW ?_
   refine zAa (by rfl) trivial (fun h3=>?_) (fun h3=>?_)
   ·rw [if_pos (by simpa using h3)]
    refine goW ?_
    exact zAb rfl trivial (.inl rfl)
   ·rw [if_neg (by simpa using h3)]
    refine goW ?_
    refine zAa (by rfl) trivial (fun h4=>?_) (fun h4=>?_)
    ·rw [if_pos (by simpa using h4)]
     refine goW ?_
     exact zAb rfl trivial (.inl rfl)
    ·rw [if_neg (by simpa using h4)]
     refine goW ?_
     exact zAb rfl trivial (.inl rfl)
def yVl (a b:Bys):Int:=if Op.bytesLess a b then -1 else if a=b then 0 else 1
theorem yKk (a b:Bys):Contract Tryz.prog zDj [.val (sv a),.val (sv b)] {res:=.val (iv (yVl a b))}:=by
 unfold yVl
 refine mkA zKB (base:=0) (fo rfl) (fun hfit=>?_)
 unfold F0 zFq
 refine goU ?_
 refine zAe (by repeat' constructor) (yHQ a) ?_
 refine goW ?_
 refine zAe (by repeat' constructor) (yHQ b) ?_
 refine goW ?_
 refine zAa (by rfl) trivial (fun h1=>?_) (fun h1=>?_)
 ·cases h1
 ·refine goW ?_
  refine zAa (by rfl) trivial (fun h2=>?_) (fun h2=>?_)
  ·cases h2
  ·refine goW ?_
   refine zAa (by rfl) trivial (fun h3=>?_) (fun h3=>?_)
   ·rw [if_pos h3]
    refine goW ?_
    exact zAb rfl trivial (.inl rfl)
   ·rw [if_neg (by rw [h3];decide)]
    refine goW ?_
    refine zAa (by rfl) trivial (fun h4=>?_) (fun h4=>?_)
    ·rw [if_neg (by rintro rfl;simp at h4)]
     refine goW ?_
     exact zAb rfl trivial (.inl rfl)
    ·rw [if_pos (by simp [h3] at h4;exact h4)]
     refine goW ?_
     exact zAb rfl trivial (.inl rfl)
theorem yYL (x y:Int):Contract Tryz.prog zI2 [.val (.one (.sl 1 [[bI x],[bI y]]))] {res:=.val (iv (if x≠0 then x else y))}:=by
 refine mkA yET (base:=0) (fo rfl) (fun hfit=>?_)
 unfold F0 zQC
 refine goU ?_
 refine zAc (fun i:Nat=>[(8,.pv (iv i)),(2,.un),(5,.un),(9,.un),(14,.un)]) (fun i:Nat=>2-i) (fun i:Nat=>i≤2∧(1≤i→x=0)∧(2≤i→y=0)) (0) ?_ ⟨Nat.zero_le _,fun h=>(by omega),fun h=>(by omega)⟩ ?_
 focus (exact leA)
 rintro i ⟨hi,hx,hy⟩
 rcases (by omega:i=0∨i=1∨i=2) with rfl|rfl|rfl
 ·try simp (maxSteps:=2000000) only [go_sem,List.getD_cons_zero,List.length_cons,List.length_nil]
  repeat with_reducible refine zAt ?_
  refine zAa (by rfl) trivial (fun g1=>?_) (fun g1=>?_)
  ·try simp (maxSteps:=2000000) only [go_sem,List.getD_cons_zero,List.length_cons,List.length_nil]
   repeat with_reducible refine zAt ?_
   refine zAa (by rfl) trivial (fun g2=>?_) (fun g2=>?_)
   ·rw [if_pos (by simpa using g2)]
    refine goW ?_
    exact zAb rfl trivial (.inl rfl)
   ·have h0:x=0:=by simpa using g2
    refine goW ?_
    refine ⟨1,by omega,⟨by omega,fun _=>h0,fun h=>(by omega)⟩,?_⟩
    exact leA
  ·simp at g1
 ·try simp (maxSteps:=2000000) only [go_sem,List.getD_cons_zero,List.getD_cons_succ,List.length_cons,List.length_nil]
  repeat with_reducible refine zAt ?_
  refine zAa (by rfl) trivial (fun g1=>?_) (fun g1=>?_)
  ·try simp (maxSteps:=2000000) only [go_sem,List.getD_cons_zero,List.getD_cons_succ,List.length_cons,List.length_nil]
   repeat with_reducible refine zAt ?_
   refine zAa (by rfl) trivial (fun g2=>?_) (fun g2=>?_)
   ·rw [if_neg (by simpa using hx (by omega))]
    refine goW ?_
    exact zAb rfl trivial (.inl rfl)
   ·have h0:y=0:=by simpa using g2
    refine goW ?_
    refine ⟨2,by omega,⟨by omega,fun _=>hx (by omega),fun _=>h0⟩,?_⟩
    exact leA
  ·simp at g1
 ·try simp (maxSteps:=2000000) only [go_sem,List.length_cons,List.length_nil]
  repeat with_reducible refine zAt ?_
  refine zAa (by rfl) trivial (fun g1=>?_) (fun g1=>?_)
  ·simp at g1
  ·refine goW ?_
   rw [if_neg (by simpa using hx (by omega)),hy (by omega)]
   exact zAb rfl trivial (.inl rfl)
def yQQ (a b:Key):Int:=if yRA a.1 b.1≠0 then yRA a.1 b.1 else yVl a.2 b.2
theorem yMi (k k':Int) (n n':Bys) (z z':PV):Contract Tryz.prog zBA [.val (.agg [bI k,bS n,z]),.val (.agg [bI k',bS n',z'])] {res:=.val (iv (yQQ (k,n) (k',n')))}:=by
 have h1:=yPM k k'
 have h2:=yKk n n'
 have h3:=yYL (yRA k k') (yVl n n')
 refine mkA zZz (base:=0) (fo rfl) (fun hfit=>?_)
 unfold F0 zNv
 refine goU ?_
 refine zAe (by repeat' constructor) (h1) ?_
 refine goW ?_
 refine zAe (by repeat' constructor) (h2) ?_
 refine goW ?_
 refine zAe (by repeat' constructor) (h3) ?_
 refine goW ?_
 exact zAb rfl trivial (.inl rfl)
theorem yUA (a b:Ent):Contract Tryz.prog zBA [.val (.agg (entV a)),.val (.agg (entV b))] {res:=.val (iv (yQQ a.key b.key))}:=yMi a.kind b.kind a.name b.name _ _
theorem yBE (a b:Int):(a < b∧yRA a b=-1)∨(a=b∧yRA a b=0)∨(b < a∧yRA a b=1):=by
 unfold yRA
 rcases Int.lt_trichotomy a b with h|h|h
 ·exact .inl ⟨h,by rw [if_pos h]⟩
 ·exact .inr (.inl ⟨h,by rw [if_neg (by omega),if_neg (by omega)]⟩)
 ·exact .inr (.inr ⟨h,by rw [if_neg (by omega),if_pos h]⟩)
theorem yRB (a b:Key):yQQ a b < 0↔zAJ a b=true:=by
 unfold yQQ zAJ
 rcases yBE a.1 b.1 with ⟨h,e⟩|⟨h,e⟩|⟨h,e⟩
 ·rw [e,if_pos (by decide),if_neg (by omega)]
  simp [h]
 ·rw [e,if_neg (by decide),if_pos h]
  unfold yVl
  cases hb:Op.bytesLess a.2 b.2 with
  |true=>simp
  |false=>
   rw [if_neg (by decide)]
   split<;>simp
 ·rw [e,if_pos (by decide),if_neg (by omega)]
  simp;omega
theorem yPN (a b:Key):yQQ a b=0↔a=b:=by
 unfold yQQ
 rcases yBE a.1 b.1 with ⟨h,e⟩|⟨h,e⟩|⟨h,e⟩
 ·rw [e,if_pos (by decide)]
  simp
  intro h2;rw [h2] at h;omega
 ·rw [e,if_neg (by decide)]
  unfold yVl
  constructor
  ·intro g
   split at g
   ·cases g
   ·split at g
    ·rename_i h2;exact Prod.ext h h2
    ·cases g
  ·rintro rfl
   rw [zJS,if_neg (by decide),if_pos rfl]
 ·rw [e,if_pos (by decide)]
  simp
  intro h2;rw [h2] at h;omega
end Go.Hx
end

section
set_option maxRecDepth 100000
namespace Go.Hx
open Go.Proofs
variable [Glob]
attribute [local go_sem] zAh zAj zAg zAd ndV zAm zAn fdV Fd.add fM fF fR fK Nat.add_zero
attribute [local go_sem] reduceCtorEq Nat.reduceAdd Nat.reduceEqDiff reduceIte Nat.reduceLeDiff Nat.reduceLT Nat.reduceSub
theorem zCX {F:List Ct} {E:Env} {base:Nat} {av:List AV} {cells io:List PV} (hio:ioOf av=some cells) (hc:zBq F base cells.length=some io):yGw E base av [] {res:=.tup [],io:=io} .normal F:=
 ⟨rfl,fun cs h=>by rw [hio] at h;injection h with h;subst h;exact hc⟩
theorem yE4 (c:Fd) (b:Bool) (h:c.m≤1000000000):Contract Tryz.prog zAA [.io (fdV c),.val (bv b),.val (iv 2)] {res:=.tup [],io:=fdV (c.add (fM b))}:=by
 unfold fdV
 refine mkA zDx (base:=17) ⟨Nat.le_of_ble_eq_true rfl,Nat.le_of_ble_eq_true rfl,Nat.le_of_ble_eq_true rfl,⟨rfl,rfl⟩⟩ (fun hfit=>?_)
 unfold F0 zCL
 refine goU ?_
 refine zAa (by rfl) trivial (fun hb=>?_) (fun hb=>?_)
 ·subst hb
  try simp (maxSteps:=2000000) only [go_sem,Int.reduceToNat]
  repeat with_reducible refine zAt ?_
  exact zCX rfl rfl
 ·subst hb
  refine goW ?_
  exact zCX rfl rfl
theorem zTp (c:Fd) (b:Bool) (h:c.f≤1000000000):Contract Tryz.prog zAA [.io (fdV c),.val (bv b),.val (iv 1)] {res:=.tup [],io:=fdV (c.add (fF b))}:=by
 unfold fdV
 refine mkA zDx (base:=17) ⟨Nat.le_of_ble_eq_true rfl,Nat.le_of_ble_eq_true rfl,Nat.le_of_ble_eq_true rfl,⟨rfl,rfl⟩⟩ (fun hfit=>?_)
 unfold F0 zCL
 refine goU ?_
 refine zAa (by rfl) trivial (fun hb=>?_) (fun hb=>?_)
 ·subst hb
  try simp (maxSteps:=2000000) only [go_sem,Int.reduceToNat]
  repeat with_reducible refine zAt ?_
  exact zCX rfl rfl
 ·subst hb
  refine goW ?_
  exact zCX rfl rfl
theorem yRC (c:Fd) (b:Bool) (h:c.r≤1000000000):Contract Tryz.prog zAA [.io (fdV c),.val (bv b),.val (iv 3)] {res:=.tup [],io:=fdV (c.add (fR b))}:=by
 unfold fdV
 refine mkA zDx (base:=17) ⟨Nat.le_of_ble_eq_true rfl,Nat.le_of_ble_eq_true rfl,Nat.le_of_ble_eq_true rfl,⟨rfl,rfl⟩⟩ (fun hfit=>?_)
 unfold F0 zCL
 refine goU ?_
 refine zAa (by rfl) trivial (fun hb=>?_) (fun hb=>?_)
 ·subst hb
  try simp (maxSteps:=2000000) only [go_sem,Int.reduceToNat]
  repeat with_reducible refine zAt ?_
  exact zCX rfl rfl
 ·subst hb
  refine goW ?_
  exact zCX rfl rfl
theorem yMj (c:Fd) (b:Bool) (h:c.k≤1000000000):Contract Tryz.prog zAA [.io (fdV c),.val (bv b),.val (iv 4)] {res:=.tup [],io:=fdV (c.add (fK b))}:=by
 unfold fdV
 refine mkA zDx (base:=17) ⟨Nat.le_of_ble_eq_true rfl,Nat.le_of_ble_eq_true rfl,Nat.le_of_ble_eq_true rfl,⟨rfl,rfl⟩⟩ (fun hfit=>?_)
 unfold F0 zCL
 refine goU ?_
 refine zAa (by rfl) trivial (fun hb=>?_) (fun hb=>?_)
 ·subst hb
  try simp (maxSteps:=2000000) only [go_sem,Int.reduceToNat]
  repeat with_reducible refine zAt ?_
  exact zCX rfl rfl
 ·subst hb
  refine goW ?_
  exact zCX rfl rfl
def shV (k:Int):PVal:=.agg [bB (yJp k),bB (zUv k),bB (yUs k),bB (zIV k)]
def kOk (k:Int):Bool:=decide (1≤k∧k≤15)
theorem yPO (k:Int):Contract Tryz.prog zOJ [.val (iv k)] {res:=.tup [shV k,bv (kOk k)]}:=by
 refine mkA yOc (base:=0) (fo rfl) (fun hfit=>?_)
 unfold F0 yHN
 refine goU ?_
 by_cases hk:1≤k∧k≤15
 ·have hn:k=1∨k=2∨k=3∨k=4∨k=5∨k=6∨k=7∨k=8∨k=9∨k=10∨k=11∨k=12∨k=13∨k=14∨k=15:=by omega
  rcases hn with rfl|rfl|rfl|rfl|rfl|rfl|rfl|rfl|rfl|rfl|rfl|rfl|rfl|rfl|rfl
  all_goals
   repeat (first|(refine zE5 (by rfl) trivial ?_;(try simp (maxSteps:=2000000) only [go_sem]))|(refine zJR (by rfl) trivial ?_;(try simp (maxSteps:=2000000) only [go_sem])))
   exact zAL (by simp) ⟨zAN rfl rfl (.inl rfl),zA5 rfl trivial (.inl rfl),rfl⟩
 ·have e:∀ n:Int,1≤n→n≤15→(k==n)=false:=by intro n h1 h2;simp;omega
  have hs:shV k=.agg [bB false,bB false,bB false,bB false]:=by
   unfold shV
   congr 2
   ·unfold yJp;congr 2;simp;omega
   ·congr 1
    ·unfold zUv;congr 2;simp;omega
    ·congr 1
     ·unfold yUs;congr 2;simp;omega
     ·congr 1
      unfold zIV;congr 2;simp;omega
  have ho:kOk k=false:=by unfold kOk;simp;omega
  rw [hs,ho]
  try simp (maxSteps:=2000000) only [go_sem,e 1 (by omega) (by omega),e 2 (by omega) (by omega),e 3 (by omega) (by omega),e 4 (by omega) (by omega),e 5 (by omega) (by omega),e 6 (by omega) (by omega),e 7 (by omega) (by omega),e 8 (by omega) (by omega),e 9 (by omega) (by omega),e 10 (by omega) (by omega),e 11 (by omega) (by omega),e 12 (by omega) (by omega),e 13 (by omega) (by omega),e 14 (by omega) (by omega),e 15 (by omega) (by omega)]
  repeat (refine zJR (by rfl) trivial ?_;(try simp (maxSteps:=2000000) only [go_sem,e 1 (by omega) (by omega),e 2 (by omega) (by omega),e 3 (by omega) (by omega),e 4 (by omega) (by omega),e 5 (by omega) (by omega),e 6 (by omega) (by omega),e 7 (by omega) (by omega),e 8 (by omega) (by omega),e 9 (by omega) (by omega),e 10 (by omega) (by omega),e 11 (by omega) (by omega),e 12 (by omega) (by omega),e 13 (by omega) (by omega),e 14 (by omega) (by omega),e 15 (by omega) (by omega)]))
  exact zAL (by simp) ⟨zAN rfl rfl (.inl rfl),zA5 rfl trivial (.inl rfl),rfl⟩
theorem yHR:Contract Tryz.prog zI1 [] {res:=.val (.agg [bI 2,bI 4,bI 1,bI 3])}:=by
 refine mkA yEl (base:=0) (fo rfl) (fun hfit=>?_)
 unfold F0 zQz
 refine goU ?_
 exact zCH rfl rfl rfl
end Go.Hx
end

section
set_option maxRecDepth 100000
namespace Go.Hx
open Go.Proofs
variable [Glob]
attribute [local go_sem] zAh zAj zAg zAd ndV zAm zAn fdV zBZ zAD zAO zAQ
attribute [local go_sem] reduceCtorEq Nat.reduceAdd Nat.reduceEqDiff reduceIte Nat.reduceLeDiff Nat.reduceLT Nat.reduceSub
theorem zAH {α:Type} {d:α} {l:List α} {i:Nat} (h:i < l.length):l.drop i=l.getD i d::l.drop (i+1):=by
 rw [List.drop_eq_getElem_cons h]
 simp [h]
def yYM (P:Program) (N:Nat):Prop:=
 (∀ (l:List Pt) (d K:Nat) (c:Fd),SizeOf.sizeOf l≤N→d≤4→c.le K→K+bd d≤1000000000→Contract P zBU [.io (fdV c),.val (zBZ l),.val (iv d)] {res:=.tup [],io:=fdV (c.add (ntL l d))})∧
 (∀ (s:St) (d K:Nat) (c:Fd),SizeOf.sizeOf s≤N→d≤3→c.le K→K+bdS d≤1000000000→Contract P zDw [.io (fdV c),.val (.agg (stV s)),.val (iv d)] {res:=.tup [],io:=fdV (c.add (ntS s d))})
theorem yPP (N:Nat) (ih:yYM Tryz.prog N) (l:List Pt) (d K:Nat) (c:Fd) (hN:SizeOf.sizeOf l≤N+1) (hd:d≤4) (hc:c.le K) (hK:K+bd d≤1000000000):Contract Tryz.prog zBU [.io (fdV c),.val (zBZ l),.val (iv d)] {res:=.tup [],io:=fdV (c.add (ntL l d))}:=by
 unfold fdV zBZ
 refine mkA zOW (base:=83) ⟨Nat.le_of_ble_eq_true rfl,Nat.le_of_ble_eq_true rfl,Nat.le_of_ble_eq_true rfl,⟨rfl,rfl⟩⟩ (fun hfit=>?_)
 unfold F0 zJn
 refine goU ?_
 have hlb:(bif bif decide (3 < (d:Int)) then true else decide ((l.length:Int) < 1) then true else decide (5 < (l.length:Int)))=zJT l d:=by
  have e1:decide (3 < (d:Int))=decide (3 < d):=decide_eq_decide.2 (by omega)
  have e2:decide ((l.length:Int) < 1)=decide (l.length < 1):=decide_eq_decide.2 (by omega)
  have e3:decide (5 < (l.length:Int))=decide (5 < l.length):=decide_eq_decide.2 (by omega)
  unfold zJT
  rw [e1,e2,e3]
  cases decide (3 < d)<;>cases decide (l.length < 1)<;>rfl
 refine zAa (by rfl) trivial (fun h=>?_) (fun h=>?_)
 ·rw [hlb] at h
  have e:ntL l d=fM true:=by unfold ntL;rw [if_pos h]
  refine goW ?_
  have hb1:=yCL (4-d)
  have hb2:bd d=bdF (4-d):=rfl
  have hm:=hc.m
  refine zEQ (by repeat' constructor) (yE4 c true (by omega)) ?_
  refine goW ?_
  rw [e]
  exact yCF rfl rfl
 ·rw [hlb] at h
  have e:ntL l d=yI1 l d:=by unfold ntL;rw [if_neg (by rw [h];simp)]
  rw [e]
  have hd3:d≤3∧l.length≤5:=by
   simp only [zJT,Bool.or_eq_false_iff,decide_eq_false_iff_not] at h
   omega
  have hbd:=yUu hd3.1
  refine goW ?_
  have hK0:K+(1+(l.length-0) * bdP d)≤1000000000:=by
   have:(l.length-0) * bdP d≤5 * bdP d:=Nat.mul_le_mul_right _ (by omega)
   omega
  refine zAc (fun x:Nat×Fd=>[(7,.un),(9,.un),(11,.un),(28,.pv (iv x.1)),(29,.un),(51,.un),(55,.un),(56,.un),(57,.un),(58,.un),(71,.un),(72,.un),(73,.un),(74,.un),(84,.pv (.one (bI x.2.f))),(85,.pv (.one (bI x.2.m))),(86,.pv (.one (bI x.2.r))),(87,.pv (.one (bI x.2.k))),(90,.un),(91,.un)]) (fun x:Nat×Fd=>l.length-x.1) (fun x:Nat×Fd=>x.1≤l.length∧(∃ K',x.2.le K'∧K'+(1+(l.length-x.1) * bdP d)≤1000000000)∧x.2.add (yI1 (l.drop x.1) d)=c.add (yI1 l d)) ((0,c)) ?_ ⟨Nat.zero_le _,⟨K,hc,hK0⟩,by simp⟩ ?_
  focus (exact leA)
  rintro ⟨i,a⟩ ⟨hi,⟨K',ha,hK'⟩,hsum⟩
  simp only at hi ha hK' hsum
  refine goW ?_
  have hbx:bd d≤1000000000:=by omega
  refine zAa (by rfl) trivial (fun h2=>?_) (fun h2=>?_)
  ·have hil:i < l.length:=by simp at h2;omega
   rw [zAH (d:=default) hil] at hsum
   obtain ⟨p,hp⟩:∃ p,p=l.getD i default:=⟨_,rfl⟩
   rw [←hp] at hsum
   have hg:(zBx l).getD i []=[.sl 2 (zFG p.steps),.sl 1 (zAM p.links)]:=by rw [zBH l i hil,←hp,zA2]
   have hsz:SizeOf.sizeOf p.steps≤N:=by
    have h3:=zDs p
    have h4:=zUu hil
    rw [←hp] at h4
    omega
   have hmul:(l.length-i) * bdP d=bdP d+(l.length-(i+1)) * bdP d:=by
    have:l.length-i=(l.length-(i+1))+1:=by omega
    rw [this,Nat.add_mul];omega
   have hbp:bdP d=4+5 * bdS d:=rfl
   have hin:(bif decide ((p.steps.length:Int) < 1) then true else decide (5 < (p.steps.length:Int)))=false→inR .i64 ((p.steps.length:Int)-1):=by
    intro h5
    have:¬ 5 < (p.steps.length:Int):=by
     intro h6
     rw [decide_eq_true h6] at h5
     cases hq:decide ((p.steps.length:Int) < 1)<;>rw [hq] at h5<;>cases h5
    exact zHe (by omega) (by omega)
   try simp (maxSteps:=2000000) only [go_sem,hg]
   repeat with_reducible refine zAt ?_
   have hpb:(bif bif decide ((p.steps.length:Int) < 1) then true else decide (5 < (p.steps.length:Int)) then true else (p.links.length:Int) != (p.steps.length:Int)-1)=yJq p:=by
    have e2:decide ((p.steps.length:Int) < 1)=decide (p.steps.length < 1):=decide_eq_decide.2 (by omega)
    have e3:decide (5 < (p.steps.length:Int))=decide (5 < p.steps.length):=decide_eq_decide.2 (by omega)
    have e4:((p.links.length:Int) != (p.steps.length:Int)-1)=decide ((p.links.length:Int)≠p.steps.length-1):=by
     by_cases h5:(p.links.length:Int)=(p.steps.length:Int)-1<;>simp [h5]
    unfold yJq
    rw [e2,e3,e4]
    cases decide (p.steps.length < 1)<;>cases decide (5 < p.steps.length)<;>rfl
   simp only [yI1] at hsum
   refine zAa (by rfl) trivial (fun h3=>?_) (fun h3=>?_)
   ·rw [hpb] at h3
    rw [if_pos h3] at hsum
    rw [←hsum]
    refine goW ?_
    have hm:=ha.m
    refine zEQ (by repeat' constructor) (yE4 a true (by omega)) ?_
    refine goW ?_
    exact yCF rfl rfl
   ·rw [hpb] at h3
    rw [if_neg (by rw [h3];simp)] at hsum
    have hpl:p.steps.length≤5∧(p.links.length:Int)=p.steps.length-1:=by
     simp only [yJq,Bool.or_eq_false_iff,decide_eq_false_iff_not] at h3
     omega
    have hK1:K'+(p.links.length-0)≤K'+4:=by omega
    refine goW ?_
    refine zAc (fun x:Nat×Fd=>[(9,.un),(57,.pv (iv x.1)),(58,.un),(67,.un),(84,.pv (.one (bI x.2.f))),(85,.pv (.one (bI x.2.m))),(86,.pv (.one (bI x.2.r))),(87,.pv (.one (bI x.2.k)))]) (fun x:Nat×Fd=>p.links.length-x.1) (fun x:Nat×Fd=>x.1≤p.links.length∧(∃ K2,x.2.le K2∧K2+(p.links.length-x.1)≤K'+4)∧x.2.add (yMf (p.links.drop x.1))=a.add (yMf p.links)) ((0,a)) ?_ ⟨Nat.zero_le _,⟨K',ha,hK1⟩,by simp⟩ ?_
    focus (exact leA)
    rintro ⟨j,b⟩ ⟨hj,⟨K2,hb,hK2⟩,hsb⟩
    simp only at hj hb hK2 hsb
    refine goW ?_
    refine zAa (by rfl) trivial (fun h4=>?_) (fun h4=>?_)
    ·have hjl:j < p.links.length:=by simp at h4;omega
     rw [zAH (d:=0) hjl] at hsb
     have hg2:=zDc p.links j hjl
     obtain ⟨v,hv⟩:∃ v,v=p.links.getD j 0:=⟨_,rfl⟩
     rw [←hv] at hg2 hsb
     have hvb:(bif decide (v < 1) then true else decide (4 < v))=zUw v:=by
      unfold zUw
      by_cases h5:v < 1<;>by_cases h6:4 < v<;>simp [h5,h6]<;>omega
     have hk:=hb.k
     try simp (maxSteps:=2000000) only [go_sem,hg2]
     repeat with_reducible refine zAt ?_
     refine zEQ (by repeat' constructor) (yMj b (bif decide (v < 1) then true else decide (4 < v)) (by omega)) ?_
     try simp (maxSteps:=2000000) only [go_sem,hvb]
     repeat with_reducible refine zAt ?_
     refine ⟨(j+1,b.add (fK (zUw v))),by simp only;omega,⟨by simp only;omega,⟨K2+1,hb.le_add (yUv _),by simp only;omega⟩,?_⟩,?_⟩
     ·simp only
      rw [←hsb,Fd.add_assoc]
      congr 1
      simp only [yMf,Fd.add,fK,List.countP_cons,nB]
      congr 1
      split<;>omega
     ·exact leA
    ·have hjl:j=p.links.length:=by simp at h4;omega
     subst hjl
     rw [List.drop_length] at hsb
     have e5:b=a.add (yMf p.links):=by
      rw [←hsb]
      simp [yMf,Fd.add]
     have hK3:K2≤K'+4:=by omega
     have hK4:K2+(p.steps.length-0) * bdS d≤K'+bdP d:=by
      have:(p.steps.length-0) * bdS d≤5 * bdS d:=Nat.mul_le_mul_right _ (by omega)
      omega
     refine goW ?_
     refine zAc (fun x:Nat×Fd=>[(11,.un),(73,.pv (iv x.1)),(74,.un),(84,.pv (.one (bI x.2.f))),(85,.pv (.one (bI x.2.m))),(86,.pv (.one (bI x.2.r))),(87,.pv (.one (bI x.2.k))),(90,.un),(91,.un)]) (fun x:Nat×Fd=>p.steps.length-x.1) (fun x:Nat×Fd=>x.1≤p.steps.length∧(∃ K3,x.2.le K3∧K3+(p.steps.length-x.1) * bdS d≤K'+bdP d)∧x.2.add (yMg (p.steps.drop x.1) d)=b.add (yMg p.steps d)) ((0,b)) ?_ ⟨Nat.zero_le _,⟨K2,hb,hK4⟩,by simp⟩ ?_
     focus (exact leA)
     rintro ⟨k,e6⟩ ⟨hk,⟨K3,he6,hK5⟩,hse⟩
     simp only at hk he6 hK5 hse
     refine goW ?_
     refine zAa (by rfl) trivial (fun h6=>?_) (fun h6=>?_)
     ·have hkl:k < p.steps.length:=by simp at h6;omega
      rw [zAH (d:=default) hkl] at hse
      obtain ⟨q,hq⟩:∃ q,q=p.steps.getD k default:=⟨_,rfl⟩
      rw [←hq] at hse
      have hg3:(zFG p.steps).getD k []=[bS q.tag,.sl 6 (zCJ q.tests)]:=by rw [zCB _ k hkl,←hq,zBg]
      have hqs:SizeOf.sizeOf q≤N:=by
       have h7:=zUt hkl
       rw [←hq] at h7
       omega
      have hmul2:(p.steps.length-k) * bdS d=bdS d+(p.steps.length-(k+1)) * bdS d:=by
       have:p.steps.length-k=(p.steps.length-(k+1))+1:=by omega
       rw [this,Nat.add_mul];omega
      have hst:=ih.2 q d K3 e6 hqs hd3.1 he6 (by omega)
      rw [zBg] at hst
      unfold fdV at hst
      try simp (maxSteps:=2000000) only [go_sem,hg3]
      repeat with_reducible refine zAt ?_
      refine zEQ (by repeat' constructor) (hst) ?_
      refine goW ?_
      refine ⟨(k+1,e6.add (ntS q d)),by simp only;omega,⟨by simp only;omega,⟨K3+bdS d,he6.le_add (b_S q d),by simp only;omega⟩,?_⟩,?_⟩
      ·simp only [yMg] at hse ⊢
       rw [←hse,Fd.add_assoc]
      ·exact leA
     ·have hkl:k=p.steps.length:=by simp at h6;omega
      subst hkl
      rw [List.drop_length] at hse
      have e7:e6=b.add (yMg p.steps d):=by rw [←hse];rfl
      refine goW ?_
      refine ⟨(i+1,e6),by simp only;omega,⟨by simp only;omega,⟨K3,he6,by simp only;omega⟩,?_⟩,?_⟩
      ·simp only
       rw [←hsum,e7,e5,yWG,Fd.add_assoc,Fd.add_assoc,Fd.add_assoc]
      ·exact leA
  ·have hil:i=l.length:=by simp at h2;omega
   subst hil
   rw [List.drop_length] at hsum
   refine goW ?_
   rw [←hsum]
   exact zCX rfl rfl
end Go.Hx
end

section
set_option maxRecDepth 100000
set_option maxHeartbeats 4000000
namespace Go.Hx
open Go.Proofs
variable [Glob]
attribute [local go_sem] zAh zAj zAg zAd ndV zAm zAn zCq entV
attribute [local go_sem] reduceCtorEq Nat.reduceAdd Nat.reduceEqDiff reduceIte Nat.reduceLeDiff Nat.reduceLT Nat.reduceSub
theorem yRD {n:Nat} (h:n * 8≤140737488355328):zOB Tryz.prog zAz n:=.inr ⟨8,by kernel_rfl,by simp only [maxLen];omega,h⟩
theorem yKl (l:List Int) (h:l.length * 8≤140737488355328):Contract Tryz.prog zDZ [.val (.one (.sl 1 (zAM l)))] {res:=.own zAz 1 (zAM l)}:=by
 have hr:=yRD h
 refine mkA zMp (base:=0) (fo rfl) (fun hfit=>?_)
 unfold F0 zGy
 refine goU ?_
 intro b hb
 refine zAa (by rfl) trivial (fun h1=>?_) (fun h1=>?_)
 ·refine goW ?_
  have:zAM l=[]:=by
   cases hl:zAM l with
   |nil=>rfl
   |cons x y=>have:=hb (by rw [hl];simp);rw [this] at h1;cases h1
  rw [this]
  exact zDb rfl
 ·refine goW ?_
  exact zDb rfl
theorem zWc (a b:List Int):Contract Tryz.prog zCD [.val (.one (.sl 1 (zAM a))),.val (.one (.sl 1 (zAM b)))] {res:=.val (bv (a==b))}:=by
 refine mkA zMA (base:=0) (fo rfl) (fun hfit=>?_)
 unfold F0 zGz
 refine goU ?_
 have ha:=zC2 (k:=1) hfit.1
 rw [zAd] at ha
 refine zAa (by rfl) trivial (fun h1=>?_) (fun h1=>?_)
 ·refine goW ?_
  refine zAb rfl trivial (.inl ?_)
  congr 3
  have:a≠b:=by rintro rfl;simp at h1
  simp [this]
 have hl:a.length=b.length:=by simp at h1;omega
 refine goW ?_
 refine zAc (fun i:Nat=>[(13,.pv (iv i)),(4,.un),(5,.un),(14,.un),(24,.un)]) (fun i:Nat=>a.length-i) (fun i:Nat=>i≤a.length∧(a.drop i==b.drop i)=(a==b)) (0) ?_ ⟨Nat.zero_le _,rfl⟩ ?_
 focus (exact leA)
 rintro i ⟨hi,hinv⟩
 refine goW ?_
 refine zAa (by rfl) trivial (fun h2=>?_) (fun h2=>?_)
 ·have hil:i < a.length:=by simp at h2;omega
  have hib:i < b.length:=by omega
  rw [zAH (d:=0) hil,zAH (d:=0) hib] at hinv
  have e1:=zDc a i hil
  have e2:=zDc b i hib
  try simp (maxSteps:=2000000) only [go_sem,e1,e2]
  repeat with_reducible refine zAt ?_
  refine zAa (by rfl) trivial (fun h3=>?_) (fun h3=>?_)
  ·refine goW ?_
   refine zAb rfl trivial (.inl ?_)
   congr 3
   rw [←hinv]
   have:(a.getD i 0==b.getD i 0)=false:=by
    have h4:a.getD i 0≠b.getD i 0:=by simpa using h3
    exact beq_false_of_ne h4
   simp only [List.cons_beq_cons,this,Bool.false_and]
  ·have h4:a.getD i 0=b.getD i 0:=by simpa using h3
   rw [h4] at hinv
   simp only [List.cons_beq_cons,beq_self_eq_true,Bool.true_and] at hinv
   refine goW ?_
   refine ⟨i+1,by omega,⟨by omega,hinv⟩,?_⟩
   exact leA
 ·have hil:i=a.length:=by simp at h2;omega
  refine goW ?_
  refine zAb rfl trivial (.inl ?_)
  congr 3
  rw [←hinv,hil,List.drop_length,hl,List.drop_length]
  rfl
theorem yUB (a b:Ent):(a==b)=(decide (yQQ a.key b.key=0)&&(a.nodes==b.nodes)):=by
 rw [Bool.eq_iff_iff]
 simp only [beq_iff_eq,Bool.and_eq_true,decide_eq_true_eq,yPN]
 constructor
 ·rintro rfl;exact ⟨rfl,rfl⟩
 ·rintro ⟨h1,h2⟩;exact Ent.ext' h1 h2
theorem yRE (a b:Ent):Contract Tryz.prog zEt [.val (.agg (entV a)),.val (.agg (entV b))] {res:=.val (bv (a==b))}:=by
 have h1:=yUA a b
 have h2:=zWc a.nodes b.nodes
 rw [yUB]
 unfold entV at h1 ⊢
 obtain ⟨o,ho⟩:∃ o,o=yQQ a.key b.key:=⟨_,rfl⟩
 rw [←ho] at h1 ⊢
 refine mkA zWa (base:=0) (fo rfl) (fun hfit=>?_)
 unfold F0 zLG
 refine goU ?_
 refine zAe (by repeat' constructor) (h1) ?_
 refine goW ?_
 apply zAo (h2:=fun _=>h2)
 ·(simp (maxSteps:=2000000) only [go_sem];rfl)
 ·intro h;repeat' (first|exact trivial|exact h|refine And.intro ?_ ?_)
 refine goW ?_
 refine zAb rfl trivial (.inl ?_)
 congr 3
 by_cases h:o=0<;>simp [h]
theorem yKm (a b:List Ent):Contract Tryz.prog zCf [.val (.one (.sl 3 (zEf a))),.val (.one (.sl 3 (zEf b))),.val (.one (.clo zEt []))] {res:=.val (bv (a==b))}:=by
 refine mkA zGT (base:=0) (fo rfl) (fun hfit=>?_)
 unfold F0 zD6
 refine goU ?_
 have ha:=zC2 (k:=3) hfit.1
 rw [zCq] at ha
 refine zAa (by rfl) trivial (fun h1=>?_) (fun h1=>?_)
 ·refine goW ?_
  refine zAb rfl trivial (.inl ?_)
  congr 3
  have:a≠b:=by rintro rfl;simp at h1
  simp [this]
 have hl:a.length=b.length:=by simp at h1;omega
 refine goW ?_
 refine zAc (fun i:Nat=>[(17,.pv (iv i)),(6,.un),(7,.un),(8,.un),(9,.un),(18,.un),(30,.un),(32,.un),(33,.un),(34,.un),(35,.un),(36,.un),(37,.un)]) (fun i:Nat=>a.length-i) (fun i:Nat=>i≤a.length∧(a.drop i==b.drop i)=(a==b)) (0) ?_ ⟨Nat.zero_le _,rfl⟩ ?_
 focus (exact leA)
 rintro i ⟨hi,hinv⟩
 refine goW ?_
 refine zAa (by rfl) trivial (fun h2=>?_) (fun h2=>?_)
 ·have hil:i < a.length:=by simp at h2;omega
  have hib:i < b.length:=by omega
  rw [zAH (d:=default) hil,zAH (d:=default) hib] at hinv
  have e1:=zNH a i hil
  have e2:=zNH b i hib
  have hc:=yRE (a.getD i default) (b.getD i default)
  unfold entV at e1 e2 hc
  try simp (maxSteps:=2000000) only [go_sem,e1,e2]
  repeat with_reducible refine zAt ?_
  refine zBX (by rfl) trivial (by repeat' constructor) (hc) ?_
  refine goW ?_
  refine zAa (by rfl) trivial (fun h3=>?_) (fun h3=>?_)
  ·refine goW ?_
   refine zAb rfl trivial (.inl ?_)
   congr 3
   rw [←hinv]
   have h4:(a.getD i default==b.getD i default)=false:=by simpa using h3
   simp only [List.cons_beq_cons,h4,Bool.false_and]
  ·have h4:(a.getD i default==b.getD i default)=true:=by simpa using h3
   simp only [List.cons_beq_cons,h4,Bool.true_and] at hinv
   refine goW ?_
   refine ⟨i+1,by omega,⟨by omega,hinv⟩,?_⟩
   exact leA
 ·have hil:i=a.length:=by simp at h2;omega
  refine goW ?_
  refine zAb rfl trivial (.inl ?_)
  congr 3
  rw [←hinv,hil,List.drop_length,hl,List.drop_length]
  rfl
theorem zJp (a b:Ent) (z z':PV):Contract Tryz.prog zB7 [.val (.agg [bI a.kind,bS a.name,z]),.val (.agg [bI b.kind,bS b.name,z'])] {res:=.val (bv (zAJ b.key a.key))}:=by
 unfold zAJ
 show Contract Tryz.prog _ _ {res:=.val (bv (if b.kind=a.kind then Op.bytesLess b.name a.name else decide (b.kind < a.kind)))}
 refine mkA zRC (base:=0) (fo rfl) (fun hfit=>?_)
 unfold F0 zKp
 refine goU ?_
 refine zAa (by rfl) trivial (fun h1=>?_) (fun h1=>?_)
 ·refine goW ?_
  refine zAb rfl trivial (.inl ?_)
  have h2:b.kind≠a.kind:=by intro e;simp [e] at h1
  rw [if_neg h2]
 ·have h2:a.kind=b.kind:=by simpa using h1
  refine goW ?_
  refine zAb rfl trivial (.inl ?_)
  congr 3
  rw [if_pos h2.symm,Bool.eq_iff_iff]
  cases h3:Op.bytesLess b.name a.name with
  |true=>
   have h4:Op.bytesLess a.name b.name=false:=by
    cases h5:Op.bytesLess a.name b.name with
    |false=>rfl
    |true=>have:=zLX _ _ _ h3 h5;rw [zJS] at this;cases this
   rw [h4]
   have h6:a.name≠b.name:=by intro e;rw [e,zJS] at h3;cases h3
   simp [h6]
  |false=>
   cases h5:Op.bytesLess a.name b.name with
   |true=>simp
   |false=>simp [zUn _ _ h5 h3]
end Go.Hx
end

section
set_option maxRecDepth 100000
set_option maxHeartbeats 4000000
namespace Go.Hx
open Go.Proofs
variable [Glob]
attribute [local go_sem] zAh zAj zAg zAd ndV zAm zAn zCq
attribute [local go_sem] reduceCtorEq Nat.reduceAdd Nat.reduceEqDiff reduceIte Nat.reduceLeDiff Nat.reduceLT Nat.reduceSub
theorem zES (a b:List Ent):Contract Tryz.prog zCb [.val (.one (.sl 3 (zEf a))),.val (.one (.sl 3 (zEf b)))] {res:=.val (bv (a==b))}:=by
 refine mkA zNF (base:=0) (fo rfl) (fun hfit=>?_)
 unfold F0 zHM
 refine goU ?_
 have ha:=zC2 (k:=3) hfit.1
 rw [zCq] at ha
 refine zAa (by rfl) trivial (fun h1=>?_) (fun h1=>?_)
 ·refine goW ?_
  refine zAb rfl trivial (.inl ?_)
  congr 3
  have:a≠b:=by rintro rfl;simp at h1
  simp [this]
 have hl:a.length=b.length:=by simp at h1;omega
 refine goW ?_
 refine zAc (fun i:Nat=>[(5,.pv (iv i)),(4,.un),(14,.un),(54,.un)]) (fun i:Nat=>a.length-i) (fun i:Nat=>i≤a.length∧(a.drop i==b.drop i)=(a==b)) (0) ?_ ⟨Nat.zero_le _,rfl⟩ ?_
 focus (exact leA)
 rintro i ⟨hi,hinv⟩
 refine goW ?_
 refine zAa (by rfl) trivial (fun h2=>?_) (fun h2=>?_)
 ·have hil:i < a.length:=by simp at h2;omega
  have hib:i < b.length:=by omega
  rw [zAH (d:=default) hil,zAH (d:=default) hib] at hinv
  have e1:=zNH a i hil
  have e2:=zNH b i hib
  obtain ⟨x,hx⟩:∃ x,x=a.getD i default:=⟨_,rfl⟩
  obtain ⟨y,hy⟩:∃ y,y=b.getD i default:=⟨_,rfl⟩
  rw [←hx,←hy] at hinv
  rw [←hx] at e1
  rw [←hy] at e2
  have hc:=zLH x.nodes y.nodes
  unfold entV at e1 e2
  have hxy:(x==y)=((x.kind==y.kind)&&(x.name==y.name)&&decide (x.nodes=y.nodes)):=by
   rw [Bool.eq_iff_iff]
   simp only [beq_iff_eq,Bool.and_eq_true,decide_eq_true_eq]
   constructor
   ·rintro rfl;exact ⟨⟨rfl,rfl⟩,rfl⟩
   ·rintro ⟨⟨h1,h2⟩,h3⟩;exact Ent.ext' (Prod.ext h1 h2) h3
  try simp (maxSteps:=2000000) only [go_sem,e1,e2]
  repeat with_reducible refine zAt ?_
  apply zAo (h2:=fun _=>hc)
  ·(simp (maxSteps:=2000000) only [go_sem];rfl)
  ·intro h;repeat' (first|exact trivial|exact h|refine And.intro ?_ ?_)
  refine goW ?_
  refine zAa (by rfl) trivial (fun g3=>?_) (fun g3=>?_)
  ·refine goW ?_
   refine zAb rfl trivial (.inl ?_)
   congr 3
   rw [←hinv]
   have:(x==y)=false:=by
    rw [hxy]
    revert g3
    cases h5:(x.kind==y.kind)<;>cases h6:(x.name==y.name)<;>cases h7:decide (x.nodes=y.nodes)<;>simp [bne,h5,h6,h7]
   simp only [List.cons_beq_cons,this,Bool.false_and]
  ·have:(x==y)=true:=by
    rw [hxy]
    revert g3
    cases h5:(x.kind==y.kind)<;>cases h6:(x.name==y.name)<;>cases h7:decide (x.nodes=y.nodes)<;>simp [bne,h5,h6,h7]
   simp only [List.cons_beq_cons,this,Bool.true_and] at hinv
   refine goW ?_
   refine ⟨i+1,by omega,⟨by omega,hinv⟩,?_⟩
   exact leA
 ·have hil:i=a.length:=by simp at h2;omega
  refine goW ?_
  refine zAb rfl trivial (.inl ?_)
  congr 3
  rw [←hinv,hil,List.drop_length,hl,List.drop_length]
  rfl
end Go.Hx
end

section
set_option maxRecDepth 100000
set_option maxHeartbeats 4000000
namespace Go.Hx
open Go.Proofs
variable [Glob]
attribute [local go_sem] zAh zAj zAg zAd ndV zAm zAn zCq entV zAQ zAO
end Go.Hx
end

section
namespace Go.Hx
open Go.Proofs
variable [Glob]
abbrev zD8:=100
abbrev zZB:=oN [o4 1 0,vH 2 3,oE 3 0]
abbrev zZC:=oR [oT 13 1 1,oo 14 zD5 13,oA 4 14] [13,14]
abbrev zZD:=oR [oA 15 4,om 16 15 0] [15]
abbrev zZE:=oR [oA 17 4,vH 2 3,oA 3 17] [17]
abbrev zZF:=oN [⟨none,.mmk 18⟩,oA 5 18]
abbrev zZG:=oR [oJ 19 1 0 1,oB 20 19 1,oI 21 20,oE 22 0] [19]
abbrev zZH:=oN [oM 23 22 21]
abbrev zZI:=oR [oA 24 22,oK 25 5 20 22,oT 26 25 5,qP 7 0 92 0 1 2,oA 6 24,oL 7 0 92 0 5 26] [24,25,26]
abbrev zZJ:=oQ [oH 0 27 5,oW 1 28 7 1,qB 2 29 28 0 92 1 1,ql 3 30 0 0 1 1 1 1 29,oH 4 31 5,oW 5 32 7 1,qB 6 33 32 0 92 1 1,ql 7 34 0 0 1 1 1 1 33,oD 8 false ⟨none,.mpv 35 (.t 31) 18 3 (.t 34) zAz 1⟩,oH 9 36 6,qe 10 37 1 36,oD 11 false ⟨none,.vap 38 zAz 1 35 (.t 37)⟩,oD 12 false ⟨none,.mps (.t 27) 18 3 (.t 30) (.t 38)⟩] [27,28,29,30,31,32,33,34,35,36,37,38]
abbrev zZK:=oR [oZ 39 7 2,oh 40 39 0 92 2 1,vJ 41 40] [39,40]
abbrev zWe:=oQ [oH 0 42 5,oW 1 43 7 2,qB 2 44 43 0 92 2 1,ql 3 45 0 0 1 2 1 1 44,oH 4 46 5,oW 5 47 7 2,qB 6 48 47 0 92 2 1,ql 7 49 0 0 1 2 1 1 48,oD 8 false ⟨none,.mpv 50 (.t 46) 18 3 (.t 49) zAz 1⟩,oH 9 51 6,qe 10 52 1 51,oD 11 false ⟨none,.vap 53 zAz 1 50 (.t 52)⟩,oD 12 false ⟨none,.mps (.t 42) 18 3 (.t 45) (.t 53)⟩] [42,43,44,45,46,47,48,49,50,51,52,53]
abbrev zWf:=oR [oZ 54 7 3,oh 55 54 0 92 3 1,oI 56 55,oE 57 0] [54]
abbrev zWg:=oN [oM 58 57 56]
abbrev zWh:=oR [oK 59 1 55 57,oB 60 59 1,oA 9 60] [59,60]
abbrev zWi:=oR [oA 61 5,oA 62 9,oV 63 (.bld [.v (.int .i64 0),.v (mkS [])] [(0,1,.c (iv 3)),(1,1,.t 62)]),oA 64 5,oA 65 9,oV 66 (.bld [.v (.int .i64 0),.v (mkS [])] [(0,1,.c (iv 3)),(1,1,.t 65)]),⟨none,.mpv 67 (.t 64) 18 3 (.t 66) zAz 1⟩,oA 68 6,qK 69 1 68,qx 70 zAz 1 67 69,⟨none,.mps (.t 61) 18 3 (.t 63) (.t 70)⟩] [61,62,63,64,65,66,67,68,69,70]
abbrev zWj:=oR [oF 71 57 1,oA 57 71] [71]
abbrev zWk:=oR [oF 72 22 1,oA 22 72] [72]
abbrev zWl:=oN [vp 10 zAF 3]
abbrev zWm:HCode:=.regG [.vmf 18] [oA 73 5,⟨none,.mrg 74 (.t 73) 18⟩] [.forget [73]]
abbrev zWn:=oR [⟨none,.mnx 75 74 18⟩,qD 76 75 0] [75]
abbrev zWo:=oR [⟨none,.men 77 74 18⟩,qD 78 77 0,qD 79 77 1,⟨none,.alloc 11 1 97 [.v (.int .i64 0),.v (mkS [])]⟩,oL 11 1 97 0 2 78,oA 12 79] [77,78,79]
abbrev zWp:=oR [qd 80 10,oZ 81 11 0,oh 82 81 1 97 0 1,oZ 83 11 1,oh 84 83 1 97 1 1,oA 85 12,oV 86 (.bld [.v (.int .i64 0),.v (mkS []),.nl 1] [(0,1,.t 82),(1,1,.t 84),(2,1,.t 85)]),qK 87 3 86,qx 88 zAF 3 80 87,qd 10 88] [80,81,82,83,84,85,86,87,88]
abbrev zWq:HCode:=.regG [.pin 10 0 0 []] [oA 89 10,⟨none,.cals (some 90) zD8 10 (.t 89) [(.f zBA,.v)]⟩] [.forget [89,90]]
abbrev zWr:HCode:=.regG [.ffr 10 0 0] [oA 91 10,oA 2 91,oE 3 0] [.forget [91]]
abbrev yKp:=jX zZB (jV zZC zZD (jP 16 zZE)) zZF (jU zZG (jS 0 zZH 23 1 (jX zZI zZJ (jU zZK (jQ 41 zWe .skip)) zWf (jS 2 zWg 58 3 (jU zWh zWi) zWj)) zWk)) (jX zWl (jU zWm (jT 4 (jV zWn (jO 76 4) (.block 5 (jU zWo zWp))))) zWq zWr .ret)
abbrev zNI:=jZ 92 [(92,5),(97,2)] 99 0
abbrev xBe:List RSrc:=[.tmp 2,.tmp 3]
theorem zZL:j0 zDK yKp zNI xBe:=by kernel_rfl
end Go.Hx
end

section
set_option maxRecDepth 100000
namespace Go.Hx
open Go.Proofs
variable [Glob]
attribute [local go_sem] zAh zAj zAg zAd ndV zAm
attribute [local go_sem] reduceCtorEq Nat.reduceAdd Nat.reduceEqDiff reduceIte Nat.reduceLeDiff Nat.reduceLT Nat.reduceSub
theorem zWt (a b:List Bys):Contract Tryz.prog zFf [.val (.one (.sl 1 (yCG a))),.val (.one (.sl 1 (yCG b)))] {res:=.val (bv (decide (a=b)))}:=by
 refine mkA zRb (base:=0) (fo rfl) (fun hfit=>?_)
 unfold F0 zJV
 refine goU ?_
 have hm:=zC2 (k:=1) hfit.1
 rw [zAj] at hm
 refine zAa (by rfl) trivial (fun h=>?_) (fun h=>?_)
 ·refine goW ?_
  refine zAb rfl trivial (.inl ?_)
  congr 3
  simp [zAj] at h
  exact decide_eq_false (fun e=>h (by subst e;rfl))
 have hl:a.length=b.length:=by simp [zAj] at h;omega
 refine goW ?_
 refine zAc (fun i:Nat=>[(5,.pv (iv i)),(14,.un),(25,.un)]) (fun i=>a.length-i) (fun i=>i≤a.length∧a.take i=b.take i) 0 ?_ ⟨Nat.zero_le _,rfl⟩ ?_
 ·simp (maxSteps:=2000000) only [go_sem,zAu,zAE,zA9,zAv]
 intro i ⟨hi,heq⟩
 try simp (maxSteps:=2000000) only [go_sem,zAj]
 repeat with_reducible refine zAt ?_
 refine zAa (by rfl) trivial (fun h2=>?_) (fun h2=>?_)
 ·have hlt:i < a.length:=by simpa using h2
  have hltb:i < b.length:=by omega
  try simp (maxSteps:=2000000) only [go_sem,zGq _ _ hlt,zGq _ _ hltb,zAj]
  repeat with_reducible refine zAt ?_
  refine zAa (by rfl) trivial (fun h3=>?_) (fun h3=>?_)
  ·refine goW ?_
   refine zAb rfl trivial (.inl ?_)
   congr 3
   simp only [Bool.not_eq_true',beq_eq_false_iff_ne] at h3
   exact (decide_eq_false (zOH [] h3))
  ·refine goW ?_
   refine ⟨i+1,by omega,⟨hlt,zGs [] heq hlt hltb ?_⟩,?_⟩
   ·simpa only [Bool.not_eq_false',beq_iff_eq] using h3
   ·simp (maxSteps:=2000000) only [go_sem,zAu,zAE,zA9,zAv]
    exact zAI (by omega)
 ·refine goW ?_
  refine zAb rfl trivial (.inl ?_)
  congr 3
  have hi2:i=a.length:=by simp at h2;omega
  subst hi2
  exact decide_eq_true (zK8 hl heq)
theorem zWu (x y:Nd):Contract Tryz.prog zFe [.val (.agg (ndV x)),.val (.agg (ndV y))] {res:=.val (bv (decide (x=y)))}:=by
 unfold ndV
 refine mkA zRl (base:=0) (fo rfl) (fun hfit=>?_)
 unfold F0 zJW
 refine goU ?_
 apply zAo (h2:=fun _=>zWt _ _)
 ·(simp (maxSteps:=2000000) only [go_sem];rfl)
 ·intro h;repeat' (first|exact trivial|exact h|refine And.intro ?_ ?_)
 try simp (maxSteps:=2000000) only [go_sem,zAg]
 repeat with_reducible refine zAt ?_
 have hm:=zC2 (k:=2) (hfit.1.2.2.2.2.1)
 rw [zAg] at hm
 refine zAa (by rfl) trivial (fun h=>?_) (fun h=>?_)
 ·refine goW ?_
  refine zAb rfl trivial (.inl ?_)
  congr 3
  refine decide_eq_false (fun e=>?_)
  subst e
  simp at h
 have hh:x.up=y.up∧x.tag=y.tag∧x.id=y.id∧x.cls=y.cls∧x.att.length=y.att.length:=by
  simp at h
  grind
 obtain ⟨e1,e2,e3,e4,hl⟩:=hh
 refine goW ?_
 refine zAc (fun i:Nat=>[(5,.pv (iv i)),(46,.un),(59,.un)]) (fun i=>x.att.length-i) (fun i=>i≤x.att.length∧x.att.take i=y.att.take i) 0 ?_ ⟨Nat.zero_le _,rfl⟩ ?_
 ·simp (maxSteps:=2000000) only [go_sem,zAu,zAE,zA9,zAv]
 intro i ⟨hi,heq⟩
 try simp (maxSteps:=2000000) only [go_sem,zAg]
 repeat with_reducible refine zAt ?_
 refine zAa (by rfl) trivial (fun h2=>?_) (fun h2=>?_)
 ·have hlt:i < x.att.length:=by simpa using h2
  have hltb:i < y.att.length:=by omega
  try simp (maxSteps:=2000000) only [go_sem,zGr _ _ hlt,zGr _ _ hltb,zAg,zAm]
  repeat with_reducible refine zAt ?_
  refine zAa (by rfl) trivial (fun h3=>?_) (fun h3=>?_)
  ·refine goW ?_
   refine zAb rfl trivial (.inl ?_)
   congr 3
   refine decide_eq_false (fun e=>?_)
   subst e
   simp at h3
  ·refine goW ?_
   refine ⟨i+1,by omega,⟨hlt,zGs default heq hlt hltb ?_⟩,?_⟩
   ·simp at h3
    exact Prod.ext h3.1 h3.2
   ·simp (maxSteps:=2000000) only [go_sem,zAu,zAE,zA9,zAv]
    exact zAI (by omega)
 ·refine goW ?_
  refine zAb rfl trivial (.inl ?_)
  congr 3
  have hi2:i=x.att.length:=by simp at h2;omega
  subst hi2
  have e5:=zK8 hl heq
  refine decide_eq_true ?_
  cases x;cases y
  simp_all
theorem zZN (a b:List Nd):Contract Tryz.prog zFV [.val (zB6 a),.val (zB6 b)] {res:=.val (bv (decide (a=b)))}:=by
 unfold zB6
 refine mkA zVc (base:=0) (fo rfl) (fun hfit=>?_)
 unfold F0 zLB
 refine goU ?_
 have hm:=zC2 (k:=5) (hfit.1.1)
 rw [zAh] at hm
 refine zAa (by rfl) trivial (fun h=>?_) (fun h=>?_)
 ·refine goW ?_
  refine zAb rfl trivial (.inl ?_)
  congr 3
  simp [zAh] at h
  exact decide_eq_false (fun e=>h (by rw [e]))
 have hl:a.length=b.length:=by simp [zAh] at h;omega
 refine goW ?_
 refine zAc (fun i:Nat=>[(5,.pv (iv i)),(17,.un),(31,.un)]) (fun i=>a.length-i) (fun i=>i≤a.length∧a.take i=b.take i) 0 ?_ ⟨Nat.zero_le _,rfl⟩ ?_
 ·simp (maxSteps:=2000000) only [go_sem,zAu,zAE,zA9,zAv]
 intro i ⟨hi,heq⟩
 try simp (maxSteps:=2000000) only [go_sem,zAh]
 repeat with_reducible refine zAt ?_
 refine zAa (by rfl) trivial (fun h2=>?_) (fun h2=>?_)
 ·have hlt:i < a.length:=by simpa using h2
  have hltb:i < b.length:=by omega
  try simp (maxSteps:=2000000) only [go_sem,zBv _ _ hlt,zBv _ _ hltb,zAh,ndV]
  repeat with_reducible refine zAt ?_
  refine zAe (by repeat' constructor) (zWu _ _) ?_
  refine goW ?_
  refine zAa (by rfl) trivial (fun h3=>?_) (fun h3=>?_)
  ·refine goW ?_
   refine zAb rfl trivial (.inl ?_)
   congr 3
   simp only [Bool.not_eq_true',decide_eq_false_iff_not] at h3
   exact decide_eq_false (zOH default h3)
  ·refine goW ?_
   refine ⟨i+1,by omega,⟨hlt,zGs default heq hlt hltb ?_⟩,?_⟩
   ·simpa only [Bool.not_eq_false',decide_eq_true_eq] using h3
   ·simp (maxSteps:=2000000) only [go_sem,zAu,zAE,zA9,zAv]
    exact zAI (by omega)
 ·refine goW ?_
  refine zAb rfl trivial (.inl ?_)
  congr 3
  have hi2:i=a.length:=by simp at h2;omega
  subst hi2
  exact decide_eq_true (zK8 hl heq)
end Go.Hx
end
