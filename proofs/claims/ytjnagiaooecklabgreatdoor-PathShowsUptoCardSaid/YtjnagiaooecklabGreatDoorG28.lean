/-
  Walks of functions of the program: each contract says what the function computes, for every input that its conditions let by. No other condition.
-/
import Derived.Test.YtjnagiaooecklabGreatDoorG23
import Derived.Test.YtjnagiaooecklabGreatDoorG27
import Derived.Test.YtjnagiaooecklabGreatDoorG24
import Derived.Test.YtjnagiaooecklabGreatDoorG21
import Derived.Test.YtjnagiaooecklabGreatDoorG26
set_option linter.all false
set_option maxRecDepth 100000
set_option linter.unusedSimpArgs false
set_option maxHeartbeats 4000000
namespace Go.Hx
open Go.Proofs Go.RowKit
attribute [local instance] zBi
attribute [local go_sem] zAC zAz zAB zAw ndV zAx zBf
attribute [local go_sem] reduceCtorEq Nat.reduceAdd Nat.reduceEqDiff reduceIte Nat.reduceLeDiff Nat.reduceLT Nat.reduceSub
def lookL:List Pt:=[.mk [.mk [105,116,101,109] [.mk 13 [] [] 0 0 [.mk [.mk [] [.mk 10 [] [] 0 1 []]] []]],.mk [] [.mk 15 [] [] 0 0 [.mk [.mk [] [.mk 8 [116,111] [116,119,111] 0 0 []]] []]]] [3],.mk [.mk [] [.mk 2 [116,111,112] [] 0 0 []]] []]
theorem zL4:zA0 lookL=0:=by kernel_rfl
theorem zZs:zG6 lookL=[105,116,101,109,58,110,111,116,40,42,58,108,97,115,116,40,48,110,43,49,41,41,32,43,32,42,58,104,97,115,40,42,91,116,111,126,61,34,116,119,111,34,93,41,44,32,42,35,116,111,112]:=by kernel_rfl
theorem yGa:zA0 [lookL.getD 0 default]=0:=by kernel_rfl
theorem yDc:wOf (lookL.getD 0 default)=(0,2,1):=by kernel_rfl
theorem yGb:zA0 []=2:=by kernel_rfl
theorem yGc:(zG6 lookL).length≤268435456:=by rw [zZs]; decide
theorem zIF (l:List Pt):zDR l l=true:=(zG8 l l).2 rfl
theorem zE1:Contract Tryz.prog zCN [] { res:=.val (zBf lookL) }:=by
 refine mkA zXy (base:=0) (fo rfl) (fun hfit=>?_)
 unfold F0 zMy
 simp only [yIn,Nat.reduceAdd,Nat.reduceSub]
 try simp only [go_sem]
 repeat with_reducible refine zAc ?_
 refine zAq rfl trivial (.inl ?_)
 rfl
theorem zSf {s:Bys} {l:List Pt} (h:zFZ s=some l):zB6 s = { res:=.tup [zBf l,iv 0] }:=by unfold zB6; rw [h]
theorem yAY {s:Bys} (h:zFZ s=none):zB6 s = { res:=.tup [zBf [],iv 1] }:=by unfold zB6; rw [h]
theorem yDd {s:Bys} {l:List Pt} (h:zFZ s=some l):zIz s = { res:=.tup [zBf l,bv true] }:=by unfold zIz; rw [h]
theorem yDe {s:Bys} (h:zFZ s=none):zIz s = { res:=.tup [zBf [],bv false] }:=by unfold zIz; rw [h]
theorem zL5 {l:List Pt} (h:zA0 l=0):zLT l = { res:=.tup [sv (zG6 l),iv 0] }:=by unfold zLT; rw [if_pos h,h]
theorem zUB {l:List Pt} (h:zA0 l≠0):zLT l = { res:=.tup [sv [],iv (zA0 l)] }:=by unfold zLT; rw [if_neg h]
theorem zDz:Contract Tryz.prog zD2 [] { res:=.val (bv true) }:=by
 have hS:=zRs lookL
 rw [zL5 zL4] at hS
 have hR:=zRz (zG6 lookL) yGc
 rw [zSf (zUs zL4)] at hR
 rw [zZs] at hR hS
 have hW:=zZr (lookL.getD 0 default)
 rw [yDc,yGa,show wV (0,2,1)=[bI 0,bI 2,bI 1] from rfl] at hW
 have hC:=zBC lookL
 rw [zL4] at hC
 have hN:=zBC []
 rw [yGb] at hN
 have hE:=zWX lookL lookL
 rw [zIF] at hE
 refine mkA zPh (base:=0) (fo rfl) (fun hfit=>?_)
 unfold F0 zGT
 simp only [yIn,Nat.reduceAdd,Nat.reduceSub]
 try simp only [go_sem]
 repeat with_reducible refine zAc ?_
 refine zAd yR (zE1) ?_
 try simp only [go_sem]
 repeat with_reducible refine zAc ?_
 refine zAE yR (hS) ?_
 try simp only [go_sem]
 repeat with_reducible refine zAc ?_
 refine zAE yR (hR) ?_
 try simp only [go_sem]
 repeat with_reducible refine zAc ?_
 refine zAd yR (zE1) ?_
 try simp only [go_sem]
 repeat with_reducible refine zAc ?_
 rw [show List.map PV.norm ((zFl lookL).getD (Int.toNat 0) [])=ptV (lookL.getD 0 default) from rfl]
 refine zAE yR (hW) ?_
 try simp only [go_sem]
 repeat with_reducible refine zAc ?_
 refine zAd yR (zE1) ?_
 try simp only [go_sem]
 repeat with_reducible refine zAc ?_
 refine zAd yR (hC) ?_
 try simp only [go_sem]
 repeat with_reducible refine zAc ?_
 apply zAA (h2:=fun _=>hN)
 ·(simp only [go_sem]; rfl)
 ·intro h; repeat' (first | exact trivial | exact h | refine And.intro ?_ ?_)
 try simp only [go_sem]
 repeat with_reducible refine zAc ?_
 apply zAA (h2:=fun _=>zE1)
 ·(simp only [go_sem]; rfl)
 ·intro h; repeat' (first | exact trivial | exact h | refine And.intro ?_ ?_)
 try simp only [go_sem]
 repeat with_reducible refine zAc ?_
 apply zAA (h2:=fun _=>hE)
 ·(simp only [go_sem]; rfl)
 ·intro h; repeat' (first | exact trivial | exact h | refine And.intro ?_ ?_)
 try simp only [go_sem]
 repeat with_reducible refine zAc ?_
 refine zAq rfl trivial (.inl ?_)
 simp
theorem zSg (l:List Pt) (s:Bys) (hs:s.length≤268435456):Contract Tryz.prog zGg [.val (zBf l),.val (sv s)] { res:=.val (bv true) }:=by
 have hS:=zRs l
 have hR:=zRz s hs
 have hF:=zTK s hs
 cases hr:zFZ s with
 |none=>
  rw [yAY hr] at hR
  rw [yDe hr] at hF
  have hE:=zWX [] []
  rw [zIF] at hE
  by_cases hc:zA0 l=0
  ·rw [zL5 hc] at hS
   refine mkA zC3 (base:=0) (fo rfl) (fun hfit=>?_)
   unfold F0 zCA
   simp only [yIn,Nat.reduceAdd,Nat.reduceSub]
   try simp only [go_sem]
   repeat with_reducible refine zAc ?_
   refine zAE yR (hS) ?_
   try simp only [go_sem]
   repeat with_reducible refine zAc ?_
   refine zAd yR (Contract.av (zCz l) (by first | rfl | (simp only [go_sem]; done) | (simp only [go_sem]; rfl))) ?_
   try simp only [go_sem]
   repeat with_reducible refine zAc ?_
   refine zAa yF trivial (fun h=>?_) (fun h=>?_)
   ·try simp only [go_sem]
    repeat with_reducible refine zAc ?_
    refine zAd yR (zE5 l hc) ?_
    try simp only [go_sem]
    repeat with_reducible refine zAc ?_
    refine zAE yR (hR) ?_
    try simp only [go_sem]
    repeat with_reducible refine zAc ?_
    refine zAE yR (hF) ?_
    try simp only [go_sem]
    repeat with_reducible refine zAc ?_
    refine zAa yF trivial (fun h2=>?_) (fun h2=>?_)
    ·try simp only [go_sem]
     repeat with_reducible refine zAc ?_
     refine zAd yR (zDz) ?_
     try simp only [go_sem]
     repeat with_reducible refine zAc ?_
     apply zAA (h2:=fun _=>zBC l)
     ·(simp only [go_sem]; rfl)
     ·intro h; repeat' (first | exact trivial | exact h | refine And.intro ?_ ?_)
     try simp only [go_sem]
     repeat with_reducible refine zAc ?_
     apply zAA (h2:=fun _=>hE)
     ·(simp only [go_sem]; rfl)
     ·intro h; repeat' (first | exact trivial | exact h | refine And.intro ?_ ?_)
     try simp only [go_sem]
     repeat with_reducible refine zAc ?_
     refine zAq rfl trivial (.inl ?_)
     simp [hc]
    ·simp at h2
   ·simp [hc] at h
  ·rw [zUB hc] at hS
   refine mkA zC3 (base:=0) (fo rfl) (fun hfit=>?_)
   unfold F0 zCA
   simp only [yIn,Nat.reduceAdd,Nat.reduceSub]
   try simp only [go_sem]
   repeat with_reducible refine zAc ?_
   refine zAE yR (hS) ?_
   try simp only [go_sem]
   repeat with_reducible refine zAc ?_
   refine zAd yR (Contract.av (zCz l) (by first | rfl | (simp only [go_sem]; done) | (simp only [go_sem]; rfl))) ?_
   try simp only [go_sem]
   repeat with_reducible refine zAc ?_
   refine zAa yF trivial (fun h=>?_) (fun h=>?_)
   ·simp [hc] at h
   ·try simp only [go_sem]
    repeat with_reducible refine zAc ?_
    refine zAE yR (hR) ?_
    try simp only [go_sem]
    repeat with_reducible refine zAc ?_
    refine zAE yR (hF) ?_
    try simp only [go_sem]
    repeat with_reducible refine zAc ?_
    refine zAa yF trivial (fun h2=>?_) (fun h2=>?_)
    ·try simp only [go_sem]
     repeat with_reducible refine zAc ?_
     refine zAd yR (zDz) ?_
     try simp only [go_sem]
     repeat with_reducible refine zAc ?_
     apply zAA (h2:=fun _=>zBC l)
     ·(simp only [go_sem]; rfl)
     ·intro h; repeat' (first | exact trivial | exact h | refine And.intro ?_ ?_)
     try simp only [go_sem]
     repeat with_reducible refine zAc ?_
     apply zAA (h2:=fun _=>hE)
     ·(simp only [go_sem]; rfl)
     ·intro h; repeat' (first | exact trivial | exact h | refine And.intro ?_ ?_)
     try simp only [go_sem]
     repeat with_reducible refine zAc ?_
     refine zAq rfl trivial (.inl ?_)
     simp
    ·simp at h2
 |some D=>
  rw [zSf hr] at hR
  rw [yDd hr] at hF
  have hE:=zWX D D
  rw [zIF] at hE
  by_cases hc:zA0 l=0
  ·rw [zL5 hc] at hS
   refine mkA zC3 (base:=0) (fo rfl) (fun hfit=>?_)
   unfold F0 zCA
   simp only [yIn,Nat.reduceAdd,Nat.reduceSub]
   try simp only [go_sem]
   repeat with_reducible refine zAc ?_
   refine zAE yR (hS) ?_
   try simp only [go_sem]
   repeat with_reducible refine zAc ?_
   refine zAd yR (Contract.av (zCz l) (by first | rfl | (simp only [go_sem]; done) | (simp only [go_sem]; rfl))) ?_
   try simp only [go_sem]
   repeat with_reducible refine zAc ?_
   refine zAa yF trivial (fun h=>?_) (fun h=>?_)
   ·try simp only [go_sem]
    repeat with_reducible refine zAc ?_
    refine zAd yR (zE5 l hc) ?_
    try simp only [go_sem]
    repeat with_reducible refine zAc ?_
    refine zAE yR (hR) ?_
    try simp only [go_sem]
    repeat with_reducible refine zAc ?_
    refine zAE yR (hF) ?_
    try simp only [go_sem]
    repeat with_reducible refine zAc ?_
    refine zAa yF trivial (fun h2=>?_) (fun h2=>?_)
    ·simp at h2
    ·try simp only [go_sem]
     repeat with_reducible refine zAc ?_
     refine zAd yR (zDz) ?_
     try simp only [go_sem]
     repeat with_reducible refine zAc ?_
     apply zAA (h2:=fun _=>zBC l)
     ·(simp only [go_sem]; rfl)
     ·intro h; repeat' (first | exact trivial | exact h | refine And.intro ?_ ?_)
     try simp only [go_sem]
     repeat with_reducible refine zAc ?_
     apply zAA (h2:=fun _=>hE)
     ·(simp only [go_sem]; rfl)
     ·intro h; repeat' (first | exact trivial | exact h | refine And.intro ?_ ?_)
     try simp only [go_sem]
     repeat with_reducible refine zAc ?_
     refine zAq rfl trivial (.inl ?_)
     simp [hc]
   ·simp [hc] at h
  ·rw [zUB hc] at hS
   refine mkA zC3 (base:=0) (fo rfl) (fun hfit=>?_)
   unfold F0 zCA
   simp only [yIn,Nat.reduceAdd,Nat.reduceSub]
   try simp only [go_sem]
   repeat with_reducible refine zAc ?_
   refine zAE yR (hS) ?_
   try simp only [go_sem]
   repeat with_reducible refine zAc ?_
   refine zAd yR (Contract.av (zCz l) (by first | rfl | (simp only [go_sem]; done) | (simp only [go_sem]; rfl))) ?_
   try simp only [go_sem]
   repeat with_reducible refine zAc ?_
   refine zAa yF trivial (fun h=>?_) (fun h=>?_)
   ·simp [hc] at h
   ·try simp only [go_sem]
    repeat with_reducible refine zAc ?_
    refine zAE yR (hR) ?_
    try simp only [go_sem]
    repeat with_reducible refine zAc ?_
    refine zAE yR (hF) ?_
    try simp only [go_sem]
    repeat with_reducible refine zAc ?_
    refine zAa yF trivial (fun h2=>?_) (fun h2=>?_)
    ·simp at h2
    ·try simp only [go_sem]
     repeat with_reducible refine zAc ?_
     refine zAd yR (zDz) ?_
     try simp only [go_sem]
     repeat with_reducible refine zAc ?_
     apply zAA (h2:=fun _=>zBC l)
     ·(simp only [go_sem]; rfl)
     ·intro h; repeat' (first | exact trivial | exact h | refine And.intro ?_ ?_)
     try simp only [go_sem]
     repeat with_reducible refine zAc ?_
     apply zAA (h2:=fun _=>hE)
     ·(simp only [go_sem]; rfl)
     ·intro h; repeat' (first | exact trivial | exact h | refine And.intro ?_ ?_)
     try simp only [go_sem]
     repeat with_reducible refine zAc ?_
     refine zAq rfl trivial (.inl ?_)
     simp
end Go.Hx
