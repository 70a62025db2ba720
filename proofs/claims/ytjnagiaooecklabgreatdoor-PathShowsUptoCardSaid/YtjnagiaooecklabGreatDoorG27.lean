/-
  Walks of functions of the program: each contract says what the function computes, for every input that its conditions let by. No other condition.
-/
import Derived.Test.YtjnagiaooecklabGreatDoorG22
import Derived.Test.YtjnagiaooecklabGreatDoorG25
import Derived.Test.YtjnagiaooecklabGreatDoorG26
import Derived.Test.YtjnagiaooecklabGreatDoorG13
import Derived.Tactics2
import Derived.Laws.Pointers
set_option linter.all false
set_option maxRecDepth 100000
set_option linter.unusedSimpArgs false
namespace Go.Hx
open Go.Proofs Go.RowKit
attribute [local instance] zBi
attribute [local go_sem] zAC zAz zAB zAw ndV zAx zAv
attribute [local go_sem] reduceCtorEq Nat.reduceAdd Nat.reduceEqDiff reduceIte Nat.reduceLeDiff Nat.reduceLT Nat.reduceSub
theorem yBU {vs:Array Value} (h:vs.size=1):∃ x,vs = #[x]:=by
 refine ⟨vs[0],?_⟩
 apply Array.ext
 ·simp [h]
 ·intro i h1 h2
  simp at h2
  subst h2
  simp
set_option maxHeartbeats 1000000 in
theorem zRy:yLg Tryz.prog 107 xbV [[.nl 2],[bI 1]]:=by
 intro m w bs hm hg hl hn hb hc
 match bs,hl with
 |[b1,b2],_=>
  obtain ⟨vs1,T1,e1,s1⟩:=hc 0 b1 _ rfl rfl
  obtain ⟨vs2,T2,e2,s2⟩:=hc 1 b2 _ rfl rfl
  obtain ⟨x1,rfl⟩:=yBU s1
  obtain ⟨x2,rfl⟩:=yBU s2
  have hne:b1≠b2:=by simpa using hn
  have c1:w.cell? ⟨b1,0,none⟩=some x1:=by simp [World.cell?,e1]
  have c2:w.cell? ⟨b2,0,none⟩=some x2:=by simp [World.cell?,e2]
  have z1:w.frozen? ⟨b1,0,none⟩=false:=by simp [World.frozen?,e1]
  have z2:w.frozen? ⟨b2,0,none⟩=false:=by simp [World.frozen?,e2]
  refine callsD_of_wpS Tryz.func107 rfl fun c₀ cs hu=>?_
  apply wpS_seq
  apply wpS_region
  simp [wpOpsS,go_sem,recoverD,hu,Tryz.ntmps107,Exit.thenS,zDT]
  refine wpS_cond (t:=true) (by simp [Act.eval,Array.replicate]) ?_
  simp only [if_true]
  apply wpS_region
  simp [wpOpsS,go_sem,c1,c2,z1,z2,hne,hne.symm,bodyPostS,results,Tryz.results107]
  have f1:((w.setCell ⟨b1,0,none⟩ (.slice none 0 0)).setCell ⟨b2,0,none⟩ (.int .i64 1)).heap[b1]? = some (.cells #[.slice none 0 0] T1 (0,0)):=by
   simp [World.setCell,Array.getElem?_modify,e1,hne.symm]
  have f2:((w.setCell ⟨b1,0,none⟩ (.slice none 0 0)).setCell ⟨b2,0,none⟩ (.int .i64 1)).heap[b2]? = some (.cells #[.int .i64 1] T2 (0,0)):=by
   simp [World.setCell,Array.getElem?_modify,e2,hne]
  refine ⟨⟨rfl,rfl,rfl,by simp [World.setCell],fun k _ hk=>?_⟩,fun k b cs hbk hck=>?_⟩
  ·rw [Below.heap_setCell _ _ _ _ (fun e=>hk (.inr e)),Below.heap_setCell _ _ _ _ (fun e=>hk (.inl e))]
  ·match k,hbk,hck with
   |0,hbk,hck=>
    simp only [List.getElem?_cons_zero,Option.some.injEq] at hbk hck
    subst hbk; subst hck
    exact ⟨_,⟨_,f1⟩,by simp [RpL,Rp]⟩
   |1,hbk,hck=>
    simp only [List.getElem?_cons_succ,List.getElem?_cons_zero,Option.some.injEq] at hbk hck
    subst hbk; subst hck
    exact ⟨_,⟨_,f2⟩,by simp [RpL,Rp,zEH]⟩
   |k+2,hbk,_=>simp at hbk
set_option maxHeartbeats 1000000 in
theorem yEE:yLh Tryz.prog 107 2:=by
 intro w bs hl hg
 match bs,hl with
 |[b1,b2],_=>
  refine callsD_of_wpS Tryz.func107 rfl fun c₀ cs hu=>?_
  apply wpS_seq
  apply wpS_region
  simp [wpOpsS,go_sem,recoverD,hu,Tryz.ntmps107,Exit.thenS,zDT]
  refine wpS_cond (t:=false) (by simp [Act.eval,Array.replicate]) ?_
  simp only [Bool.false_eq_true,if_false]
  refine wpS_of_wp (wp_skip ?_)
  cases c₀
  simp_all [bodyPostS,results,Tryz.results107]
  exact Pres.refl _ _
theorem zWY {P:Program} {base:Nat} {av:List AV} {F:List Ct} {i1 i2 B L:Nat} {c1 c2:PV} {v:Value} {g:FuncId} (hl:F.length=L) (hB:B+1<L) (hi1:i1<B) (hi2:i2<B) (h1:F.getD i1 .un = .ptr 0 0) (h2:F.getD i2 .un = .ptr 1 0) (hio:ioOf av=none) (hp:yLg P g v [[c1],[c2]]) :
  yIc P base av [.cellB i1 0 B 0 1 false,.cellB i2 1 (B+1) 0 1 false] { res:=.tup [.one c1.norm,.one c2.norm] } g [⟨i1,0,B,[c1]⟩,⟨i2,1,B+1,[c2]⟩] (.panic [{ v,recovered:=false }]) F:=by
 have e:zJE F [⟨i1,0,B,[c1]⟩,⟨i2,1,B+1,[c2]⟩]=(F.set (B+1) (.pv (.one c2))).set B (.pv (.one c1)):=rfl
 refine ⟨v,rfl,hp,?_,fun cs h=>by rw [hio] at h; cases h⟩
 rw [e]
 have k1:((F.set (B+1) (.pv (.one c2))).set B (.pv (.one c1))).getD i1 .un = .ptr 0 0:=by
  rw [zAP,if_neg yO,zAP,if_neg yO]; exact h1
 have k2:((F.set (B+1) (.pv (.one c2))).set B (.pv (.one c1))).getD i2 .un = .ptr 1 0:=by
  rw [zAP,if_neg yO,zAP,if_neg yO]; exact h2
 have k3:((F.set (B+1) (.pv (.one c2))).set B (.pv (.one c1))).getD B .un = .pv (.one c1):=by
  rw [zAP,if_pos (by rw [List.length_set]; omega)]
 have k4:((F.set (B+1) (.pv (.one c2))).set B (.pv (.one c1))).getD (B+1) .un = .pv (.one c2):=by
  rw [zAP,if_neg yO,zAP,if_pos yO]
 refine ⟨zAS k1 (cs:=[c1.norm]) (by simp only [zAL,Nat.add_zero,k3]; rfl) (.inl rfl),zAS k2 (cs:=[c2.norm]) (by simp only [zAL,Nat.add_zero,k4]; rfl) (.inl rfl),?_⟩
 rfl
def zB6 (s:Bys):RV:=match zFZ s with
 |some l=>{ res:=.tup [zBf l,iv 0] }
 |none=>{ res:=.tup [zBf [],iv 1] }
theorem zZh (s:Bys):(∃ x,(zB6 s).res = .val x)∨∃ xs,(zB6 s).res = .tup xs:=by
 unfold zB6
 split <;> exact .inr ⟨_,rfl⟩
set_option maxHeartbeats 8000000 in
theorem zRz (s:Bys) (hs:s.length≤268435456):Contract Tryz.prog zEY [.val (sv s)] (zB6 s):=by
 refine zZg (base:=0) ⟨Nat.le_of_ble_eq_true rfl,Nat.le_of_ble_eq_true rfl,Nat.le_of_ble_eq_true rfl,rfl⟩ (zZh s) yEE (fun hfit=>?_)
 unfold F0 zHS zMu
 simp only [yIn,Nat.reduceAdd,Nat.reduceSub]
 try simp only [go_sem]
 refine ⟨?_,?_⟩
 ·intro x hx
  rcases List.mem_cons.1 hx with rfl | hx
  ·rfl
  ·rcases List.mem_cons.1 hx with rfl | hx
   ·rfl
   ·cases hx
 have hN:=yC4 s hs
 cases h1:zXD (4 * s.length+16) 1 s with
 |none=>
  have e1:zCd (4 * s.length+16) 1 s = { res:=.pan xbV }:=by unfold zCd; rw [h1]
  have e2:zB6 s = { res:=.tup [zBf [],iv 1] }:=by unfold zB6 zFZ; rw [h1]
  rw [e1] at hN
  rw [e2]
  refine zBS yR hN ?_
  try simp only [go_sem]
  exact zWY (L:=27) rfl (by decide) (by decide) (by decide) rfl rfl rfl zRy
 |some xr=>
  obtain ⟨l,r⟩:=xr
  have e1:zCd (4 * s.length+16) 1 s = { res:=.own zBj 2 (zFl l),io:=[bS r] }:=by unfold zCd; rw [h1]
  rw [e1] at hN
  refine zG1 yR (hN) ?_
  try simp only [go_sem]
  cases r with
  |cons c r'=>
   have e2:zB6 s = { res:=.tup [zBf [],iv 1] }:=by unfold zB6 zFZ; rw [h1]; simp
   rw [e2]
   have hz:((c :: r') == ([]:Bys))=false:=rfl
   try simp only [go_sem,hz]
   refine zAA (T:=false) (x:=iv 0) (by first | rfl | (simp; done)) (fun h=>by cases h) (fun h=>by cases h) ?_
   try simp only [go_sem]
   refine zAa yF trivial (fun g9=>?_) (fun g9=>?_)
   ·try simp only [go_sem]
    exact zWY (L:=27) rfl (by decide) (by decide) (by decide) rfl rfl rfl zRy
   ·simp at g9
  |nil=>
   by_cases hc:zA0 l=0
   ·have e2:zB6 s = { res:=.tup [zBf l,iv 0] }:=by unfold zB6 zFZ; rw [h1]; simp [hc]
    rw [e2]
    try simp only [go_sem]
    apply zAA (h2:=fun _=>zBC l)
    ·(simp only [go_sem]; rfl)
    ·intro h; repeat' (first | exact trivial | exact h | refine And.intro ?_ ?_)
    try simp only [go_sem,hc]
    refine zAa yF trivial (fun g9=>?_) (fun g9=>?_)
    ·simp [hc] at g9
    ·try simp only [go_sem]
     exact ⟨⟨zAS rfl rfl (.inl rfl),zAS rfl rfl (.inl rfl),rfl⟩,fun cs h=>by cases h⟩
   ·have e2:zB6 s = { res:=.tup [zBf [],iv 1] }:=by unfold zB6 zFZ; rw [h1]; simp [hc]
    rw [e2]
    try simp only [go_sem]
    apply zAA (h2:=fun _=>zBC l)
    ·(simp only [go_sem]; rfl)
    ·intro h; repeat' (first | exact trivial | exact h | refine And.intro ?_ ?_)
    try simp only [go_sem]
    refine zAa yF trivial (fun g9=>?_) (fun g9=>?_)
    ·try simp only [go_sem]
     exact zWY (L:=27) rfl (by decide) (by decide) (by decide) rfl rfl rfl zRy
    ·simp [hc] at g9
end Go.Hx
