/-
  Walks of functions of the program over an abstract layer, and the laws that they use: each contract says what the function computes, for every input that its conditions let by. No other condition.
-/
import Derived.Test.YtjnagiaooecklabGreatDoorG23
import Derived.Test.YtjnagiaooecklabGreatDoorG22
import Derived.Test.YtjnagiaooecklabGreatDoorG18
import Derived.Test.YtjnagiaooecklabGreatDoorG12
set_option linter.all false
section
set_option maxRecDepth 100000
set_option linter.unusedSimpArgs false
namespace Go.Hx
open Go.Proofs Go.RowKit
attribute [local instance] zBi
attribute [local go_sem] zAC zAz zAB zAw ndV zAx zAv zBW zBb zA7
attribute [local go_sem] reduceCtorEq Nat.reduceAdd Nat.reduceEqDiff reduceIte Nat.reduceLeDiff Nat.reduceLT Nat.reduceSub
theorem zWZ:∀ (f:Nat) (n:Int) (s:Bys),(zXC f n s).2.length≤s.length
 |0,n,s=>by unfold zXC; exact Nat.le_refl _
 |f+1,n,s=>by
  cases s with
  |nil=>unfold zXC; simp
  |cons c r=>
   unfold zXC
   split
   ·have:=zWZ f (10 * n+((c.toNat:Int) - 48)) r
    simp only [List.length_cons]
    first | omega | exact Nat.le_succ_of_le this
   ·exact Nat.le_refl _
theorem yEG (s:Bys):(zDJ s).2.length≤s.length:=by
 have h1:=zBm s [45]
 have h2:(rdA s).2.length≤s.length:=by
  have:=zWZ 8 0 (zAg s [45])
  unfold rdA zPw
  simp only
  omega
 have h3:=zBm (rdA s).2 [110]
 have h4:=zBm (zAg (rdA s).2 [110]) [45]
 have h5:=zBm (zAg (zAg (rdA s).2 [110]) [45]) [43]
 have h6:=zWZ 8 0 (zAg (zAg (zAg (rdA s).2 [110]) [45]) [43])
 unfold zDJ
 simp only
 unfold rdB zPw
 simp only
 omega
theorem yId (s:Bys):(vlD s).length≤s.length:=(List.dropWhile_sublist _).length_le
theorem yF5 (s:Bys):(zXE s).2.length≤s.length:=by
 have h0:=zGE s
 unfold zXE
 split
 ·have:=zBm (nmR s) [93]
  simp only; omega
 ·have h1:(atS s).length≤(nmR s).length:=zBm _ _
  have h2:=yId (atS s)
  have h3:=zBm (vlD (atS s)) [34]
  have h4:=zBm (zAg (vlD (atS s)) [34]) [93]
  simp only; omega
def Lft (s:Bys) (o:Option Ts × Bys):Prop:=o.2.length≤s.length∧(∀ t,o.1=some t→o.2.length+1≤s.length)
theorem Lft.le {s:Bys} {o:Option Ts × Bys} (h:Lft s o):o.2.length≤s.length:=h.1
theorem zF2 {s:Bys} {t:Ts} {r:Bys} (h:r.length+1≤s.length):Lft s (some t,r):=⟨by simp only; omega,fun _ _=>h⟩
theorem zF3:∀ f:Nat,
  (∀ d s,Lft s (zJz f d s)) ∧
  (∀ d s l,(zN3 f d s l).2.length≤s.length) ∧
  (∀ d s,(zFo f d s).2.length≤s.length) ∧
  (∀ d s st lk,(zGi f d s st lk).2.length≤s.length) ∧
  (∀ d s l,(zWJ f d s l).2.length≤s.length) ∧
  (∀ d s,(zIH f d s).2.length≤s.length)
 |0=>⟨fun d s=>by rw [zJz]; exact ⟨Nat.le_refl _,fun t h=>by cases h⟩,fun d s l=>by rw [zN3]; exact Nat.le_refl _,fun d s=>by rw [zFo]; exact Nat.le_refl _,fun d s st lk=>by rw [zGi]; exact Nat.le_refl _,fun d s l=>by rw [zWJ]; exact Nat.le_refl _,fun d s=>by rw [zIH]; exact Nat.le_refl _⟩
 |f+1=>by
  obtain ⟨i1,i2,i3,i4,i5,i6⟩:=zF3 f
  refine ⟨fun d s=>?_,fun d s l=>?_,fun d s=>?_,fun d s st lk=>?_,fun d s l=>?_,fun d s=>?_⟩
  ·rw [zJz]
   split
   ·rename_i h
    have h1:=zCX h
    have h2:=zGE (zAg s [46])
    exact zF2 (by simp only [List.length_cons,List.length_nil] at h1; omega)
   ·split
    ·rename_i h
     have h1:=zCX h
     have h2:=zGE (zAg s [35])
     exact zF2 (by simp only [List.length_cons,List.length_nil] at h1; omega)
    ·split
     ·rename_i h
      have h1:=zCX h
      have h2:=yF5 (zAg s [91])
      exact zF2 (by simp only [List.length_cons,List.length_nil] at h1; omega)
     ·unfold zKH
      have hb:∀ k,zAj s (zBG k)=true→(zBG k).length ≥ 1→Lft s (yEY (zIH f (d+1)) k s):=fun k hk hl=>by
       have h1:=zCX hk
       have h2:=i6 (d+1) (zAg s (zBG k))
       have h3:=zBm (zIH f (d+1) (zAg s (zBG k))).2 [41]
       unfold yEY
       exact zF2 yO
      have hn:∀ k,zAj s (zBG k)=true→(zBG k).length ≥ 1→Lft s (yGF k s):=fun k hk hl=>by
       have h1:=zCX hk
       have h2:=yEG (zAg s (zBG k))
       have h3:=zBm (zDJ (zAg s (zBG k))).2 [41]
       unfold yGF
       exact zF2 yO
      split
      ·exact hn 9 (by assumption) (by decide)
      ·split
       ·exact hn 10 (by assumption) (by decide)
       ·split
        ·rename_i h
         have h1:=zCX h
         exact zF2 (by simp only [yEk,List.length_cons,List.length_nil] at h1 ⊢; omega)
        ·split
         ·rename_i h
          have h1:=zCX h
          exact zF2 (by simp only [yEZ,List.length_cons,List.length_nil] at h1 ⊢; omega)
         ·split
          ·exact hb 13 (by assumption) (by decide)
          ·split
           ·exact hb 14 (by assumption) (by decide)
           ·split
            ·exact hb 15 (by assumption) (by decide)
            ·exact ⟨Nat.le_refl _,fun t h=>by cases h⟩
  ·rw [zN3]
   split
   ·exact Nat.le_refl _
   ·have h1:=i1 d s
    cases ht:zJz f d s with
    |mk o r=>
     rw [ht] at h1
     have hr:r.length≤s.length:=h1.1
     cases o with
     |none=>exact hr
     |some t=>exact Nat.le_trans (i2 d r (l ++ [t])) hr
  ·rw [zFo]
   have h1:=zGE s
   have h2:=zBm (nmR s) [42]
   have h3:=i2 d (zAg (nmR s) [42]) []
   simp only; omega
  ·rw [zGi]
   split
   ·exact Nat.le_refl _
   ·split
    ·exact Nat.le_refl _
    ·have h1:=zBm s (zGf (zBL s))
     have h2:=i3 d (zAg s (zGf (zBL s)))
     have h3:=i4 d (zFo f d (zAg s (zGf (zBL s)))).2 (st ++ [(zFo f d (zAg s (zGf (zBL s)))).1]) (lk ++ [zBL s])
     omega
  ·rw [zWJ]
   split
   ·exact Nat.le_refl _
   ·have h1:=i3 d s
    have h2:=i4 d (zFo f d s).2 [(zFo f d s).1] []
    split
    ·have h3:=zBm (zGi f d (zFo f d s).2 [(zFo f d s).1] []).2 [44,32]
     have h4:=i5 d (zAg (zGi f d (zFo f d s).2 [(zFo f d s).1] []).2 [44,32]) (l ++ [(zGi f d (zFo f d s).2 [(zFo f d s).1] []).1])
     omega
    ·simp only; omega
  ·rw [zIH]
   split
   ·exact Nat.le_refl _
   ·exact i5 d s []
def zW0 (f d:Nat) (s:Bys):RV:={ res:=.own zBj 2 (zFl (zIH f d s).1),io:=[bS (zIH f d s).2] }
def zDw (f d:Nat) (s:Bys):RV:=match zJz f d s with
 |(some t,r)=>{ res:=.tup [.agg (tsV t),bv true],io:=[bS r] }
 |(none,r)=>{ res:=.tup [.agg (tsV (.mk 0 [] [] 0 0 [])),bv false],io:=[bS r] }
set_option maxHeartbeats 16000000 in
theorem zLY (f:Nat) (hL:∀ (d:Nat) (s:Bys),d≤1000→s.length≤268435456→4 * s.length+5≤f→Contract Tryz.prog zAU [.io [bS s],.val (iv d)] (zW0 f d s)) (d:Nat) (s:Bys) (hd:d<1000) (hs:s.length≤268435456) (hf:4 * s.length+1≤f+1):Contract Tryz.prog zBX [.io [bS s],.val (iv d)] (zDw (f+1) d s):=by
 have hm0:maxLen=9223372036854775807:=rfl
 refine mkA zJ8 (base:=80) ⟨Nat.le_of_ble_eq_true rfl,Nat.le_of_ble_eq_true rfl,Nat.le_of_ble_eq_true rfl,⟨rfl,rfl⟩⟩ (fun hfit=>?_) (fun _ _=>rfl)
 unfold F0 zFt
 simp only [yIn,Nat.reduceAdd,Nat.reduceSub]
 try simp only [go_sem]
 repeat with_reducible refine zAc ?_
 refine zAd yR (zAk s [46]) ?_
 try simp only [go_sem]
 repeat with_reducible refine zAc ?_
 cases g0:zAj s [46] with
 |true=>
  refine zAa yF trivial (fun q0=>?_) (fun q0=>?_)
  ·have e:zDw (f+1) d s = { res:=.tup [.agg (tsV (.mk 1 (zDG (zAg s [46])) [] 0 0 [])),bv true],io:=[bS (nmR (zAg s [46]))] }:=by unfold zDw; rw [zJz,if_pos g0]
   rw [e]
   try simp only [go_sem]
   repeat with_reducible refine zAc ?_
   refine zAd yR (zCL (zAg s [46])) ?_
   try simp only [go_sem]
   repeat with_reducible refine zAc ?_
   exact zA9 (by simp) ⟨zAS rfl rfl (by first | exact .inl rfl | exact .inr rfl),zAO rfl trivial (.inl rfl),rfl⟩ rfl rfl
  ·cases q0
 |false=>
  have e0:zAg s [46]=s:=by unfold zAg; rw [g0]; rfl
  refine zAa yF trivial (fun q0=>?_) (fun q0=>?_)
  ·cases q0
  ·try simp only [go_sem]
   repeat with_reducible refine zAc ?_
   rw [e0]
   refine zAd yR (zAk s [35]) ?_
   try simp only [go_sem]
   repeat with_reducible refine zAc ?_
   cases g1:zAj s [35] with
   |true=>
    refine zAa yF trivial (fun q1=>?_) (fun q1=>?_)
    ·have e:zDw (f+1) d s = { res:=.tup [.agg (tsV (.mk 2 (zDG (zAg s [35])) [] 0 0 [])),bv true],io:=[bS (nmR (zAg s [35]))] }:=by unfold zDw; rw [zJz,if_neg (by rw [g0]; simp),if_pos g1]
     rw [e]
     try simp only [go_sem]
     repeat with_reducible refine zAc ?_
     refine zAd yR (zCL (zAg s [35])) ?_
     try simp only [go_sem]
     repeat with_reducible refine zAc ?_
     exact zA9 (by simp) ⟨zAS rfl rfl (by first | exact .inl rfl | exact .inr rfl),zAO rfl trivial (.inl rfl),rfl⟩ rfl rfl
    ·cases q1
   |false=>
    have e1:zAg s [35]=s:=by unfold zAg; rw [g1]; rfl
    refine zAa yF trivial (fun q1=>?_) (fun q1=>?_)
    ·cases q1
    ·try simp only [go_sem]
     repeat with_reducible refine zAc ?_
     rw [e1]
     refine zAd yR (zAk s [91]) ?_
     try simp only [go_sem]
     repeat with_reducible refine zAc ?_
     cases g2:zAj s [91] with
     |true=>
      refine zAa yF trivial (fun q2=>?_) (fun q2=>?_)
      ·have e:zDw (f+1) d s = { res:=.tup [.agg (tsV (zXE (zAg s [91])).1),bv true],io:=[bS (zXE (zAg s [91])).2] }:=by unfold zDw; rw [zJz,if_neg (by rw [g0]; simp),if_neg (by rw [g1]; simp),if_pos g2]
       rw [e]
       try simp only [go_sem]
       repeat with_reducible refine zAc ?_
       refine zAd yR (zLX (zAg s [91])) ?_
       try simp only [go_sem,zBk]
       repeat with_reducible refine zAc ?_
       exact zA9 (by simp) ⟨zAS rfl rfl (by first | exact .inl rfl | exact .inr rfl),zAO rfl trivial (.inl rfl),rfl⟩ rfl rfl
      ·cases q2
     |false=>
      have e2:zAg s [91]=s:=by unfold zAg; rw [g2]; rfl
      refine zAa yF trivial (fun q2=>?_) (fun q2=>?_)
      ·cases q2
      ·try simp only [go_sem]
       repeat with_reducible refine zAc ?_
       rw [e2]
       refine zAd yR (zAk s [58,110,116,104,40]) ?_
       try simp only [go_sem]
       repeat with_reducible refine zAc ?_
       cases g3:zAj s [58,110,116,104,40] with
       |true=>
        refine zAa yF trivial (fun q3=>?_) (fun q3=>?_)
        ·have e:zDw (f+1) d s = { res:=.tup [.agg (tsV (.mk 9 [] [] (zDJ (zAg s [58,110,116,104,40])).1.1 (zDJ (zAg s [58,110,116,104,40])).1.2 [])),bv true],io:=[bS (zAg (zDJ (zAg s [58,110,116,104,40])).2 [41])] }:=by unfold zDw; rw [zJz,if_neg (by rw [g0]; simp),if_neg (by rw [g1]; simp),if_neg (by rw [g2]; simp),zKH,if_pos (show zAj s (zBG 9)=true from g3)]; rfl
         rw [e]
         try simp only [go_sem]
         repeat with_reducible refine zAc ?_
         refine zAd yR (zGe (zAg s [58,110,116,104,40])) ?_
         try simp only [go_sem,yAF]
         repeat with_reducible refine zAc ?_
         refine zAd yR (zAk (zDJ (zAg s [58,110,116,104,40])).2 [41]) ?_
         try simp only [go_sem]
         repeat with_reducible refine zAc ?_
         exact zA9 (by simp) ⟨zAS rfl rfl (by first | exact .inl rfl | exact .inr rfl),zAO rfl trivial (.inl rfl),rfl⟩ rfl rfl
        ·cases q3
       |false=>
        have e3:zAg s [58,110,116,104,40]=s:=by unfold zAg; rw [g3]; rfl
        refine zAa yF trivial (fun q3=>?_) (fun q3=>?_)
        ·cases q3
        ·try simp only [go_sem]
         repeat with_reducible refine zAc ?_
         rw [e3]
         refine zAd yR (zAk s [58,108,97,115,116,40]) ?_
         try simp only [go_sem]
         repeat with_reducible refine zAc ?_
         cases g4:zAj s [58,108,97,115,116,40] with
         |true=>
          refine zAa yF trivial (fun q4=>?_) (fun q4=>?_)
          ·have e:zDw (f+1) d s = { res:=.tup [.agg (tsV (.mk 10 [] [] (zDJ (zAg s [58,108,97,115,116,40])).1.1 (zDJ (zAg s [58,108,97,115,116,40])).1.2 [])),bv true],io:=[bS (zAg (zDJ (zAg s [58,108,97,115,116,40])).2 [41])] }:=by unfold zDw; rw [zJz,if_neg (by rw [g0]; simp),if_neg (by rw [g1]; simp),if_neg (by rw [g2]; simp),zKH,if_neg (show ¬ zAj s (zBG 9)=true from fun h=>Bool.noConfusion (g3.symm.trans h)),if_pos (show zAj s (zBG 10)=true from g4)]; rfl
           rw [e]
           try simp only [go_sem]
           repeat with_reducible refine zAc ?_
           refine zAd yR (zGe (zAg s [58,108,97,115,116,40])) ?_
           try simp only [go_sem,yAF]
           repeat with_reducible refine zAc ?_
           refine zAd yR (zAk (zDJ (zAg s [58,108,97,115,116,40])).2 [41]) ?_
           try simp only [go_sem]
           repeat with_reducible refine zAc ?_
           exact zA9 (by simp) ⟨zAS rfl rfl (by first | exact .inl rfl | exact .inr rfl),zAO rfl trivial (.inl rfl),rfl⟩ rfl rfl
          ·cases q4
         |false=>
          have e4:zAg s [58,108,97,115,116,40]=s:=by unfold zAg; rw [g4]; rfl
          refine zAa yF trivial (fun q4=>?_) (fun q4=>?_)
          ·cases q4
          ·try simp only [go_sem]
           repeat with_reducible refine zAc ?_
           rw [e4]
           refine zAd yR (zAk s [58,101,109,112,116,121]) ?_
           try simp only [go_sem]
           repeat with_reducible refine zAc ?_
           cases g5:zAj s [58,101,109,112,116,121] with
           |true=>
            refine zAa yF trivial (fun q5=>?_) (fun q5=>?_)
            ·have e:zDw (f+1) d s = { res:=.tup [.agg (tsV (.mk 11 [] [] 0 0 [])),bv true],io:=[bS (zAg s [58,101,109,112,116,121])] }:=by unfold zDw; rw [zJz,if_neg (by rw [g0]; simp),if_neg (by rw [g1]; simp),if_neg (by rw [g2]; simp),zKH,if_neg (show ¬ zAj s (zBG 9)=true from fun h=>Bool.noConfusion (g3.symm.trans h)),if_neg (show ¬ zAj s (zBG 10)=true from fun h=>Bool.noConfusion (g4.symm.trans h)),if_pos (show zAj s (yEk)=true from g5)]; rfl
             rw [e]
             try simp only [go_sem]
             repeat with_reducible refine zAc ?_
             exact zA9 (by simp) ⟨zAS rfl rfl (by first | exact .inl rfl | exact .inr rfl),zAO rfl trivial (.inl rfl),rfl⟩ rfl rfl
            ·cases q5
           |false=>
            have e5:zAg s [58,101,109,112,116,121]=s:=by unfold zAg; rw [g5]; rfl
            refine zAa yF trivial (fun q5=>?_) (fun q5=>?_)
            ·cases q5
            ·try simp only [go_sem]
             repeat with_reducible refine zAc ?_
             rw [e5]
             refine zAd yR (zAk s [58,114,111,111,116]) ?_
             try simp only [go_sem]
             repeat with_reducible refine zAc ?_
             cases g6:zAj s [58,114,111,111,116] with
             |true=>
              refine zAa yF trivial (fun q6=>?_) (fun q6=>?_)
              ·have e:zDw (f+1) d s = { res:=.tup [.agg (tsV (.mk 12 [] [] 0 0 [])),bv true],io:=[bS (zAg s [58,114,111,111,116])] }:=by unfold zDw; rw [zJz,if_neg (by rw [g0]; simp),if_neg (by rw [g1]; simp),if_neg (by rw [g2]; simp),zKH,if_neg (show ¬ zAj s (zBG 9)=true from fun h=>Bool.noConfusion (g3.symm.trans h)),if_neg (show ¬ zAj s (zBG 10)=true from fun h=>Bool.noConfusion (g4.symm.trans h)),if_neg (show ¬ zAj s (yEk)=true from fun h=>Bool.noConfusion (g5.symm.trans h)),if_pos (show zAj s (yEZ)=true from g6)]; rfl
               rw [e]
               try simp only [go_sem]
               repeat with_reducible refine zAc ?_
               exact zA9 (by simp) ⟨zAS rfl rfl (by first | exact .inl rfl | exact .inr rfl),zAO rfl trivial (.inl rfl),rfl⟩ rfl rfl
              ·cases q6
             |false=>
              have e6:zAg s [58,114,111,111,116]=s:=by unfold zAg; rw [g6]; rfl
              refine zAa yF trivial (fun q6=>?_) (fun q6=>?_)
              ·cases q6
              ·try simp only [go_sem]
               repeat with_reducible refine zAc ?_
               rw [e6]
               refine zAd yR (zAk s [58,110,111,116,40]) ?_
               try simp only [go_sem]
               repeat with_reducible refine zAc ?_
               cases g7:zAj s [58,110,111,116,40] with
               |true=>
                refine zAa yF trivial (fun q7=>?_) (fun q7=>?_)
                ·have hsl:=zCX g7
                 simp only [List.length_cons,List.length_nil] at hsl
                 have hc:=hL (d+1) (zAg s [58,110,111,116,40]) yO yO yO
                 have e:zDw (f+1) d s = { res:=.tup [.agg (tsV (.mk 13 [] [] 0 0 (zIH f (d+1) (zAg s [58,110,111,116,40])).1)),bv true],io:=[bS (zAg (zIH f (d+1) (zAg s [58,110,111,116,40])).2 [41])] }:=by unfold zDw; rw [zJz,if_neg (by rw [g0]; simp),if_neg (by rw [g1]; simp),if_neg (by rw [g2]; simp),zKH,if_neg (show ¬ zAj s (zBG 9)=true from fun h=>Bool.noConfusion (g3.symm.trans h)),if_neg (show ¬ zAj s (zBG 10)=true from fun h=>Bool.noConfusion (g4.symm.trans h)),if_neg (show ¬ zAj s (yEk)=true from fun h=>Bool.noConfusion (g5.symm.trans h)),if_neg (show ¬ zAj s (yEZ)=true from fun h=>Bool.noConfusion (g6.symm.trans h)),if_pos (show zAj s (zBG 13)=true from g7)]; rfl
                 rw [e]
                 unfold zW0 at hc
                 try simp only [go_sem]
                 repeat with_reducible refine zAc ?_
                 refine zG1 yR (hc) ?_
                 try simp only [go_sem]
                 repeat with_reducible refine zAc ?_
                 refine zAd yR (zAk (zIH f (d+1) (zAg s [58,110,111,116,40])).2 [41]) ?_
                 try simp only [go_sem]
                 repeat with_reducible refine zAc ?_
                 exact zA9 (by simp) ⟨zAS rfl rfl (by first | exact .inl rfl | exact .inr rfl),zAO rfl trivial (.inl rfl),rfl⟩ rfl rfl
                ·cases q7
               |false=>
                have e7:zAg s [58,110,111,116,40]=s:=by unfold zAg; rw [g7]; rfl
                refine zAa yF trivial (fun q7=>?_) (fun q7=>?_)
                ·cases q7
                ·try simp only [go_sem]
                 repeat with_reducible refine zAc ?_
                 rw [e7]
                 refine zAd yR (zAk s [58,105,115,40]) ?_
                 try simp only [go_sem]
                 repeat with_reducible refine zAc ?_
                 cases g8:zAj s [58,105,115,40] with
                 |true=>
                  refine zAa yF trivial (fun q8=>?_) (fun q8=>?_)
                  ·have hsl:=zCX g8
                   simp only [List.length_cons,List.length_nil] at hsl
                   have hc:=hL (d+1) (zAg s [58,105,115,40]) yO yO yO
                   have e:zDw (f+1) d s = { res:=.tup [.agg (tsV (.mk 14 [] [] 0 0 (zIH f (d+1) (zAg s [58,105,115,40])).1)),bv true],io:=[bS (zAg (zIH f (d+1) (zAg s [58,105,115,40])).2 [41])] }:=by unfold zDw; rw [zJz,if_neg (by rw [g0]; simp),if_neg (by rw [g1]; simp),if_neg (by rw [g2]; simp),zKH,if_neg (show ¬ zAj s (zBG 9)=true from fun h=>Bool.noConfusion (g3.symm.trans h)),if_neg (show ¬ zAj s (zBG 10)=true from fun h=>Bool.noConfusion (g4.symm.trans h)),if_neg (show ¬ zAj s (yEk)=true from fun h=>Bool.noConfusion (g5.symm.trans h)),if_neg (show ¬ zAj s (yEZ)=true from fun h=>Bool.noConfusion (g6.symm.trans h)),if_neg (show ¬ zAj s (zBG 13)=true from fun h=>Bool.noConfusion (g7.symm.trans h)),if_pos (show zAj s (zBG 14)=true from g8)]; rfl
                   rw [e]
                   unfold zW0 at hc
                   try simp only [go_sem]
                   repeat with_reducible refine zAc ?_
                   refine zG1 yR (hc) ?_
                   try simp only [go_sem]
                   repeat with_reducible refine zAc ?_
                   refine zAd yR (zAk (zIH f (d+1) (zAg s [58,105,115,40])).2 [41]) ?_
                   try simp only [go_sem]
                   repeat with_reducible refine zAc ?_
                   exact zA9 (by simp) ⟨zAS rfl rfl (by first | exact .inl rfl | exact .inr rfl),zAO rfl trivial (.inl rfl),rfl⟩ rfl rfl
                  ·cases q8
                 |false=>
                  have e8:zAg s [58,105,115,40]=s:=by unfold zAg; rw [g8]; rfl
                  refine zAa yF trivial (fun q8=>?_) (fun q8=>?_)
                  ·cases q8
                  ·try simp only [go_sem]
                   repeat with_reducible refine zAc ?_
                   rw [e8]
                   refine zAd yR (zAk s [58,104,97,115,40]) ?_
                   try simp only [go_sem]
                   repeat with_reducible refine zAc ?_
                   cases g9:zAj s [58,104,97,115,40] with
                   |true=>
                    refine zAa yF trivial (fun q9=>?_) (fun q9=>?_)
                    ·have hsl:=zCX g9
                     simp only [List.length_cons,List.length_nil] at hsl
                     have hc:=hL (d+1) (zAg s [58,104,97,115,40]) yO yO yO
                     have e:zDw (f+1) d s = { res:=.tup [.agg (tsV (.mk 15 [] [] 0 0 (zIH f (d+1) (zAg s [58,104,97,115,40])).1)),bv true],io:=[bS (zAg (zIH f (d+1) (zAg s [58,104,97,115,40])).2 [41])] }:=by unfold zDw; rw [zJz,if_neg (by rw [g0]; simp),if_neg (by rw [g1]; simp),if_neg (by rw [g2]; simp),zKH,if_neg (show ¬ zAj s (zBG 9)=true from fun h=>Bool.noConfusion (g3.symm.trans h)),if_neg (show ¬ zAj s (zBG 10)=true from fun h=>Bool.noConfusion (g4.symm.trans h)),if_neg (show ¬ zAj s (yEk)=true from fun h=>Bool.noConfusion (g5.symm.trans h)),if_neg (show ¬ zAj s (yEZ)=true from fun h=>Bool.noConfusion (g6.symm.trans h)),if_neg (show ¬ zAj s (zBG 13)=true from fun h=>Bool.noConfusion (g7.symm.trans h)),if_neg (show ¬ zAj s (zBG 14)=true from fun h=>Bool.noConfusion (g8.symm.trans h)),if_pos (show zAj s (zBG 15)=true from g9)]; rfl
                     rw [e]
                     unfold zW0 at hc
                     try simp only [go_sem]
                     repeat with_reducible refine zAc ?_
                     refine zG1 yR (hc) ?_
                     try simp only [go_sem]
                     repeat with_reducible refine zAc ?_
                     refine zAd yR (zAk (zIH f (d+1) (zAg s [58,104,97,115,40])).2 [41]) ?_
                     try simp only [go_sem]
                     repeat with_reducible refine zAc ?_
                     exact zA9 (by simp) ⟨zAS rfl rfl (by first | exact .inl rfl | exact .inr rfl),zAO rfl trivial (.inl rfl),rfl⟩ rfl rfl
                    ·cases q9
                   |false=>
                    have e9:zAg s [58,104,97,115,40]=s:=by unfold zAg; rw [g9]; rfl
                    refine zAa yF trivial (fun q9=>?_) (fun q9=>?_)
                    ·cases q9
                    ·try simp only [go_sem]
                     repeat with_reducible refine zAc ?_
                     rw [e9]
                     have e:zDw (f+1) d s = { res:=.tup [.agg (tsV (.mk 0 [] [] 0 0 [])),bv false],io:=[bS s] }:=by unfold zDw; rw [zJz,if_neg (by rw [g0]; simp),if_neg (by rw [g1]; simp),if_neg (by rw [g2]; simp),zKH,if_neg (show ¬ zAj s (zBG 9)=true from fun h=>Bool.noConfusion (g3.symm.trans h)),if_neg (show ¬ zAj s (zBG 10)=true from fun h=>Bool.noConfusion (g4.symm.trans h)),if_neg (show ¬ zAj s (yEk)=true from fun h=>Bool.noConfusion (g5.symm.trans h)),if_neg (show ¬ zAj s (yEZ)=true from fun h=>Bool.noConfusion (g6.symm.trans h)),if_neg (show ¬ zAj s (zBG 13)=true from fun h=>Bool.noConfusion (g7.symm.trans h)),if_neg (show ¬ zAj s (zBG 14)=true from fun h=>Bool.noConfusion (g8.symm.trans h)),if_neg (show ¬ zAj s (zBG 15)=true from fun h=>Bool.noConfusion (g9.symm.trans h))]
                     rw [e]
                     try simp only [go_sem]
                     repeat with_reducible refine zAc ?_
                     exact zA9 (by simp) ⟨zAS rfl rfl (by first | exact .inl rfl | exact .inr rfl),zAO rfl trivial (.inl rfl),rfl⟩ rfl rfl
end Go.Hx
end

section
set_option maxRecDepth 100000
set_option linter.unusedSimpArgs false
namespace Go.Hx
open Go.Proofs Go.RowKit
attribute [local instance] zBi
attribute [local go_sem] zAC zAz zAB zAw ndV zAx zAv OVal.cells List.map_nil List.map_cons zD4 yAZ zHw zBW zBb zA7
attribute [local go_sem] reduceCtorEq Nat.reduceAdd Nat.reduceEqDiff reduceIte Nat.reduceLeDiff Nat.reduceLT Nat.reduceSub
def zW1 (f d:Nat) (s:Bys):RV:={ res:=.val (.agg (stV (zFo f d s).1)),io:=[bS (zFo f d s).2] }
set_option maxHeartbeats 16000000 in
theorem zLZ (f:Nat) (hT:∀ (g d:Nat) (s:Bys),g<f→d<1000→s.length≤268435456→4 * s.length+1≤g→Contract Tryz.prog zBX [.io [bS s],.val (iv d)] (zDw g d s)) (d:Nat) (s:Bys) (hd:d<1000) (hs:s.length≤268435456) (hf:4 * s.length+3≤f+1):Contract Tryz.prog zBr [.io [bS s],.val (iv d)] (zW1 (f+1) d s):=by
 have hm0:maxLen=9223372036854775807:=rfl
 have hnl:=zGE s
 have hsl:=zBm (nmR s) [42]
 unfold zW1
 refine mkA zKh (base:=32) ⟨Nat.le_of_ble_eq_true rfl,Nat.le_of_ble_eq_true rfl,Nat.le_of_ble_eq_true rfl,⟨rfl,rfl⟩⟩ (fun hfit=>?_)
 unfold F0 zFu
 simp only [yIn,Nat.reduceAdd,Nat.reduceSub]
 try simp only [go_sem]
 repeat with_reducible refine zAc ?_
 refine zAd yR (zCL s) ?_
 try simp only [go_sem]
 repeat with_reducible refine zAc ?_
 have hr2:s.dropWhile nameCh=nmR s:=rfl
 have hn2:s.takeWhile nameCh=zDG s:=rfl
 rw [hr2,hn2]
 refine zAd yR (zAk (nmR s) [42]) ?_
 try simp only [go_sem]
 repeat with_reducible refine zAc ?_
 refine zAr (fun x:Nat × List Ts × Bys=>[(32,.pv (.one (bS x.2.2))),(35,.pv (.one (bS (zDG s)))),(36,.own zC8 6 (zUk x.2.1)),(6,.un),(7,.un),(16,.un),(24,.un),(37,.un),(38,.un),(39,.un),(40,.un),(41,.un),(42,.un)]) (fun x:Nat × List Ts × Bys=>x.1) (fun x:Nat × List Ts × Bys=>4 * x.2.2.length+2≤x.1∧x.1≤f∧(x.2.1.length≤7∧x.2.2.length≤s.length)∧zN3 x.1 d x.2.2 x.2.1=zN3 f d (zAg (nmR s) [42]) []) ((f,[],zAg (nmR s) [42])) ?_ ⟨by simp only; omega,Nat.le_refl _,⟨by simp,by simp only; omega⟩,rfl⟩ ?_
 focus (simp only [go_sem,zAf,zAl,zAs,zAb]; all_goals (repeat' (first | exact trivial | exact zAi yO | exact zAh rfl | exact zAm rfl | exact zAn | exact le_refl _ | refine And.intro ?_ ?_)))
 rintro ⟨g,ts,r⟩ ⟨k1,k2,⟨k3,k4⟩,k5⟩
 simp only at k1 k2 k3 k4 k5
 obtain ⟨g',rfl⟩:∃ g',g=g'+1:=⟨g - 1,by omega⟩
 rw [zN3] at k5
 try simp only [go_sem]
 repeat with_reducible refine zAc ?_
 refine zAa yF trivial (fun g0=>?_) (fun g0=>?_)
 ·have hl6:ts.length≤6:=by simp at g0; omega
  rw [if_neg yO] at k5
  have hc:=hT g' d r yO hd yO yO
  have hlr:=(zF3 g').1 d r
  cases ht:zJz g' d r with
  |mk o r'=>
   rw [ht] at k5 hlr
   cases o with
   |none=>
    have e2:zDw g' d r = { res:=.tup [.agg (tsV (.mk 0 [] [] 0 0 [])),bv false],io:=[bS r'] }:=by unfold zDw; rw [ht]
    rw [e2] at hc
    simp only at k5
    try simp only [go_sem]
    repeat with_reducible refine zAc ?_
    refine zAE yR (hc) ?_
    try simp only [go_sem,zBk]
    repeat with_reducible refine zAc ?_
    refine zAa yF trivial (fun g1=>?_) (fun g1=>?_)
    ·try simp only [go_sem]
     repeat with_reducible refine zAc ?_
     rw [zFo,← k5]
     exact zCx rfl rfl rfl rfl rfl
    ·cases g1
   |some t=>
    have e2:zDw g' d r = { res:=.tup [.agg (tsV t),bv true],io:=[bS r'] }:=by unfold zDw; rw [ht]
    have hrl:r'.length+1≤r.length:=hlr.2 t rfl
    rw [e2] at hc
    simp only at k5
    try simp only [go_sem]
    repeat with_reducible refine zAc ?_
    refine zAE yR (hc) ?_
    try simp only [go_sem,zBk]
    repeat with_reducible refine zAc ?_
    refine zAa yF trivial (fun g1=>?_) (fun g1=>?_)
    ·cases g1
    ·try simp only [go_sem,zA7]
     repeat with_reducible refine zAc ?_
     refine ⟨(g',ts ++ [t],r'),by simp only; omega,⟨by simp only; omega,by simp only; omega,⟨by simp only [List.length_append,List.length_cons,List.length_nil]; omega,by simp only; omega⟩,k5⟩,?_⟩
     simp only [go_sem,zAf,zAl,zAs,zAb]
     all_goals (repeat' (first | exact trivial | exact zAi yO | exact zAh rfl | exact zAm rfl | exact zAn | exact le_refl _ | refine And.intro ?_ ?_))
     all_goals first | exact zAb | exact zB7 (by rw [zJC,zBk]) | exact zAm (by rw [zJC,zBk]) | rfl
 ·have hl6:6<ts.length:=by simp at g0; omega
  rw [if_pos hl6] at k5
  try simp only [go_sem]
  repeat with_reducible refine zAc ?_
  rw [zFo,← k5]
  exact zCx rfl rfl rfl rfl rfl
set_option maxHeartbeats 32000000 in
theorem zL0 (f:Nat) (hS:∀ (g d:Nat) (s:Bys),g<f→d<1000→s.length≤268435456→4 * s.length+3≤g→Contract Tryz.prog zBr [.io [bS s],.val (iv d)] (zW1 g d s)) (d:Nat) (s:Bys) (hdd:d≤1000) (hs:s.length≤268435456) (hf:4 * s.length+5≤f+1):Contract Tryz.prog zAU [.io [bS s],.val (iv d)] (zW0 (f+1) d s):=by
 have hm0:maxLen=9223372036854775807:=rfl
 unfold zW0
 obtain ⟨R,hR⟩:∃ R,R=zIH (f+1) d s:=⟨_,rfl⟩
 rw [← hR]
 rw [zIH] at hR
 refine mkA zKs (base:=63) ⟨Nat.le_of_ble_eq_true rfl,Nat.le_of_ble_eq_true rfl,Nat.le_of_ble_eq_true rfl,⟨rfl,rfl⟩⟩ (fun hfit=>?_)
 unfold F0 zFv
 simp only [yIn,Nat.reduceAdd,Nat.reduceSub]
 try simp only [go_sem]
 repeat with_reducible refine zAc ?_
 refine zAr (fun x:Nat × List Pt × Bys × Bool=>[(63,.pv (.one (bS x.2.2.1))),(5,.own zBj 2 (zFl x.2.1)),(6,.pv (bv x.2.2.2)),(7,.un),(8,.un),(9,.un),(17,.un),(29,.un),(30,.un),(33,.un),(36,.un),(39,.un),(64,.un),(65,.un)]) (fun x:Nat × List Pt × Bys × Bool=>x.1) (fun x:Nat × List Pt × Bys × Bool=>x.1≤f∧x.2.1.length≤6∧x.2.2.1.length≤s.length∧(x.2.2.2=true→4 * x.2.2.1.length+4≤x.1∧d≤3∧zWJ x.1 d x.2.2.1 x.2.1=R)∧(x.2.2.2=false→(x.2.1,x.2.2.1)=R)) ((f,[],s,decide ((d:Int)≤3))) ?_ ⟨Nat.le_refl _,by simp,Nat.le_refl _,fun h=>(by simp only [decide_eq_true_eq] at h; exact ⟨by simp only; omega,by omega,by rw [hR,if_neg yO]⟩),fun h=>(by simp only [decide_eq_false_iff_not] at h; rw [hR,if_pos yO])⟩ ?_
 focus (simp only [go_sem,zAf,zAl,zAs,zAb]; all_goals (repeat' (first | exact trivial | exact zAi yO | exact zAh rfl | exact zAm rfl | exact zAn | exact le_refl _ | refine And.intro ?_ ?_)))
 rintro ⟨g,ac,r,b⟩ ⟨k1,k2,k3,k4,k6⟩
 simp only at k1 k2 k3 k4 k6
 cases b with
 |false=>
  have k6:=k6 rfl
  try simp only [go_sem]
  repeat with_reducible refine zAc ?_
  refine zAa yF trivial (fun g0=>?_) (fun g0=>?_)
  ·cases g0
  ·try simp only [go_sem]
   repeat with_reducible refine zAc ?_
   rw [← k6]
   exact zRv rfl rfl rfl
 |true=>
  obtain ⟨k4,k7,k5⟩:=k4 rfl
  have hd:d<1000:=by omega
  obtain ⟨g',rfl⟩:∃ g',g=g'+1:=⟨g - 1,by omega⟩
  rw [zWJ] at k5
  try simp only [go_sem]
  repeat with_reducible refine zAc ?_
  refine zAa yF trivial (fun g0=>?_) (fun g0=>?_)
  ·have hl5:ac.length≤5:=by simp at g0; omega
   rw [if_neg yO] at k5
   have hc:=hS g' d r yO hd yO yO
   have hr1:=(zF3 g').2.2.1 d r
   unfold zW1 at hc
   obtain ⟨x,hx⟩:∃ x,x=(zFo g' d r).1:=⟨_,rfl⟩
   obtain ⟨r1,hr1e⟩:∃ r1,r1=(zFo g' d r).2:=⟨_,rfl⟩
   rw [← hx,← hr1e] at hc k5
   rw [← hr1e] at hr1
   rw [zBh] at hc
   try simp only [go_sem]
   repeat with_reducible refine zAc ?_
   refine zAd yR (hc) ?_
   try simp only [go_sem]
   repeat with_reducible refine zAc ?_
   obtain ⟨L,hL⟩:∃ L,L=zGi g' d r1 [x] []:=⟨_,rfl⟩
   rw [← hL] at k5
   refine zAr (fun y:Nat × List St × List Int × Bys × Bool=>[(63,.pv (.one (bS y.2.2.2.1))),(64,.ov (.one (.os none zC7 2 (oRx (zMn y.2.1))))),(65,.own zP7 1 (zEK y.2.2.1)),(8,.pv (bv y.2.2.2.2)),(9,.un),(29,.un),(30,.un),(33,.un),(36,.un),(39,.un)]) (fun y:Nat × List St × List Int × Bys × Bool=>y.1) (fun y:Nat × List St × List Int × Bys × Bool=>y.1≤g'∧y.2.1.length≤6∧y.2.2.1.length≤y.2.1.length∧y.2.2.2.1.length≤r1.length∧(y.2.2.2.2=true→4 * y.2.2.2.1.length+1≤y.1∧zGi y.1 d y.2.2.2.1 y.2.1 y.2.2.1=L)∧(y.2.2.2.2=false→(.mk y.2.1 y.2.2.1,y.2.2.2.1)=L)) ((g',[x],[],r1,true)) ?_ ⟨Nat.le_refl _,by simp,by simp,Nat.le_refl _,fun _=>⟨by simp only; omega,hL.symm⟩,fun h=>(by cases h)⟩ ?_
   focus (simp only [go_sem,zAf,zAl,zAs,zAb]; all_goals (repeat' (first | exact trivial | exact zAi yO | exact zAh rfl | exact zAm rfl | exact zAn | exact le_refl _ | refine And.intro ?_ ?_)))
   ·exact zAm (by simp only [zFX,List.map_cons,List.map_nil,oRx,zBh])
   rintro ⟨h,st,lk,q,b2⟩ ⟨l1,l3,l5,l6,l7,l8⟩
   simp only at l1 l3 l5 l6 l7 l8
   cases b2 with
   |false=>
    have hLL:=l8 rfl
    try simp only [go_sem]
    repeat with_reducible refine zAc ?_
    refine zAa yF trivial (fun g1=>?_) (fun g1=>?_)
    ·cases g1
    ·try simp only [go_sem,yEC,zBW]
     repeat with_reducible refine zAc ?_
     refine zAd yR (zAk q [44,32]) ?_
     try simp only [go_sem]
     repeat with_reducible refine zAc ?_
     rw [← hLL] at k5
     simp only at k5
     cases hgc:zAj q [44,32] with
     |true=>
      have hsl:=zCX hgc
      simp only [List.length_cons,List.length_nil] at hsl
      rw [hgc,if_pos rfl] at k5
      refine ⟨(g',ac ++ [.mk st lk],zAg q [44,32],true),by simp only; omega,⟨by simp only; omega,by simp only [List.length_append,List.length_cons,List.length_nil]; omega,by simp only; omega,fun _=>⟨by simp only; omega,k7,k5⟩,fun h=>(by cases h)⟩,?_⟩
      simp only [go_sem,zAf,zAl,zAs,zAb]
      all_goals (repeat' (first | exact trivial | exact zAi yO | exact zAh rfl | exact zAm rfl | exact zAn | exact le_refl _ | refine And.intro ?_ ?_))
      all_goals first | exact zAb | exact zB7 (by rw [zFq,zBB]; rfl) | exact zAm rfl | rfl
     |false=>
      have e0:zAg q [44,32]=q:=by unfold zAg; rw [hgc]; rfl
      rw [hgc,if_neg (by simp)] at k5
      rw [e0]
      refine ⟨(g',ac ++ [.mk st lk],q,false),by simp only; omega,⟨by simp only; omega,by simp only [List.length_append,List.length_cons,List.length_nil]; omega,by simp only; omega,fun h=>(by cases h),fun _=>k5⟩,?_⟩
      simp only [go_sem,zAf,zAl,zAs,zAb]
      all_goals (repeat' (first | exact trivial | exact zAi yO | exact zAh rfl | exact zAm rfl | exact zAn | exact le_refl _ | refine And.intro ?_ ?_))
      all_goals first | exact zAb | exact zB7 (by rw [zFq,zBB]; rfl) | exact zAm rfl | rfl
   |true=>
    obtain ⟨l7,l4⟩:=l7 rfl
    obtain ⟨h',rfl⟩:∃ h',h=h'+1:=⟨h - 1,by omega⟩
    rw [zGi] at l4
    try simp only [go_sem,zHw,zBb]
    repeat with_reducible refine zAc ?_
    refine zAa yF trivial (fun g1=>?_) (fun g1=>?_)
    ·have hs5:st.length≤5:=by simp at g1; omega
     have hk5:lk.length≤5∨5<lk.length:=by omega
     rw [if_neg yO] at l4
     try simp only [go_sem]
     repeat with_reducible refine zAc ?_
     refine zAd yR (zAk q [32,62,32]) ?_
     try simp only [go_sem]
     repeat with_reducible refine zAc ?_
     cases hg0:zAj q [32,62,32] with
     |true=>
      refine zAa yF trivial (fun q0=>?_) (fun q0=>?_)
      ·try simp only [go_sem]
       repeat with_reducible refine zAc ?_
       have hlk:zBL q=2:=by unfold zBL; rw [if_pos hg0]
       have hsl:=zCX hg0
       simp only [List.length_cons,List.length_nil] at hsl
       rw [hlk,if_neg (by decide)] at l4
       have hlt:zGf 2=[32,62,32]:=rfl
       rw [hlt] at l4
       have hc:=hS h' d (zAg q [32,62,32]) yO hd yO yO
       have hr':=(zF3 h').2.2.1 d (zAg q [32,62,32])
       unfold zW1 at hc
       rw [zBh] at hc
       try simp only [go_sem]
       repeat with_reducible refine zAc ?_
       refine zAd yR (hc) ?_
       try simp only [go_sem,zHw,zBb,List.map_cons,List.map_nil]
       repeat with_reducible refine zAc ?_
       refine ⟨(h',st ++ [(zFo h' d (zAg q [32,62,32])).1],lk ++ [2],(zFo h' d (zAg q [32,62,32])).2,true),by simp only; omega,⟨by simp only; omega,by simp only [List.length_append,List.length_cons,List.length_nil]; omega,by simp only [List.length_append,List.length_cons,List.length_nil]; omega,by simp only; omega,fun _=>⟨by simp only; omega,l4⟩,fun h=>(by cases h)⟩,?_⟩
       simp only [go_sem,zAf,zAl,zAs,zAb]
       all_goals (repeat' (first | exact trivial | exact zAi yO | exact zAh rfl | exact zAm rfl | exact zAn | exact le_refl _ | refine And.intro ?_ ?_))
       all_goals first | exact zAb | exact zAm (by simp only [zDS,zGQ,zBd,zBh]; rfl) | exact zB7 (by rw [zBd]) | rfl
      ·cases q0
     |false=>
      have e0:zAg q [32,62,32]=q:=by unfold zAg; rw [hg0]; rfl
      refine zAa yF trivial (fun q0=>?_) (fun q0=>?_)
      ·cases q0
      ·try simp only [go_sem]
       repeat with_reducible refine zAc ?_
       rw [e0]
       refine zAd yR (zAk q [32,43,32]) ?_
       try simp only [go_sem]
       repeat with_reducible refine zAc ?_
       cases hg1:zAj q [32,43,32] with
       |true=>
        refine zAa yF trivial (fun q1=>?_) (fun q1=>?_)
        ·try simp only [go_sem]
         repeat with_reducible refine zAc ?_
         have hlk:zBL q=3:=by unfold zBL; rw [if_neg (by rw [hg0]; simp),if_pos hg1]
         have hsl:=zCX hg1
         simp only [List.length_cons,List.length_nil] at hsl
         rw [hlk,if_neg (by decide)] at l4
         have hlt:zGf 3=[32,43,32]:=rfl
         rw [hlt] at l4
         have hc:=hS h' d (zAg q [32,43,32]) yO hd yO yO
         have hr':=(zF3 h').2.2.1 d (zAg q [32,43,32])
         unfold zW1 at hc
         rw [zBh] at hc
         try simp only [go_sem]
         repeat with_reducible refine zAc ?_
         refine zAd yR (hc) ?_
         try simp only [go_sem,zHw,zBb,List.map_cons,List.map_nil]
         repeat with_reducible refine zAc ?_
         refine ⟨(h',st ++ [(zFo h' d (zAg q [32,43,32])).1],lk ++ [3],(zFo h' d (zAg q [32,43,32])).2,true),by simp only; omega,⟨by simp only; omega,by simp only [List.length_append,List.length_cons,List.length_nil]; omega,by simp only [List.length_append,List.length_cons,List.length_nil]; omega,by simp only; omega,fun _=>⟨by simp only; omega,l4⟩,fun h=>(by cases h)⟩,?_⟩
         simp only [go_sem,zAf,zAl,zAs,zAb]
         all_goals (repeat' (first | exact trivial | exact zAi yO | exact zAh rfl | exact zAm rfl | exact zAn | exact le_refl _ | refine And.intro ?_ ?_))
         all_goals first | exact zAb | exact zAm (by simp only [zDS,zGQ,zBd,zBh]; rfl) | exact zB7 (by rw [zBd]) | rfl
        ·cases q1
       |false=>
        have e1:zAg q [32,43,32]=q:=by unfold zAg; rw [hg1]; rfl
        refine zAa yF trivial (fun q1=>?_) (fun q1=>?_)
        ·cases q1
        ·try simp only [go_sem]
         repeat with_reducible refine zAc ?_
         rw [e1]
         refine zAd yR (zAk q [32,126,32]) ?_
         try simp only [go_sem]
         repeat with_reducible refine zAc ?_
         cases hg2:zAj q [32,126,32] with
         |true=>
          refine zAa yF trivial (fun q2=>?_) (fun q2=>?_)
          ·try simp only [go_sem]
           repeat with_reducible refine zAc ?_
           have hlk:zBL q=4:=by unfold zBL; rw [if_neg (by rw [hg0]; simp),if_neg (by rw [hg1]; simp),if_pos hg2]
           have hsl:=zCX hg2
           simp only [List.length_cons,List.length_nil] at hsl
           rw [hlk,if_neg (by decide)] at l4
           have hlt:zGf 4=[32,126,32]:=rfl
           rw [hlt] at l4
           have hc:=hS h' d (zAg q [32,126,32]) yO hd yO yO
           have hr':=(zF3 h').2.2.1 d (zAg q [32,126,32])
           unfold zW1 at hc
           rw [zBh] at hc
           try simp only [go_sem]
           repeat with_reducible refine zAc ?_
           refine zAd yR (hc) ?_
           try simp only [go_sem,zHw,zBb,List.map_cons,List.map_nil]
           repeat with_reducible refine zAc ?_
           refine ⟨(h',st ++ [(zFo h' d (zAg q [32,126,32])).1],lk ++ [4],(zFo h' d (zAg q [32,126,32])).2,true),by simp only; omega,⟨by simp only; omega,by simp only [List.length_append,List.length_cons,List.length_nil]; omega,by simp only [List.length_append,List.length_cons,List.length_nil]; omega,by simp only; omega,fun _=>⟨by simp only; omega,l4⟩,fun h=>(by cases h)⟩,?_⟩
           simp only [go_sem,zAf,zAl,zAs,zAb]
           all_goals (repeat' (first | exact trivial | exact zAi yO | exact zAh rfl | exact zAm rfl | exact zAn | exact le_refl _ | refine And.intro ?_ ?_))
           all_goals first | exact zAb | exact zAm (by simp only [zDS,zGQ,zBd,zBh]; rfl) | exact zB7 (by rw [zBd]) | rfl
          ·cases q2
         |false=>
          have e2:zAg q [32,126,32]=q:=by unfold zAg; rw [hg2]; rfl
          refine zAa yF trivial (fun q2=>?_) (fun q2=>?_)
          ·cases q2
          ·try simp only [go_sem]
           repeat with_reducible refine zAc ?_
           rw [e2]
           refine zAd yR (zAk q [32]) ?_
           try simp only [go_sem]
           repeat with_reducible refine zAc ?_
           cases hg3:zAj q [32] with
           |true=>
            refine zAa yF trivial (fun q3=>?_) (fun q3=>?_)
            ·try simp only [go_sem]
             repeat with_reducible refine zAc ?_
             have hlk:zBL q=1:=by unfold zBL; rw [if_neg (by rw [hg0]; simp),if_neg (by rw [hg1]; simp),if_neg (by rw [hg2]; simp),if_pos hg3]
             have hsl:=zCX hg3
             simp only [List.length_cons,List.length_nil] at hsl
             rw [hlk,if_neg (by decide)] at l4
             have hlt:zGf 1=[32]:=rfl
             rw [hlt] at l4
             have hc:=hS h' d (zAg q [32]) yO hd yO yO
             have hr':=(zF3 h').2.2.1 d (zAg q [32])
             unfold zW1 at hc
             rw [zBh] at hc
             try simp only [go_sem]
             repeat with_reducible refine zAc ?_
             refine zAd yR (hc) ?_
             try simp only [go_sem,zHw,zBb,List.map_cons,List.map_nil]
             repeat with_reducible refine zAc ?_
             refine ⟨(h',st ++ [(zFo h' d (zAg q [32])).1],lk ++ [1],(zFo h' d (zAg q [32])).2,true),by simp only; omega,⟨by simp only; omega,by simp only [List.length_append,List.length_cons,List.length_nil]; omega,by simp only [List.length_append,List.length_cons,List.length_nil]; omega,by simp only; omega,fun _=>⟨by simp only; omega,l4⟩,fun h=>(by cases h)⟩,?_⟩
             simp only [go_sem,zAf,zAl,zAs,zAb]
             all_goals (repeat' (first | exact trivial | exact zAi yO | exact zAh rfl | exact zAm rfl | exact zAn | exact le_refl _ | refine And.intro ?_ ?_))
             all_goals first | exact zAb | exact zAm (by simp only [zDS,zGQ,zBd,zBh]; rfl) | exact zB7 (by rw [zBd]) | rfl
            ·cases q3
           |false=>
            have e3:zAg q [32]=q:=by unfold zAg; rw [hg3]; rfl
            refine zAa yF trivial (fun q3=>?_) (fun q3=>?_)
            ·cases q3
            ·try simp only [go_sem]
             repeat with_reducible refine zAc ?_
             rw [e3]
             have hlk:zBL q=0:=by unfold zBL; rw [if_neg (by rw [hg0]; simp),if_neg (by rw [hg1]; simp),if_neg (by rw [hg2]; simp),if_neg (by rw [hg3]; simp)]
             rw [hlk,if_pos rfl] at l4
             try simp only [go_sem]
             repeat with_reducible refine zAc ?_
             refine ⟨(h',st,lk,q,false),by simp only; omega,⟨by simp only; omega,l3,l5,l6,fun h=>(by cases h),fun _=>l4⟩,?_⟩
             simp only [go_sem,zAf,zAl,zAs,zAb]
             all_goals (repeat' (first | exact trivial | exact zAi yO | exact zAh rfl | exact zAm rfl | exact zAn | exact le_refl _ | refine And.intro ?_ ?_))
             all_goals first | exact zAb | exact zAm rfl | rfl
    ·have hs5:5<st.length:=by simp at g1; omega
     rw [if_pos hs5] at l4
     have hLL:=l4
     try simp only [go_sem,yEC,zBW]
     repeat with_reducible refine zAc ?_
     refine zAd yR (zAk q [44,32]) ?_
     try simp only [go_sem]
     repeat with_reducible refine zAc ?_
     rw [← hLL] at k5
     simp only at k5
     cases hgc:zAj q [44,32] with
     |true=>
      have hsl:=zCX hgc
      simp only [List.length_cons,List.length_nil] at hsl
      rw [hgc,if_pos rfl] at k5
      refine ⟨(g',ac ++ [.mk st lk],zAg q [44,32],true),by simp only; omega,⟨by simp only; omega,by simp only [List.length_append,List.length_cons,List.length_nil]; omega,by simp only; omega,fun _=>⟨by simp only; omega,k7,k5⟩,fun h=>(by cases h)⟩,?_⟩
      simp only [go_sem,zAf,zAl,zAs,zAb]
      all_goals (repeat' (first | exact trivial | exact zAi yO | exact zAh rfl | exact zAm rfl | exact zAn | exact le_refl _ | refine And.intro ?_ ?_))
      all_goals first | exact zAb | exact zB7 (by rw [zFq,zBB]; rfl) | exact zAm rfl | rfl
     |false=>
      have e0:zAg q [44,32]=q:=by unfold zAg; rw [hgc]; rfl
      rw [hgc,if_neg (by simp)] at k5
      rw [e0]
      refine ⟨(g',ac ++ [.mk st lk],q,false),by simp only; omega,⟨by simp only; omega,by simp only [List.length_append,List.length_cons,List.length_nil]; omega,by simp only; omega,fun h=>(by cases h),fun _=>k5⟩,?_⟩
      simp only [go_sem,zAf,zAl,zAs,zAb]
      all_goals (repeat' (first | exact trivial | exact zAi yO | exact zAh rfl | exact zAm rfl | exact zAn | exact le_refl _ | refine And.intro ?_ ?_))
      all_goals first | exact zAb | exact zB7 (by rw [zFq,zBB]; rfl) | exact zAm rfl | rfl
  ·have hl5:5<ac.length:=by simp at g0; omega
   rw [if_pos hl5] at k5
   try simp only [go_sem]
   repeat with_reducible refine zAc ?_
   rw [← k5]
   exact zRv rfl rfl rfl
end Go.Hx
end

section
set_option maxRecDepth 100000
set_option linter.unusedSimpArgs false
namespace Go.Hx
open Go.Proofs Go.RowKit
attribute [local instance] zBi
attribute [local go_sem] zAC zAz zAB zAw ndV zAx zAv
attribute [local go_sem] reduceCtorEq Nat.reduceAdd Nat.reduceEqDiff reduceIte Nat.reduceLeDiff Nat.reduceLT Nat.reduceSub
theorem zKt:∀ f g:Nat,g≤f →
  (∀ (d:Nat) (s:Bys),d≤1000→s.length≤268435456→4 * s.length+5≤g→Contract Tryz.prog zAU [.io [bS s],.val (iv d)] (zW0 g d s)) ∧
  (∀ (d:Nat) (s:Bys),d<1000→s.length≤268435456→4 * s.length+3≤g→Contract Tryz.prog zBr [.io [bS s],.val (iv d)] (zW1 g d s)) ∧
  (∀ (d:Nat) (s:Bys),d<1000→s.length≤268435456→4 * s.length+1≤g→Contract Tryz.prog zBX [.io [bS s],.val (iv d)] (zDw g d s))
 |0,g,hg=>⟨fun d s _ _ h=>by omega,fun d s _ _ h=>by omega,fun d s _ _ h=>by omega⟩
 |f+1,g,hg=>by
  by_cases hgf:g≤f
  ·exact zKt f g hgf
  ·have:g=f+1:=by omega
   subst this
   exact ⟨fun d s h1 h2 h3=>zL0 f (fun g' d' s' h4=>(zKt f g' yO).2.1 d' s') d s h1 h2 h3,
    fun d s h1 h2 h3=>zLZ f (fun g' d' s' h4=>(zKt f g' yO).2.2 d' s') d s h1 h2 h3,
    fun d s h1 h2 h3=>zLY f (fun d' s'=>(zKt f f (Nat.le_refl _)).1 d' s') d s h1 h2 h3⟩
theorem yC7 (s:Bys) (hs:s.length≤268435456):Contract Tryz.prog zAU [.io [bS s],.val (iv 1)] (zW0 (4 * s.length+200) 1 s):=
 (zKt _ _ (Nat.le_refl _)).1 1 s (by decide) hs yO
def zIz (s:Bys):RV:=match zFZ s with
 |some l=>{ res:=.tup [zBf l,bv true] }
 |none=>{ res:=.tup [zBf [],bv false] }
set_option maxHeartbeats 8000000 in
theorem zTK (s:Bys) (hs:s.length≤268435456):Contract Tryz.prog zEG [.val (sv s)] (zIz s):=by
 have hc:=yC7 s hs
 unfold zW0 at hc
 obtain ⟨l,hl⟩:∃ l,l=(zIH (4 * s.length+200) 1 s).1:=⟨_,rfl⟩
 have hE:zFZ s=if zA0 l=0∧zG6 l=s then some l else none:=by rw [← yFX,yH4,← hl]
 rw [← hl] at hc
 have hres:zIz s = { res:=.tup [if zA0 l=0∧zG6 l=s then zBf l else zBf [],bv (decide (zA0 l=0∧zG6 l=s))] }:=by
  unfold zIz
  rw [hE]
  by_cases h:zA0 l=0∧zG6 l=s
  ·rw [if_pos h,if_pos h,decide_eq_true h]
  ·rw [if_neg h,if_neg h,decide_eq_false h]
 rw [hres]
 refine mkA zR7 (base:=0) (fo rfl) (fun hfit=>?_)
 unfold F0 zHz
 simp only [yIn,Nat.reduceAdd,Nat.reduceSub]
 try simp only [go_sem]
 refine zG1 yR (hc) ?_
 try simp only [go_sem]
 refine zAd yR (zCz l) ?_
 try simp only [go_sem]
 by_cases h0:zA0 l=0
 ·have hb:(zA0 l != 0)=false:=by rw [h0]; rfl
  try simp only [go_sem,hb]
  apply zAA (h2:=fun _=>zE5 l h0)
  ·(simp only [go_sem]; rfl)
  ·intro h; repeat' (first | exact trivial | exact h | refine And.intro ?_ ?_)
  try simp only [go_sem]
  by_cases h1:zG6 l=s
  ·rw [if_pos ⟨h0,h1⟩,decide_eq_true ⟨h0,h1⟩]
   refine zAa yF trivial (fun g1=>?_) (fun g1=>?_)
   ·simp [h1] at g1
   ·try simp only [go_sem]
    exact zCr (by simp) ⟨zAO rfl trivial (.inl rfl),zAO rfl trivial (.inl rfl),rfl⟩
  ·rw [if_neg (fun h=>h1 h.2),decide_eq_false (fun h=>h1 h.2)]
   refine zAa yF trivial (fun g1=>?_) (fun g1=>?_)
   ·try simp only [go_sem]
    exact zCr (by simp) ⟨zAO rfl trivial (.inr rfl),zAO rfl trivial (.inl rfl),rfl⟩
   ·simp [h1] at g1
 ·have hb:(zA0 l != 0)=true:=by simp [h0]
  rw [if_neg (fun h=>h0 h.1),decide_eq_false (fun h=>h0 h.1)]
  try simp only [go_sem,hb]
  refine zAA (T:=false) (x:=sv []) (by first | rfl | (simp; done)) (fun h=>by cases h) (fun h=>by cases h) ?_
  try simp only [go_sem,hb]
  refine zAa yF trivial (fun g1=>?_) (fun g1=>?_)
  ·try simp only [go_sem]
   exact zCr (by simp) ⟨zAO rfl trivial (.inr rfl),zAO rfl trivial (.inl rfl),rfl⟩
  ·cases g1
end Go.Hx
end

section
set_option maxRecDepth 100000
set_option linter.unusedSimpArgs false
namespace Go.Hx
open Go.Proofs Go.RowKit
attribute [local instance] zBi
attribute [local go_sem] zAC zAz zAB zAw ndV zAx zAv
attribute [local go_sem] reduceCtorEq Nat.reduceAdd Nat.reduceEqDiff reduceIte Nat.reduceLeDiff Nat.reduceLT Nat.reduceSub
theorem yEK (a:Int):Contract Tryz.prog zC2 [.val (iv a)] { res:=.val (bv false) }:=by
 refine mkA zPb (base:=0) (fo rfl) (fun hfit=>?_)
 unfold F0 zGS
 simp only [yIn,Nat.reduceAdd,Nat.reduceSub]
 try simp only [go_sem]
 repeat with_reducible refine zAc ?_
 have e:(a != a)=false:=by simp
 try simp only [go_sem,e]
 repeat with_reducible refine zAc ?_
 exact zAq rfl trivial (.inl rfl)
def yDg (a b:Int):Int:=if a<b then -1 else if a > b then 1 else 0
set_option maxHeartbeats 4000000 in
theorem zSe (a b:Int):Contract Tryz.prog zBZ [.val (iv a),.val (iv b)] { res:=.val (iv (yDg a b)) }:=by
 unfold yDg
 refine mkA zKE (base:=0) (fo rfl) (fun hfit=>?_)
 unfold F0 zFJ
 simp only [yIn,Nat.reduceAdd,Nat.reduceSub]
 try simp only [go_sem]
 repeat with_reducible refine zAc ?_
 refine zAd yR (yEK a) ?_
 try simp only [go_sem]
 repeat with_reducible refine zAc ?_
 refine zAd yR (yEK b) ?_
 try simp only [go_sem]
 repeat with_reducible refine zAc ?_
 refine zAa yF trivial (fun h1=>?_) (fun h1=>?_)
 ·cases h1
 ·try simp only [go_sem]
  repeat with_reducible refine zAc ?_
  refine zAa yF trivial (fun h2=>?_) (fun h2=>?_)
  ·cases h2
  ·try simp only [go_sem]
   repeat with_reducible refine zAc ?_
   refine zAa yF trivial (fun h3=>?_) (fun h3=>?_)
   ·rw [if_pos (by simpa using h3)]
    try simp only [go_sem]
    repeat with_reducible refine zAc ?_
    exact zAq rfl trivial (.inl rfl)
   ·rw [if_neg (by simpa using h3)]
    try simp only [go_sem]
    repeat with_reducible refine zAc ?_
    refine zAa yF trivial (fun h4=>?_) (fun h4=>?_)
    ·rw [if_pos (by simpa using h4)]
     try simp only [go_sem]
     repeat with_reducible refine zAc ?_
     exact zAq rfl trivial (.inl rfl)
    ·rw [if_neg (by simpa using h4)]
     try simp only [go_sem]
     repeat with_reducible refine zAc ?_
     exact zAq rfl trivial (.inl rfl)
def orI (x y z:Int):Int:=if x≠0 then x else if y≠0 then y else z
set_option maxHeartbeats 8000000 in
theorem yLk (x y z:Int):Contract Tryz.prog zF4 [.val (.one (.sl 1 [[bI x],[bI y],[bI z]]))] { res:=.val (iv (orI x y z)) }:=by
 unfold orI
 refine mkA zXt (base:=0) (fo rfl) (fun hfit=>?_)
 unfold F0 zMx
 simp only [yIn,Nat.reduceAdd,Nat.reduceSub]
 try simp only [go_sem]
 repeat with_reducible refine zAc ?_
 refine zAr (fun i:Nat=>[(8,.pv (iv i)),(2,.un),(5,.un),(9,.un),(14,.un)]) (fun i:Nat=>3 - i) (fun i:Nat=>i≤3∧(1≤i→x=0)∧(2≤i→y=0)∧(3≤i→z=0)) (0) ?_ ⟨Nat.zero_le _,fun h=>yO,fun h=>yO,fun h=>yO⟩ ?_
 focus (simp only [go_sem,zAf,zAl,zAs,zAb]; all_goals (repeat' (first | exact trivial | exact zAi yO | exact zAh rfl | exact zAm rfl | exact zAn | exact le_refl _ | refine And.intro ?_ ?_)))
 rintro i ⟨hi,hx,hy,hz⟩
 rcases (by omega:i=0∨i=1∨i=2∨i=3) with rfl | rfl | rfl | rfl
 ·try simp only [go_sem,List.getD_cons_zero,List.length_cons,List.length_nil]
  repeat with_reducible refine zAc ?_
  refine zAa yF trivial (fun g1=>?_) (fun g1=>?_)
  ·try simp only [go_sem,List.getD_cons_zero,List.length_cons,List.length_nil]
   repeat with_reducible refine zAc ?_
   refine zAa yF trivial (fun g2=>?_) (fun g2=>?_)
   ·rw [if_pos (by simpa using g2)]
    try simp only [go_sem]
    repeat with_reducible refine zAc ?_
    exact zAq rfl trivial (.inl rfl)
   ·have h0:x=0:=by simpa using g2
    try simp only [go_sem]
    repeat with_reducible refine zAc ?_
    refine ⟨1,by omega,⟨by omega,fun _=>h0,fun h=>yO,fun h=>yO⟩,?_⟩
    simp only [go_sem,zAf,zAl,zAs,zAb]
    all_goals (repeat' (first | exact trivial | exact zAi yO | exact zAh rfl | exact zAm rfl | exact zAn | exact le_refl _ | refine And.intro ?_ ?_))
  ·simp at g1
 ·have h0:=hx yO
  rw [if_neg (fun h=>h h0)]
  try simp only [go_sem,List.getD_cons_zero,List.getD_cons_succ,List.length_cons,List.length_nil]
  repeat with_reducible refine zAc ?_
  refine zAa yF trivial (fun g1=>?_) (fun g1=>?_)
  ·try simp only [go_sem,List.getD_cons_zero,List.getD_cons_succ,List.length_cons,List.length_nil]
   repeat with_reducible refine zAc ?_
   refine zAa yF trivial (fun g2=>?_) (fun g2=>?_)
   ·rw [if_pos (by simpa using g2)]
    try simp only [go_sem]
    repeat with_reducible refine zAc ?_
    exact zAq rfl trivial (.inl rfl)
   ·have h1:y=0:=by simpa using g2
    try simp only [go_sem]
    repeat with_reducible refine zAc ?_
    refine ⟨2,by omega,⟨by omega,fun _=>h0,fun _=>h1,fun h=>yO⟩,?_⟩
    simp only [go_sem,zAf,zAl,zAs,zAb]
    all_goals (repeat' (first | exact trivial | exact zAi yO | exact zAh rfl | exact zAm rfl | exact zAn | exact le_refl _ | refine And.intro ?_ ?_))
  ·simp at g1
 ·have h0:=hx yO
  have h1:=hy yO
  rw [if_neg (fun h=>h h0),if_neg (fun h=>h h1)]
  try simp only [go_sem,List.getD_cons_zero,List.getD_cons_succ,List.length_cons,List.length_nil]
  repeat with_reducible refine zAc ?_
  refine zAa yF trivial (fun g1=>?_) (fun g1=>?_)
  ·try simp only [go_sem,List.getD_cons_zero,List.getD_cons_succ,List.length_cons,List.length_nil]
   repeat with_reducible refine zAc ?_
   refine zAa yF trivial (fun g2=>?_) (fun g2=>?_)
   ·try simp only [go_sem]
    repeat with_reducible refine zAc ?_
    exact zAq rfl trivial (.inl rfl)
   ·have h2:z=0:=by simpa using g2
    try simp only [go_sem]
    repeat with_reducible refine zAc ?_
    refine ⟨3,by omega,⟨by omega,fun _=>h0,fun _=>h1,fun _=>h2⟩,?_⟩
    simp only [go_sem,zAf,zAl,zAs,zAb]
    all_goals (repeat' (first | exact trivial | exact zAi yO | exact zAh rfl | exact zAm rfl | exact zAn | exact le_refl _ | refine And.intro ?_ ?_))
  ·simp at g1
 ·have h0:=hx yO
  have h1:=hy yO
  have h2:=hz yO
  rw [if_neg (fun h=>h h0),if_neg (fun h=>h h1),h2]
  try simp only [go_sem,List.getD_cons_zero,List.getD_cons_succ,List.length_cons,List.length_nil]
  repeat with_reducible refine zAc ?_
  refine zAa yF trivial (fun g1=>?_) (fun g1=>?_)
  ·simp at g1
  ·try simp only [go_sem]
   repeat with_reducible refine zAc ?_
   exact zAq rfl trivial (.inl rfl)
def yIf (a b:Wt):Int:=orI (yDg a.1 b.1) (yDg a.2.1 b.2.1) (yDg a.2.2 b.2.2)
theorem yF8 (a b:Nat):(0<yDg a b)↔b<a:=by
 unfold yDg
 split
 ·omega
 ·split <;> omega
theorem yEL (a b:Nat):yDg a b=0↔a=b:=by
 unfold yDg
 split
 ·omega
 ·split <;> omega
theorem yF9 (a b:Wt):decide (0<yIf a b)=hvy a b:=by
 unfold yIf orI hvy
 by_cases h1:a.1=b.1 <;> by_cases h2:a.2.1=b.2.1 <;> simp [yEL,yF8,h1,h2]
theorem zT3 (a b:Wt):Contract Tryz.prog zDx [.val (.agg (wV a)),.val (.agg (wV b))] { res:=.val (iv (yIf a b)) }:=by
 unfold wV yIf
 refine mkA zSc (base:=0) (fo rfl) (fun hfit=>?_)
 unfold F0 zHB
 simp only [yIn,Nat.reduceAdd,Nat.reduceSub]
 try simp only [go_sem]
 repeat with_reducible refine zAc ?_
 refine zAd yR (zSe a.1 b.1) ?_
 try simp only [go_sem]
 repeat with_reducible refine zAc ?_
 refine zAd yR (zSe a.2.1 b.2.1) ?_
 try simp only [go_sem]
 repeat with_reducible refine zAc ?_
 refine zAd yR (zSe a.2.2 b.2.2) ?_
 try simp only [go_sem]
 repeat with_reducible refine zAc ?_
 refine zAd yR (yLk (yDg a.1 b.1) (yDg a.2.1 b.2.1) (yDg a.2.2 b.2.2)) ?_
 try simp only [go_sem]
 repeat with_reducible refine zAc ?_
 exact zAq rfl trivial (.inl rfl)
set_option maxHeartbeats 8000000 in
theorem zFK (x:Wt) (r:List Wt) (hr:r.length≤100):Contract Tryz.prog zCa [.val (.one (.sl 3 (wsV (x :: r)))),.val (.one (.clo zDx []))] { res:=.val (.agg (wV (zCY x r))) }:=by
 have h0:(wsV (x :: r)).getD (Int.toNat 0) []=wV x:=rfl
 have hlen:(wsV (x :: r)).length=r.length+1:=by rw [yEJ]; rfl
 refine mkA zFI (base:=0) (fo rfl) (fun hfit=>?_)
 unfold F0 zDy
 simp only [yIn,Nat.reduceAdd,Nat.reduceSub]
 try simp only [go_sem]
 repeat with_reducible refine zAc ?_
 refine zAa yF trivial (fun g0=>?_) (fun g0=>?_)
 ·exfalso; simp only [hlen,decide_eq_true_eq] at g0; omega
 ·try simp only [go_sem,h0,wV]
  repeat with_reducible refine zAc ?_
  refine zAr (fun j:Nat=>[(36,.pv (.one (bI (zCY x (r.take j)).1))),(37,.pv (.one (bI (zCY x (r.take j)).2.1))),(38,.pv (.one (bI (zCY x (r.take j)).2.2))),(6,.pv (iv ((j+1:Nat):Int))),(17,.un),(27,.un)]) (fun j:Nat=>r.length - j) (fun j:Nat=>j≤r.length) (0) ?_ (Nat.zero_le _) ?_
  focus (simp only [go_sem,zAf,zAl,zAs,zAb]; all_goals (repeat' (first | exact trivial | exact zAi yO | exact zAh rfl | exact zAm rfl | exact zAn | exact le_refl _ | refine And.intro ?_ ?_)))
  intro j hj
  try simp only [go_sem,hlen]
  repeat with_reducible refine zAc ?_
  refine zAa yF trivial (fun g1=>?_) (fun g1=>?_)
  ·have hlt:j<r.length:=by simp only [decide_eq_true_eq] at g1; omega
   have hget:(wsV (x :: r)).getD (j+1) []=wV (r.getD j (0,0,0)):=yIe (x :: r) (j+1) (by simpa using hlt)
   have htk:r.take (j+1)=r.take j ++ [r.getD j (0,0,0)]:=zW2 r j _ hlt
   obtain ⟨y,hy⟩:∃ y,y=r.getD j (0,0,0):=⟨_,rfl⟩
   obtain ⟨m,hm⟩:∃ m,m=zCY x (r.take j):=⟨_,rfl⟩
   have hbs:zCY x (r.take (j+1))=if hvy y m then y else m:=by rw [htk,zUz,← hm,← hy]
   rw [← hy] at hget
   rw [← hm]
   unfold wV at hget
   have hc:=zT3 y m
   unfold wV at hc
   try simp only [go_sem,hget,hlen]
   repeat with_reducible refine zAc ?_
   refine yDG yF trivial yR (hc) ?_
   try simp only [go_sem]
   repeat with_reducible refine zAc ?_
   have hgt:decide (yIf y m > 0)=hvy y m:=yF9 y m
   refine zAa yF trivial (fun g2=>?_) (fun g2=>?_)
   ·rw [show decide (0<yIf y m)=hvy y m from hgt] at g2
    rw [g2,if_pos rfl] at hbs
    try simp only [go_sem,hget,hlen]
    repeat with_reducible refine zAc ?_
    refine ⟨j+1,by omega,by omega,?_⟩
    simp only [go_sem,zAf,zAl,zAs,zAb]
    all_goals (repeat' (first | exact trivial | exact zAi yO | exact zAh rfl | exact zAm rfl | exact zAn | exact le_refl _ | refine And.intro ?_ ?_))
    all_goals first | exact zAb | exact zAi yO | exact zAm (by rw [hbs]) | rfl
   ·rw [show decide (0<yIf y m)=hvy y m from hgt] at g2
    rw [g2,if_neg (by simp)] at hbs
    try simp only [go_sem]
    repeat with_reducible refine zAc ?_
    refine ⟨j+1,by omega,by omega,?_⟩
    simp only [go_sem,zAf,zAl,zAs,zAb]
    all_goals (repeat' (first | exact trivial | exact zAi yO | exact zAh rfl | exact zAm rfl | exact zAn | exact le_refl _ | refine And.intro ?_ ?_))
    all_goals first | exact zAb | exact zAi yO | exact zAm (by rw [hbs]) | rfl
  ·have hje:j=r.length:=by simp only [decide_eq_false_iff_not] at g1; omega
   subst hje
   try simp only [go_sem,List.take_length]
   repeat with_reducible refine zAc ?_
   exact zIW rfl rfl rfl
end Go.Hx
end

section
set_option maxRecDepth 100000
set_option linter.unusedSimpArgs false
namespace Go.Hx
open Go.Proofs Go.RowKit
attribute [local instance] zBi
attribute [local go_sem] zAC zAz zAB zAw ndV zAx zAv zBW zBb zA7 yEJ zBB zBh zBk
attribute [local go_sem] reduceCtorEq Nat.reduceAdd Nat.reduceEqDiff reduceIte Nat.reduceLeDiff Nat.reduceLT Nat.reduceSub
theorem zIE {a b:Int} (h:a=b):leC (.pv (.one (bI a))) (.pv (.one (bI b))):=zAm (by rw [h])
theorem yBY:zFw []=(0,0,0):=by rw [zFw]
def tgN (s:Bys):Nat:=if s=[] then 0 else 1
theorem zZq (l:List Ts) (m:Nat) (h:m<l.length):∃ D:Wt,
  ((zFw l).1=(zFw (l.take m)).1+(wgT (l.getD m default)).1+D.1∧(zFw l).2.1=(zFw (l.take m)).2.1+(wgT (l.getD m default)).2.1+D.2.1∧(zFw l).2.2=(zFw (l.take m)).2.2+(wgT (l.getD m default)).2.2+D.2.2) ∧
  ((zFw (l.take (m+1))).1=(zFw (l.take m)).1+(wgT (l.getD m default)).1∧(zFw (l.take (m+1))).2.1=(zFw (l.take m)).2.1+(wgT (l.getD m default)).2.1∧(zFw (l.take (m+1))).2.2=(zFw (l.take m)).2.2+(wgT (l.getD m default)).2.2):=by
 have h1:=yEH l m h
 have h2:zFw l=zSk (zFw (l.take (m+1))) (zFw (l.drop (m+1))):=by rw [← yBV,List.take_append_drop]
 refine ⟨zFw (l.drop (m+1)),?_,?_⟩
 ·rw [h2,h1]; exact ⟨rfl,rfl,rfl⟩
 ·rw [h1]; exact ⟨rfl,rfl,rfl⟩
theorem yEM (l:List St) (m:Nat) (h:m<l.length):∃ D:Wt,∃ T:Wt,T=zFw (l.getD m default).tests ∧
  ((zE0 l).1=(zE0 (l.take m)).1+T.1+D.1∧(zE0 l).2.1=(zE0 (l.take m)).2.1+T.2.1+D.2.1∧(zE0 l).2.2=(zE0 (l.take m)).2.2+(tgN (l.getD m default).tag+T.2.2)+D.2.2) ∧
  ((zE0 (l.take (m+1))).1=(zE0 (l.take m)).1+T.1∧(zE0 (l.take (m+1))).2.1=(zE0 (l.take m)).2.1+T.2.1∧(zE0 (l.take (m+1))).2.2=(zE0 (l.take m)).2.2+(tgN (l.getD m default).tag+T.2.2)):=by
 have h1:=yEI l m h
 rw [yJZ] at h1
 have h2:zE0 l=zSk (zE0 (l.take (m+1))) (zE0 (l.drop (m+1))):=by rw [← yBW,List.take_append_drop]
 refine ⟨zE0 (l.drop (m+1)),_,rfl,?_,?_⟩
 ·rw [h2,h1]; refine ⟨?_,?_,?_⟩ <;> simp [zSk,tgN]
 ·rw [h1]; refine ⟨?_,?_,?_⟩ <;> simp [zSk,tgN]
theorem zFL (l:List Pt) (i:Nat) (h:i<l.length):zB9 (l.take (i+1))=zB9 (l.take i) ++ [wgP (l.getD i default)]:=by
 simp only [zCt]
 rw [zW2 l i default h]
 simp
theorem yEN {p:Pt} {d:Nat} (hd:1≤d) (h:GP p d):wle (zE0 p.steps) 1000000000:=by
 have h1:=wlP p
 rw [yGH] at h1
 refine h1.mono ?_
 have h2:=yLc p d hd h
 have htb:tB d≤1229192:=by
  unfold tB
  split
  ·omega
  ·split <;> omega
 omega
set_option maxHeartbeats 32000000 in
theorem zXv (d:Nat) (hd:1≤d) (hL:∀ l:List Pt,GL l (d+1)→∀ x ∈ l,Contract Tryz.prog zCM [.val (.agg (ptV x))] { res:=.val (.agg (wV (wgP x))) }) (p:Pt) (hp:GP p d):Contract Tryz.prog zCM [.val (.agg (ptV p))] { res:=.val (.agg (wV (wgP p))) }:=by
 have hm0:maxLen=9223372036854775807:=rfl
 obtain ⟨p1,p2,p3,p4,p5⟩:=hp.parts'
 have hW:=yEN hd hp
 rw [yGH]
 have hpv:=zBB p
 rw [zBB]
 refine mkA zXd (base:=0) (fo rfl) (fun hfit=>?_)
 unfold F0 zMv
 simp only [yIn,Nat.reduceAdd,Nat.reduceSub]
 try simp only [go_sem]
 repeat with_reducible refine zAc ?_
 refine zAr (fun j:Nat=>[(88,.pv (.one (bI ((zE0 (p.steps.take j)).1:Nat)))),(89,.pv (.one (bI ((zE0 (p.steps.take j)).2.1:Nat)))),(90,.pv (.one (bI ((zE0 (p.steps.take j)).2.2:Nat)))),(15,.pv (iv j)),(5,.un),(7,.un),(8,.un),(10,.un),(11,.un),(16,.un),(21,.un),(27,.un),(28,.un),(29,.un),(30,.un),(34,.un),(39,.un),(45,.un),(50,.un),(51,.un),(52,.un),(53,.un),(91,.un),(92,.un),(93,.un),(94,.un),(95,.un),(96,.un),(97,.un),(98,.un),(99,.un),(100,.un),(101,.un),(102,.un),(103,.un)]) (fun j:Nat=>p.steps.length - j) (fun j:Nat=>j≤p.steps.length) (0) ?_ (Nat.zero_le _) ?_
 focus (simp only [go_sem,zAf,zAl,zAs,zAb]; all_goals (repeat' (first | exact trivial | exact zAi yO | exact zAh rfl | exact zAm rfl | exact zAn | exact le_refl _ | refine And.intro ?_ ?_)))
 all_goals try exact zIE (by rw [List.take_zero,zE0]; rfl)
 intro j hj
 try simp only [go_sem]
 repeat with_reducible refine zAc ?_
 refine zAa yF trivial (fun g1=>?_) (fun g1=>?_)
 ·have hjl:j<p.steps.length:=by simp at g1; omega
  obtain ⟨SD,TT,hTT,⟨b1,b2,b3⟩,⟨e1,e2,e3⟩⟩:=yEM p.steps j hjl
  have hGs:=GSs.get p5 j hjl
  have hsv:=zC1 p.steps j hjl
  obtain ⟨x,hx⟩:∃ x,x=p.steps.getD j default:=⟨_,rfl⟩
  rw [← hx] at hGs hsv hTT b3 e3
  subst hTT
  obtain ⟨x1,x2⟩:=hGs.parts'
  obtain ⟨w1,w2,w3⟩:=hW
  try simp only [go_sem,hsv]
  repeat with_reducible refine zAc ?_
  refine zAa yF trivial (fun g2=>?_) (fun g2=>?_)
  ·have hx0:x.tag≠[]:=by simpa using g2
   have htg:tgN x.tag=1:=by unfold tgN; rw [if_neg hx0]
   try simp only [go_sem,hsv]
   repeat with_reducible refine zAc ?_
   refine zAr (fun m:Nat=>[(88,.pv (.one (bI (((zE0 (p.steps.take j)).1+(zFw (x.tests.take m)).1:Nat):Int)))),(89,.pv (.one (bI (((zE0 (p.steps.take j)).2.1+(zFw (x.tests.take m)).2.1:Nat):Int)))),(90,.pv (.one (bI (((zE0 (p.steps.take j)).2.2+tgN x.tag+(zFw (x.tests.take m)).2.2:Nat):Int)))),(29,.pv (iv m)),(7,.un),(8,.un),(10,.un),(11,.un),(30,.un),(34,.un),(39,.un),(45,.un),(50,.un),(51,.un),(52,.un),(53,.un),(93,.un),(94,.un),(95,.un),(96,.un),(97,.un),(98,.un),(99,.un),(100,.un),(101,.un),(102,.un),(103,.un)]) (fun m:Nat=>x.tests.length - m) (fun m:Nat=>m≤x.tests.length) (0) ?_ (Nat.zero_le _) ?_
   focus (simp only [go_sem,zAf,zAl,zAs,zAb]; all_goals (repeat' (first | exact trivial | exact zAi yO | exact zAh rfl | exact zAm rfl | exact zAn | exact le_refl _ | refine And.intro ?_ ?_)))
   all_goals try exact zIE (by simp only [List.take_zero,yBY,htg]; omega)
   intro m hm
   try simp only [go_sem,Nat.zero_add]
   repeat with_reducible refine zAc ?_
   refine zAa yF trivial (fun g3=>?_) (fun g3=>?_)
   ·have hml:m<x.tests.length:=by simp at g3; omega
    have htv:=zBz x.tests m hml
    have hGt:=GTs.get x2 m hml
    obtain ⟨D,⟨d1,d2,d3⟩,⟨s1,s2,s3⟩⟩:=zZq x.tests m hml
    obtain ⟨t,ht⟩:∃ t,t=x.tests.getD m default:=⟨_,rfl⟩
    rw [← ht] at htv hGt d1 d2 d3 s1 s2 s3
    obtain ⟨t1,t2⟩:=hGt.parts'
    try simp only [go_sem,htv]
    repeat with_reducible refine zAc ?_
    refine zAa yF trivial (fun q2=>?_) (fun q2=>?_)
    ·have hk:t.kind=2:=by simpa using q2
     have hwT:wgT t=(1,0,0):=by rw [zHA,if_pos hk]
     rw [hwT] at d1 d2 d3 s1 s2 s3
     simp only at d1 d2 d3 s1 s2 s3
     try simp only [go_sem]
     repeat with_reducible refine zAc ?_
     refine ⟨m+1,by omega,by omega,?_⟩
     simp only [go_sem,zAf,zAl,zAs,zAb]
     all_goals (repeat' (first | exact trivial | exact zAi yO | exact zAh rfl | exact zAm rfl | exact zAn | exact le_refl _ | refine And.intro ?_ ?_))
     all_goals first | exact zAb | exact zAi yO | exact zIE yO | rfl
    ·have hk2:t.kind≠2:=by simpa using q2
     try simp only [go_sem]
     repeat with_reducible refine zAc ?_
     refine zAa yF trivial (fun q13=>?_) (fun q13=>?_)
     ·have hk:t.kind=13:=by simpa using q13
      try simp only [go_sem]
      repeat with_reducible refine zAc ?_
      refine zAa yF trivial (fun q13b=>?_) (fun q13b=>?_)
      ·have hwT:wgT t=zZw (zB9 t.list):=by rw [zHA,if_neg yO,if_neg yO]
       have hGL:=t2 yO
       have hl5:=hGL.2.2.1
       try simp only [go_sem]
       repeat with_reducible refine zAc ?_
       refine zAr (fun i:Nat=>[(8,.own zB0 3 (wsV (zB9 (t.list.take i)))),(52,.pv (iv i)),(10,.un),(53,.un),(99,.un),(100,.un)]) (fun i:Nat=>t.list.length - i) (fun i:Nat=>i≤t.list.length) (0) ?_ (Nat.zero_le _) ?_
       focus (simp only [go_sem,zAf,zAl,zAs,zAb]; all_goals (repeat' (first | exact trivial | exact zAi yO | exact zAh rfl | exact zAm rfl | exact zAn | exact le_refl _ | refine And.intro ?_ ?_)))
       all_goals try exact zB7 (by rw [List.take_zero,zB9]; rfl)
       intro i hi
       try simp only [go_sem]
       repeat with_reducible refine zAc ?_
       refine zAa yF trivial (fun g9=>?_) (fun g9=>?_)
       ·have hil:i<t.list.length:=by simp at g9; omega
        have hwt:=zFL t.list i hil
        have hpg:=zB5 t.list i hil
        have hmem:t.list.getD i default ∈ t.list:=by
         rw [List.getD_eq_getElem?_getD,List.getElem?_eq_getElem hil]; exact List.getElem_mem hil
        obtain ⟨y,hy⟩:∃ y,y=t.list.getD i default:=⟨_,rfl⟩
        rw [← hy] at hmem hpg hwt
        have hc:=hL _ hGL y hmem
        rw [zBB] at hc
        have hwl:(zB9 (t.list.take i)).length≤5:=by rw [zCt,List.length_map,List.length_take]; omega
        try simp only [go_sem,hpg]
        repeat with_reducible refine zAc ?_
        refine zAd yR (hc) ?_
        try simp only [go_sem,wV]
        repeat with_reducible refine zAc ?_
        refine ⟨i+1,by omega,by omega,?_⟩
        simp only [go_sem,zAf,zAl,zAs,zAb]
        all_goals (repeat' (first | exact trivial | exact zAi yO | exact zAh rfl | exact zAm rfl | exact zAn | exact le_refl _ | refine And.intro ?_ ?_))
        all_goals first | exact zAb | exact zAi yO | exact zB7 (by rw [hwt,zL1]; rfl) | rfl
       ·have hie:i=t.list.length:=by simp at g9; omega
        subst hie
        have hls:∃ x0 r0,t.list=x0 :: r0:=by
         cases hlc:t.list with
         |nil=>rw [hlc] at hGL; exact absurd hGL.2.1 (by simp)
         |cons x0 r0=>exact ⟨x0,r0,rfl⟩
        obtain ⟨x0,r0,hl0⟩:=hls
        have hwp:zB9 t.list=wgP x0 :: zB9 r0:=by rw [hl0,zB9]
        have hbest:zZw (zB9 t.list)=zCY (wgP x0) (zB9 r0):=by rw [hwp,zFx]
        rw [hbest] at hwT
        have hr0:(zB9 r0).length≤100:=by
         have:=hGL.2.2.1
         rw [hl0] at this
         rw [zCt,List.length_map]
         simp only [List.length_cons] at this
         omega
        have hc:=zFK (wgP x0) (zB9 r0) hr0
        rw [← hwp] at hc
        obtain ⟨B,hB⟩:∃ B,B=zCY (wgP x0) (zB9 r0):=⟨_,rfl⟩
        rw [← hB] at hc hwT
        rw [hwT] at d1 d2 d3 s1 s2 s3
        try simp only [go_sem,List.take_length]
        repeat with_reducible refine zAc ?_
        refine zAd yR (hc) ?_
        try simp only [go_sem,wV]
        repeat with_reducible refine zAc ?_
        refine ⟨m+1,by omega,by omega,?_⟩
        simp only [go_sem,zAf,zAl,zAs,zAb]
        all_goals (repeat' (first | exact trivial | exact zAi yO | exact zAh rfl | exact zAm rfl | exact zAn | exact le_refl _ | refine And.intro ?_ ?_))
        all_goals first | exact zAb | exact zAi yO | exact zIE yO | rfl
      ·rw [q13] at q13b; cases q13b
     ·have hk13:t.kind≠13:=by simpa using q13
      try simp only [go_sem]
      repeat with_reducible refine zAc ?_
      refine zAa yF trivial (fun q14=>?_) (fun q14=>?_)
      ·have hk:t.kind=14:=by simpa using q14
       try simp only [go_sem]
       repeat with_reducible refine zAc ?_
       refine zAa yF trivial (fun q14b=>?_) (fun q14b=>?_)
       ·have hwT:wgT t=zZw (zB9 t.list):=by rw [zHA,if_neg yO,if_neg yO]
        have hGL:=t2 yO
        have hl5:=hGL.2.2.1
        try simp only [go_sem]
        repeat with_reducible refine zAc ?_
        refine zAr (fun i:Nat=>[(8,.own zB0 3 (wsV (zB9 (t.list.take i)))),(52,.pv (iv i)),(10,.un),(53,.un),(99,.un),(100,.un)]) (fun i:Nat=>t.list.length - i) (fun i:Nat=>i≤t.list.length) (0) ?_ (Nat.zero_le _) ?_
        focus (simp only [go_sem,zAf,zAl,zAs,zAb]; all_goals (repeat' (first | exact trivial | exact zAi yO | exact zAh rfl | exact zAm rfl | exact zAn | exact le_refl _ | refine And.intro ?_ ?_)))
        all_goals try exact zB7 (by rw [List.take_zero,zB9]; rfl)
        intro i hi
        try simp only [go_sem]
        repeat with_reducible refine zAc ?_
        refine zAa yF trivial (fun g9=>?_) (fun g9=>?_)
        ·have hil:i<t.list.length:=by simp at g9; omega
         have hwt:=zFL t.list i hil
         have hpg:=zB5 t.list i hil
         have hmem:t.list.getD i default ∈ t.list:=by
          rw [List.getD_eq_getElem?_getD,List.getElem?_eq_getElem hil]; exact List.getElem_mem hil
         obtain ⟨y,hy⟩:∃ y,y=t.list.getD i default:=⟨_,rfl⟩
         rw [← hy] at hmem hpg hwt
         have hc:=hL _ hGL y hmem
         rw [zBB] at hc
         have hwl:(zB9 (t.list.take i)).length≤5:=by rw [zCt,List.length_map,List.length_take]; omega
         try simp only [go_sem,hpg]
         repeat with_reducible refine zAc ?_
         refine zAd yR (hc) ?_
         try simp only [go_sem,wV]
         repeat with_reducible refine zAc ?_
         refine ⟨i+1,by omega,by omega,?_⟩
         simp only [go_sem,zAf,zAl,zAs,zAb]
         all_goals (repeat' (first | exact trivial | exact zAi yO | exact zAh rfl | exact zAm rfl | exact zAn | exact le_refl _ | refine And.intro ?_ ?_))
         all_goals first | exact zAb | exact zAi yO | exact zB7 (by rw [hwt,zL1]; rfl) | rfl
        ·have hie:i=t.list.length:=by simp at g9; omega
         subst hie
         have hls:∃ x0 r0,t.list=x0 :: r0:=by
          cases hlc:t.list with
          |nil=>rw [hlc] at hGL; exact absurd hGL.2.1 (by simp)
          |cons x0 r0=>exact ⟨x0,r0,rfl⟩
         obtain ⟨x0,r0,hl0⟩:=hls
         have hwp:zB9 t.list=wgP x0 :: zB9 r0:=by rw [hl0,zB9]
         have hbest:zZw (zB9 t.list)=zCY (wgP x0) (zB9 r0):=by rw [hwp,zFx]
         rw [hbest] at hwT
         have hr0:(zB9 r0).length≤100:=by
          have:=hGL.2.2.1
          rw [hl0] at this
          rw [zCt,List.length_map]
          simp only [List.length_cons] at this
          omega
         have hc:=zFK (wgP x0) (zB9 r0) hr0
         rw [← hwp] at hc
         obtain ⟨B,hB⟩:∃ B,B=zCY (wgP x0) (zB9 r0):=⟨_,rfl⟩
         rw [← hB] at hc hwT
         rw [hwT] at d1 d2 d3 s1 s2 s3
         try simp only [go_sem,List.take_length]
         repeat with_reducible refine zAc ?_
         refine zAd yR (hc) ?_
         try simp only [go_sem,wV]
         repeat with_reducible refine zAc ?_
         refine ⟨m+1,by omega,by omega,?_⟩
         simp only [go_sem,zAf,zAl,zAs,zAb]
         all_goals (repeat' (first | exact trivial | exact zAi yO | exact zAh rfl | exact zAm rfl | exact zAn | exact le_refl _ | refine And.intro ?_ ?_))
         all_goals first | exact zAb | exact zAi yO | exact zIE yO | rfl
       ·rw [q14] at q14b; cases q14b
      ·have hk14:t.kind≠14:=by simpa using q14
       try simp only [go_sem]
       repeat with_reducible refine zAc ?_
       refine zAa yF trivial (fun q15=>?_) (fun q15=>?_)
       ·have hk:t.kind=15:=by simpa using q15
        have hwT:wgT t=zZw (zB9 t.list):=by rw [zHA,if_neg yO,if_neg yO]
        have hGL:=t2 yO
        have hl5:=hGL.2.2.1
        try simp only [go_sem]
        repeat with_reducible refine zAc ?_
        refine zAr (fun i:Nat=>[(8,.own zB0 3 (wsV (zB9 (t.list.take i)))),(52,.pv (iv i)),(10,.un),(53,.un),(99,.un),(100,.un)]) (fun i:Nat=>t.list.length - i) (fun i:Nat=>i≤t.list.length) (0) ?_ (Nat.zero_le _) ?_
        focus (simp only [go_sem,zAf,zAl,zAs,zAb]; all_goals (repeat' (first | exact trivial | exact zAi yO | exact zAh rfl | exact zAm rfl | exact zAn | exact le_refl _ | refine And.intro ?_ ?_)))
        all_goals try exact zB7 (by rw [List.take_zero,zB9]; rfl)
        intro i hi
        try simp only [go_sem]
        repeat with_reducible refine zAc ?_
        refine zAa yF trivial (fun g9=>?_) (fun g9=>?_)
        ·have hil:i<t.list.length:=by simp at g9; omega
         have hwt:=zFL t.list i hil
         have hpg:=zB5 t.list i hil
         have hmem:t.list.getD i default ∈ t.list:=by
          rw [List.getD_eq_getElem?_getD,List.getElem?_eq_getElem hil]; exact List.getElem_mem hil
         obtain ⟨y,hy⟩:∃ y,y=t.list.getD i default:=⟨_,rfl⟩
         rw [← hy] at hmem hpg hwt
         have hc:=hL _ hGL y hmem
         rw [zBB] at hc
         have hwl:(zB9 (t.list.take i)).length≤5:=by rw [zCt,List.length_map,List.length_take]; omega
         try simp only [go_sem,hpg]
         repeat with_reducible refine zAc ?_
         refine zAd yR (hc) ?_
         try simp only [go_sem,wV]
         repeat with_reducible refine zAc ?_
         refine ⟨i+1,by omega,by omega,?_⟩
         simp only [go_sem,zAf,zAl,zAs,zAb]
         all_goals (repeat' (first | exact trivial | exact zAi yO | exact zAh rfl | exact zAm rfl | exact zAn | exact le_refl _ | refine And.intro ?_ ?_))
         all_goals first | exact zAb | exact zAi yO | exact zB7 (by rw [hwt,zL1]; rfl) | rfl
        ·have hie:i=t.list.length:=by simp at g9; omega
         subst hie
         have hls:∃ x0 r0,t.list=x0 :: r0:=by
          cases hlc:t.list with
          |nil=>rw [hlc] at hGL; exact absurd hGL.2.1 (by simp)
          |cons x0 r0=>exact ⟨x0,r0,rfl⟩
         obtain ⟨x0,r0,hl0⟩:=hls
         have hwp:zB9 t.list=wgP x0 :: zB9 r0:=by rw [hl0,zB9]
         have hbest:zZw (zB9 t.list)=zCY (wgP x0) (zB9 r0):=by rw [hwp,zFx]
         rw [hbest] at hwT
         have hr0:(zB9 r0).length≤100:=by
          have:=hGL.2.2.1
          rw [hl0] at this
          rw [zCt,List.length_map]
          simp only [List.length_cons] at this
          omega
         have hc:=zFK (wgP x0) (zB9 r0) hr0
         rw [← hwp] at hc
         obtain ⟨B,hB⟩:∃ B,B=zCY (wgP x0) (zB9 r0):=⟨_,rfl⟩
         rw [← hB] at hc hwT
         rw [hwT] at d1 d2 d3 s1 s2 s3
         try simp only [go_sem,List.take_length]
         repeat with_reducible refine zAc ?_
         refine zAd yR (hc) ?_
         try simp only [go_sem,wV]
         repeat with_reducible refine zAc ?_
         refine ⟨m+1,by omega,by omega,?_⟩
         simp only [go_sem,zAf,zAl,zAs,zAb]
         all_goals (repeat' (first | exact trivial | exact zAi yO | exact zAh rfl | exact zAm rfl | exact zAn | exact le_refl _ | refine And.intro ?_ ?_))
         all_goals first | exact zAb | exact zAi yO | exact zIE yO | rfl
       ·have hk15:t.kind≠15:=by simpa using q15
        have hwT:wgT t=(0,1,0):=by rw [zHA,if_neg yO,if_pos yO]
        rw [hwT] at d1 d2 d3 s1 s2 s3
        simp only at d1 d2 d3 s1 s2 s3
        try simp only [go_sem]
        repeat with_reducible refine zAc ?_
        refine ⟨m+1,by omega,by omega,?_⟩
        simp only [go_sem,zAf,zAl,zAs,zAb]
        all_goals (repeat' (first | exact trivial | exact zAi yO | exact zAh rfl | exact zAm rfl | exact zAn | exact le_refl _ | refine And.intro ?_ ?_))
        all_goals first | exact zAb | exact zAi yO | exact zIE yO | rfl
   ·have hme:m=x.tests.length:=by simp at g3; omega
    subst hme
    try simp only [go_sem]
    repeat with_reducible refine zAc ?_
    rw [List.take_length]
    refine ⟨j+1,by omega,by omega,?_⟩
    simp only [go_sem,zAf,zAl,zAs,zAb]
    all_goals (repeat' (first | exact trivial | exact zAi yO | exact zAh rfl | exact zAm rfl | exact zAn | exact le_refl _ | refine And.intro ?_ ?_))
    all_goals first | exact zAb | exact zAi yO | exact zIE yO | rfl
  ·have hx0:x.tag=[]:=by simpa using g2
   have htg:tgN x.tag=0:=by unfold tgN; rw [if_pos hx0]
   try simp only [go_sem,hsv]
   repeat with_reducible refine zAc ?_
   refine zAr (fun m:Nat=>[(88,.pv (.one (bI (((zE0 (p.steps.take j)).1+(zFw (x.tests.take m)).1:Nat):Int)))),(89,.pv (.one (bI (((zE0 (p.steps.take j)).2.1+(zFw (x.tests.take m)).2.1:Nat):Int)))),(90,.pv (.one (bI (((zE0 (p.steps.take j)).2.2+tgN x.tag+(zFw (x.tests.take m)).2.2:Nat):Int)))),(29,.pv (iv m)),(7,.un),(8,.un),(10,.un),(11,.un),(30,.un),(34,.un),(39,.un),(45,.un),(50,.un),(51,.un),(52,.un),(53,.un),(93,.un),(94,.un),(95,.un),(96,.un),(97,.un),(98,.un),(99,.un),(100,.un),(101,.un),(102,.un),(103,.un)]) (fun m:Nat=>x.tests.length - m) (fun m:Nat=>m≤x.tests.length) (0) ?_ (Nat.zero_le _) ?_
   focus (simp only [go_sem,zAf,zAl,zAs,zAb]; all_goals (repeat' (first | exact trivial | exact zAi yO | exact zAh rfl | exact zAm rfl | exact zAn | exact le_refl _ | refine And.intro ?_ ?_)))
   all_goals try exact zIE (by simp only [List.take_zero,yBY,htg]; omega)
   intro m hm
   try simp only [go_sem,Nat.zero_add]
   repeat with_reducible refine zAc ?_
   refine zAa yF trivial (fun g3=>?_) (fun g3=>?_)
   ·have hml:m<x.tests.length:=by simp at g3; omega
    have htv:=zBz x.tests m hml
    have hGt:=GTs.get x2 m hml
    obtain ⟨D,⟨d1,d2,d3⟩,⟨s1,s2,s3⟩⟩:=zZq x.tests m hml
    obtain ⟨t,ht⟩:∃ t,t=x.tests.getD m default:=⟨_,rfl⟩
    rw [← ht] at htv hGt d1 d2 d3 s1 s2 s3
    obtain ⟨t1,t2⟩:=hGt.parts'
    try simp only [go_sem,htv]
    repeat with_reducible refine zAc ?_
    refine zAa yF trivial (fun q2=>?_) (fun q2=>?_)
    ·have hk:t.kind=2:=by simpa using q2
     have hwT:wgT t=(1,0,0):=by rw [zHA,if_pos hk]
     rw [hwT] at d1 d2 d3 s1 s2 s3
     simp only at d1 d2 d3 s1 s2 s3
     try simp only [go_sem]
     repeat with_reducible refine zAc ?_
     refine ⟨m+1,by omega,by omega,?_⟩
     simp only [go_sem,zAf,zAl,zAs,zAb]
     all_goals (repeat' (first | exact trivial | exact zAi yO | exact zAh rfl | exact zAm rfl | exact zAn | exact le_refl _ | refine And.intro ?_ ?_))
     all_goals first | exact zAb | exact zAi yO | exact zIE yO | rfl
    ·have hk2:t.kind≠2:=by simpa using q2
     try simp only [go_sem]
     repeat with_reducible refine zAc ?_
     refine zAa yF trivial (fun q13=>?_) (fun q13=>?_)
     ·have hk:t.kind=13:=by simpa using q13
      try simp only [go_sem]
      repeat with_reducible refine zAc ?_
      refine zAa yF trivial (fun q13b=>?_) (fun q13b=>?_)
      ·have hwT:wgT t=zZw (zB9 t.list):=by rw [zHA,if_neg yO,if_neg yO]
       have hGL:=t2 yO
       have hl5:=hGL.2.2.1
       try simp only [go_sem]
       repeat with_reducible refine zAc ?_
       refine zAr (fun i:Nat=>[(8,.own zB0 3 (wsV (zB9 (t.list.take i)))),(52,.pv (iv i)),(10,.un),(53,.un),(99,.un),(100,.un)]) (fun i:Nat=>t.list.length - i) (fun i:Nat=>i≤t.list.length) (0) ?_ (Nat.zero_le _) ?_
       focus (simp only [go_sem,zAf,zAl,zAs,zAb]; all_goals (repeat' (first | exact trivial | exact zAi yO | exact zAh rfl | exact zAm rfl | exact zAn | exact le_refl _ | refine And.intro ?_ ?_)))
       all_goals try exact zB7 (by rw [List.take_zero,zB9]; rfl)
       intro i hi
       try simp only [go_sem]
       repeat with_reducible refine zAc ?_
       refine zAa yF trivial (fun g9=>?_) (fun g9=>?_)
       ·have hil:i<t.list.length:=by simp at g9; omega
        have hwt:=zFL t.list i hil
        have hpg:=zB5 t.list i hil
        have hmem:t.list.getD i default ∈ t.list:=by
         rw [List.getD_eq_getElem?_getD,List.getElem?_eq_getElem hil]; exact List.getElem_mem hil
        obtain ⟨y,hy⟩:∃ y,y=t.list.getD i default:=⟨_,rfl⟩
        rw [← hy] at hmem hpg hwt
        have hc:=hL _ hGL y hmem
        rw [zBB] at hc
        have hwl:(zB9 (t.list.take i)).length≤5:=by rw [zCt,List.length_map,List.length_take]; omega
        try simp only [go_sem,hpg]
        repeat with_reducible refine zAc ?_
        refine zAd yR (hc) ?_
        try simp only [go_sem,wV]
        repeat with_reducible refine zAc ?_
        refine ⟨i+1,by omega,by omega,?_⟩
        simp only [go_sem,zAf,zAl,zAs,zAb]
        all_goals (repeat' (first | exact trivial | exact zAi yO | exact zAh rfl | exact zAm rfl | exact zAn | exact le_refl _ | refine And.intro ?_ ?_))
        all_goals first | exact zAb | exact zAi yO | exact zB7 (by rw [hwt,zL1]; rfl) | rfl
       ·have hie:i=t.list.length:=by simp at g9; omega
        subst hie
        have hls:∃ x0 r0,t.list=x0 :: r0:=by
         cases hlc:t.list with
         |nil=>rw [hlc] at hGL; exact absurd hGL.2.1 (by simp)
         |cons x0 r0=>exact ⟨x0,r0,rfl⟩
        obtain ⟨x0,r0,hl0⟩:=hls
        have hwp:zB9 t.list=wgP x0 :: zB9 r0:=by rw [hl0,zB9]
        have hbest:zZw (zB9 t.list)=zCY (wgP x0) (zB9 r0):=by rw [hwp,zFx]
        rw [hbest] at hwT
        have hr0:(zB9 r0).length≤100:=by
         have:=hGL.2.2.1
         rw [hl0] at this
         rw [zCt,List.length_map]
         simp only [List.length_cons] at this
         omega
        have hc:=zFK (wgP x0) (zB9 r0) hr0
        rw [← hwp] at hc
        obtain ⟨B,hB⟩:∃ B,B=zCY (wgP x0) (zB9 r0):=⟨_,rfl⟩
        rw [← hB] at hc hwT
        rw [hwT] at d1 d2 d3 s1 s2 s3
        try simp only [go_sem,List.take_length]
        repeat with_reducible refine zAc ?_
        refine zAd yR (hc) ?_
        try simp only [go_sem,wV]
        repeat with_reducible refine zAc ?_
        refine ⟨m+1,by omega,by omega,?_⟩
        simp only [go_sem,zAf,zAl,zAs,zAb]
        all_goals (repeat' (first | exact trivial | exact zAi yO | exact zAh rfl | exact zAm rfl | exact zAn | exact le_refl _ | refine And.intro ?_ ?_))
        all_goals first | exact zAb | exact zAi yO | exact zIE yO | rfl
      ·rw [q13] at q13b; cases q13b
     ·have hk13:t.kind≠13:=by simpa using q13
      try simp only [go_sem]
      repeat with_reducible refine zAc ?_
      refine zAa yF trivial (fun q14=>?_) (fun q14=>?_)
      ·have hk:t.kind=14:=by simpa using q14
       try simp only [go_sem]
       repeat with_reducible refine zAc ?_
       refine zAa yF trivial (fun q14b=>?_) (fun q14b=>?_)
       ·have hwT:wgT t=zZw (zB9 t.list):=by rw [zHA,if_neg yO,if_neg yO]
        have hGL:=t2 yO
        have hl5:=hGL.2.2.1
        try simp only [go_sem]
        repeat with_reducible refine zAc ?_
        refine zAr (fun i:Nat=>[(8,.own zB0 3 (wsV (zB9 (t.list.take i)))),(52,.pv (iv i)),(10,.un),(53,.un),(99,.un),(100,.un)]) (fun i:Nat=>t.list.length - i) (fun i:Nat=>i≤t.list.length) (0) ?_ (Nat.zero_le _) ?_
        focus (simp only [go_sem,zAf,zAl,zAs,zAb]; all_goals (repeat' (first | exact trivial | exact zAi yO | exact zAh rfl | exact zAm rfl | exact zAn | exact le_refl _ | refine And.intro ?_ ?_)))
        all_goals try exact zB7 (by rw [List.take_zero,zB9]; rfl)
        intro i hi
        try simp only [go_sem]
        repeat with_reducible refine zAc ?_
        refine zAa yF trivial (fun g9=>?_) (fun g9=>?_)
        ·have hil:i<t.list.length:=by simp at g9; omega
         have hwt:=zFL t.list i hil
         have hpg:=zB5 t.list i hil
         have hmem:t.list.getD i default ∈ t.list:=by
          rw [List.getD_eq_getElem?_getD,List.getElem?_eq_getElem hil]; exact List.getElem_mem hil
         obtain ⟨y,hy⟩:∃ y,y=t.list.getD i default:=⟨_,rfl⟩
         rw [← hy] at hmem hpg hwt
         have hc:=hL _ hGL y hmem
         rw [zBB] at hc
         have hwl:(zB9 (t.list.take i)).length≤5:=by rw [zCt,List.length_map,List.length_take]; omega
         try simp only [go_sem,hpg]
         repeat with_reducible refine zAc ?_
         refine zAd yR (hc) ?_
         try simp only [go_sem,wV]
         repeat with_reducible refine zAc ?_
         refine ⟨i+1,by omega,by omega,?_⟩
         simp only [go_sem,zAf,zAl,zAs,zAb]
         all_goals (repeat' (first | exact trivial | exact zAi yO | exact zAh rfl | exact zAm rfl | exact zAn | exact le_refl _ | refine And.intro ?_ ?_))
         all_goals first | exact zAb | exact zAi yO | exact zB7 (by rw [hwt,zL1]; rfl) | rfl
        ·have hie:i=t.list.length:=by simp at g9; omega
         subst hie
         have hls:∃ x0 r0,t.list=x0 :: r0:=by
          cases hlc:t.list with
          |nil=>rw [hlc] at hGL; exact absurd hGL.2.1 (by simp)
          |cons x0 r0=>exact ⟨x0,r0,rfl⟩
         obtain ⟨x0,r0,hl0⟩:=hls
         have hwp:zB9 t.list=wgP x0 :: zB9 r0:=by rw [hl0,zB9]
         have hbest:zZw (zB9 t.list)=zCY (wgP x0) (zB9 r0):=by rw [hwp,zFx]
         rw [hbest] at hwT
         have hr0:(zB9 r0).length≤100:=by
          have:=hGL.2.2.1
          rw [hl0] at this
          rw [zCt,List.length_map]
          simp only [List.length_cons] at this
          omega
         have hc:=zFK (wgP x0) (zB9 r0) hr0
         rw [← hwp] at hc
         obtain ⟨B,hB⟩:∃ B,B=zCY (wgP x0) (zB9 r0):=⟨_,rfl⟩
         rw [← hB] at hc hwT
         rw [hwT] at d1 d2 d3 s1 s2 s3
         try simp only [go_sem,List.take_length]
         repeat with_reducible refine zAc ?_
         refine zAd yR (hc) ?_
         try simp only [go_sem,wV]
         repeat with_reducible refine zAc ?_
         refine ⟨m+1,by omega,by omega,?_⟩
         simp only [go_sem,zAf,zAl,zAs,zAb]
         all_goals (repeat' (first | exact trivial | exact zAi yO | exact zAh rfl | exact zAm rfl | exact zAn | exact le_refl _ | refine And.intro ?_ ?_))
         all_goals first | exact zAb | exact zAi yO | exact zIE yO | rfl
       ·rw [q14] at q14b; cases q14b
      ·have hk14:t.kind≠14:=by simpa using q14
       try simp only [go_sem]
       repeat with_reducible refine zAc ?_
       refine zAa yF trivial (fun q15=>?_) (fun q15=>?_)
       ·have hk:t.kind=15:=by simpa using q15
        have hwT:wgT t=zZw (zB9 t.list):=by rw [zHA,if_neg yO,if_neg yO]
        have hGL:=t2 yO
        have hl5:=hGL.2.2.1
        try simp only [go_sem]
        repeat with_reducible refine zAc ?_
        refine zAr (fun i:Nat=>[(8,.own zB0 3 (wsV (zB9 (t.list.take i)))),(52,.pv (iv i)),(10,.un),(53,.un),(99,.un),(100,.un)]) (fun i:Nat=>t.list.length - i) (fun i:Nat=>i≤t.list.length) (0) ?_ (Nat.zero_le _) ?_
        focus (simp only [go_sem,zAf,zAl,zAs,zAb]; all_goals (repeat' (first | exact trivial | exact zAi yO | exact zAh rfl | exact zAm rfl | exact zAn | exact le_refl _ | refine And.intro ?_ ?_)))
        all_goals try exact zB7 (by rw [List.take_zero,zB9]; rfl)
        intro i hi
        try simp only [go_sem]
        repeat with_reducible refine zAc ?_
        refine zAa yF trivial (fun g9=>?_) (fun g9=>?_)
        ·have hil:i<t.list.length:=by simp at g9; omega
         have hwt:=zFL t.list i hil
         have hpg:=zB5 t.list i hil
         have hmem:t.list.getD i default ∈ t.list:=by
          rw [List.getD_eq_getElem?_getD,List.getElem?_eq_getElem hil]; exact List.getElem_mem hil
         obtain ⟨y,hy⟩:∃ y,y=t.list.getD i default:=⟨_,rfl⟩
         rw [← hy] at hmem hpg hwt
         have hc:=hL _ hGL y hmem
         rw [zBB] at hc
         have hwl:(zB9 (t.list.take i)).length≤5:=by rw [zCt,List.length_map,List.length_take]; omega
         try simp only [go_sem,hpg]
         repeat with_reducible refine zAc ?_
         refine zAd yR (hc) ?_
         try simp only [go_sem,wV]
         repeat with_reducible refine zAc ?_
         refine ⟨i+1,by omega,by omega,?_⟩
         simp only [go_sem,zAf,zAl,zAs,zAb]
         all_goals (repeat' (first | exact trivial | exact zAi yO | exact zAh rfl | exact zAm rfl | exact zAn | exact le_refl _ | refine And.intro ?_ ?_))
         all_goals first | exact zAb | exact zAi yO | exact zB7 (by rw [hwt,zL1]; rfl) | rfl
        ·have hie:i=t.list.length:=by simp at g9; omega
         subst hie
         have hls:∃ x0 r0,t.list=x0 :: r0:=by
          cases hlc:t.list with
          |nil=>rw [hlc] at hGL; exact absurd hGL.2.1 (by simp)
          |cons x0 r0=>exact ⟨x0,r0,rfl⟩
         obtain ⟨x0,r0,hl0⟩:=hls
         have hwp:zB9 t.list=wgP x0 :: zB9 r0:=by rw [hl0,zB9]
         have hbest:zZw (zB9 t.list)=zCY (wgP x0) (zB9 r0):=by rw [hwp,zFx]
         rw [hbest] at hwT
         have hr0:(zB9 r0).length≤100:=by
          have:=hGL.2.2.1
          rw [hl0] at this
          rw [zCt,List.length_map]
          simp only [List.length_cons] at this
          omega
         have hc:=zFK (wgP x0) (zB9 r0) hr0
         rw [← hwp] at hc
         obtain ⟨B,hB⟩:∃ B,B=zCY (wgP x0) (zB9 r0):=⟨_,rfl⟩
         rw [← hB] at hc hwT
         rw [hwT] at d1 d2 d3 s1 s2 s3
         try simp only [go_sem,List.take_length]
         repeat with_reducible refine zAc ?_
         refine zAd yR (hc) ?_
         try simp only [go_sem,wV]
         repeat with_reducible refine zAc ?_
         refine ⟨m+1,by omega,by omega,?_⟩
         simp only [go_sem,zAf,zAl,zAs,zAb]
         all_goals (repeat' (first | exact trivial | exact zAi yO | exact zAh rfl | exact zAm rfl | exact zAn | exact le_refl _ | refine And.intro ?_ ?_))
         all_goals first | exact zAb | exact zAi yO | exact zIE yO | rfl
       ·have hk15:t.kind≠15:=by simpa using q15
        have hwT:wgT t=(0,1,0):=by rw [zHA,if_neg yO,if_pos yO]
        rw [hwT] at d1 d2 d3 s1 s2 s3
        simp only at d1 d2 d3 s1 s2 s3
        try simp only [go_sem]
        repeat with_reducible refine zAc ?_
        refine ⟨m+1,by omega,by omega,?_⟩
        simp only [go_sem,zAf,zAl,zAs,zAb]
        all_goals (repeat' (first | exact trivial | exact zAi yO | exact zAh rfl | exact zAm rfl | exact zAn | exact le_refl _ | refine And.intro ?_ ?_))
        all_goals first | exact zAb | exact zAi yO | exact zIE yO | rfl
   ·have hme:m=x.tests.length:=by simp at g3; omega
    subst hme
    try simp only [go_sem]
    repeat with_reducible refine zAc ?_
    rw [List.take_length]
    refine ⟨j+1,by omega,by omega,?_⟩
    simp only [go_sem,zAf,zAl,zAs,zAb]
    all_goals (repeat' (first | exact trivial | exact zAi yO | exact zAh rfl | exact zAm rfl | exact zAn | exact le_refl _ | refine And.intro ?_ ?_))
    all_goals first | exact zAb | exact zAi yO | exact zIE yO | rfl
 ·have hje:j=p.steps.length:=by simp at g1; omega
  subst hje
  rw [List.take_length]
  try simp only [go_sem]
  repeat with_reducible refine zAc ?_
  exact zIW rfl rfl rfl
theorem zUA:∀ n d:Nat,1≤d→d+n=4→d≤3→∀ p:Pt,GP p d→Contract Tryz.prog zCM [.val (.agg (ptV p))] { res:=.val (.agg (wV (wgP p))) }
 |0,d,hd,hn,h3=>by omega
 |n+1,d,hd,hn,h3=>fun p hp=>zXv d hd (fun l hl x hx=>by
   have h4:=hl.1
   obtain ⟨i,hi,rfl⟩:=List.getElem_of_mem hx
   have hg:=GPs.get hl.2.2.2 i hi
   have he:l.getD i default=l[i]:=by simp [List.getD_eq_getElem?_getD,hi]
   rw [he] at hg
   exact zUA n (d+1) yO yO h4 _ hg) p hp
def wOf (p:Pt):Wt:=if zA0 [p]=0 then wgP p else (0,0,0)
theorem zZr (p:Pt):Contract Tryz.prog zF5 [.val (.agg (ptV p))] { res:=.tup [.agg (wV (wOf p)),iv (zA0 [p])] }:=by
 have hc:=zBC [p]
 have hl:zBf [p] = .one (.sl 2 [ptV p]):=rfl
 rw [hl,zBB] at hc
 have hw:=zUA 3 1 (Nat.le_refl _) rfl yO p
 rw [zBB] at hw
 unfold wOf
 rw [zBB]
 refine mkA zXj (base:=0) (fo rfl) (fun hfit=>?_)
 unfold F0 zMw
 simp only [yIn,Nat.reduceAdd,Nat.reduceSub]
 try simp only [go_sem]
 repeat with_reducible refine zAc ?_
 refine zAd yR (hc) ?_
 try simp only [go_sem]
 repeat with_reducible refine zAc ?_
 refine zAa yF trivial (fun h1=>?_) (fun h1=>?_)
 ·have hne:¬ zA0 [p]=0:=by simpa using h1
  rw [if_neg hne]
  try simp only [go_sem]
  repeat with_reducible refine zAc ?_
  exact zCr (by simp) ⟨zAS rfl rfl (.inl rfl),zAO rfl trivial (.inl rfl),rfl⟩
 ·have hne:zA0 [p]=0:=by simpa using h1
  have hw:=hw (yLa hne)
  rw [if_pos hne]
  try simp only [go_sem]
  repeat with_reducible refine zAc ?_
  refine zAd yR (hw) ?_
  try simp only [go_sem,wV]
  repeat with_reducible refine zAc ?_
  exact zCr (by simp) ⟨zAS rfl rfl (.inl rfl),zAO rfl trivial (.inl (by rw [hne])),rfl⟩
end Go.Hx
end
