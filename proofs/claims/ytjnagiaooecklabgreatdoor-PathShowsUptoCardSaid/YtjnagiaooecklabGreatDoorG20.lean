/-
  Walks of functions of the program over an abstract layer, and the laws that they use: each contract says what the function computes, for every input that its conditions let by. No other condition.
-/
import Derived.Test.YtjnagiaooecklabGreatDoorG18
import Derived.Test.YtjnagiaooecklabGreatDoorG19
import Derived.Test.YtjnagiaooecklabGreatDoorG11
set_option linter.all false
section
set_option maxRecDepth 100000
set_option linter.unusedSimpArgs false
namespace Go.Hx
open Go.Proofs Go.RowKit
variable [Glob]
attribute [local go_sem] zAC zAz zAB zAw ndV zAx zAv
theorem zYM {m:Mem} {w w':World} {avs:List AV} {us:List Value} {e:Ending} {r:Res} (hm:MemOk m w) (h:Below w.heap.size w w') (hio:ioB avs us=none) (hr:zPH m w w' (zGj avs us) r e):yEO m w avs us { res:=r } e w':=
 ⟨m,m.le_refl,zRf hm h,zJt h,fun _ _ _ h=>.inl h,(fun b hb=>by rw [hio] at hb; cases hb),hr⟩
theorem zRg (s p:Bys):Lib.hasPrefix s p=zAj s p:=by
 unfold Lib.hasPrefix zAj
 rw [Bool.eq_iff_iff]
 simp only [List.isPrefixOf_iff_prefix,Bool.and_eq_true,decide_eq_true_eq,beq_iff_eq]
 constructor
 ·intro h
  exact ⟨h.length_le,(List.prefix_iff_eq_take.1 h).symm⟩
 ·rintro ⟨_,h⟩
  exact List.prefix_iff_eq_take.2 h.symm
theorem zHN (s p:Bys):Contract Tryz.prog zCS [.val (sv s),.val (sv p)] { res:=.tup [sv (zAg s p),bv (zAj s p)] }:=by
 refine ⟨by kernel_rfl,fun m w us hm hargs _ hG _=>?_⟩
 obtain ⟨u1,us1,rfl,h1,u2,us2,rfl,h2,rfl⟩:=hargs
 obtain ⟨rfl,f1⟩:=h1
 obtain ⟨rfl,f2⟩:=h2
 have hs:=zG3 f1
 have hT:=Any.strings_CutPrefix Tryz.lays103 ⟨s.toArray⟩ ⟨p.toArray⟩ w
 change Calls Tryz.prog zCS _ _ _ at hT
 refine hT.mono ?_
 rintro e w' ⟨rfl,rfl⟩
 have e1:Lib.trimPrefix s p=zAg s p:=by
  unfold Lib.trimPrefix zAg
  rw [zRg]
 refine zYM hm (Below.refl _ _) rfl ⟨_,rfl,?_⟩
 refine ⟨_,_,rfl,⟨by rw [← e1],?_⟩,_,_,rfl,⟨by rw [← zRg],rfl⟩,rfl⟩
 refine zGD (Nat.le_trans ?_ hs)
 unfold zAg
 split <;> simp
theorem zJu (s cs:Bys) (hc:cs.length<1000) (ha:cs.all (fun b=>decide (b.toNat<128))=true):Contract Tryz.prog zC6 [.val (sv s),.val (sv cs)] { res:=.val (sv (s.dropWhile (cs.contains ·))) }:=by
 refine ⟨by kernel_rfl,fun m w us hm hargs _ hG _=>?_⟩
 obtain ⟨u1,us1,rfl,h1,u2,us2,rfl,h2,rfl⟩:=hargs
 obtain ⟨rfl,f1⟩:=h1
 obtain ⟨rfl,f2⟩:=h2
 have hs:=zG3 f1
 have hT:=Any.strings_TrimLeft_laid Tryz.lays161 (by kernel_rfl) ⟨s.toArray⟩ ⟨cs.toArray⟩ w (by simp [ByteArray.size]; omega) (ascii_of_all (by simpa using ha))
 change Calls Tryz.prog zC6 _ _ _ at hT
 refine hT.mono fun e w' ⟨he,hb⟩=>zWw hm hb he ⟨by simp [Lib.trimLeftS],?_⟩ rfl
 exact zGD (Nat.le_trans (List.dropWhile_sublist _).length_le hs)
theorem yJG (s:Bys) (p:UInt8→Bool):s.length=(s.takeWhile p).length+(s.dropWhile p).length:=by
 rw [← List.length_append,List.takeWhile_append_dropWhile]
theorem yDX:∀ (s:Bys) (p:UInt8→Bool),s.take (s.takeWhile p).length=s.takeWhile p∧s.drop (s.takeWhile p).length=s.dropWhile p
 |[],p=>by simp
 |c :: s,p=>by
  obtain ⟨h1,h2⟩:=yDX s p
  by_cases h:p c=true
  ·simp [List.takeWhile_cons,List.dropWhile_cons,h,h1,h2]
  ·simp [List.takeWhile_cons,List.dropWhile_cons,h]
theorem yJH (s:Bys):s.dropWhile (([97,98,99,100,101,102,103,104,105,106,107,108,109,110,111,112,113,114,115,116,117,118,119,120,121,122,48,49,50,51,52,53,54,55,56,57,45]:Bys).contains ·)=s.dropWhile nameCh:=by
 congr 1
 exact funext yGA
abbrev zDG (s:Bys):Bys:=s.takeWhile nameCh
abbrev nmR (s:Bys):Bys:=s.dropWhile nameCh
def yDY:Prop:=∀ w,Glob.ok w→∃ m:Int,w.cell? ⟨Tryz.lays145_ren.g 1,0,none⟩=some (.int .i64 m)
theorem yDZ (s t:Bys):(Lib.cut s t).1.length≤s.length∧(Lib.cut s t).2.1.length≤s.length:=by
 unfold Lib.cut
 split
 ·simp; omega
 ·simp
theorem yAD (w:World):∀ n,Below w.heap.size w (w.drewN n)
 |n=>⟨rfl,rfl,rfl,Nat.le_refl _,fun _ _=>rfl⟩
theorem zHv (hM:yDY) (s t:Bys) (hs:s.length<4294967281):Contract Tryz.prog zCl [.val (sv s),.val (sv t)] { res:=.tup [sv (Lib.cut s t).1,sv (Lib.cut s t).2.1,bv (Lib.cut s t).2.2] }:=by
 refine ⟨by kernel_rfl,fun m w us hm hargs _ hG _=>?_⟩
 obtain ⟨u1,us1,rfl,h1,u2,us2,rfl,h2,rfl⟩:=hargs
 obtain ⟨rfl,f1⟩:=h1
 obtain ⟨rfl,f2⟩:=h2
 obtain ⟨q,hq⟩:=hM w hG
 have hT:=Any.strings_Cut Tryz.lays145 ⟨s.toArray⟩ ⟨t.toArray⟩ q w (by simpa [ByteArray.size] using hs) hq
 change Calls Tryz.prog zCl _ _ _ at hT
 refine hT.mono ?_
 rintro e w' ⟨rfl,n,rfl⟩
 have hl:=yDZ s t
 have h1:s.length≤maxLen:=by simp only [maxLen]; omega
 exact zYM hm (yAD w n) rfl ⟨_,rfl,_,_,rfl,⟨rfl,zGD (Nat.le_trans hl.1 h1)⟩,_,_,rfl,⟨rfl,zGD (Nat.le_trans hl.2 h1)⟩,_,_,rfl,⟨rfl,rfl⟩,rfl⟩
theorem zBm (s t:Bys):(zAg s t).length≤s.length:=by
 unfold zAg
 split <;> simp
theorem zGE (s:Bys):(nmR s).length≤s.length:=(List.dropWhile_sublist _).length_le
end Go.Hx
end

section
/-
 Signs, names and heads of texts. Plain Lean. No condition.
-/
set_option maxRecDepth 100000
set_option linter.unusedSimpArgs false
namespace Go.Hx
variable [Glob]
def Hd (p:UInt8→Bool) (s:Bys):Prop:=∀ c l,s=c :: l→p c=true
theorem Hd.nil {p:UInt8→Bool}:Hd p []:=fun _ _ h=>by cases h
theorem Hd.cons {p:UInt8→Bool} {c:UInt8} {l:Bys} (h:p c=true):Hd p (c :: l):=fun _ _ e=>by injection e with e _; rw [← e]; exact h
theorem Hd.app {p:UInt8→Bool} {a b:Bys} (ha:Hd p a) (hb:Hd p b):Hd p (a ++ b):=by
 cases a with
 |nil=>exact hb
 |cons c a=>exact Hd.cons (ha c a rfl)
theorem Hd.mono {p q:UInt8→Bool} {a:Bys} (h:∀ c,p c=true→q c=true) (ha:Hd p a):Hd q a:=fun c l e=>h c (ha c l e)
theorem zBp (c d:UInt8) (s:Bys):zAj (c :: s) [d]=(c == d):=by
 simp [zAj]
theorem zYN (c d:UInt8) (s:Bys):zAg (c :: s) [d]=if (c == d)=true then s else c :: s:=by
 unfold zAg
 rw [zBp]
 rfl
theorem zEW {p:UInt8→Bool} {s:Bys} {d:UInt8} (hs:Hd p s) (hd:p d=false):zAj s [d]=false:=by
 cases s with
 |nil=>rfl
 |cons c l=>
  rw [zBp,beq_eq_false_iff_ne]
  rintro rfl
  have:=hs c l rfl
  rw [hd] at this; cases this
theorem zRh {s:Bys} {c:UInt8} (h:zAj s [c]=true):s=c :: zAg s [c]:=by
 cases s with
 |nil=>cases h
 |cons d l=>
  rw [zBp,beq_iff_eq] at h
  subst h
  rw [zYN,if_pos (by simp)]
theorem zAK (c:UInt8) (l:Bys):zAj (c :: l) [c]=true∧zAg (c :: l) [c]=l:=by
 rw [zYN,zBp]; simp
theorem yBt {p:UInt8→Bool}:∀ {n r:Bys},n.all p=true→(∀ c l,r=c :: l→p c=false)→(n ++ r).takeWhile p=n∧(n ++ r).dropWhile p=r
 |[],r,_,hr=>by
  cases r with
  |nil=>simp
  |cons c l=>simp [hr c l rfl]
 |c :: n,r,hn,hr=>by
  simp only [List.all_cons,Bool.and_eq_true] at hn
  have:=yBt hn.2 hr
  simp [hn.1,this.1,this.2]
theorem zWy (s:Bys):s=zDG s ++ nmR s:=(List.takeWhile_append_dropWhile).symm
theorem yGB {v:Bys} (h:zCR v=true):∀ c ∈ v,c≠34:=by
 unfold zCR at h
 simp only [Bool.and_eq_true,List.all_eq_true] at h
 rintro c hc rfl
 have:=h.2 _ hc
 simp [zZQ] at this
theorem zDs {n:Bys} (h:zB3 n=true):n.all nameCh=true:=by
 unfold zB3 at h
 simp only [Bool.and_eq_true] at h
 exact h.2
theorem zGF {n:Bys} (h:zB3 n=true):n≠[]:=by
 rintro rfl
 cases h
theorem zA4 (t l:Bys):zAj (t ++ l) t=true∧zAg (t ++ l) t=l:=by
 have h:zAj (t ++ l) t=true:=by
  unfold zAj
  simp
 refine ⟨h,?_⟩
 unfold zAg
 rw [if_pos h]
 simp
theorem zEy {s t:Bys} (h:zAj s t=true):s=t ++ zAg s t:=by
 unfold zAg
 rw [if_pos h]
 unfold zAj at h
 simp only [Bool.and_eq_true,decide_eq_true_eq,beq_iff_eq] at h
 conv=>lhs; rw [← List.take_append_drop t.length s]
 rw [h.2]
theorem zBV {c d:UInt8} {s t:Bys} (h:(c == d)=false):zAj (c :: s) (d :: t)=false:=by
 unfold zAj
 rw [Bool.and_eq_false_iff]
 right
 rw [beq_eq_false_iff_ne]
 intro e
 simp only [List.length_cons,List.take_succ_cons] at e
 injection e with e _
 rw [e] at h
 simp at h
theorem zEz {c d e:UInt8} {s t:Bys} (h:(d == e)=false):zAj (c :: d :: s) (c :: e :: t)=false:=by
 unfold zAj
 rw [Bool.and_eq_false_iff]
 right
 rw [beq_eq_false_iff_ne]
 intro q
 simp only [List.length_cons,List.take_succ_cons] at q
 injection q with _ q
 injection q with q _
 rw [q] at h
 simp at h
theorem zHO {p:UInt8→Bool} {s t:Bys} {d:UInt8} (hs:Hd p s) (hd:p d=false):zAj s (d :: t)=false:=by
 cases s with
 |nil=>rfl
 |cons c l=>
  refine zBV ?_
  rw [beq_eq_false_iff_ne]
  rintro rfl
  have:=hs c l rfl
  rw [hd] at this; cases this
end Go.Hx
end
