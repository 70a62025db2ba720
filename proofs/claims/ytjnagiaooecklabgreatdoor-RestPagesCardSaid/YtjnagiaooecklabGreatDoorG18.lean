/-
 Runes and bytes: a test that holds of each rune from 128 on finds nothing in a text just where each byte is plain and fails it. No condition.
-/
import Derived.Test.YtjnagiaooecklabGreatDoorG11
import Derived.Shelf.GgClosure.StringsIndexFunc
import Derived.Lib.SlTrimSet
set_option linter.all false
namespace Go.Hx
open Go.Lib
theorem yUD {s:ByteArray} {i:Nat} (h:(s.get! i).toNat < 128):Utf8.decode s i=((s.get! i).toNat,1):=by
 unfold Utf8.decode
 simp only [Nat.add_zero]
 rw [if_pos h]
theorem yRH {s:ByteArray} {i:Nat} (h:¬ (s.get! i).toNat < 128):128≤(Utf8.decode s i).1:=by
 unfold Utf8.decode
 simp only [Nat.add_zero]
 rw [if_neg h]
 repeat' split
 all_goals first|(simp only [Utf8.runeError];omega)|(rename_i h1;simp at h1;simp;omega)|(rename_i h1 h2;simp at h1;simp;omega)|(simp;omega)
theorem yMl {p:Nat→Bool} (hp:∀ r,128≤r→p r=true) {s:ByteArray}:∀ (f pos:Nat),s.size≤pos+f→((idxFuncFrom p true s f pos=-1)↔∀ j,pos≤j→j < s.size→(s.get! j).toNat < 128∧p (s.get! j).toNat=false)
 |0,pos,h=>by
  simp only [idxFuncFrom,true_iff]
  intro j h1 h2;omega
 |f+1,pos,h=>by
  simp only [idxFuncFrom]
  split
  ·rename_i hlt
   by_cases hb:(s.get! pos).toNat < 128
   ·rw [yUD hb]
    by_cases hpb:p (s.get! pos).toNat=true
    ·rw [if_pos hpb]
     constructor
     ·intro h1;omega
     ·intro h1;have:=(h1 pos (Nat.le_refl _) hlt).2;rw [hpb] at this;cases this
    ·rw [if_neg hpb,yMl hp f (pos+1) (by omega)]
     constructor
     ·intro h1 j h2 h3
      by_cases e:j=pos
      ·subst e;exact ⟨hb,by simpa using hpb⟩
      ·exact h1 j (by omega) h3
     ·intro h1 j h2 h3;exact h1 j (by omega) h3
   ·rw [if_pos (hp _ (yRH hb))]
    constructor
    ·intro h1;omega
    ·intro h1;exact (hb (h1 pos (Nat.le_refl _) hlt).1).elim
  ·simp only [true_iff]
   intro j h1 h2;omega
theorem yPQ (l:Bys) (j:Nat) (h:j < l.length):(ByteArray.mk l.toArray).get! j=l.getD j 0:=by
 show (l.toArray)[j]! = l.getD j 0
 simp [h]
theorem yUE {p:Nat→Bool} (hp:∀ r,128≤r→p r=true) (l:Bys):decide (0≤idxFunc p true ⟨l.toArray⟩)=!l.all (fun b=>decide (b.toNat < 128)&&!p b.toNat):=by
 have h1:=yMl hp (s:=⟨l.toArray⟩) (ByteArray.mk l.toArray).size 0 (by omega)
 have hs:(ByteArray.mk l.toArray).size=l.length:=by simp [ByteArray.size]
 have h2:(idxFunc p true ⟨l.toArray⟩=-1)↔l.all (fun b=>decide (b.toNat < 128)&&!p b.toNat)=true:=by
  unfold idxFunc
  rw [h1,hs,List.all_eq_true]
  constructor
  ·intro h b hb
   obtain ⟨j,hj,e⟩:=List.getElem_of_mem hb
   have:=h j (Nat.zero_le _) hj
   rw [yPQ l j hj] at this
   simp [hj,e] at this
   simp [this]
  ·intro h j _ hj
   rw [yPQ l j hj]
   have:=h (l.getD j 0) (by simp [hj])
   simpa using this
 rcases idxFunc_range p true ⟨l.toArray⟩ with h3|⟨h3,_⟩
 ·rw [h3,h2.1 h3];rfl
 ·have h4:¬ (idxFunc p true ⟨l.toArray⟩=-1):=by omega
  rw [h2] at h4
  have h5:l.all (fun b=>decide (b.toNat < 128)&&!p b.toNat)=false:=by simpa using h4
  rw [h5];simp [h3]
theorem zDy {α:Type} {p:α→Bool}:∀ l:List α,l.dropWhile p=[]↔l.all p=true
 |[]=>by simp
 |a::l=>by
  simp only [List.dropWhile_cons,List.all_cons]
  cases h:p a with
  |true=>simp [zDy l]
  |false=>simp
theorem yRI (l cs:Bys):(trimS l cs==([]:Bys))=l.all (fun b=>cs.contains b):=by
 have h:trimS l cs=[]↔l.all (fun b=>cs.contains b)=true:=by
  unfold trimS trimLeftS trimRightS
  rw [zDy]
  constructor
  ·intro h1
   rw [List.all_reverse] at h1
   have h2:(l.reverse.dropWhile (fun x=>cs.contains x))=[]:=by
    cases h3:l.reverse.dropWhile (fun x=>cs.contains x) with
    |nil=>rfl
    |cons a r=>
     exfalso
     have h4:=List.head?_dropWhile_not (p:=fun x=>cs.contains x) (l:=l.reverse)
     rw [h3] at h4 h1
     simp at h4 h1
     exact h4 h1.1
   rw [zDy,List.all_reverse] at h2
   exact h2
  ·intro h1
   have h2:l.reverse.all (fun x=>cs.contains x)=true:=by rw [List.all_reverse];exact h1
   rw [(zDy l.reverse).2 h2]
   rfl
 rw [Bool.eq_iff_iff,beq_iff_eq]
 exact h
end Go.Hx
