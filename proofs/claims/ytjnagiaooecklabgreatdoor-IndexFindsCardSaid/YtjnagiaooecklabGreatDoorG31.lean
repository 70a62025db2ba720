/-
  Walks of functions of the program over an abstract layer, and the laws that they use: each contract says what the function computes, for every input that its conditions let by. No other condition.
-/
import Derived.Test.YtjnagiaooecklabGreatDoorG10
import Derived.Test.YtjnagiaooecklabGreatDoorG20
import Derived.Test.YtjnagiaooecklabGreatDoorG30
import Derived.Test.YtjnagiaooecklabGreatDoorG14
set_option linter.all false
section
set_option maxRecDepth 100000
set_option linter.unusedSimpArgs false
namespace Go.Hx
open Go.Proofs
variable [Glob] [GlobL]
attribute [local go_sem] zAk zAl zAj zAf ndV zAm
theorem zJk (l:List Bys) (hl:l.length≤64):Contract Tryz.prog zCl [.val (.one (.sl 1 (zUg l)))] {res:=.own zId 1 (zUg l)}:=by
 refine mkA zHI (base:=0) (fo rfl) (fun hfit=>?_)
 unfold F0 zD6
 refine goU ?_
 intro b hb
 refine zAa (by rfl) trivial (fun h=>?_) (fun h=>?_)
 ·refine goW ?_
  have:zUg l=[]:=by
   apply Classical.byContradiction
   intro h2;rw [hb h2] at h;cases h
  rw [this]
  exact zF0 rfl
 ·refine goW ?_
  exact zF0 rfl
theorem zLM (l:List (Bys×Bys)) (hl:l.length≤64):Contract Tryz.prog zCJ [.val (.one (.sl 2 (yGI l)))] {res:=.own zE5 2 (yGI l)}:=by
 refine mkA zJD (base:=0) (fo rfl) (fun hfit=>?_)
 unfold F0 zE6
 refine goU ?_
 intro b hb
 refine zAa (by rfl) trivial (fun h=>?_) (fun h=>?_)
 ·refine goW ?_
  have:yGI l=[]:=by
   apply Classical.byContradiction
   intro h2;rw [hb h2] at h;cases h
  rw [this]
  exact zF0 rfl
 ·refine goW ?_
  exact zF0 rfl
def yN2 (x:Nd):Prop:=x.cls.length≤64∧x.att.length≤64
theorem yLQ {l:List Nd} {i:Nat} (h:i < l.length):l.getD i default∈l:=by
 simp [h]
def sls (ls:List (List Nd)):List (List PV):=ls.map fun l=>[.sl 5 (zNI l)]
end Go.Hx
end

section
set_option maxRecDepth 100000
set_option linter.unusedSimpArgs false
namespace Go.Hx
open Go.Proofs
variable [Glob] [GlobL]
attribute [local go_sem] zAk zAl zAj zAf ndV zAm List.take_length
theorem yKp (d:List Nd) (n:Nat):(zNI d).take n=zNI (d.take n):=by simp [zNI]
attribute [local go_sem] yKp
theorem yKq (d:List Nd) (n:Nat):(zNI d).drop n=zNI (d.drop n):=by simp [zNI]
attribute [local go_sem] yKq
theorem yN3 {d:List Nd} {x:Nd} (h:x∈d):∃ i,i < d.length∧d.getD i default=x:=by
 obtain ⟨i,hi,e⟩:=List.getElem_of_mem h
 exact ⟨i,hi,by simp [hi,e]⟩
theorem yKr {d:List Nd} (hd:zCd d d.length=true) (hl:d.length≤64) {x:Nd} (h:x∈d):yN2 x∧-1000≤x.up∧x.up≤1000:=by
 obtain ⟨i,hi,rfl⟩:=yN3 h
 have h1:=zEb (zG6 hd hi)
 have h2:=zBb hd i hi
 simp only [zAX] at h2
 exact ⟨⟨by omega,by omega⟩,by omega,by omega⟩
end Go.Hx
end

section
set_option maxRecDepth 100000
set_option linter.unusedSimpArgs false
namespace Go.Hx
open Go.Proofs
variable [Glob] [GlobL]
attribute [local go_sem] zAk zAl zAj zAf ndV zAm atV OVal.cells yBn List.drop_succ_cons List.drop_zero List.take_succ_cons List.getD_nil yGH zHv Nat.sub_zero List.map_nil List.map_cons
attribute [local go_sem ↓] yNm yNn
end Go.Hx
end
