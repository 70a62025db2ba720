/-
  Walks of functions of the program over an abstract layer, and the laws that they use: each contract says what the function computes, for every input that its conditions let by. No other condition.
-/
import Derived.Test.YtjnagiaooecklabGreatDoorG20
import Derived.Test.YtjnagiaooecklabGreatDoorG13
import Derived.Test.YtjnagiaooecklabGreatDoorG9
import Derived.Test.YtjnagiaooecklabGreatDoorG18
set_option linter.all false
section
/-
 Lists of paths as text; the strict reader: what it takes is what is printed. Plain Lean. No condition.
-/
set_option maxRecDepth 100000
set_option linter.unusedSimpArgs false
namespace Go.Hx
variable [Glob]
def zE6 (k:Int):Bys:=if k=4 then [61] else if k=5 then [94,61] else if k=6 then [36,61] else if k=7 then [42,61] else [126,61]
def zGf (n:Int):Bys:=if n=1 then [32] else if n=2 then [32,62,32] else if n=3 then [32,43,32] else if n=4 then [32,126,32] else []
def zBG (k:Int):Bys:=if k=9 then [58,110,116,104,40] else if k=10 then [58,108,97,115,116,40] else if k=13 then [58,110,111,116,40] else if k=14 then [58,105,115,40] else [58,104,97,115,40]
mutual
def zSj:Ts→Bys
 |.mk k n v a b l=>
  if k=1 then 46 :: n else if k=2 then 35 :: n else if k=3 then 91 :: (n ++ [93])
  else if 4≤k∧k≤8 then 91 :: (n ++ (zE6 k ++ 34 :: (v ++ [34,93])))
  else if k=9∨k=10 then zBG k ++ (zBA a b ++ [41])
  else if k=11 then [58,101,109,112,116,121] else if k=12 then [58,114,111,111,116]
  else zBG k ++ (zAH l true ++ [41])
def zA8:List Ts→Bys
 |[]=>[]
 |t :: r=>zSj t ++ zA8 r
def zMr:St→Bys
 |.mk tag l=>(if tag=[] then [42] else tag) ++ zA8 l
def zAX:List St→List Int→Bool→Bys
 |[],_,_=>[]
 |x :: r,lk,true=>zMr x ++ zAX r lk false
 |x :: r,lk,false=>zGf (lk.headD 0) ++ zMr x ++ zAX r lk.tail false
def zKG:Pt→Bys
 |.mk st lk=>zAX st lk true
def zAH:List Pt→Bool→Bys
 |[],_=>[]
 |p :: r,b=>(if b then [] else [44,32]) ++ zKG p ++ zAH r false
end
abbrev zG6 (l:List Pt):Bys:=zAH l true
theorem zDt (k:Int) (n v:Bys) (a b:Int) (l:List Pt):zSj (.mk k n v a b l)=(if k=1 then 46 :: n else if k=2 then 35 :: n else if k=3 then 91 :: (n ++ [93])
  else if 4≤k∧k≤8 then 91 :: (n ++ (zE6 k ++ 34 :: (v ++ [34,93])))
  else if k=9∨k=10 then zBG k ++ (zBA a b ++ [41])
  else if k=11 then [58,101,109,112,116,121] else if k=12 then [58,114,111,111,116]
  else zBG k ++ (zAH l true ++ [41])):=by rw [zSj]
def kd (s:Bys):Int:=if zAj s [61,34] then 4 else if zAj s [94,61,34] then 5 else if zAj s [36,61,34] then 6 else if zAj s [42,61,34] then 7 else if zAj s [126,61,34] then 8 else 3
def atS (s:Bys):Bys:=zAg (nmR s) (zE6 (kd (nmR s)) ++ [34])
def yAJ (s:Bys):Option (Ts × Bys):=
 if kd (nmR s)=3 then (if zAj (nmR s) [93] then some (.mk 3 (zDG s) [] 0 0 [],zAg (nmR s) [93]) else none)
 else if (Lib.cut (atS s) [34]).2.2 && zAj (Lib.cut (atS s) [34]).2.1 [93] then some (.mk (kd (nmR s)) (zDG s) (Lib.cut (atS s) [34]).1 0 0 [],zAg (Lib.cut (atS s) [34]).2.1 [93]) else none
def zFY (w:Bys):Int:=if w=[110,116,104] then 9 else if w=[108,97,115,116] then 10 else if w=[110,111,116] then 13 else if w=[105,115] then 14 else if w=[104,97,115] then 15 else 0
def zBL (s:Bys):Int:=if zAj s [32,62,32] then 2 else if zAj s [32,43,32] then 3 else if zAj s [32,126,32] then 4 else if zAj s [32] then 1 else 0
def zYT (g:Bys→Option (List Pt × Bys)) (k:Int) (s:Bys):Option (Option Ts × Bys):=
 if k=0 then none
 else if zEc k then (match g s with
  |some (l,r)=>if zAj r [41] then some (some (.mk k [] [] 0 0 l),zAg r [41]) else none
  |none=>none)
 else if (Lib.cut s [41]).2.2 && zFm (Lib.cut s [41]).1 then some (some (.mk k [] [] (yFL (Lib.cut s [41]).1) (yFM (Lib.cut s [41]).1) []),(Lib.cut s [41]).2.1)
 else none
def zZv (g:Bys→Option (List Pt × Bys)) (s:Bys):Option (Option Ts × Bys):=
 if zDG s=[101,109,112,116,121] then some (some (.mk 11 [] [] 0 0 []),nmR s)
 else if zDG s=[114,111,111,116] then some (some (.mk 12 [] [] 0 0 []),nmR s)
 else if zAj (nmR s) [40]=false then none
 else zYT g (zFY (zDG s)) (zAg (nmR s) [40])
mutual
def zMs:Nat→Nat→Bys→Option (Option Ts × Bys)
 |0,_,_=>none
 |f+1,deep,s=>
  if zAj s [46] then some (some (.mk 1 (zDG (zAg s [46])) [] 0 0 []),nmR (zAg s [46]))
  else if zAj s [35] then some (some (.mk 2 (zDG (zAg s [35])) [] 0 0 []),nmR (zAg s [35]))
  else if zAj s [91] then (match yAJ (zAg s [91]) with | some (t,r)=>some (some t,r) | none=>none)
  else if zAj s [58]=false then some (none,s)
  else zZv (zXD f (deep+1)) (zAg s [58])
def zGI:Nat→Nat→Bys→List Ts→Option (List Ts × Bys)
 |0,_,_,_=>none
 |f+1,deep,s,l=>match zMs f deep s with
  |some (some t,r)=>zGI f deep r (l ++ [t])
  |some (none,r)=>some (l,r)
  |none=>none
def zWG:Nat→Nat→Bys→Option (St × Bys)
 |0,_,_=>none
 |f+1,deep,s=>
  if zDG s=[] then (if zAj (nmR s) [42] then (match zGI f deep (zAg (nmR s) [42]) [] with | some (l,r)=>some (.mk [] l,r) | none=>none) else none)
  else (match zGI f deep (nmR s) [] with | some (l,r)=>some (.mk (zDG s) l,r) | none=>none)
def zRk:Nat→Nat→Bys→List St→List Int→Option (Pt × Bys)
 |0,_,_,_,_=>none
 |f+1,deep,s,st,lk=>if zBL s=0 then some (.mk st lk,s) else (match zWG f deep (zAg s (zGf (zBL s))) with
  |some (x,r)=>zRk f deep r (st ++ [x]) (lk ++ [zBL s])
  |none=>none)
def zRl:Nat→Nat→Bys→List Pt→Option (List Pt × Bys)
 |0,_,_,_=>none
 |f+1,deep,s,l=>match zWG f deep s with
  |some (x,r)=>(match zRk f deep r [x] [] with
   |some (p,r2)=>if zAj r2 [44,32] then zRl f deep (zAg r2 [44,32]) (l ++ [p]) else some (l ++ [p],r2)
   |none=>none)
  |none=>none
def zXD:Nat→Nat→Bys→Option (List Pt × Bys)
 |0,_,_=>none
 |f+1,deep,s=>if 3<deep then none else zRl f deep s []
end
def zFZ (s:Bys):Option (List Pt):=match zXD (4 * s.length+16) 1 s with
 |some (l,r)=>if r=[]∧zA0 l=0 then some l else none
 |none=>none
theorem yJQ {s:Bys} (h:kd s≠3):s=zE6 (kd s) ++ 34 :: zAg s (zE6 (kd s) ++ [34])∧4≤kd s∧kd s≤8:=by
 unfold kd at h ⊢
 split
 ·rename_i h1; exact ⟨zEy h1,by decide,by decide⟩
 ·split
  ·rename_i h1; exact ⟨zEy h1,by decide,by decide⟩
  ·split
   ·rename_i h1; exact ⟨zEy h1,by decide,by decide⟩
   ·split
    ·rename_i h1; exact ⟨zEy h1,by decide,by decide⟩
    ·split
     ·rename_i h1; exact ⟨zEy h1,by decide,by decide⟩
     ·simp_all
theorem yD8 {s:Bys} {c:UInt8} (h:(Lib.cut s [c]).2.2=true):s=(Lib.cut s [c]).1 ++ c :: (Lib.cut s [c]).2.1:=by
 unfold Lib.cut at h ⊢
 split at h
 ·rename_i h0
  rw [if_pos h0]
  rcases Lib.index_spec s [c] with ⟨e,_⟩ | ⟨i,e,hi,ho,_⟩
  ·rw [e] at h0; omega
  ·rw [e]
   simp only [Int.toNat_natCast]
   unfold Lib.occAt at ho
   have hd:∃ l,s.drop i=c :: l:=by
    match hq:s.drop i,ho with
    |[],ho=>simp [List.isPrefixOf] at ho
    |a :: l,ho=>
     simp [List.isPrefixOf] at ho
     exact ⟨l,by rw [ho]⟩
   obtain ⟨l,hl⟩:=hd
   have h2:s.drop (i+([c]:Bys).length)=l:=by
    have:s.drop (i+1)=(s.drop i).drop 1:=by rw [List.drop_drop]
    show s.drop (i+1)=l
    rw [this,hl]; rfl
   rw [h2,← hl,List.take_append_drop]
 ·cases h
theorem yD9 {s:Bys} {t:Ts} {r:Bys} (h:yAJ s=some (t,r)):91 :: s=zSj t ++ r:=by
 unfold yAJ at h
 split at h
 ·split at h
  ·rename_i hk hs
   injection h with h
   injection h with h1 h2
   rw [← h1,← h2]
   rw [zDt]
   rw [if_neg (by decide),if_neg (by decide),if_pos rfl]
   simp only [List.cons_append,List.append_assoc,List.nil_append]
   rw [← zRh hs,← zWy]
  ·cases h
 ·rename_i hk
  split at h
  ·rename_i hs
   simp only [Bool.and_eq_true] at hs
   injection h with h
   injection h with h1 h2
   obtain ⟨e1,e2,e3⟩:=yJQ hk
   have e4:=yD8 hs.1
   rw [← h1,← h2]
   rw [zDt]
   rw [if_neg yO,if_neg yO,if_neg yO,if_pos ⟨e2,e3⟩]
   simp only [List.cons_append,List.append_assoc,List.nil_append]
   rw [← zRh hs.2,← e4]
   unfold atS
   rw [← e1,← zWy]
  ·cases h
theorem zUq {w:Bys} (h:zFY w≠0):zBG (zFY w)=58 :: (w ++ [40])∧(zFY w=9∨zFY w=10∨zFY w=13∨zFY w=14∨zFY w=15):=by
 unfold zFY at h ⊢
 split
 ·rename_i e; subst e; exact ⟨rfl,.inl rfl⟩
 ·split
  ·rename_i e; subst e; exact ⟨rfl,.inr (.inl rfl)⟩
  ·split
   ·rename_i e; subst e; exact ⟨rfl,.inr (.inr (.inl rfl))⟩
   ·split
    ·rename_i e; subst e; exact ⟨rfl,.inr (.inr (.inr (.inl rfl)))⟩
    ·split
     ·rename_i e; subst e; exact ⟨rfl,.inr (.inr (.inr (.inr rfl)))⟩
     ·simp_all
theorem yCU {s:Bys} (h:zBL s≠0):s=zGf (zBL s) ++ zAg s (zGf (zBL s))∧1≤zBL s∧zBL s≤4:=by
 unfold zBL at h ⊢
 split
 ·rename_i h1; exact ⟨zEy h1,by decide,by decide⟩
 ·split
  ·rename_i h1; exact ⟨zEy h1,by decide,by decide⟩
  ·split
   ·rename_i h1; exact ⟨zEy h1,by decide,by decide⟩
   ·split
    ·rename_i h1; exact ⟨zEy h1,by decide,by decide⟩
    ·simp_all
theorem yEa {s:Bys} (h:zFm s=true):zBA (yFL s) (yFM s)=s:=by
 unfold zFm at h
 simp only [decide_eq_true_eq] at h
 exact h.2
theorem yEb {g:Bys→Option (List Pt × Bys)} (hg:∀ s l r,g s=some (l,r)→s=zAH l true ++ r) {k:Int} {s:Bys} {o:Option Ts} {r:Bys} (hk:k=9∨k=10∨k=13∨k=14∨k=15) (h:zYT g k s=some (o,r)):(∀ t,o=some t→zBG k ++ s=zSj t ++ r)∧o≠none:=by
 unfold zYT at h
 rw [if_neg yO] at h
 split at h
 ·rename_i hl
  have hk2:k=13∨k=14∨k=15:=by
   unfold zEc at hl
   simp only [decide_eq_true_eq] at hl
   omega
  split at h
  ·rename_i l' r' hL
   split at h
   ·rename_i hc
    injection h with h; injection h with h1 h2
    refine ⟨fun t ht=>?_,by rw [← h1]; simp⟩
    rw [← h1] at ht
    injection ht with ht
    have e3:=hg _ _ _ hL
    rw [← ht,← h2,zDt]
    rw [if_neg yO,if_neg yO,if_neg yO,if_neg yO,if_neg yO,if_neg yO,if_neg yO]
    simp only [List.append_assoc,List.cons_append,List.nil_append]
    rw [← zRh hc,← e3]
   ·cases h
  ·cases h
 ·rename_i hl
  split at h
  ·rename_i hc
   simp only [Bool.and_eq_true] at hc
   have hk2:k=9∨k=10:=by
    unfold zEc at hl
    simp only [decide_eq_true_eq] at hl
    omega
   injection h with h; injection h with h1 h2
   refine ⟨fun t ht=>?_,by rw [← h1]; simp⟩
   rw [← h1] at ht
   injection ht with ht
   rw [← ht,← h2,zDt]
   rw [if_neg yO,if_neg yO,if_neg yO,if_neg yO,if_pos hk2,yEa hc.2]
   simp only [List.append_assoc,List.cons_append,List.nil_append]
   rw [← yD8 hc.1]
  ·cases h
theorem zYU {g:Bys→Option (List Pt × Bys)} (hg:∀ s l r,g s=some (l,r)→s=zAH l true ++ r) {s:Bys} {o:Option Ts} {r:Bys} (h:zZv g s=some (o,r)):(∀ t,o=some t→58 :: s=zSj t ++ r)∧o≠none:=by
 unfold zZv at h
 split at h
 ·rename_i hw
  injection h with h; injection h with h1 h2
  refine ⟨fun t ht=>?_,by rw [← h1]; simp⟩
  rw [← h1] at ht
  injection ht with ht
  rw [← ht,← h2]
  have e1:=zWy s
  rw [hw] at e1
  conv=>lhs; rw [e1]
  rfl
 ·split at h
  ·rename_i hw
   injection h with h; injection h with h1 h2
   refine ⟨fun t ht=>?_,by rw [← h1]; simp⟩
   rw [← h1] at ht
   injection ht with ht
   rw [← ht,← h2]
   have e1:=zWy s
   rw [hw] at e1
   conv=>lhs; rw [e1]
   rfl
  ·split at h
   ·cases h
   ·rename_i hp
    have hp:zAj (nmR s) [40]=true:=by simpa using hp
    by_cases hk:zFY (zDG s)=0
    ·rw [hk] at h
     simp [zYT] at h
    ·obtain ⟨k1,k2⟩:=zUq hk
     obtain ⟨a,b⟩:=yEb hg k2 h
     refine ⟨fun t ht=>?_,b⟩
     rw [← a t ht,k1]
     simp only [List.cons_append,List.append_assoc,List.nil_append]
     rw [← zRh hp,← zWy]
theorem zEB:∀ f:Nat,
  (∀ deep s t r,zMs f deep s=some (some t,r)→s=zSj t ++ r) ∧
  (∀ deep s r,zMs f deep s=some (none,r)→r=s) ∧
  (∀ deep s l l' r,zGI f deep s l=some (l',r)→∃ m,l'=l ++ m∧s=zA8 m ++ r) ∧
  (∀ deep s x r,zWG f deep s=some (x,r)→s=zMr x ++ r) ∧
  (∀ deep s st lk p r,zRk f deep s st lk=some (p,r)→∃ st' lk',p = .mk (st ++ st') (lk ++ lk')∧s=zAX st' lk' false ++ r) ∧
  (∀ deep s l l' r,zRl f deep s l=some (l',r)→∃ p m,l'=l ++ p :: m∧s=zKG p ++ zAH m false ++ r) ∧
  (∀ deep s l r,zXD f deep s=some (l,r)→s=zAH l true ++ r)
 |0=>by
  refine ⟨?_,?_,?_,?_,?_,?_,?_⟩ <;> intros <;> rename_i h <;> simp [zMs,zGI,zWG,zRk,zRl,zXD] at h
 |f+1=>by
  obtain ⟨i1,i2,i3,i4,i5,i6,i7⟩:=zEB f
  refine ⟨?_,?_,?_,?_,?_,?_,?_⟩
  ·intro deep s t r h
   rw [zMs] at h
   split at h
   ·rename_i hs
    injection h with h; injection h with h1 h2; injection h1 with h1
    rw [← h1,← h2]
    rw [zDt]
    rw [if_pos rfl,List.cons_append,← zWy]
    exact zRh hs
   ·split at h
    ·rename_i hs
     injection h with h; injection h with h1 h2; injection h1 with h1
     rw [← h1,← h2]
     rw [zDt]
     rw [if_neg (by decide),if_pos rfl,List.cons_append,← zWy]
     exact zRh hs
    ·split at h
     ·rename_i hs
      split at h
      ·rename_i t' r' ha
       injection h with h; injection h with h1 h2; injection h1 with h1
       rw [← h1,← h2,← yD9 ha]
       exact zRh hs
      ·cases h
     ·split at h
      ·injection h with h; injection h with h1 h2; cases h1
      ·rename_i hs
       have hs:zAj s [58]=true:=by simpa using hs
       rw [zRh hs]
       exact (zYU (fun s l r=>i7 _ s l r) h).1 t rfl
  ·intro deep s r h
   rw [zMs] at h
   split at h
   ·injection h with h; injection h with h1 h2; cases h1
   ·split at h
    ·injection h with h; injection h with h1 h2; cases h1
    ·split at h
     ·split at h
      ·injection h with h; injection h with h1 h2; cases h1
      ·cases h
     ·split at h
      ·injection h with h; injection h with h1 h2; exact h2.symm
      ·exact ((zYU (fun s l r=>i7 _ s l r) h).2 rfl).elim
  ·intro deep s l l' r h
   simp only [zGI] at h
   split at h
   ·rename_i t r' ht
    obtain ⟨m,e1,e2⟩:=i3 _ _ _ _ _ h
    refine ⟨t :: m,by rw [e1]; simp,?_⟩
    simp only [zA8,List.append_assoc]
    rw [← e2]
    exact i1 _ _ _ _ ht
   ·rename_i r' ht
    injection h with h; injection h with h1 h2
    refine ⟨[],by simp [h1],?_⟩
    rw [← h2,i2 _ _ _ ht]; rfl
   ·cases h
  ·intro deep s x r h
   simp only [zWG] at h
   split at h
   ·rename_i hn
    split at h
    ·rename_i hs
     split at h
     ·rename_i l r' ht
      injection h with h; injection h with h1 h2
      obtain ⟨m,e1,e2⟩:=i3 _ _ _ _ _ ht
      rw [List.nil_append] at e1
      rw [← h1,← h2]
      simp only [zMr,if_true,List.append_assoc]
      rw [e1,← e2]
      have e3:=zWy s
      rw [hn,List.nil_append] at e3
      conv=>lhs; rw [e3]
      exact zRh hs
     ·cases h
    ·cases h
   ·rename_i hn
    split at h
    ·rename_i l r' ht
     injection h with h; injection h with h1 h2
     obtain ⟨m,e1,e2⟩:=i3 _ _ _ _ _ ht
     rw [List.nil_append] at e1
     rw [← h1,← h2]
     simp only [zMr,List.append_assoc]
     rw [if_neg hn,e1,← e2]
     exact zWy s
    ·cases h
  ·intro deep s st lk p r h
   simp only [zRk] at h
   split at h
   ·injection h with h; injection h with h1 h2
    exact ⟨[],[],by simp [h1],by rw [← h2]; rfl⟩
   ·rename_i hl
    split at h
    ·rename_i x r' hx
     obtain ⟨st',lk',e1,e2⟩:=i5 _ _ _ _ _ _ h
     refine ⟨x :: st',zBL s :: lk',by rw [e1]; simp,?_⟩
     simp only [zAX,List.headD_cons,List.tail_cons,List.append_assoc]
     rw [← e2,← i4 _ _ _ _ hx]
     exact (yCU hl).1
    ·cases h
  ·intro deep s l l' r h
   simp only [zRl] at h
   split at h
   ·rename_i x r1 hx
    split at h
    ·rename_i p r2 hp
     obtain ⟨st',lk',e1,e2⟩:=i5 _ _ _ _ _ _ hp
     have e3:s=zKG p ++ r2:=by
      rw [e1]
      simp only [List.cons_append,List.nil_append,zKG,zAX,List.append_assoc]
      rw [← e2]
      exact i4 _ _ _ _ hx
     split at h
     ·rename_i hc
      obtain ⟨p',m,e4,e5⟩:=i6 _ _ _ _ _ h
      refine ⟨p,p' :: m,by rw [e4]; simp,?_⟩
      simp only [zAH,List.append_assoc,Bool.false_eq_true,if_false]
      rw [List.append_assoc] at e5
      rw [← e5]
      have:=zEy hc
      rw [← this]
      exact e3
     ·injection h with h; injection h with h1 h2
      exact ⟨p,[],h1.symm,by rw [← h2]; simpa [zAH] using e3⟩
    ·cases h
   ·cases h
  ·intro deep s l r h
   simp only [zXD] at h
   split at h
   ·cases h
   ·obtain ⟨p,m,e1,e2⟩:=i6 _ _ _ _ _ h
    rw [List.nil_append] at e1
    rw [e1]
    simp only [zAH,if_true,List.nil_append,List.append_assoc]
    rw [List.append_assoc] at e2
    exact e2
theorem yCV {s:Bys} {l:List Pt} (h:zFZ s=some l):zG6 l=s∧zA0 l=0:=by
 unfold zFZ at h
 split at h
 ·rename_i l' r hL
  split at h
  ·rename_i hc
   injection h with h
   subst h
   have:=(zEB _).2.2.2.2.2.2 _ _ _ _ hL
   rw [hc.1,List.append_nil] at this
   exact ⟨this.symm,hc.2⟩
  ·cases h
 ·cases h
end Go.Hx
end

section
/-
 Lists of paths as text: the strict reader takes the text of a right list. Plain Lean. No condition.
-/
set_option maxRecDepth 100000
set_option linter.unusedSimpArgs false
namespace Go.Hx
variable [Glob]
def pB (c:UInt8):Bool:=c == 41
def pL (c:UInt8):Bool:=c == 44 || pB c
def pE (c:UInt8):Bool:=c == 32 || pL c
def pT (c:UInt8):Bool:=c == 46 || c == 35 || c == 91 || c == 58 || pE c
theorem yLs {c:UInt8} (h:pB c=true):pL c=true:=by simp [pL,h]
theorem yJ2 {c:UInt8} (h:pL c=true):pE c=true:=by simp [pE,h]
theorem yLE {c:UInt8} (h:pE c=true):pT c=true:=by simp [pT,h]
theorem yH0 {c:UInt8} (h:pT c=true):nameCh c=false:=by
 simp only [pT,pE,pL,pB,Bool.or_eq_true,beq_iff_eq] at h
 rcases h with (((rfl | rfl) | rfl) | rfl) | rfl | rfl | rfl <;> rfl
theorem zHP {n r:Bys} (hn:n.all nameCh=true) (hr:∀ c l,r=c :: l→nameCh c=false):zDG (n ++ r)=n∧nmR (n ++ r)=r:=yBt hn hr
theorem yGE {n r:Bys} (hn:n.all nameCh=true) (hr:Hd pT r):zDG (n ++ r)=n∧nmR (n ++ r)=r:=yBt hn fun c l e=>yH0 (hr c l e)
theorem yEd {c:UInt8}:∀ {v:Bys} (r:Bys),(∀ x ∈ v,x≠c)→Lib.index (v ++ c :: r) [c]=v.length
 |[],r,_=>by simp [Lib.index,List.isPrefixOf]
 |x :: v,r,h=>by
  have hc:=h x List.mem_cons_self
  have ih:=yEd (c:=c) (v:=v) r (fun y hy=>h y (List.mem_cons_of_mem _ hy))
  have h1:([c]:Bys).isPrefixOf (x :: (v ++ c :: r))=false:=by simp [List.isPrefixOf,Ne.symm hc]
  simp only [List.cons_append,Lib.index,h1,Bool.false_eq_true,if_false,ih,List.length_cons]
  rw [if_neg (by simp)]
  rfl
theorem yBF {c:UInt8} {v:Bys} (r:Bys) (h:∀ x ∈ v,x≠c):Lib.cut (v ++ c :: r) [c]=(v,r,true):=by
 unfold Lib.cut
 rw [yEd r h,if_pos yO]
 simp
theorem yEe {c:UInt8} (hd:zGh c=false) (hm:c≠45) (a:Int):∀ x ∈ Lib.itoa a,x≠c:=by
 intro x hx
 have hdd:∀ u:Nat,∀ x ∈ Lib.decDigits u,x≠c:=by
  rintro u x hx rfl
  have:=yBz u _ hx
  rw [hd] at this; cases this
 by_cases h:a<0
 ·rw [zJx h] at hx
  rcases List.mem_cons.1 hx with rfl | hx
  ·exact Ne.symm hm
  ·have e:Lib.itoa (-a)=Lib.decDigits (-a).toNat:=by
    unfold Lib.itoa
    rw [if_neg yO]
   rw [e] at hx
   exact hdd _ _ hx
 ·have e:Lib.itoa a=Lib.decDigits a.toNat:=by
   unfold Lib.itoa
   rw [if_neg h]
  rw [e] at hx
  exact hdd _ _ hx
theorem yJR (a b:Int):∀ x ∈ zBA a b,x≠41:=by
 intro x hx
 unfold zBA at hx
 simp only [List.mem_append,List.mem_singleton] at hx
 rcases hx with (hx | rfl) | hx | hx
 ·exact yEe rfl (by decide) a x hx
 ·decide
 ·split at hx
  ·rw [List.mem_singleton] at hx; subst hx; decide
  ·cases hx
 ·exact yEe rfl (by decide) b x hx
theorem zRm {k:Int} (h:4≤k∧k≤8):k=4∨k=5∨k=6∨k=7∨k=8:=by omega
theorem yJS {k:Int} (h:4≤k∧k≤8) (r:Bys):kd (zE6 k ++ 34 :: r)=k∧zAg (zE6 k ++ 34 :: r) (zE6 k ++ [34])=r∧(∀ c l,zE6 k ++ 34 :: r=c :: l→nameCh c=false):=by
 have e:∀ k,zE6 k ++ 34 :: r=(zE6 k ++ [34]) ++ r:=fun k=>by simp
 refine ⟨?_,by rw [e]; exact (zA4 _ _).2,?_⟩
 ·rcases zRm h with rfl | rfl | rfl | rfl | rfl
  ·unfold kd
   rw [if_pos (by rw [e]; exact (zA4 _ _).1)]
  ·unfold kd
   rw [if_neg (by show ¬ zAj (94 :: _) (61 :: _)=true; rw [zBV rfl]; simp),if_pos (by rw [e]; exact (zA4 _ _).1)]
  ·unfold kd
   rw [if_neg (by show ¬ zAj (36 :: _) (61 :: _)=true; rw [zBV rfl]; simp),if_neg (by show ¬ zAj (36 :: _) (94 :: _)=true; rw [zBV rfl]; simp),if_pos (by rw [e]; exact (zA4 _ _).1)]
  ·unfold kd
   rw [if_neg (by show ¬ zAj (42 :: _) (61 :: _)=true; rw [zBV rfl]; simp),if_neg (by show ¬ zAj (42 :: _) (94 :: _)=true; rw [zBV rfl]; simp),if_neg (by show ¬ zAj (42 :: _) (36 :: _)=true; rw [zBV rfl]; simp),if_pos (by rw [e]; exact (zA4 _ _).1)]
  ·unfold kd
   rw [if_neg (by show ¬ zAj (126 :: _) (61 :: _)=true; rw [zBV rfl]; simp),if_neg (by show ¬ zAj (126 :: _) (94 :: _)=true; rw [zBV rfl]; simp),if_neg (by show ¬ zAj (126 :: _) (36 :: _)=true; rw [zBV rfl]; simp),if_neg (by show ¬ zAj (126 :: _) (42 :: _)=true; rw [zBV rfl]; simp),if_pos (by rw [e]; exact (zA4 _ _).1)]
 ·intro c l q
  rcases zRm h with rfl | rfl | rfl | rfl | rfl <;> (injection q with q _; rw [← q]; rfl)
theorem yEf {c:UInt8} {r:Bys} (h:c=93):kd (c :: r)=3:=by
 subst h
 unfold kd
 rw [if_neg (by rw [zBV rfl]; simp),if_neg (by rw [zBV rfl]; simp),if_neg (by rw [zBV rfl]; simp),if_neg (by rw [zBV rfl]; simp),if_neg (by rw [zBV rfl]; simp)]
theorem yCW {n r:Bys} (hn:zB3 n=true):yAJ (n ++ 93 :: r)=some (.mk 3 n [] 0 0 [],r):=by
 have h:=zHP (r:=93 :: r) (zDs hn) (fun c l e=>by injection e with e _; rw [← e]; rfl)
 unfold yAJ
 rw [h.1,h.2,if_pos (yEf rfl),(zAK _ _).1,(zAK _ _).2,if_pos rfl]
theorem yEg {k:Int} {n v r:Bys} (hk:4≤k∧k≤8) (hn:zB3 n=true) (hv:zCR v=true):yAJ (n ++ (zE6 k ++ 34 :: (v ++ 34 :: 93 :: r)))=some (.mk k n v 0 0 [],r):=by
 obtain ⟨k1,k2,k3⟩:=yJS hk (v ++ 34 :: 93 :: r)
 have h:=zHP (r:=zE6 k ++ 34 :: (v ++ 34 :: 93 :: r)) (zDs hn) k3
 unfold yAJ atS
 rw [h.1,h.2,k1,if_neg yO,k2,yBF _ (yGB hv)]
 simp only
 rw [(zAK _ _).1,(zAK _ _).2]
 rfl
theorem yEh {w r:Bys} (hw:w.all nameCh=true):zDG (w ++ 40 :: r)=w∧nmR (w ++ 40 :: r)=40 :: r:=zHP hw fun c l e=>by injection e with e _; rw [← e]; rfl
theorem zYV {g:Bys→Option (List Pt × Bys)} {k:Int} (hk:k=9∨k=10∨k=13∨k=14∨k=15) (s:Bys):∃ w,zBG k=58 :: (w ++ [40])∧zZv g (w ++ 40 :: s)=zYT g k s:=by
 have key:∀ w:Bys,w.all nameCh=true→w≠[101,109,112,116,121]→w≠[114,111,111,116]→zFY w=k→zZv g (w ++ 40 :: s)=zYT g k s:=by
  intro w h1 h2 h3 h4
  unfold zZv
  rw [(yEh h1).1,(yEh h1).2,if_neg h2,if_neg h3,(zAK _ _).1,(zAK _ _).2,if_neg (by simp),h4]
 rcases hk with rfl | rfl | rfl | rfl | rfl
 ·exact ⟨[110,116,104],rfl,key _ rfl (by decide) (by decide) rfl⟩
 ·exact ⟨[108,97,115,116],rfl,key _ rfl (by decide) (by decide) rfl⟩
 ·exact ⟨[110,111,116],rfl,key _ rfl (by decide) (by decide) rfl⟩
 ·exact ⟨[105,115],rfl,key _ rfl (by decide) (by decide) rfl⟩
 ·exact ⟨[104,97,115],rfl,key _ rfl (by decide) (by decide) rfl⟩
theorem zF0 (t:Ts):∃ c l,zSj t=c :: l∧(c=46∨c=35∨c=91∨c=58):=by
 obtain ⟨k,n,v,a,b,l⟩:=t
 have ho:∀ k,∃ l,zBG k=58 :: l:=by
  intro k
  unfold zBG
  split
  ·exact ⟨_,rfl⟩
  ·split
   ·exact ⟨_,rfl⟩
   ·split
    ·exact ⟨_,rfl⟩
    ·split <;> exact ⟨_,rfl⟩
 obtain ⟨q,hq⟩:=ho k
 rw [zDt]
 split
 ·exact ⟨_,_,rfl,.inl rfl⟩
 ·split
  ·exact ⟨_,_,rfl,.inr (.inl rfl)⟩
  ·split
   ·exact ⟨_,_,rfl,.inr (.inr (.inl rfl))⟩
   ·split
    ·exact ⟨_,_,rfl,.inr (.inr (.inl rfl))⟩
    ·split
     ·rw [hq]; exact ⟨_,_,rfl,.inr (.inr (.inr rfl))⟩
     ·split
      ·exact ⟨_,_,rfl,.inr (.inr (.inr rfl))⟩
      ·split
       ·exact ⟨_,_,rfl,.inr (.inr (.inr rfl))⟩
       ·rw [hq]; exact ⟨_,_,rfl,.inr (.inr (.inr rfl))⟩
theorem zWH (m:List Ts) {r:Bys} (hr:Hd pE r):Hd pT (zA8 m ++ r):=by
 cases m with
 |nil=>exact hr.mono fun _=>yLE
 |cons t m=>
  obtain ⟨c,l,e,hc⟩:=zF0 t
  simp only [zA8,e,List.cons_append]
  refine Hd.cons ?_
  rcases hc with rfl | rfl | rfl | rfl <;> rfl
theorem yFS {x:St} {d:Nat} (h:GS x d) (r:Bys):∃ c l,zMr x ++ r=c :: l∧(c=42∨nameCh c=true):=by
 obtain ⟨tag,l⟩:=x
 obtain ⟨_,h2,_⟩:=h.parts
 simp only [zMr]
 rcases h2 with rfl | h2
 ·exact ⟨_,_,rfl,.inl rfl⟩
 ·have hne:=zGF h2
  rw [if_neg hne]
  cases tag with
  |nil=>exact (hne rfl).elim
  |cons c tag=>
   have:=zDs h2
   simp only [List.all_cons,Bool.and_eq_true] at this
   exact ⟨_,_,rfl,.inr this.1⟩
theorem yBG {n:Int} (h:1≤n∧n≤4) {x:St} {d:Nat} (hx:GS x d) (r:Bys):zBL (zGf n ++ (zMr x ++ r))=n∧zAg (zGf n ++ (zMr x ++ r)) (zGf n)=zMr x ++ r:=by
 refine ⟨?_,(zA4 _ _).2⟩
 obtain ⟨c,l,e,hc⟩:=yFS hx r
 have h4:n=1∨n=2∨n=3∨n=4:=by omega
 rcases h4 with rfl | rfl | rfl | rfl
 ·rw [e]
  have hne:∀ q:UInt8,nameCh q=false→q≠42→(c == q)=false:=by
   intro q h1 h2
   rw [beq_eq_false_iff_ne]
   rintro rfl
   rcases hc with rfl | hc
   ·exact h2 rfl
   ·rw [h1] at hc; cases hc
  unfold zBL
  show (if zAj (32 :: c :: l) (32 :: 62 :: [32])=true then _ else _)=_
  rw [if_neg (by rw [zEz (hne 62 rfl (by decide))]; simp)]
  show (if zAj (32 :: c :: l) (32 :: 43 :: [32])=true then _ else _)=_
  rw [if_neg (by rw [zEz (hne 43 rfl (by decide))]; simp)]
  show (if zAj (32 :: c :: l) (32 :: 126 :: [32])=true then _ else _)=_
  rw [if_neg (by rw [zEz (hne 126 rfl (by decide))]; simp)]
  show (if zAj (32 :: c :: l) [32]=true then _ else _)=_
  rw [(zAK _ _).1]; rfl
 ·unfold zBL
  exact if_pos (zA4 [32,62,32] _).1
 ·unfold zBL
  rw [if_neg (by show ¬ zAj (32 :: 43 :: _) (32 :: 62 :: _)=true; rw [zEz rfl]; simp)]
  exact if_pos (zA4 [32,43,32] _).1
 ·unfold zBL
  rw [if_neg (by show ¬ zAj (32 :: 126 :: _) (32 :: 62 :: _)=true; rw [zEz rfl]; simp),if_neg (by show ¬ zAj (32 :: 126 :: _) (32 :: 43 :: _)=true; rw [zEz rfl]; simp)]
  exact if_pos (zA4 [32,126,32] _).1
theorem zUr {r:Bys} (h:Hd pL r):zBL r=0:=by
 unfold zBL
 rw [if_neg (by rw [zHO h rfl]; simp),if_neg (by rw [zHO h rfl]; simp),if_neg (by rw [zHO h rfl]; simp),if_neg (by rw [zHO h rfl]; simp)]
end Go.Hx
end

section
/-
 Lists of paths as text: the strict reader takes the text of a right list. Plain Lean. No condition.
-/
set_option maxRecDepth 100000
set_option linter.unusedSimpArgs false
namespace Go.Hx
variable [Glob]
theorem yEi (k:Int):5≤(zBG k).length+1:=by
 unfold zBG
 split
 ·decide
 ·split
  ·decide
  ·split
   ·decide
   ·split <;> decide
theorem yH1 {k:Int} (h:1≤k∧k≤15):k=1∨k=2∨k=3∨(4≤k∧k≤8)∨(k=9∨k=10)∨k=11∨k=12∨(k=13∨k=14∨k=15):=by omega
theorem yFT {g:Bys→Option (List Pt × Bys)} {k:Int} (hk:k=9∨k=10) {a b:Int} (h:zIG a b=0) (r:Bys):zYT g k (zBA a b ++ 41 :: r)=some (some (.mk k [] [] a b []),r):=by
 have hl:zEc k=false:=by rcases hk with rfl | rfl <;> rfl
 unfold zYT
 rw [if_neg yO,hl,if_neg (by simp),yBF _ (yJR a b)]
 simp only
 rw [yAI h,(zWF h).1,(zWF h).2]
 rfl
theorem yEj {g:Bys→Option (List Pt × Bys)} {k:Int} (hk:k=13∨k=14∨k=15) {s r:Bys} {l:List Pt} (h:g s=some (l,41 :: r)):zYT g k s=some (some (.mk k [] [] 0 0 l),r):=by
 have hl:zEc k=true:=by rcases hk with rfl | rfl | rfl <;> rfl
 unfold zYT
 rw [if_neg yO,hl,if_pos rfl,h]
 simp only
 rw [(zAK _ _).1,(zAK _ _).2,if_pos rfl]
theorem tstP_colon {f d:Nat} {s:Bys}:zMs (f+1) d (58 :: s)=zZv (zXD f (d+1)) s:=by
 rw [zMs,if_neg (by rw [zBp]; decide),if_neg (by rw [zBp]; decide),if_neg (by rw [zBp]; decide),if_neg (by rw [(zAK _ _).1]; simp),(zAK _ _).2]
theorem zYW {g:Bys→Option (List Pt × Bys)} {r:Bys} (hr:Hd pT r):zZv g ([101,109,112,116,121] ++ r)=some (some (.mk 11 [] [] 0 0 []),r)∧zZv g ([114,111,111,116] ++ r)=some (some (.mk 12 [] [] 0 0 []),r):=by
 have h1:=yGE (n:=[101,109,112,116,121]) rfl hr
 have h2:=yGE (n:=[114,111,111,116]) rfl hr
 constructor
 ·unfold zZv; rw [h1.1,h1.2,if_pos rfl]
 ·unfold zZv; rw [h2.1,h2.2,if_neg (by decide),if_pos rfl]
theorem zRn:∀ f:Nat,
  (∀ t d r,GT t d→4 * (zSj t).length≤f→Hd pT r→zMs f d (zSj t ++ r)=some (some t,r)) ∧
  (∀ d r,1≤f→Hd pE r→zMs f d r=some (none,r)) ∧
  (∀ m l d r,GTs m d→4 * (zA8 m).length+2≤f→Hd pE r→zGI f d (zA8 m ++ r) l=some (l ++ m,r)) ∧
  (∀ x d r,GS x d→4 * (zMr x).length+3≤f→Hd pE r→zWG f d (zMr x ++ r)=some (x,r)) ∧
  (∀ st' lk' st lk d r,GSs st' d→lk'.length=st'.length→(∀ n ∈ lk',1≤n∧n≤4)→4 * (zAX st' lk' false).length+1≤f→Hd pL r→zRk f d (zAX st' lk' false ++ r) st lk=some (.mk (st ++ st') (lk ++ lk'),r)) ∧
  (∀ p m l d r,GPs (p :: m) d→4 * (zKG p ++ zAH m false).length+4≤f→Hd pB r→zRl f d (zKG p ++ zAH m false ++ r) l=some (l ++ p :: m,r)) ∧
  (∀ l d r,GL l d→4 * (zAH l true).length+5≤f→Hd pB r→zXD f d (zAH l true ++ r)=some (l,r))
 |0=>by
  refine ⟨?_,?_,?_,?_,?_,?_,?_⟩
  ·intro t d r _ h _
   obtain ⟨c,l,e,_⟩:=zF0 t
   rw [e,List.length_cons] at h
   omega
  all_goals intros; omega
 |f+1=>by
  obtain ⟨i1,i2,i3,i4,i5,i6,i7⟩:=zRn f
  refine ⟨?_,?_,?_,?_,?_,?_,?_⟩
  ·intro t d r hg hf hr
   obtain ⟨k,n,v,a,b,l⟩:=t
   obtain ⟨q1,q2,q3,q4,q5,q6⟩:=hg.parts
   rw [zDt] at hf ⊢
   rcases yH1 q1 with rfl | rfl | rfl | hk | hk | rfl | rfl | hk
   ·rw [if_pos (by decide)] at q2
    rw [if_neg (by decide)] at q3 q4 q6
    obtain ⟨rfl,rfl⟩:=q4
    subst q3 q6
    have hn:=yGE (zDs q2) hr
    rw [if_pos rfl,List.cons_append,zMs,if_pos (zAK _ _).1,(zAK _ _).2,hn.1,hn.2]
   ·rw [if_pos (by decide)] at q2
    rw [if_neg (by decide)] at q3 q4 q6
    obtain ⟨rfl,rfl⟩:=q4
    subst q3 q6
    have hn:=yGE (zDs q2) hr
    rw [if_neg (by decide),if_pos rfl,List.cons_append,zMs,if_neg (by rw [zBp]; decide),if_pos (zAK _ _).1,(zAK _ _).2,hn.1,hn.2]
   ·rw [if_pos (by decide)] at q2
    rw [if_neg (by decide)] at q3 q4 q6
    obtain ⟨rfl,rfl⟩:=q4
    subst q3 q6
    rw [if_neg (by decide),if_neg (by decide),if_pos rfl,List.cons_append,List.append_assoc,zMs,if_neg (by rw [zBp]; decide),if_neg (by rw [zBp]; decide),if_pos (zAK _ _).1,(zAK _ _).2]
    show (match yAJ (n ++ 93 :: r) with | some (t,r)=>some (some t,r) | none=>none)=_
    rw [yCW q2]
   ·rw [if_pos yO] at q2
    rw [if_pos hk] at q3
    rw [if_neg yO] at q4 q6
    obtain ⟨rfl,rfl⟩:=q4
    subst q6
    rw [if_neg yO,if_neg yO,if_neg yO,if_pos hk]
    simp only [List.cons_append,List.append_assoc,List.nil_append]
    rw [zMs,if_neg (by rw [zBp]; decide),if_neg (by rw [zBp]; decide),if_pos (zAK _ _).1,(zAK _ _).2,yEg hk q2 q3]
   ·rw [if_neg yO] at q2 q3 q6
    subst q2 q3 q6
    rw [if_neg yO,if_neg yO,if_neg yO,if_neg yO,if_pos hk]
    obtain ⟨w,e1,e2⟩:=zYV (g:=zXD f (d+1)) (k:=k) yO (zBA a b ++ 41 :: r)
    rw [e1]
    simp only [List.cons_append,List.append_assoc,List.nil_append]
    rw [tstP_colon,e2,yFT hk q5]
   ·rw [if_neg (by decide)] at q2 q3 q4 q6
    obtain ⟨rfl,rfl⟩:=q4
    subst q2 q3 q6
    exact tstP_colon.trans (zYW hr).1
   ·rw [if_neg (by decide)] at q2 q3 q4 q6
    obtain ⟨rfl,rfl⟩:=q4
    subst q2 q3 q6
    exact tstP_colon.trans (zYW hr).2
   ·rw [if_neg yO] at q2 q3 q4
    rw [if_pos yO] at q6
    obtain ⟨rfl,rfl⟩:=q4
    subst q2 q3
    rw [if_neg yO,if_neg yO,if_neg yO,if_neg yO,if_neg yO,if_neg yO,if_neg yO] at hf ⊢
    obtain ⟨w,e1,e2⟩:=zYV (g:=zXD f (d+1)) (k:=k) yO (zAH l true ++ 41 :: r)
    have ho:=yEi k
    have h7:=i7 l (d+1) (41 :: r) q6 (by simp only [List.length_append,List.length_cons,List.length_nil] at hf; omega) (Hd.cons rfl)
    rw [e1]
    simp only [List.cons_append,List.append_assoc,List.nil_append]
    rw [tstP_colon,e2,yEj hk h7]
  ·intro d r _ hr
   rw [zMs,if_neg (by rw [zEW hr rfl]; simp),if_neg (by rw [zEW hr rfl]; simp),if_neg (by rw [zEW hr rfl]; simp),if_pos (zEW hr rfl)]
  ·intro m l d r hg hf hr
   cases m with
   |nil=>
    simp only [zGI]
    rw [show zA8 [] ++ r=r from rfl,i2 d r (by simp [zA8] at hf; omega) hr]
    simp
   |cons t m=>
    obtain ⟨g1,g2⟩:=hg.cons
    simp only [zA8,List.length_append] at hf
    obtain ⟨c,q,e,_⟩:=zF0 t
    have hl:1≤(zSj t).length:=by rw [e]; simp
    simp only [zA8,zGI,List.append_assoc]
    rw [i1 t d _ g1 yO (zWH m hr)]
    simp only
    rw [i3 m _ d r g2 yO hr]
    simp
  ·intro x d r hg hf hr
   obtain ⟨tag,l⟩:=x
   obtain ⟨g1,g2,g3⟩:=hg.parts
   simp only [zMr,List.length_append] at hf
   simp only [zMr,zWG,List.append_assoc]
   rcases g2 with rfl | g2
   ·simp only [if_true] at hf ⊢
    have hn:zDG ([42] ++ (zA8 l ++ r))=[]∧nmR ([42] ++ (zA8 l ++ r))=42 :: (zA8 l ++ r):=zHP (n:=[]) rfl (fun c l e=>by injection e with e _; rw [← e]; rfl)
    rw [hn.1,hn.2,(zAK _ _).1,(zAK _ _).2]
    simp only [if_true]
    rw [i3 l [] d r g3 (by simp only [List.length_cons,List.length_nil] at hf; omega) hr]
    simp
   ·rw [if_neg (zGF g2)] at hf
    simp only [if_neg (zGF g2)]
    have hn:=yGE (zDs g2) (zWH l hr)
    rw [hn.1,hn.2,if_neg (zGF g2),i3 l [] d r g3 (by have:1≤tag.length:=List.length_pos_iff.2 (zGF g2); omega) hr]
    simp
  ·intro st' lk' st lk d r hg hlen hlk hf hr
   cases st' with
   |nil=>
    have:lk'=[]:=List.eq_nil_of_length_eq_zero (by simpa using hlen)
    subst this
    simp only [zAX,List.nil_append,zRk]
    rw [zUr hr,if_pos rfl]
    simp
   |cons x st'=>
    obtain ⟨g1,g2⟩:=hg.cons
    cases lk' with
    |nil=>simp at hlen
    |cons n lk'=>
     have hn:=hlk n List.mem_cons_self
     simp only [zAX,List.headD_cons,List.tail_cons,List.length_append] at hf
     simp only [zAX,List.headD_cons,List.tail_cons,List.append_assoc,zRk]
     obtain ⟨e1,e2⟩:=yBG hn g1 (zAX st' lk' false ++ r)
     have hl:1≤(zGf n).length:=by
      have:n=1∨n=2∨n=3∨n=4:=by omega
      rcases this with rfl | rfl | rfl | rfl <;> decide
     have hh:Hd pE (zAX st' lk' false ++ r):=by
      cases st' with
      |nil=>exact hr.mono fun _=>yJ2
      |cons y st'=>
       cases lk' with
       |nil=>simp at hlen
       |cons n' lk'=>
        have hn':=hlk n' (List.mem_cons_of_mem _ List.mem_cons_self)
        have:∃ q,zGf n'=32 :: q:=by
         have:n'=1∨n'=2∨n'=3∨n'=4:=by omega
         rcases this with rfl | rfl | rfl | rfl <;> exact ⟨_,rfl⟩
        obtain ⟨q,hq⟩:=this
        simp only [zAX,List.headD_cons,hq,List.cons_append]
        exact Hd.cons rfl
     rw [e1,if_neg yO,e2,i4 x d _ g1 yO hh]
     simp only
     rw [i5 st' lk' _ _ d r g2 (by simpa using hlen) (fun y hy=>hlk y (List.mem_cons_of_mem _ hy)) yO hr]
     simp
  ·intro p m l d r hg hf hr
   obtain ⟨g1,g2⟩:=hg.cons
   obtain ⟨st,lk⟩:=p
   obtain ⟨p1,p2,p3,p4,p5⟩:=g1.parts
   cases st with
   |nil=>simp at p1
   |cons x st=>
    obtain ⟨s1,s2⟩:=p5.cons
    simp only [zKG,zAX,List.length_append] at hf
    simp only [zKG,zAX,zRl,List.append_assoc]
    have hh:Hd pL (zAH m false ++ r):=by
     cases m with
     |nil=>exact hr.mono fun _=>yLs
     |cons y m=>simp only [zAH,Bool.false_eq_true,if_false,List.cons_append]; exact Hd.cons rfl
    have hh2:Hd pE (zAX st lk false ++ (zAH m false ++ r)):=by
     cases st with
     |nil=>exact hh.mono fun _=>yJ2
     |cons y st=>
      cases lk with
      |nil=>simp at p3
      |cons n lk=>
       have hn:=p4 n List.mem_cons_self
       have:∃ q,zGf n=32 :: q:=by
        have:n=1∨n=2∨n=3∨n=4:=by omega
        rcases this with rfl | rfl | rfl | rfl <;> exact ⟨_,rfl⟩
       obtain ⟨q,hq⟩:=this
       simp only [zAX,List.headD_cons,hq,List.cons_append]
       exact Hd.cons rfl
    rw [i4 x d _ s1 yO hh2]
    simp only
    rw [i5 st lk [x] [] d _ s2 (by simpa using p3) p4 yO hh]
    simp only [List.cons_append,List.nil_append]
    cases m with
    |nil=>
     rw [show zAH [] false ++ r=r from rfl]
     exact if_neg (by rw [zHO hr rfl]; simp)
    |cons y m=>
     have e:zAH (y :: m) false ++ r=[44,32] ++ (zKG y ++ zAH m false ++ r):=by simp only [zAH,Bool.false_eq_true,if_false,List.append_assoc]
     simp only [zAH,Bool.false_eq_true,if_false,List.length_append,List.length_cons,List.length_nil] at hf
     rw [e,(zA4 _ _).1,(zA4 _ _).2,if_pos rfl,i6 y m _ d r g2 (by simp only [List.length_append]; omega) hr]
     simp
  ·intro l d r hg hf hr
   obtain ⟨h1,h2,h3,h4⟩:=hg
   simp only [zXD]
   rw [if_neg yO]
   cases l with
   |nil=>simp at h2
   |cons p m=>
    simp only [zAH,if_true,List.nil_append,List.length_append] at hf ⊢
    have:=i6 p m [] d r h4 (by simp only [List.length_append]; omega) hr
    rw [this]
    simp
theorem zUs {l:List Pt} (h:zA0 l=0):zFZ (zG6 l)=some l:=by
 have:=(zRn (4 * (zG6 l).length+16)).2.2.2.2.2.2 l 1 [] (yEc h) (by show 4 * (zAH l true).length+5≤4 * (zAH l true).length+16; omega) Hd.nil
 rw [List.append_nil] at this
 unfold zFZ
 rw [this]
 simp [h]
theorem zYX {s:Bys} {l:List Pt}:zFZ s=some l↔zA0 l=0∧zG6 l=s:=by
 constructor
 ·intro h
  have:=yCV h
  exact ⟨this.2,this.1⟩
 ·rintro ⟨h,rfl⟩
  exact zUs h
end Go.Hx
end

section
/-
 Lists of paths as text: how long a right list's text may be. Plain Lean. No condition.
-/
set_option maxRecDepth 100000
set_option linter.unusedSimpArgs false
namespace Go.Hx
variable [Glob]
theorem zWI {a b:Int} (h:zIG a b=0):(zBA a b).length≤44:=by
 unfold zIG at h
 split at h
 ·rename_i h'
  simp only [zN1,Bool.and_eq_true,decide_eq_true_eq] at h'
  have h1:=zBE (a:=a) yO
  have h2:=zBE (a:=b) yO
  unfold zBA
  simp only [List.length_append,List.length_cons,List.length_nil]
  split <;> simp <;> omega
 ·cases h
theorem yBH (k:Int):(zBG k).length≤6:=by
 unfold zBG
 repeat' split
 all_goals simp
theorem yBI (k:Int):(zE6 k).length≤2:=by
 unfold zE6
 repeat' split
 all_goals simp
theorem yFU (k:Int):(zGf k).length≤3:=by
 unfold zGf
 repeat' split
 all_goals simp
theorem zG7 {n:Bys} (h:zB3 n=true):n.length≤12:=by
 simp only [zB3,Bool.and_eq_true,decide_eq_true_eq] at h
 omega
theorem zHQ {n:Bys} (h:zCR n=true):n.length≤16:=by
 simp only [zCR,Bool.and_eq_true,decide_eq_true_eq] at h
 omega
def tB (d:Nat):Nat:=if d=1 then 1229192 else if d=2 then 8192 else 52
theorem yLb (d:Nat):52≤tB d:=by
 unfold tB
 split
 ·omega
 ·split <;> omega
theorem yH2 {d:Nat} (h1:1≤d) (h:d+1≤3):7+5 * (5 * (15+6 * tB (d+1))+2)≤tB d:=by
 have:d=1∨d=2:=by omega
 rcases this with rfl | rfl <;> decide
mutual
theorem yLF:∀ (t:Ts) (d:Nat),1≤d→GT t d→(zSj t).length≤tB d
 |.mk k n v a b l,d,hd,h=>by
  obtain ⟨h1,h2,h3,h4,h5,h6⟩:=h.parts
  have hb:=yLb d
  have ho:=yBH k
  have hs:=yBI k
  have hnt:=zWI h5
  have hl:13≤k→(zAH l true).length+7≤tB d:=fun hk=>by
   rw [if_pos hk] at h6
   have:=yFV l true (d+1) yO h6.2.2.2
   have h7:=yH2 hd h6.1
   have h8:l.length * (5 * (15+6 * tB (d+1))+2)≤5 * (5 * (15+6 * tB (d+1))+2):=Nat.mul_le_mul_right _ h6.2.2.1
   omega
  have hn:n.length≤12:=by
   split at h2
   ·exact zG7 h2
   ·rw [h2]; simp
  have hv:v.length≤16:=by
   split at h3
   ·exact zHQ h3
   ·rw [h3]; simp
  rw [zDt]
  split
  ·simp only [List.length_cons]; omega
  ·split
   ·simp only [List.length_cons]; omega
   ·split
    ·simp only [List.length_cons,List.length_append,List.length_nil]; omega
    ·split
     ·simp only [List.length_cons,List.length_append,List.length_nil]; omega
     ·split
      ·simp only [List.length_cons,List.length_append,List.length_nil]; omega
      ·split
       ·simp only [List.length_cons,List.length_nil]; omega
       ·split
        ·simp only [List.length_cons,List.length_nil]; omega
        ·have:=hl yO
         simp only [List.length_cons,List.length_append,List.length_nil]; omega
theorem yJT:∀ (l:List Ts) (d:Nat),1≤d→GTs l d→(zA8 l).length≤l.length * tB d
 |[],d,_,_=>by simp [zA8]
 |t :: l,d,hd,h=>by
  have h1:=yLF t d hd h.cons.1
  have h2:=yJT l d hd h.cons.2
  simp only [zA8,List.length_append,List.length_cons,Nat.add_mul,Nat.one_mul]
  omega
theorem yLt:∀ (x:St) (d:Nat),1≤d→GS x d→(zMr x).length≤12+6 * tB d
 |.mk tag l,d,hd,h=>by
  obtain ⟨h1,h2,h3⟩:=h.parts
  have h4:=yJT l d hd h3
  have h5:l.length * tB d≤6 * tB d:=Nat.mul_le_mul_right _ h1
  have h6:(if tag=[] then ([42]:Bys) else tag).length≤12:=by
   split
   ·simp
   ·exact zG7 (h2.resolve_left (by assumption))
  simp only [zMr,List.length_append]
  omega
theorem yH3:∀ (l:List St) (lk:List Int) (b:Bool) (d:Nat),1≤d→GSs l d→(zAX l lk b).length≤l.length * (15+6 * tB d)
 |[],lk,b,d,_,_=>by simp [zAX]
 |x :: r,lk,true,d,hd,h=>by
  have h1:=yLt x d hd h.cons.1
  have h2:=yH3 r lk false d hd h.cons.2
  simp only [zAX,List.length_append,List.length_cons,Nat.add_mul,Nat.one_mul]
  omega
 |x :: r,lk,false,d,hd,h=>by
  have h1:=yLt x d hd h.cons.1
  have h2:=yH3 r lk.tail false d hd h.cons.2
  have h3:=yFU (lk.headD 0)
  simp only [zAX,List.length_append,List.length_cons,Nat.add_mul,Nat.one_mul]
  omega
theorem yLc:∀ (p:Pt) (d:Nat),1≤d→GP p d→(zKG p).length≤5 * (15+6 * tB d)
 |.mk st lk,d,hd,h=>by
  obtain ⟨h1,h2,h3,h4,h5⟩:=h.parts
  have h6:=yH3 st lk true d hd h5
  have h7:st.length * (15+6 * tB d)≤5 * (15+6 * tB d):=Nat.mul_le_mul_right _ h2
  simp only [zKG]
  omega
theorem yFV:∀ (l:List Pt) (b:Bool) (d:Nat),1≤d→GPs l d→(zAH l b).length≤l.length * (5 * (15+6 * tB d)+2)
 |[],b,d,_,_=>by simp [zAH]
 |p :: r,b,d,hd,h=>by
  have h1:=yLc p d hd h.cons.1
  have h2:=yFV r false d hd h.cons.2
  have h3:(if b then ([]:Bys) else [44,32]).length≤2:=by cases b <;> simp
  simp only [zAH,List.length_append,List.length_cons]
  rw [Nat.succ_mul]
  omega
end
theorem yIj {l:List Pt} {d:Nat} (hd:1≤d) (h:GL l d):(zG6 l).length≤184379185:=by
 have h1:=yFV l true d hd h.2.2.2
 have h2:l.length * (5 * (15+6 * tB d)+2)≤5 * (5 * (15+6 * tB d)+2):=Nat.mul_le_mul_right _ h.2.2.1
 have h3:tB d≤1229192:=by
  unfold tB
  split
  ·omega
  ·split <;> omega
 have h4:(zG6 l).length=(zAH l true).length:=rfl
 omega
end Go.Hx
end

section
/-
 Lists of paths as text: the lenient reader takes the text of a right list too. Plain Lean. No condition.
-/
set_option maxRecDepth 100000
set_option linter.unusedSimpArgs false
namespace Go.Hx
variable [Glob]
def vlO (s:Bys):Bys:=s.takeWhile fun c=>decide (c≠34)
def vlD (s:Bys):Bys:=s.dropWhile fun c=>decide (c≠34)
def zXE (s:Bys):Ts × Bys:=
 if kd (nmR s)=3 then (.mk 3 (zDG s) [] 0 0 [],zAg (nmR s) [93])
 else (.mk (kd (nmR s)) (zDG s) (vlO (atS s)) 0 0 [],zAg (zAg (vlD (atS s)) [34]) [93])
def yEY (g:Bys→List Pt × Bys) (k:Int) (s:Bys):Option Ts × Bys:=(some (.mk k [] [] 0 0 (g (zAg s (zBG k))).1),zAg (g (zAg s (zBG k))).2 [41])
def yGF (k:Int) (s:Bys):Option Ts × Bys:=(some (.mk k [] [] (zDJ (zAg s (zBG k))).1.1 (zDJ (zAg s (zBG k))).1.2 []),zAg (zDJ (zAg s (zBG k))).2 [41])
def yEk:Bys:=[58,101,109,112,116,121]
def yEZ:Bys:=[58,114,111,111,116]
def zKH (g:Bys→List Pt × Bys) (s:Bys):Option Ts × Bys:=
 if zAj s (zBG 9) then yGF 9 s
 else if zAj s (zBG 10) then yGF 10 s
 else if zAj s yEk then (some (.mk 11 [] [] 0 0 []),zAg s yEk)
 else if zAj s yEZ then (some (.mk 12 [] [] 0 0 []),zAg s yEZ)
 else if zAj s (zBG 13) then yEY g 13 s
 else if zAj s (zBG 14) then yEY g 14 s
 else if zAj s (zBG 15) then yEY g 15 s
 else (none,s)
mutual
def zJz:Nat→Nat→Bys→Option Ts × Bys
 |0,_,s=>(none,s)
 |f+1,d,s=>
  if zAj s [46] then (some (.mk 1 (zDG (zAg s [46])) [] 0 0 []),nmR (zAg s [46]))
  else if zAj s [35] then (some (.mk 2 (zDG (zAg s [35])) [] 0 0 []),nmR (zAg s [35]))
  else if zAj s [91] then (some (zXE (zAg s [91])).1,(zXE (zAg s [91])).2)
  else zKH (zIH f (d+1)) s
def zN3:Nat→Nat→Bys→List Ts→List Ts × Bys
 |0,_,s,l=>(l,s)
 |f+1,d,s,l=>if 6<l.length then (l,s) else match zJz f d s with
  |(some t,r)=>zN3 f d r (l ++ [t])
  |(none,r)=>(l,r)
def zFo:Nat→Nat→Bys→St × Bys
 |0,_,s=>(.mk [] [],s)
 |f+1,d,s=>(.mk (zDG s) (zN3 f d (zAg (nmR s) [42]) []).1,(zN3 f d (zAg (nmR s) [42]) []).2)
def zGi:Nat→Nat→Bys→List St→List Int→Pt × Bys
 |0,_,s,st,lk=>(.mk st lk,s)
 |f+1,d,s,st,lk=>if 5<st.length then (.mk st lk,s) else if zBL s=0 then (.mk st lk,s)
  else zGi f d (zFo f d (zAg s (zGf (zBL s)))).2 (st ++ [(zFo f d (zAg s (zGf (zBL s)))).1]) (lk ++ [zBL s])
def zWJ:Nat→Nat→Bys→List Pt→List Pt × Bys
 |0,_,s,l=>(l,s)
 |f+1,d,s,l=>if 5<l.length then (l,s) else
  if zAj (zGi f d (zFo f d s).2 [(zFo f d s).1] []).2 [44,32] then zWJ f d (zAg (zGi f d (zFo f d s).2 [(zFo f d s).1] []).2 [44,32]) (l ++ [(zGi f d (zFo f d s).2 [(zFo f d s).1] []).1])
  else (l ++ [(zGi f d (zFo f d s).2 [(zFo f d s).1] []).1],(zGi f d (zFo f d s).2 [(zFo f d s).1] []).2)
def zIH:Nat→Nat→Bys→List Pt × Bys
 |0,_,s=>([],s)
 |f+1,d,s=>if 3<d then ([],s) else zWJ f d s []
end
theorem yJU {b:Int} (h : -1048576≤b∧b≤1048576) {r:Bys} (hst:∀ (c:UInt8) (l:Bys),r=c :: l→zGh c=false):rdB (yFP b ++ r)=(b,r):=by
 unfold rdB
 by_cases h0:0≤b
 ·rw [yBC h0]
  have h3:=zWE (u:=b.toNat) (r:=r) yO hst
  simp only [List.cons_append,zEA,zFn,beq_self_eq_true,if_true,show ((43:UInt8) == 45)=false from rfl,Bool.false_eq_true,if_false,h3]
  simp only [Prod.mk.injEq,and_true]; omega
 ·rw [yBD yO]
  obtain ⟨c,l,e,hc⟩:=zWD b.natAbs
  have hn:=yBB hc (show zGh 43=false by decide)
  have h3:=zWE (u:=b.natAbs) (r:=r) yO hst
  rw [e] at h3
  simp only [List.cons_append] at h3
  simp only [List.cons_append,zEA,zFn,beq_self_eq_true,if_true,e,hn,Bool.false_eq_true,if_false,h3]
  simp only [Prod.mk.injEq,and_true]; omega
theorem yFW {a b:Int} (h:zIG a b=0) (r:Bys):zDJ (zBA a b ++ 41 :: r)=((a,b),41 :: r):=by
 obtain ⟨h1,h2⟩:=zWC h
 unfold zDJ
 rw [zUp]
 simp only [List.append_assoc,List.cons_append]
 rw [yFR h1]
 simp only [zFn,beq_self_eq_true,if_true]
 rw [yJU h2 (fun c l e=>by injection e with e _; rw [← e]; rfl)]
theorem yCX {n r:Bys} (hn:zB3 n=true):zXE (n ++ 93 :: r)=(.mk 3 n [] 0 0 [],r):=by
 have h:=zHP (r:=93 :: r) (zDs hn) (fun c l e=>by injection e with e _; rw [← e]; rfl)
 unfold zXE
 rw [h.1,h.2,if_pos (yEf rfl),(zAK _ _).2]
theorem yEl {k:Int} {n v r:Bys} (hk:4≤k∧k≤8) (hn:zB3 n=true) (hv:zCR v=true):zXE (n ++ (zE6 k ++ 34 :: (v ++ 34 :: 93 :: r)))=(.mk k n v 0 0 [],r):=by
 obtain ⟨k1,k2,k3⟩:=yJS hk (v ++ 34 :: 93 :: r)
 have h:=zHP (r:=zE6 k ++ 34 :: (v ++ 34 :: 93 :: r)) (zDs hn) k3
 have hw:vlO (v ++ 34 :: 93 :: r)=v∧vlD (v ++ 34 :: 93 :: r)=34 :: 93 :: r:=by
  refine yBt ?_ (fun c l e=>by injection e with e _; rw [← e]; rfl)
  rw [List.all_eq_true]
  intro c hc
  exact decide_eq_true (yGB hv c hc)
 unfold zXE atS
 rw [h.1,h.2,k1,if_neg yO,k2,hw.1,hw.2,(zAK _ _).2,(zAK _ _).2]
theorem zUt {a b c d:UInt8} {s t:Bys} (h:(b == d)=false):zAj (a :: b :: s) (c :: d :: t)=false:=by
 cases hac:(a == c) with
 |false=>exact zBV hac
 |true=>
  rw [beq_iff_eq] at hac
  subst hac
  exact zEz h
theorem zHR {g:Bys→List Pt × Bys} (s:Bys) :
  zKH g (zBG 9 ++ s)=yGF 9 (zBG 9 ++ s)∧zKH g (zBG 10 ++ s)=yGF 10 (zBG 10 ++ s)∧zKH g (yEk ++ s)=(some (.mk 11 [] [] 0 0 []),s)∧zKH g (yEZ ++ s)=(some (.mk 12 [] [] 0 0 []),s) ∧
  zKH g (zBG 13 ++ s)=yEY g 13 (zBG 13 ++ s)∧zKH g (zBG 14 ++ s)=yEY g 14 (zBG 14 ++ s)∧zKH g (zBG 15 ++ s)=yEY g 15 (zBG 15 ++ s):=by
 have n1:zAj (zBG 13 ++ s) (zBG 9)=false:=rfl
 refine ⟨?_,?_,?_,?_,?_,?_,?_⟩
 ·unfold zKH
  exact if_pos (zA4 _ _).1
 ·unfold zKH
  rw [if_neg (by show ¬ zAj (58 :: 108 :: _) (58 :: 110 :: _)=true; rw [zUt rfl]; simp)]
  exact if_pos (zA4 _ _).1
 ·unfold zKH
  rw [if_neg (by show ¬ zAj (58 :: 101 :: _) (58 :: 110 :: _)=true; rw [zUt rfl]; simp),if_neg (by show ¬ zAj (58 :: 101 :: _) (58 :: 108 :: _)=true; rw [zUt rfl]; simp),if_pos (zA4 _ _).1,(zA4 _ _).2]
 ·unfold zKH
  rw [if_neg (by show ¬ zAj (58 :: 114 :: _) (58 :: 110 :: _)=true; rw [zUt rfl]; simp),if_neg (by show ¬ zAj (58 :: 114 :: _) (58 :: 108 :: _)=true; rw [zUt rfl]; simp),if_neg (by show ¬ zAj (58 :: 114 :: _) (58 :: 101 :: _)=true; rw [zUt rfl]; simp),if_pos (zA4 _ _).1,(zA4 _ _).2]
 ·unfold zKH
  rw [n1,if_neg (by simp),if_neg (by show ¬ zAj (58 :: 110 :: _) (58 :: 108 :: _)=true; rw [zUt rfl]; simp),if_neg (by show ¬ zAj (58 :: 110 :: _) (58 :: 101 :: _)=true; rw [zUt rfl]; simp),if_neg (by show ¬ zAj (58 :: 110 :: _) (58 :: 114 :: _)=true; rw [zUt rfl]; simp)]
  exact if_pos (zA4 _ _).1
 ·unfold zKH
  rw [if_neg (by show ¬ zAj (58 :: 105 :: _) (58 :: 110 :: _)=true; rw [zUt rfl]; simp),if_neg (by show ¬ zAj (58 :: 105 :: _) (58 :: 108 :: _)=true; rw [zUt rfl]; simp),if_neg (by show ¬ zAj (58 :: 105 :: _) (58 :: 101 :: _)=true; rw [zUt rfl]; simp),if_neg (by show ¬ zAj (58 :: 105 :: _) (58 :: 114 :: _)=true; rw [zUt rfl]; simp),if_neg (by show ¬ zAj (58 :: 105 :: _) (58 :: 110 :: _)=true; rw [zUt rfl]; simp)]
  exact if_pos (zA4 _ _).1
 ·unfold zKH
  rw [if_neg (by show ¬ zAj (58 :: 104 :: _) (58 :: 110 :: _)=true; rw [zUt rfl]; simp),if_neg (by show ¬ zAj (58 :: 104 :: _) (58 :: 108 :: _)=true; rw [zUt rfl]; simp),if_neg (by show ¬ zAj (58 :: 104 :: _) (58 :: 101 :: _)=true; rw [zUt rfl]; simp),if_neg (by show ¬ zAj (58 :: 104 :: _) (58 :: 114 :: _)=true; rw [zUt rfl]; simp),if_neg (by show ¬ zAj (58 :: 104 :: _) (58 :: 110 :: _)=true; rw [zUt rfl]; simp),if_neg (by show ¬ zAj (58 :: 104 :: _) (58 :: 105 :: _)=true; rw [zUt rfl]; simp)]
  exact if_pos (zA4 _ _).1
theorem yEm {g:Bys→List Pt × Bys} {r:Bys} (hr:Hd pE r):zKH g r=(none,r):=by
 have h:∀ t:Bys,zAj r (58 :: t)=false:=fun t=>zHO hr rfl
 unfold zKH
 rw [if_neg (by rw [show zBG 9=58 :: [110,116,104,40] from rfl,h]; simp),if_neg (by rw [show zBG 10=58 :: [108,97,115,116,40] from rfl,h]; simp),if_neg (by rw [show yEk=58 :: [101,109,112,116,121] from rfl,h]; simp),if_neg (by rw [show yEZ=58 :: [114,111,111,116] from rfl,h]; simp),if_neg (by rw [show zBG 13=58 :: [110,111,116,40] from rfl,h]; simp),if_neg (by rw [show zBG 14=58 :: [105,115,40] from rfl,h]; simp),if_neg (by rw [show zBG 15=58 :: [104,97,115,40] from rfl,h]; simp)]
theorem yAK {g:Bys→List Pt × Bys} {k:Int} {s r:Bys} {l:List Pt} (h:g s=(l,41 :: r)):yEY g k (zBG k ++ s)=(some (.mk k [] [] 0 0 l),r):=by
 unfold yEY
 rw [(zA4 _ _).2,h,(zAK _ _).2]
theorem yEn {k:Int} {a b:Int} (h:zIG a b=0) (r:Bys):yGF k (zBG k ++ (zBA a b ++ 41 :: r))=(some (.mk k [] [] a b []),r):=by
 unfold yGF
 rw [(zA4 _ _).2,yFW h,(zAK _ _).2]
theorem yBJ:∀ f:Nat,
  (∀ t d r,GT t d→4 * (zSj t).length≤f→Hd pT r→zJz f d (zSj t ++ r)=(some t,r)) ∧
  (∀ d r,Hd pE r→zJz f d r=(none,r)) ∧
  (∀ m l d r,GTs m d→l.length+m.length≤6→4 * (zA8 m).length+2≤f→Hd pE r→zN3 f d (zA8 m ++ r) l=(l ++ m,r)) ∧
  (∀ x d r,GS x d→4 * (zMr x).length+3≤f→Hd pE r→zFo f d (zMr x ++ r)=(x,r)) ∧
  (∀ st' lk' st lk d r,GSs st' d→lk'.length=st'.length→(∀ n ∈ lk',1≤n∧n≤4)→st.length+st'.length≤5→4 * (zAX st' lk' false).length+1≤f→Hd pL r→zGi f d (zAX st' lk' false ++ r) st lk=(.mk (st ++ st') (lk ++ lk'),r)) ∧
  (∀ p m l d r,GPs (p :: m) d→l.length+m.length≤4→4 * (zKG p ++ zAH m false).length+4≤f→Hd pB r→zWJ f d (zKG p ++ zAH m false ++ r) l=(l ++ p :: m,r)) ∧
  (∀ l d r,GL l d→4 * (zAH l true).length+5≤f→Hd pB r→zIH f d (zAH l true ++ r)=(l,r))
 |0=>by
  refine ⟨?_,?_,?_,?_,?_,?_,?_⟩
  ·intro t d r _ h _
   obtain ⟨c,l,e,_⟩:=zF0 t
   rw [e,List.length_cons] at h
   omega
  ·intro d r _; rw [zJz]
  all_goals intros; omega
 |f+1=>by
  obtain ⟨i1,i2,i3,i4,i5,i6,i7⟩:=yBJ f
  have hcol:∀ (d:Nat) (s:Bys),zJz (f+1) d (58 :: s)=zKH (zIH f (d+1)) (58 :: s):=by
   intro d s
   rw [zJz,if_neg (by rw [zBp]; decide),if_neg (by rw [zBp]; decide),if_neg (by rw [zBp]; decide)]
  have hopn:∀ (k:Int) (d:Nat) (s:Bys),zJz (f+1) d (zBG k ++ s)=zKH (zIH f (d+1)) (zBG k ++ s):=by
   intro k d s
   have:∃ l,zBG k=58 :: l:=by
    unfold zBG
    split
    ·exact ⟨_,rfl⟩
    ·split
     ·exact ⟨_,rfl⟩
     ·split
      ·exact ⟨_,rfl⟩
      ·split <;> exact ⟨_,rfl⟩
   obtain ⟨l,e⟩:=this
   rw [e,List.cons_append]
   exact hcol d _
  refine ⟨?_,?_,?_,?_,?_,?_,?_⟩
  ·intro t d r hg hf hr
   obtain ⟨k,n,v,a,b,l⟩:=t
   obtain ⟨q1,q2,q3,q4,q5,q6⟩:=hg.parts
   rw [zDt] at hf ⊢
   rcases yH1 q1 with rfl | rfl | rfl | hk | hk | rfl | rfl | hk
   ·rw [if_pos (by decide)] at q2
    rw [if_neg (by decide)] at q3 q4 q6
    obtain ⟨rfl,rfl⟩:=q4
    subst q3 q6
    have hn:=yGE (zDs q2) hr
    rw [if_pos rfl,List.cons_append,zJz,if_pos (zAK _ _).1,(zAK _ _).2,hn.1,hn.2]
   ·rw [if_pos (by decide)] at q2
    rw [if_neg (by decide)] at q3 q4 q6
    obtain ⟨rfl,rfl⟩:=q4
    subst q3 q6
    have hn:=yGE (zDs q2) hr
    rw [if_neg (by decide),if_pos rfl,List.cons_append,zJz,if_neg (by rw [zBp]; decide),if_pos (zAK _ _).1,(zAK _ _).2,hn.1,hn.2]
   ·rw [if_pos (by decide)] at q2
    rw [if_neg (by decide)] at q3 q4 q6
    obtain ⟨rfl,rfl⟩:=q4
    subst q3 q6
    rw [if_neg (by decide),if_neg (by decide),if_pos rfl,List.cons_append,List.append_assoc,zJz,if_neg (by rw [zBp]; decide),if_neg (by rw [zBp]; decide),if_pos (zAK _ _).1,(zAK _ _).2]
    show (some (zXE (n ++ 93 :: r)).1,(zXE (n ++ 93 :: r)).2)=_
    rw [yCX q2]
   ·rw [if_pos yO] at q2
    rw [if_pos hk] at q3
    rw [if_neg yO] at q4 q6
    obtain ⟨rfl,rfl⟩:=q4
    subst q6
    rw [if_neg yO,if_neg yO,if_neg yO,if_pos hk]
    simp only [List.cons_append,List.append_assoc,List.nil_append]
    rw [zJz,if_neg (by rw [zBp]; decide),if_neg (by rw [zBp]; decide),if_pos (zAK _ _).1,(zAK _ _).2,yEl hk q2 q3]
   ·rw [if_neg yO] at q2 q3 q6
    subst q2 q3 q6
    rw [if_neg yO,if_neg yO,if_neg yO,if_neg yO,if_pos hk]
    simp only [List.cons_append,List.append_assoc,List.nil_append]
    rw [hopn]
    rcases hk with rfl | rfl
    ·rw [(zHR _).1,yEn q5]
    ·rw [(zHR _).2.1,yEn q5]
   ·rw [if_neg (by decide)] at q2 q3 q4 q6
    obtain ⟨rfl,rfl⟩:=q4
    subst q2 q3 q6
    exact (hcol d _).trans (zHR r).2.2.1
   ·rw [if_neg (by decide)] at q2 q3 q4 q6
    obtain ⟨rfl,rfl⟩:=q4
    subst q2 q3 q6
    exact (hcol d _).trans (zHR r).2.2.2.1
   ·rw [if_neg yO] at q2 q3 q4
    rw [if_pos yO] at q6
    obtain ⟨rfl,rfl⟩:=q4
    subst q2 q3
    rw [if_neg yO,if_neg yO,if_neg yO,if_neg yO,if_neg yO,if_neg yO,if_neg yO] at hf ⊢
    have ho:=yEi k
    have h7:=i7 l (d+1) (41 :: r) q6 (by simp only [List.length_append,List.length_cons,List.length_nil] at hf; omega) (Hd.cons rfl)
    simp only [List.cons_append,List.append_assoc,List.nil_append]
    rw [hopn]
    rcases hk with rfl | rfl | rfl
    ·rw [(zHR _).2.2.2.2.1,yAK h7]
    ·rw [(zHR _).2.2.2.2.2.1,yAK h7]
    ·rw [(zHR _).2.2.2.2.2.2,yAK h7]
  ·intro d r hr
   rw [zJz,if_neg (by rw [zEW hr rfl]; simp),if_neg (by rw [zEW hr rfl]; simp),if_neg (by rw [zEW hr rfl]; simp),yEm hr]
  ·intro m l d r hg hc hf hr
   cases m with
   |nil=>
    simp only [zN3]
    rw [if_neg (by simp at hc; omega),show zA8 [] ++ r=r from rfl,i2 d r hr]
    simp
   |cons t m=>
    obtain ⟨g1,g2⟩:=hg.cons
    simp only [zA8,List.length_append] at hf
    simp only [List.length_cons] at hc
    obtain ⟨c,q,e,_⟩:=zF0 t
    have hl:1≤(zSj t).length:=by rw [e]; simp
    simp only [zA8,zN3,List.append_assoc]
    rw [if_neg yO,i1 t d _ g1 yO (zWH m hr)]
    simp only
    rw [i3 m _ d r g2 (by simp only [List.length_append,List.length_cons,List.length_nil]; omega) yO hr]
    simp
  ·intro x d r hg hf hr
   obtain ⟨tag,l⟩:=x
   obtain ⟨g1,g2,g3⟩:=hg.parts
   simp only [zMr,List.length_append] at hf
   simp only [zMr,zFo,List.append_assoc]
   rcases g2 with rfl | g2
   ·simp only [if_true] at hf ⊢
    have hn:zDG ([42] ++ (zA8 l ++ r))=[]∧nmR ([42] ++ (zA8 l ++ r))=42 :: (zA8 l ++ r):=zHP (n:=[]) rfl (fun c l e=>by injection e with e _; rw [← e]; rfl)
    rw [hn.1,hn.2,(zAK _ _).2,i3 l [] d r g3 (by simpa using g1) (by simp only [List.length_cons,List.length_nil] at hf; omega) hr]
    simp
   ·rw [if_neg (zGF g2)] at hf
    simp only [if_neg (zGF g2)]
    have hh:=zWH l hr
    have hn:=yGE (zDs g2) hh
    have hs:zAg (zA8 l ++ r) [42]=zA8 l ++ r:=by
     unfold zAg
     rw [if_neg (by rw [zEW hh rfl]; simp)]
    rw [hn.1,hn.2,hs,i3 l [] d r g3 (by simpa using g1) (by have:1≤tag.length:=List.length_pos_iff.2 (zGF g2); omega) hr]
    simp
  ·intro st' lk' st lk d r hg hlen hlk hc hf hr
   cases st' with
   |nil=>
    have:lk'=[]:=List.eq_nil_of_length_eq_zero (by simpa using hlen)
    subst this
    simp only [zAX,List.nil_append,zGi]
    rw [if_neg (by simp at hc; omega),zUr hr,if_pos rfl]
    simp
   |cons x st'=>
    obtain ⟨g1,g2⟩:=hg.cons
    cases lk' with
    |nil=>simp at hlen
    |cons n lk'=>
     have hn:=hlk n List.mem_cons_self
     simp only [List.length_cons] at hc
     simp only [zAX,List.headD_cons,List.tail_cons,List.length_append] at hf
     simp only [zAX,List.headD_cons,List.tail_cons,List.append_assoc,zGi]
     obtain ⟨e1,e2⟩:=yBG hn g1 (zAX st' lk' false ++ r)
     have hl:1≤(zGf n).length:=by
      have:n=1∨n=2∨n=3∨n=4:=by omega
      rcases this with rfl | rfl | rfl | rfl <;> decide
     have hh:Hd pE (zAX st' lk' false ++ r):=by
      cases st' with
      |nil=>exact hr.mono fun _=>yJ2
      |cons y st'=>
       cases lk' with
       |nil=>simp at hlen
       |cons n' lk'=>
        have hn':=hlk n' (List.mem_cons_of_mem _ List.mem_cons_self)
        have:∃ q,zGf n'=32 :: q:=by
         have:n'=1∨n'=2∨n'=3∨n'=4:=by omega
         rcases this with rfl | rfl | rfl | rfl <;> exact ⟨_,rfl⟩
        obtain ⟨q,hq⟩:=this
        simp only [zAX,List.headD_cons,hq,List.cons_append]
        exact Hd.cons rfl
     rw [if_neg yO,e1,if_neg yO,e2,i4 x d _ g1 yO hh]
     simp only
     rw [i5 st' lk' _ _ d r g2 (by simpa using hlen) (fun y hy=>hlk y (List.mem_cons_of_mem _ hy)) (by simp only [List.length_append,List.length_cons,List.length_nil]; omega) yO hr]
     simp
  ·intro p m l d r hg hc hf hr
   obtain ⟨g1,g2⟩:=hg.cons
   obtain ⟨st,lk⟩:=p
   obtain ⟨p1,p2,p3,p4,p5⟩:=g1.parts
   cases st with
   |nil=>simp at p1
   |cons x st=>
    obtain ⟨s1,s2⟩:=p5.cons
    simp only [zKG,zAX,List.length_append] at hf
    simp only [zKG,zAX,zWJ,List.append_assoc]
    have hh:Hd pL (zAH m false ++ r):=by
     cases m with
     |nil=>exact hr.mono fun _=>yLs
     |cons y m=>simp only [zAH,Bool.false_eq_true,if_false,List.cons_append]; exact Hd.cons rfl
    have hh2:Hd pE (zAX st lk false ++ (zAH m false ++ r)):=by
     cases st with
     |nil=>exact hh.mono fun _=>yJ2
     |cons y st=>
      cases lk with
      |nil=>simp at p3
      |cons n lk=>
       have hn:=p4 n List.mem_cons_self
       have:∃ q,zGf n=32 :: q:=by
        have:n=1∨n=2∨n=3∨n=4:=by omega
        rcases this with rfl | rfl | rfl | rfl <;> exact ⟨_,rfl⟩
       obtain ⟨q,hq⟩:=this
       simp only [zAX,List.headD_cons,hq,List.cons_append]
       exact Hd.cons rfl
    rw [if_neg yO,i4 x d _ s1 yO hh2]
    simp only
    rw [i5 st lk [x] [] d _ s2 (by simpa using p3) p4 (by simp only [List.length_cons,List.length_nil] at p2 ⊢; omega) yO hh]
    simp only [List.cons_append,List.nil_append]
    cases m with
    |nil=>
     rw [show zAH [] false ++ r=r from rfl]
     exact if_neg (by rw [zHO hr rfl]; simp)
    |cons y m=>
     have e:zAH (y :: m) false ++ r=[44,32] ++ (zKG y ++ zAH m false ++ r):=by simp only [zAH,Bool.false_eq_true,if_false,List.append_assoc]
     simp only [zAH,Bool.false_eq_true,if_false,List.length_append,List.length_cons,List.length_nil] at hf
     simp only [List.length_cons] at hc
     rw [e,(zA4 _ _).1,(zA4 _ _).2,if_pos rfl,i6 y m _ d r g2 (by simp only [List.length_append,List.length_cons,List.length_nil]; omega) (by simp only [List.length_append]; omega) hr]
     simp
  ·intro l d r hg hf hr
   obtain ⟨h1,h2,h3,h4⟩:=hg
   simp only [zIH]
   rw [if_neg yO]
   cases l with
   |nil=>simp at h2
   |cons p m=>
    simp only [zAH,if_true,List.nil_append,List.length_append] at hf ⊢
    have:=i6 p m [] d r h4 (by simp only [List.length_cons,List.length_nil] at h3 ⊢; omega) (by simp only [List.length_append]; omega) hr
    rw [this]
    simp
def yH4 (s:Bys):Option (List Pt):=if zA0 (zIH (4 * s.length+200) 1 s).1=0∧zG6 (zIH (4 * s.length+200) 1 s).1=s then some (zIH (4 * s.length+200) 1 s).1 else none
theorem yEo {l:List Pt} (h:zA0 l=0):(zIH (4 * (zG6 l).length+200) 1 (zG6 l)).1=l:=by
 have:=(yBJ (4 * (zG6 l).length+200)).2.2.2.2.2.2 l 1 [] (yEc h) (by show 4 * (zAH l true).length+5≤4 * (zAH l true).length+200; omega) Hd.nil
 rw [List.append_nil] at this
 show (zIH (4 * (zAH l true).length+200) 1 (zAH l true)).1=l
 rw [this]
theorem yFX (s:Bys):yH4 s=zFZ s:=by
 unfold yH4
 cases h:zFZ s with
 |some l=>
  obtain ⟨h1,h2⟩:=zYX.1 h
  have e:(zIH (4 * s.length+200) 1 s).1=l:=by rw [← h2]; exact yEo h1
  rw [e,if_pos ⟨h1,h2⟩]
 |none=>
  split
  ·rename_i hc
   rw [zYX.2 hc] at h
   cases h
  ·rfl
end Go.Hx
end

section
set_option maxRecDepth 100000
set_option linter.unusedSimpArgs false
namespace Go.Hx
open Go.Proofs Go.RowKit
variable [Glob]
attribute [local go_sem] zAC zAz zAB zAw ndV zAx zAv
attribute [local go_sem] reduceCtorEq Nat.reduceAdd Nat.reduceEqDiff reduceIte Nat.reduceLeDiff Nat.reduceLT Nat.reduceSub
abbrev xbV:Value:=.iface zB2 (.agg #[])
theorem zBP (s t:Bys):Contract Tryz.prog zA1 [.io [bS s],.val (sv t)] { res:=.val (bv (zAj s t)),io:=[bS (zAg s t)] }:=by
  refine mkA zQY (base:=21) ⟨Nat.le_of_ble_eq_true rfl,Nat.le_of_ble_eq_true rfl,Nat.le_of_ble_eq_true rfl,⟨rfl,rfl⟩⟩ (fun hfit=>?_)
  unfold F0 zHt
  simp only [yIn,Nat.reduceAdd,Nat.reduceSub]
  try simp only [go_sem]
  repeat with_reducible refine zAc ?_
  refine zAE yR (zHN s t) ?_
  try simp only [go_sem]
  repeat with_reducible refine zAc ?_
  exact zBT rfl trivial (.inl rfl) rfl rfl
theorem zEC (s t:Bys) (h:zAj s t=true):Contract Tryz.prog zBv [.io [bS s],.val (sv t)] { res:=.tup [],io:=[bS (zAg s t)] }:=by
  refine mkA zGc (base:=10) ⟨Nat.le_of_ble_eq_true rfl,Nat.le_of_ble_eq_true rfl,Nat.le_of_ble_eq_true rfl,⟨rfl,rfl⟩⟩ (fun hfit=>?_)
  unfold F0 zEw
  simp only [yIn,Nat.reduceAdd,Nat.reduceSub]
  try simp only [go_sem]
  repeat with_reducible refine zAc ?_
  refine zAd yR (zBP s t) ?_
  try simp only [go_sem]
  repeat with_reducible refine zAc ?_
  refine zAa yF trivial (fun h2=>?_) (fun h2=>?_)
  · rw [h] at h2; simp at h2
  · try simp only [go_sem]
    repeat with_reducible refine zAc ?_
    exact ⟨by first | rfl | trivial | (simp only [zDc]; trivial),fun cs hcs=>by injection hcs with hcs; subst hcs; rfl⟩
theorem zCy (s t:Bys) (h:zAj s t=false):Contract Tryz.prog zBv [.io [bS s],.val (sv t)] { res:=.pan xbV }:=by
  refine mkA zGc (base:=10) ⟨Nat.le_of_ble_eq_true rfl,Nat.le_of_ble_eq_true rfl,Nat.le_of_ble_eq_true rfl,⟨rfl,rfl⟩⟩ (fun hfit=>?_)
  unfold F0 zEw
  simp only [yIn,Nat.reduceAdd,Nat.reduceSub]
  try simp only [go_sem]
  repeat with_reducible refine zAc ?_
  refine zAd yR (zBP s t) ?_
  try simp only [go_sem]
  repeat with_reducible refine zAc ?_
  refine zAa yF trivial (fun h2=>?_) (fun h2=>?_)
  · try simp only [go_sem]
    repeat with_reducible refine zAc ?_
    exact ⟨_,rfl,rfl⟩
  · rw [h] at h2; simp at h2
theorem zCW (s:Bys):Contract Tryz.prog zA5 [.io [bS s]] { res:=.val (sv (zDG s)),io:=[bS (nmR s)] }:=by
  have hm0:maxLen=9223372036854775807:=rfl
  refine mkA zHM (base:=33) ⟨Nat.le_of_ble_eq_true rfl,Nat.le_of_ble_eq_true rfl,Nat.le_of_ble_eq_true rfl,⟨rfl,rfl⟩⟩ (fun hfit=>?_)
  unfold F0 zEV
  simp only [yIn,Nat.reduceAdd,Nat.reduceSub]
  try simp only [go_sem]
  repeat with_reducible refine zAc ?_
  have hm:=zG3 hfit.1.1
  have hl:=yJG s nameCh
  have hx1:((s.length:Int) - ((s.dropWhile nameCh).length:Int)).toNat=(s.takeWhile nameCh).length:=by omega
  obtain ⟨t1,t2⟩:=yDX s nameCh
  refine zAd yR (zJu s _ (by decide) (by decide)) ?_
  try simp only [go_sem,yJH,hx1,List.take_length,t1,t2,Int.toNat_zero,List.drop_zero]
  repeat with_reducible refine zAc ?_
  exact zBT rfl trivial (.inl rfl) rfl rfl
theorem zRo (hM:yDY) (s t:Bys) (hs:s.length≤268435456) (h:(Lib.cut s t).2.2=true):Contract Tryz.prog zCi [.io [bS s],.val (sv t)] { res:=.val (sv (Lib.cut s t).1),io:=[bS (Lib.cut s t).2.1] }:=by
  refine mkA zGd (base:=27) ⟨Nat.le_of_ble_eq_true rfl,Nat.le_of_ble_eq_true rfl,Nat.le_of_ble_eq_true rfl,⟨rfl,rfl⟩⟩ (fun hfit=>?_)
  unfold F0 zEx
  simp only [yIn,Nat.reduceAdd,Nat.reduceSub]
  try simp only [go_sem]
  repeat with_reducible refine zAc ?_
  refine zAE yR (zHv hM s t yO) ?_
  try simp only [go_sem]
  repeat with_reducible refine zAc ?_
  refine zAa yF trivial (fun h2=>?_) (fun h2=>?_)
  · rw [h] at h2; simp at h2
  · try simp only [go_sem]
    repeat with_reducible refine zAc ?_
    exact zBT rfl trivial (.inl rfl) rfl rfl
theorem zGJ (hM:yDY) (s t:Bys) (hs:s.length≤268435456) (h:(Lib.cut s t).2.2=false):Contract Tryz.prog zCi [.io [bS s],.val (sv t)] { res:=.pan xbV }:=by
  refine mkA zGd (base:=27) ⟨Nat.le_of_ble_eq_true rfl,Nat.le_of_ble_eq_true rfl,Nat.le_of_ble_eq_true rfl,⟨rfl,rfl⟩⟩ (fun hfit=>?_)
  unfold F0 zEx
  simp only [yIn,Nat.reduceAdd,Nat.reduceSub]
  try simp only [go_sem]
  repeat with_reducible refine zAc ?_
  refine zAE yR (zHv hM s t yO) ?_
  try simp only [go_sem]
  repeat with_reducible refine zAc ?_
  refine zAa yF trivial (fun h2=>?_) (fun h2=>?_)
  · try simp only [go_sem]
    repeat with_reducible refine zAc ?_
    exact ⟨_,rfl,rfl⟩
  · rw [h] at h2; simp at h2
theorem yEp (k:Int) (h:4≤k∧k≤8):Contract Tryz.prog zET [.val (iv k)] { res:=.val (sv (zE6 k)) }:=by
  have h5:k=4∨k=5∨k=6∨k=7∨k=8:=by omega
  rcases h5 with rfl | rfl | rfl | rfl | rfl <;>
    (refine mkA zYh (base:=0) (fo rfl) (fun hfit=>?_)
     unfold F0 zQZ
     simp only [yIn,Nat.reduceAdd,Nat.reduceSub]
     try simp only [go_sem]
     repeat with_reducible refine zAc ?_
     exact zAq rfl trivial (.inl rfl))
theorem zJA:Contract Tryz.prog zEb [] { res:=.val (.agg [bS [],bS [32],bS [32,62,32],bS [32,43,32],bS [32,126,32]]) }:=by
  refine mkA zV3 (base:=0) (fo rfl) (fun hfit=>?_)
  unfold F0 zMl
  simp only [yIn,Nat.reduceAdd,Nat.reduceSub]
  try simp only [go_sem]
  repeat with_reducible refine zAc ?_
  exact zIW rfl rfl rfl
theorem zGK (k:Int) (h:k=9∨k=10∨k=13∨k=14∨k=15):Contract Tryz.prog zDP [.val (iv k)] { res:=.val (sv (zBG k)) }:=by
  rcases h with rfl | rfl | rfl | rfl | rfl
  · refine mkA zCV (base:=0) (fo rfl) (fun hfit=>?_)
    unfold F0 zCJ
    simp only [yIn,Nat.reduceAdd,Nat.reduceSub]
    try simp only [go_sem]
    repeat with_reducible refine zAc ?_
    refine zAa yF trivial (fun h1=>?_) (fun h1=>?_)
    · try simp only [go_sem]
      repeat with_reducible refine zAc ?_
      exact zAq rfl trivial (.inl rfl)
    · cases h1
  · refine mkA zCV (base:=0) (fo rfl) (fun hfit=>?_)
    unfold F0 zCJ
    simp only [yIn,Nat.reduceAdd,Nat.reduceSub]
    try simp only [go_sem]
    repeat with_reducible refine zAc ?_
    refine zAa yF trivial (fun h1=>?_) (fun h1=>?_)
    · cases h1
    · try simp only [go_sem]
      repeat with_reducible refine zAc ?_
      refine zAa yF trivial (fun h2=>?_) (fun h2=>?_)
      · try simp only [go_sem]
        repeat with_reducible refine zAc ?_
        exact zAq rfl trivial (.inl rfl)
      · cases h2
  · refine mkA zCV (base:=0) (fo rfl) (fun hfit=>?_)
    unfold F0 zCJ
    simp only [yIn,Nat.reduceAdd,Nat.reduceSub]
    try simp only [go_sem]
    repeat with_reducible refine zAc ?_
    refine zAa yF trivial (fun h1=>?_) (fun h1=>?_)
    · cases h1
    · try simp only [go_sem]
      repeat with_reducible refine zAc ?_
      refine zAa yF trivial (fun h2=>?_) (fun h2=>?_)
      · cases h2
      · try simp only [go_sem]
        repeat with_reducible refine zAc ?_
        refine zAa yF trivial (fun h3=>?_) (fun h3=>?_)
        · try simp only [go_sem]
          repeat with_reducible refine zAc ?_
          exact zAq rfl trivial (.inl rfl)
        · cases h3
  · refine mkA zCV (base:=0) (fo rfl) (fun hfit=>?_)
    unfold F0 zCJ
    simp only [yIn,Nat.reduceAdd,Nat.reduceSub]
    try simp only [go_sem]
    repeat with_reducible refine zAc ?_
    refine zAa yF trivial (fun h1=>?_) (fun h1=>?_)
    · cases h1
    · try simp only [go_sem]
      repeat with_reducible refine zAc ?_
      refine zAa yF trivial (fun h2=>?_) (fun h2=>?_)
      · cases h2
      · try simp only [go_sem]
        repeat with_reducible refine zAc ?_
        refine zAa yF trivial (fun h3=>?_) (fun h3=>?_)
        · cases h3
        · try simp only [go_sem]
          repeat with_reducible refine zAc ?_
          refine zAa yF trivial (fun h4=>?_) (fun h4=>?_)
          · try simp only [go_sem]
            repeat with_reducible refine zAc ?_
            exact zAq rfl trivial (.inl rfl)
          · cases h4
  · refine mkA zCV (base:=0) (fo rfl) (fun hfit=>?_)
    unfold F0 zCJ
    simp only [yIn,Nat.reduceAdd,Nat.reduceSub]
    try simp only [go_sem]
    repeat with_reducible refine zAc ?_
    refine zAa yF trivial (fun h1=>?_) (fun h1=>?_)
    · cases h1
    · try simp only [go_sem]
      repeat with_reducible refine zAc ?_
      refine zAa yF trivial (fun h2=>?_) (fun h2=>?_)
      · cases h2
      · try simp only [go_sem]
        repeat with_reducible refine zAc ?_
        refine zAa yF trivial (fun h3=>?_) (fun h3=>?_)
        · cases h3
        · try simp only [go_sem]
          repeat with_reducible refine zAc ?_
          refine zAa yF trivial (fun h4=>?_) (fun h4=>?_)
          · cases h4
          · try simp only [go_sem]
            repeat with_reducible refine zAc ?_
            exact zAq rfl trivial (.inl rfl)
end Go.Hx
end

section
set_option maxRecDepth 100000
set_option linter.unusedSimpArgs false
namespace Go.Hx
open Go.Proofs Go.RowKit
variable [Glob]
attribute [local go_sem] zAC zAz zAB zAw ndV zAx zAv
attribute [local go_sem] reduceCtorEq Nat.reduceAdd Nat.reduceEqDiff reduceIte Nat.reduceLeDiff Nat.reduceLT Nat.reduceSub
theorem zEX {E:Env} {base t j bs off n:Nat} {av:List AV} {F:List Ct} {agg:Bool} {cs cells io:List PV} {x:PVal} (e:F.getD t .un = .ptr j off) (h:zAL F (bs+off) n=some cs) (hx:x=(if agg then PVal.agg cs else .one (cs.headD (.nl 0))).norm) (hio:ioOf av=some cells) (hc:zAL F base cells.length=some io):yCd E base av [.cellB t j bs off n agg] { res:=.val x,io:=io } .ret F:=
 ⟨by simp only [zDc]; exact zAS e h (.inr hx),fun cs' h'=>by rw [hio] at h'; injection h' with h'; subst h'; exact hc⟩
def zEF (s:Bys):RV:=match yAJ s with
 |some (t,r)=>{ res:=.val (.agg (tsV t)),io:=[bS r] }
 |none=>{ res:=.pan xbV }
theorem yF1 {s:Bys} {i:Int} (hi:4≤i∧i≤8) (hb:∀ j:Int,4≤j→j<i→zAj s (zE6 j ++ [34])=false) (h:zAj s (zE6 i ++ [34])=true):kd s=i:=by
 have e4:i≠4→zAj s [61,34]=false:=fun hne=>hb 4 yO yO
 have e5:5<i→zAj s [94,61,34]=false:=fun hne=>hb 5 yO yO
 have e6:6<i→zAj s [36,61,34]=false:=fun hne=>hb 6 yO yO
 have e7:7<i→zAj s [42,61,34]=false:=fun hne=>hb 7 yO yO
 rcases zRm hi with rfl | rfl | rfl | rfl | rfl
 ·unfold kd
  exact if_pos h
 ·unfold kd
  rw [e4 (by decide),if_neg (by simp)]
  exact if_pos h
 ·unfold kd
  rw [e4 (by decide),e5 (by decide),if_neg (by simp),if_neg (by simp)]
  exact if_pos h
 ·unfold kd
  rw [e4 (by decide),e5 (by decide),e6 (by decide),if_neg (by simp),if_neg (by simp),if_neg (by simp)]
  exact if_pos h
 ·unfold kd
  rw [e4 (by decide),e5 (by decide),e6 (by decide),e7 (by decide),if_neg (by simp),if_neg (by simp),if_neg (by simp),if_neg (by simp)]
  exact if_pos h
theorem yJV {s:Bys} (hb:∀ j:Int,4≤j→j<9→zAj s (zE6 j ++ [34])=false):kd s=3:=by
 have e4:zAj s [61,34]=false:=hb 4 yO yO
 have e5:zAj s [94,61,34]=false:=hb 5 yO yO
 have e6:zAj s [36,61,34]=false:=hb 6 yO yO
 have e7:zAj s [42,61,34]=false:=hb 7 yO yO
 have e8:zAj s [126,61,34]=false:=hb 8 yO yO
 unfold kd
 rw [e4,e5,e6,e7,e8]
 simp
theorem yH8 (k:Int):(zE6 k).length≤2:=by
 unfold zE6
 split
 ·decide
 ·split
  ·decide
  ·split
   ·decide
   ·split <;> decide
set_option maxHeartbeats 4000000 in
theorem yAS (hM:yDY) (s:Bys) (hs:s.length≤268435456):Contract Tryz.prog zDY [.io [bS s]] (zEF s):=by
 have hm0:maxLen=9223372036854775807:=rfl
 have hr1:=zGE s
 refine mkA zM3 (base:=25) ⟨Nat.le_of_ble_eq_true rfl,Nat.le_of_ble_eq_true rfl,Nat.le_of_ble_eq_true rfl,⟨rfl,rfl⟩⟩ (fun hfit=>?_) (fun _ _=>rfl)
 unfold F0 zGy
 simp only [yIn,Nat.reduceAdd,Nat.reduceSub]
 try simp only [go_sem]
 repeat with_reducible refine zAc ?_
 refine zAd yR (zCW s) ?_
 try simp only [go_sem]
 repeat with_reducible refine zAc ?_
 refine zAr (fun i:Nat=>[(4,.pv (iv i)),(25,.pv (.one (bS (nmR s)))),(32,.pv (.one (bI 3))),(33,.pv (.one (bS (zDG s)))),(34,.pv (.one (bS []))),(35,.pv (.one (bI 0))),(36,.pv (.one (bI 0))),(37,.pv (.one (.nl 2))),(9,.un),(16,.un)]) (fun i:Nat=>9 - i) (fun i:Nat=>4≤i∧i≤9∧∀ j:Int,4≤j→j<i→zAj (nmR s) (zE6 j ++ [34])=false) (4) ?_ ⟨Nat.le_refl _,by decide,fun j h1 h2=>by omega⟩ ?_
 focus (simp only [go_sem,zAf,zAl,zAs,zAb]; all_goals exact yLe)
 rintro i ⟨i1,i2,hb⟩
 have hsl:=yH8 i
 try simp only [go_sem]
 repeat with_reducible refine zAc ?_
 refine zAa yF trivial (fun h=>?_) (fun h=>?_)
 ·have hi:i≤8:=by have:=of_decide_eq_true h; omega
  try simp only [go_sem]
  repeat with_reducible refine zAc ?_
  refine zAd yR (yEp (i:Int) ⟨by omega,by omega⟩) ?_
  try simp only [go_sem,List.length_append,List.length_cons,List.length_nil]
  repeat with_reducible refine zAc ?_
  refine zAd yR (zBP (nmR s) (zE6 i ++ [34])) ?_
  try simp only [go_sem]
  repeat with_reducible refine zAc ?_
  refine zAa yF trivial (fun g=>?_) (fun g=>?_)
  ·have hk:=yF1 ⟨by omega,by omega⟩ hb g
   have hat:zAg (nmR s) (zE6 i ++ [34])=atS s:=by unfold atS; rw [hk]
   have hal:(atS s).length≤s.length:=by rw [← hat]; exact Nat.le_trans (zBm _ _) hr1
   rw [hat]
   try simp only [go_sem]
   repeat with_reducible refine zAc ?_
   cases hc:(Lib.cut (atS s) [34]).2.2 with
   |false=>
    have e:zEF s = { res:=.pan xbV }:=by unfold zEF yAJ; rw [hk,if_neg yO,hc]; rfl
    rw [e]
    refine zBS yR (zGJ hM (atS s) [34] yO hc) ?_
    try simp only [go_sem]
    repeat with_reducible refine zAc ?_
    exact ⟨_,rfl,rfl⟩
   |true=>
    have hcl:=(yDZ (atS s) [34]).2
    refine zAd yR (zRo hM (atS s) [34] yO hc) ?_
    try simp only [go_sem]
    repeat with_reducible refine zAc ?_
    cases hm:zAj (Lib.cut (atS s) [34]).2.1 [93] with
    |false=>
     have e:zEF s = { res:=.pan xbV }:=by unfold zEF yAJ; rw [hk,if_neg yO,hc,hm]; rfl
     rw [e]
     refine zBS yR (zCy _ _ hm) ?_
     try simp only [go_sem]
     repeat with_reducible refine zAc ?_
     exact ⟨_,rfl,rfl⟩
    |true=>
     have e:zEF s = { res:=.val (.agg (tsV (.mk i (zDG s) (Lib.cut (atS s) [34]).1 0 0 []))),io:=[bS (zAg (Lib.cut (atS s) [34]).2.1 [93])] }:=by unfold zEF yAJ; rw [hk,if_neg yO,hc,hm]; rfl
     rw [e]
     refine zCq yR (zEC _ _ hm) ?_
     try simp only [go_sem]
     repeat with_reducible refine zAc ?_
     exact zEX rfl rfl rfl rfl rfl
  ·have e0:zAg (nmR s) (zE6 i ++ [34])=nmR s:=by unfold zAg; rw [g]; rfl
   try simp only [go_sem]
   repeat with_reducible refine zAc ?_
   rw [e0]
   refine ⟨i+1,by omega,⟨by omega,by omega,fun j h1 h2=>?_⟩,?_⟩
   ·by_cases hj:j<i
    ·exact hb j h1 hj
    ·have:j=i:=by omega
     rw [this]; exact g
   ·simp only [go_sem,zAf,zAl,zAs,zAb]
    all_goals exact yLe
 ·have hi:i=9:=by have:=of_decide_eq_false h; omega
  subst hi
  have hk:=yJV hb
  try simp only [go_sem]
  repeat with_reducible refine zAc ?_
  cases hm:zAj (nmR s) [93] with
  |false=>
   have e:zEF s = { res:=.pan xbV }:=by unfold zEF yAJ; rw [hk,if_pos rfl,hm]; rfl
   rw [e]
   refine zBS yR (zCy _ _ hm) ?_
   try simp only [go_sem]
   repeat with_reducible refine zAc ?_
   exact ⟨_,rfl,rfl⟩
  |true=>
   have e:zEF s = { res:=.val (.agg (tsV (.mk 3 (zDG s) [] 0 0 []))),io:=[bS (zAg (nmR s) [93])] }:=by unfold zEF yAJ; rw [hk,if_pos rfl,hm]; rfl
   rw [e]
   refine zCq yR (zEC _ _ hm) ?_
   try simp only [go_sem]
   repeat with_reducible refine zAc ?_
   exact zEX rfl rfl rfl rfl rfl
end Go.Hx
end

section
set_option maxRecDepth 100000
set_option linter.unusedSimpArgs false
namespace Go.Hx
open Go.Proofs Go.RowKit
attribute [local instance] zBi
attribute [local go_sem] zAC zAz zAB zAw ndV zAx zAv
attribute [local go_sem] reduceCtorEq Nat.reduceAdd Nat.reduceEqDiff reduceIte Nat.reduceLeDiff Nat.reduceLT Nat.reduceSub
abbrev yIk (b:Nat) (l:List (Bys × Int)):OV:=.mp b (l.map fun x=>mkS x.1) (l.map fun x=>.p (bI x.2))
def yEz:List (Bys × Int)→Bys→Option Int
 |[],_=>none
 |x :: l,w=>if w=x.1 then some x.2 else yEz l w
theorem yJW (a b:Bys):zFa (mkS a) (mkS b)=decide (a=b):=rfl
theorem yEA:∀ (l:List (Bys × Int)) (w:Bys),(zGk (l.map fun x=>mkS x.1) (mkS w)=none∧yEz l w=none)∨(∃ i,zGk (l.map fun x=>mkS x.1) (mkS w)=some i∧i<l.length∧yEz l w=some (l.getD i default).2)
 |[],w=>.inl ⟨rfl,rfl⟩
 |x :: l,w=>by
  unfold zGk
  simp only [List.map_cons,List.findIdx?_cons,yJW,yEz]
  by_cases h:w=x.1
  ·right
   exact ⟨0,by simp [h],by simp,by simp [h]⟩
  ·simp only [h,decide_false,Bool.false_eq_true,if_false]
   rcases yEA l w with ⟨h1,h2⟩ | ⟨i,h1,h2,h3⟩
   ·left
    unfold zGk at h1
    exact ⟨by rw [h1]; rfl,h2⟩
   ·right
    unfold zGk at h1
    exact ⟨i+1,by rw [h1]; rfl,by simp; omega,by simpa using h3⟩
section
variable {P:Program} {F:List Ct} {K:List Ct→Prop} {X:Value→List Ct→Prop}
theorem yJX {d:Nat} (h:∀ b,K (F.set d (.ov (.one (yIk b []))))):hoW P ⟨none,.mmk d⟩ F K X:=h
theorem yAT {r b:Nat} {l:List (Bys × Int)} {w:Bys} {n:Int} (hr:F.getD r .un = .ov (.one (yIk b l))) (hw:yEz l w=none) (hK:K (F.set r (.ov (.one (yIk b (l ++ [(w,n)])))))):hoW P ⟨none,.mps (.t r) r 2 (.c (sv w)) (.c (iv n))⟩ F K X:=by
 have hput:zZB b (l.map fun x=>mkS x.1) (l.map fun x=>.p (bI x.2)) (mkS w) (.p (bI n))=yIk b (l ++ [(w,n)]):=by
  unfold zZB
  rcases yEA l w with ⟨h1,_⟩ | ⟨i,_,_,h3⟩
  ·rw [h1]; simp [yIk]
  ·rw [hw] at h3; cases h3
 have hk:∀ q ∈ (l.map fun x=>mkS x.1),zSi q=2:=by
  intro q hq
  obtain ⟨x,_,rfl⟩:=List.mem_map.1 hq
  rfl
 rw [yKS]
 have hm:zXM F (.t r)=some b:=by unfold zXM; simp only [zAv,hr]
 unfold zUL
 rw [hm,hr]
 refine ⟨rfl,trivial,rfl,hk,(fun s h=>by cases h),trivial,?_⟩
 change K (F.set r (Ct.ov (OVal.one (zZB b (l.map fun x=>mkS x.1) (l.map fun x=>OV.p (bI x.2)) (mkS w) (.p (bI n))))))
 rw [hput]
 exact hK
theorem yJY {d x q r b:Nat} {l:List (Bys × Int)} {w:Bys} {ok:Bool} (hx:F.getD x .un = .mph b) (hr:F.getD r .un = .ov (.one (yIk b l))) (hq:F.getD q .un = .pv (sv w)) (hK:K (F.set d (if ok then .tup [iv ((yEz l w).getD 0),bv (yEz l w).isSome] else .pv (iv ((yEz l w).getD 0))))):hoW P ⟨none,.mpl d (.t x) r 2 (.t q) (.v (.int .i64 0)) ok⟩ F K X:=by
 have hk:∀ q ∈ (l.map fun x=>mkS x.1),zSi q=2:=by
  intro q hq
  obtain ⟨x,_,rfl⟩:=List.mem_map.1 hq
  rfl
 rw [yKT]
 have hm:zXM F (.t x)=some b:=by unfold zXM; simp only [zAv,hx]
 have hqv:(zAv F (.t q)).pv? = some (sv w):=by simp only [zAv,hq]; rfl
 have hqn:(zAv F (.t q)).need:=by simp only [zAv,hq]; trivial
 unfold zUL
 rw [hm,hr,hqv]
 refine ⟨rfl,hqn,rfl,hk,?_⟩
 rcases yEA l w with ⟨h1,h2⟩ | ⟨i,h1,h2,h3⟩
 ·rw [h1]
  simp only [zZC]
  rw [h2] at hK
  exact hK
 ·rw [h1]
  have:(l.map fun x=>OV.p (bI x.2)).getD i .hole = .p (bI (l.getD i default).2):=by simp [h2]
  simp only [zZC,this]
  rw [h3] at hK
  exact hK
end
theorem yBS {s:Bys} {c:UInt8} (h:zAj s [c]=true):(zAg s [c]).length+1=s.length:=by
 have:=congrArg List.length (zRh h)
 rw [List.length_cons] at this
 omega
theorem yEB:yDY:=fun w h=>h.mx
def zCd (f d:Nat) (s:Bys):RV:=match zXD f d s with
 |some (l,r)=>{ res:=.own zBj 2 (zFl l),io:=[bS r] }
 |none=>{ res:=.pan xbV }
def zAY (f d:Nat) (s:Bys):RV:=match zMs f d s with
 |some (some t,r)=>{ res:=.tup [.agg (tsV t),bv true],io:=[bS r] }
 |some (none,r)=>{ res:=.tup [.agg (tsV (.mk 0 [] [] 0 0 [])),bv false],io:=[bS r] }
 |none=>{ res:=.pan xbV }
set_option maxHeartbeats 8000000 in
theorem yAU (f:Nat) (hL:∀ (d:Nat) (s:Bys),d≤1000→s.length≤268435456→4 * s.length+5≤f→Contract Tryz.prog zBu [.io [bS s],.val (iv d)] (zCd f d s)) (d:Nat) (s:Bys) (hd:d<1000) (hs:s.length≤268435456) (hf:4 * s.length+1≤f+1):Contract Tryz.prog zCh [.io [bS s],.val (iv d)] (zAY (f+1) d s):=by
 have hM:=yEB
 refine mkA zNe (base:=87) ⟨Nat.le_of_ble_eq_true rfl,Nat.le_of_ble_eq_true rfl,Nat.le_of_ble_eq_true rfl,⟨rfl,rfl⟩⟩ (fun hfit=>?_) (fun _ _=>rfl)
 unfold F0 zGz
 simp only [yIn,Nat.reduceAdd,Nat.reduceSub]
 try simp only [go_sem]
 repeat with_reducible refine zAc ?_
 refine zAd yR (zBP s [46]) ?_
 try simp only [go_sem]
 repeat with_reducible refine zAc ?_
 refine zAa yF trivial (fun h1=>?_) (fun h1=>?_)
 ·have hd1:=zRh h1
  have e:zAY (f+1) d s = { res:=.tup [.agg (tsV (.mk 1 (zDG (zAg s [46])) [] 0 0 [])),bv true],io:=[bS (nmR (zAg s [46]))] }:=by unfold zAY; rw [zMs,if_pos h1]
  rw [e]
  try simp only [go_sem]
  repeat with_reducible refine zAc ?_
  refine zAd yR (zCW (zAg s [46])) ?_
  try simp only [go_sem]
  repeat with_reducible refine zAc ?_
  exact zA9 (by simp) ⟨zAS rfl rfl (.inr rfl),zAO rfl trivial (.inl rfl),rfl⟩ rfl rfl
 ·have e46:zAg s [46]=s:=by unfold zAg; rw [h1]; rfl
  try simp only [go_sem]
  repeat with_reducible refine zAc ?_
  rw [e46]
  refine zAd yR (zBP s [35]) ?_
  try simp only [go_sem]
  repeat with_reducible refine zAc ?_
  refine zAa yF trivial (fun h2=>?_) (fun h2=>?_)
  ·have e:zAY (f+1) d s = { res:=.tup [.agg (tsV (.mk 2 (zDG (zAg s [35])) [] 0 0 [])),bv true],io:=[bS (nmR (zAg s [35]))] }:=by unfold zAY; rw [zMs,if_neg (by rw [h1]; simp),if_pos h2]
   rw [e]
   try simp only [go_sem]
   repeat with_reducible refine zAc ?_
   refine zAd yR (zCW (zAg s [35])) ?_
   try simp only [go_sem]
   repeat with_reducible refine zAc ?_
   exact zA9 (by simp) ⟨zAS rfl rfl (.inr rfl),zAO rfl trivial (.inl rfl),rfl⟩ rfl rfl
  ·have e35:zAg s [35]=s:=by unfold zAg; rw [h2]; rfl
   try simp only [go_sem]
   repeat with_reducible refine zAc ?_
   rw [e35]
   refine zAd yR (zBP s [91]) ?_
   try simp only [go_sem]
   repeat with_reducible refine zAc ?_
   refine zAa yF trivial (fun h3=>?_) (fun h3=>?_)
   ·have hsl:=zBm s [91]
    have hA:=yAS hM (zAg s [91]) yO
    cases ha:yAJ (zAg s [91]) with
    |none=>
     have e:zAY (f+1) d s = { res:=.pan xbV }:=by unfold zAY; rw [zMs,if_neg (by rw [h1]; simp),if_neg (by rw [h2]; simp),if_pos h3,ha]
     have e2:zEF (zAg s [91]) = { res:=.pan xbV }:=by unfold zEF; rw [ha]
     rw [e2] at hA
     rw [e]
     try simp only [go_sem]
     repeat with_reducible refine zAc ?_
     refine zBS yR hA ?_
     try simp only [go_sem]
     repeat with_reducible refine zAc ?_
     exact ⟨_,rfl,rfl⟩
    |some tr=>
     obtain ⟨t,r⟩:=tr
     have e:zAY (f+1) d s = { res:=.tup [.agg (tsV t),bv true],io:=[bS r] }:=by unfold zAY; rw [zMs,if_neg (by rw [h1]; simp),if_neg (by rw [h2]; simp),if_pos h3,ha]
     have e2:zEF (zAg s [91]) = { res:=.val (.agg (tsV t)),io:=[bS r] }:=by unfold zEF; rw [ha]
     rw [e2] at hA
     rw [e]
     try simp only [go_sem]
     repeat with_reducible refine zAc ?_
     refine zAd yR (hA) ?_
     try simp only [go_sem,zBk]
     repeat with_reducible refine zAc ?_
     exact zA9 (by simp) ⟨zAS rfl rfl (.inl rfl),zAO rfl trivial (.inl rfl),rfl⟩ rfl rfl
   ·have e91:zAg s [91]=s:=by unfold zAg; rw [h3]; rfl
    try simp only [go_sem]
    repeat with_reducible refine zAc ?_
    rw [e91]
    refine zAd yR (zBP s [58]) ?_
    try simp only [go_sem]
    repeat with_reducible refine zAc ?_
    refine zAa yF trivial (fun h4=>?_) (fun h4=>?_)
    ·have h4':zAj s [58]=false:=by simpa using h4
     have e58:zAg s [58]=s:=by unfold zAg; rw [h4']; rfl
     have e:zAY (f+1) d s = { res:=.tup [.agg (tsV (.mk 0 [] [] 0 0 [])),bv false],io:=[bS s] }:=by unfold zAY; rw [zMs,if_neg (by rw [h1]; simp),if_neg (by rw [h2]; simp),if_neg (by rw [h3]; simp),if_pos h4']
     rw [e]
     try simp only [go_sem]
     repeat with_reducible refine zAc ?_
     rw [e58]
     exact zA9 (by simp) ⟨zAS rfl rfl (.inr rfl),zAO rfl trivial (.inl rfl),rfl⟩ rfl rfl
    ·have h4':zAj s [58]=true:=by simpa using h4
     have hsd:=yBS h4'
     try simp only [go_sem]
     repeat with_reducible refine zAc ?_
     refine zAd yR (zCW (zAg s [58])) ?_
     try simp only [go_sem]
     repeat with_reducible refine zAc ?_
     refine yJX (fun b=>?_)
     try simp only [go_sem]
     repeat with_reducible refine zAc ?_
     refine yAT (b:=b) (l:=[]) (w:=[101,109,112,116,121]) (n:=11) rfl rfl ?_
     try simp only [go_sem]
     repeat with_reducible refine zAc ?_
     refine yAT (b:=b) (l:=[([101,109,112,116,121],11)]) (w:=[114,111,111,116]) (n:=12) rfl rfl ?_
     try simp only [go_sem]
     repeat with_reducible refine zAc ?_
     refine yJY (b:=b) (l:=[([101,109,112,116,121],11),([114,111,111,116],12)]) (w:=zDG (zAg s [58])) rfl rfl rfl ?_
     try simp only [go_sem]
     repeat with_reducible refine zAc ?_
     have hP:zMs (f+1) d s=zZv (zXD f (d+1)) (zAg s [58]):=by rw [zMs,if_neg (by rw [h1]; simp),if_neg (by rw [h2]; simp),if_neg (by rw [h3]; simp),if_neg (by rw [h4']; simp)]
     have hnl:=zGE (zAg s [58])
     have hg1:yEz [([101,109,112,116,121],11),([114,111,111,116],12)] (zDG (zAg s [58]))=(if zDG (zAg s [58])=[101,109,112,116,121] then some 11 else if zDG (zAg s [58])=[114,111,111,116] then some 12 else none):=rfl
     by_cases w1:zDG (zAg s [58])=[101,109,112,116,121]
     ·have e:zAY (f+1) d s = { res:=.tup [.agg (tsV (.mk 11 [] [] 0 0 [])),bv true],io:=[bS (nmR (zAg s [58]))] }:=by unfold zAY; rw [hP,zZv,if_pos w1]
      rw [if_pos w1] at hg1
      rw [e]
      refine zAa yF trivial (fun h5=>?_) (fun h5=>?_)
      ·try simp only [go_sem,hg1]
       repeat with_reducible refine zAc ?_
       exact zA9 (by simp) ⟨zAS rfl rfl (.inr rfl),zAO rfl trivial (.inl rfl),rfl⟩ rfl rfl
      ·rw [hg1] at h5; cases h5
     ·by_cases w2:zDG (zAg s [58])=[114,111,111,116]
      ·have e:zAY (f+1) d s = { res:=.tup [.agg (tsV (.mk 12 [] [] 0 0 [])),bv true],io:=[bS (nmR (zAg s [58]))] }:=by unfold zAY; rw [hP,zZv,if_neg w1,if_pos w2]
       rw [if_neg w1,if_pos w2] at hg1
       rw [e]
       refine zAa yF trivial (fun h5=>?_) (fun h5=>?_)
       ·try simp only [go_sem,hg1]
        repeat with_reducible refine zAc ?_
        exact zA9 (by simp) ⟨zAS rfl rfl (.inr rfl),zAO rfl trivial (.inl rfl),rfl⟩ rfl rfl
       ·rw [hg1] at h5; cases h5
      ·rw [if_neg w1,if_neg w2] at hg1
       refine zAa yF trivial (fun h5=>?_) (fun h5=>?_)
       ·rw [hg1] at h5; cases h5
       ·try simp only [go_sem]
        repeat with_reducible refine zAc ?_
        cases hm:zAj (nmR (zAg s [58])) [40] with
        |false=>
         have e:zAY (f+1) d s = { res:=.pan xbV }:=by unfold zAY; rw [hP,zZv,if_neg w1,if_neg w2,if_pos hm]
         rw [e]
         refine zBS yR (zCy _ _ hm) ?_
         try simp only [go_sem]
         repeat with_reducible refine zAc ?_
         exact ⟨_,rfl,rfl⟩
        |true=>
         have hmd:=yBS hm
         have hP2:zMs (f+1) d s=zYT (zXD f (d+1)) (zFY (zDG (zAg s [58]))) (zAg (nmR (zAg s [58])) [40]):=by rw [hP,zZv,if_neg w1,if_neg w2,if_neg (by rw [hm]; simp)]
         refine zCq yR (zEC _ _ hm) ?_
         try simp only [go_sem]
         repeat with_reducible refine zAc ?_
         refine yJX (fun b2=>?_)
         try simp only [go_sem]
         repeat with_reducible refine zAc ?_
         refine yAT (b:=b2) (l:=[]) (w:=[110,116,104]) (n:=9) rfl rfl ?_
         try simp only [go_sem]
         repeat with_reducible refine zAc ?_
         refine yAT (b:=b2) (l:=[([110,116,104],9)]) (w:=[108,97,115,116]) (n:=10) rfl rfl ?_
         try simp only [go_sem]
         repeat with_reducible refine zAc ?_
         refine yAT (b:=b2) (l:=[([110,116,104],9),([108,97,115,116],10)]) (w:=[110,111,116]) (n:=13) rfl rfl ?_
         try simp only [go_sem]
         repeat with_reducible refine zAc ?_
         refine yAT (b:=b2) (l:=[([110,116,104],9),([108,97,115,116],10),([110,111,116],13)]) (w:=[105,115]) (n:=14) rfl rfl ?_
         try simp only [go_sem]
         repeat with_reducible refine zAc ?_
         refine yAT (b:=b2) (l:=[([110,116,104],9),([108,97,115,116],10),([110,111,116],13),([105,115],14)]) (w:=[104,97,115]) (n:=15) rfl rfl ?_
         try simp only [go_sem]
         repeat with_reducible refine zAc ?_
         refine yJY (b:=b2) (l:=[([110,116,104],9),([108,97,115,116],10),([110,111,116],13),([105,115],14),([104,97,115],15)]) (w:=zDG (zAg s [58])) rfl rfl rfl ?_
         have hg2:(yEz [([110,116,104],9),([108,97,115,116],10),([110,111,116],13),([105,115],14),([104,97,115],15)] (zDG (zAg s [58]))).getD 0=zFY (zDG (zAg s [58])):=by
          simp only [yEz,zFY]
          split
          ·rfl
          ·split
           ·rfl
           ·split
            ·rfl
            ·split
             ·rfl
             ·split <;> rfl
         rw [hg2]
         try simp only [go_sem]
         repeat with_reducible refine zAc ?_
         refine zAE yR (zY0 (zFY (zDG (zAg s [58])))) ?_
         try simp only [go_sem,shV]
         repeat with_reducible refine zAc ?_
         by_cases hk:zFY (zDG (zAg s [58]))=0
         ·have e:zAY (f+1) d s = { res:=.pan xbV }:=by unfold zAY; rw [hP2,hk]; rfl
          rw [e]
          refine zAa yF trivial (fun h6=>?_) (fun h6=>?_)
          ·try simp only [go_sem]
           repeat with_reducible refine zAc ?_
           exact ⟨_,rfl,rfl⟩
          ·rw [hk] at h6; cases h6
         ·obtain ⟨_,k2⟩:=zUq hk
          refine zAa yF trivial (fun h6=>?_) (fun h6=>?_)
          ·exfalso
           rcases k2 with k2 | k2 | k2 | k2 | k2 <;> (rw [k2] at h6; cases h6)
          ·try simp only [go_sem]
           repeat with_reducible refine zAc ?_
           cases hl:zEc (zFY (zDG (zAg s [58]))) with
           |true=>
            refine zAa yF trivial (fun h7=>?_) (fun h7=>?_)
            ·have hc:=hL (d+1) (zAg (nmR (zAg s [58])) [40]) yO yO yO
             cases hr:zXD f (d+1) (zAg (nmR (zAg s [58])) [40]) with
             |none=>
              have e2:zCd f (d+1) (zAg (nmR (zAg s [58])) [40]) = { res:=.pan xbV }:=by unfold zCd; rw [hr]
              have e:zAY (f+1) d s = { res:=.pan xbV }:=by unfold zAY; rw [hP2,zYT,if_neg hk,hl,if_pos rfl,hr]
              rw [e2] at hc
              rw [e]
              try simp only [go_sem]
              repeat with_reducible refine zAc ?_
              refine zBS yR hc ?_
              try simp only [go_sem]
              repeat with_reducible refine zAc ?_
              exact ⟨_,rfl,rfl⟩
             |some lr=>
              obtain ⟨l,r⟩:=lr
              have e2:zCd f (d+1) (zAg (nmR (zAg s [58])) [40]) = { res:=.own zBj 2 (zFl l),io:=[bS r] }:=by unfold zCd; rw [hr]
              rw [e2] at hc
              try simp only [go_sem]
              repeat with_reducible refine zAc ?_
              refine zG1 yR (hc) ?_
              try simp only [go_sem]
              repeat with_reducible refine zAc ?_
              cases hq:zAj r [41] with
              |false=>
               have e:zAY (f+1) d s = { res:=.pan xbV }:=by unfold zAY; rw [hP2,zYT,if_neg hk,hl,if_pos rfl,hr]; simp only [hq,Bool.false_eq_true,if_false]
               rw [e]
               refine zBS yR (zCy _ _ hq) ?_
               try simp only [go_sem]
               repeat with_reducible refine zAc ?_
               exact ⟨_,rfl,rfl⟩
              |true=>
               have e:zAY (f+1) d s = { res:=.tup [.agg (tsV (.mk (zFY (zDG (zAg s [58]))) [] [] 0 0 l)),bv true],io:=[bS (zAg r [41])] }:=by unfold zAY; rw [hP2,zYT,if_neg hk,hl,if_pos rfl,hr]; simp only [hq,if_true]
               rw [e]
               refine zCq yR (zEC _ _ hq) ?_
               try simp only [go_sem]
               repeat with_reducible refine zAc ?_
               exact zA9 (by simp) ⟨zAS rfl rfl (.inr rfl),zAO rfl trivial (.inl rfl),rfl⟩ rfl rfl
            ·cases h7
           |false=>
            refine zAa yF trivial (fun h7=>?_) (fun h7=>?_)
            ·cases h7
            ·have hcl:=(yDZ (zAg (nmR (zAg s [58])) [40]) [41])
             try simp only [go_sem]
             repeat with_reducible refine zAc ?_
             cases hq:(Lib.cut (zAg (nmR (zAg s [58])) [40]) [41]).2.2 with
             |false=>
              have e:zAY (f+1) d s = { res:=.pan xbV }:=by unfold zAY; rw [hP2,zYT,if_neg hk,hl,if_neg (by simp),hq]; rfl
              rw [e]
              refine zBS yR (zGJ hM _ [41] yO hq) ?_
              try simp only [go_sem]
              repeat with_reducible refine zAc ?_
              exact ⟨_,rfl,rfl⟩
             |true=>
              refine zAd yR (zRo hM _ [41] yO hq) ?_
              try simp only [go_sem]
              repeat with_reducible refine zAc ?_
              have hN:=yCO (Lib.cut (zAg (nmR (zAg s [58])) [40]) [41]).1 yO
              cases hro:zFm (Lib.cut (zAg (nmR (zAg s [58])) [40]) [41]).1 with
              |false=>
               have e:zAY (f+1) d s = { res:=.pan xbV }:=by unfold zAY; rw [hP2,zYT,if_neg hk,hl,if_neg (by simp),hq,hro]; rfl
               rw [e]
               rw [hro] at hN
               refine zAE yR (hN) ?_
               try simp only [go_sem,yAF]
               repeat with_reducible refine zAc ?_
               refine zAa yF trivial (fun h8=>?_) (fun h8=>?_)
               ·try simp only [go_sem]
                repeat with_reducible refine zAc ?_
                exact ⟨_,rfl,rfl⟩
               ·cases h8
              |true=>
               have e:zAY (f+1) d s = { res:=.tup [.agg (tsV (.mk (zFY (zDG (zAg s [58]))) [] [] (yFL (Lib.cut (zAg (nmR (zAg s [58])) [40]) [41]).1) (yFM (Lib.cut (zAg (nmR (zAg s [58])) [40]) [41]).1) [])),bv true],io:=[bS (Lib.cut (zAg (nmR (zAg s [58])) [40]) [41]).2.1] }:=by unfold zAY; rw [hP2,zYT,if_neg hk,hl,if_neg (by simp),hq,hro]; rfl
               rw [e]
               rw [hro] at hN
               refine zAE yR (hN) ?_
               try simp only [go_sem,yAF]
               repeat with_reducible refine zAc ?_
               refine zAa yF trivial (fun h8=>?_) (fun h8=>?_)
               ·cases h8
               ·try simp only [go_sem]
                repeat with_reducible refine zAc ?_
                exact zA9 (by simp) ⟨zAS rfl rfl (.inr rfl),zAO rfl trivial (.inl rfl),rfl⟩ rfl rfl
end Go.Hx
end

section
set_option maxRecDepth 100000
set_option linter.unusedSimpArgs false
namespace Go.Hx
open Go.Proofs Go.RowKit
attribute [local instance] zBi
attribute [local go_sem] zAC zAz zAB zAw ndV zAx zAv
attribute [local go_sem] reduceCtorEq Nat.reduceAdd Nat.reduceEqDiff reduceIte Nat.reduceLeDiff Nat.reduceLT Nat.reduceSub
theorem zJC (l:List Ts) (t:Ts):zUk (l ++ [t])=zUk l ++ [tsV t]:=by simp [zJv]
def zBx (f d:Nat) (s:Bys):RV:=match zWG f d s with
 |some (x,r)=>{ res:=.val (.agg (stV x)),io:=[bS r] }
 |none=>{ res:=.pan xbV }
set_option maxHeartbeats 8000000 in
theorem yAV (f:Nat) (hT:∀ (g d:Nat) (s:Bys),g<f→d<1000→s.length≤268435456→4 * s.length+1≤g→Contract Tryz.prog zCh [.io [bS s],.val (iv d)] (zAY g d s)) (d:Nat) (s:Bys) (hd:d<1000) (hs:s.length≤268435456) (hf:4 * s.length+3≤f+1):Contract Tryz.prog zBO [.io [bS s],.val (iv d)] (zBx (f+1) d s):=by
 have hm0:maxLen=9223372036854775807:=rfl
 have hnl:=zGE s
 have hsl:=zBm (nmR s) [42]
 refine mkA zNn (base:=31) ⟨Nat.le_of_ble_eq_true rfl,Nat.le_of_ble_eq_true rfl,Nat.le_of_ble_eq_true rfl,⟨rfl,rfl⟩⟩ (fun hfit=>?_) (fun _ _=>rfl)
 unfold F0 zGA
 simp only [yIn,Nat.reduceAdd,Nat.reduceSub]
 try simp only [go_sem]
 repeat with_reducible refine zAc ?_
 refine zAd yR (zCW s) ?_
 try simp only [go_sem]
 repeat with_reducible refine zAc ?_
 by_cases hn:zDG s=[]
 ·refine zAa yF trivial (fun h1=>?_) (fun h1=>?_)
  ·try simp only [go_sem]
   repeat with_reducible refine zAc ?_
   cases hm:zAj (nmR s) [42] with
   |false=>
    have e:zBx (f+1) d s = { res:=.pan xbV }:=by unfold zBx; rw [zWG,if_pos hn,hm]; rfl
    rw [e]
    refine zBS yR (zCy _ _ hm) ?_
    try simp only [go_sem]
    repeat with_reducible refine zAc ?_
    exact ⟨_,rfl,rfl⟩
   |true=>
    have hE:zWG (f+1) d s=(match zGI f d (zAg (nmR s) [42]) [] with | some (l,r)=>some (.mk [] l,r) | none=>none):=by rw [zWG,if_pos hn,hm] <;> rfl
    refine zCq yR (zEC _ _ hm) ?_
    try simp only [go_sem]
    repeat with_reducible refine zAc ?_
    refine zAr (fun x:Nat × List Ts × Bys=>[(31,.pv (.one (bS x.2.2))),(34,.pv (.one (bS (zDG s)))),(35,.own zC8 6 (zUk x.2.1)),(6,.un),(7,.un),(23,.un),(32,.un),(33,.un),(36,.un),(37,.un),(38,.un),(39,.un),(40,.un),(41,.un)]) (fun x:Nat × List Ts × Bys=>x.1) (fun x:Nat × List Ts × Bys=>4 * x.2.2.length+2≤x.1∧x.1≤f∧x.2.1.length+x.2.2.length≤s.length∧zGI x.1 d x.2.2 x.2.1=zGI f d (zAg (nmR s) [42]) []) ((f,[],zAg (nmR s) [42])) ?_ ⟨by simp only; omega,Nat.le_refl _,by simp; omega,rfl⟩ ?_
    focus (simp only [go_sem,zAf,zAl,zAs,zAb]; all_goals (repeat' (first | exact trivial | exact zAi yO | exact zAh rfl | exact zAm rfl | exact zAn | exact le_refl _ | refine And.intro ?_ ?_)))
    rintro ⟨g,ts,r⟩ ⟨k1,k2,k3,k4⟩
    simp only at k1 k2 k3 k4
    obtain ⟨g',rfl⟩:∃ g',g=g'+1:=⟨g - 1,by omega⟩
    have hc:=hT g' d r yO hd yO yO
    rw [zGI] at k4
    cases ht:zMs g' d r with
    |none=>
     rw [ht] at k4
     have e2:zAY g' d r = { res:=.pan xbV }:=by unfold zAY; rw [ht]
     have e:zBx (f+1) d s = { res:=.pan xbV }:=by unfold zBx; rw [hE,← k4]
     rw [e2] at hc
     rw [e]
     try simp only [go_sem,zA7]
     repeat with_reducible refine zAc ?_
     refine zBS yR hc ?_
     try simp only [go_sem]
     repeat with_reducible refine zAc ?_
     exact ⟨_,rfl,rfl⟩
    |some tr=>
     obtain ⟨o,r'⟩:=tr
     rw [ht] at k4
     cases o with
     |none=>
      simp only at k4
      have e2:zAY g' d r = { res:=.tup [.agg (tsV (.mk 0 [] [] 0 0 [])),bv false],io:=[bS r'] }:=by unfold zAY; rw [ht]
      have e:zBx (f+1) d s = { res:=.val (.agg (stV (.mk (zDG s) ts))),io:=[bS r'] }:=by unfold zBx; rw [hE,← k4]; simp only [hn]
      rw [e2] at hc
      rw [e]
      try simp only [go_sem,zA7]
      repeat with_reducible refine zAc ?_
      refine zAE yR (hc) ?_
      try simp only [go_sem,zBk]
      repeat with_reducible refine zAc ?_
      refine zAa yF trivial (fun h5=>?_) (fun h5=>?_)
      ·try simp only [go_sem]
       repeat with_reducible refine zAc ?_
       exact zCx rfl rfl rfl rfl rfl
      ·cases h5
     |some t=>
      simp only at k4
      have e2:zAY g' d r = { res:=.tup [.agg (tsV t),bv true],io:=[bS r'] }:=by unfold zAY; rw [ht]
      have hlen:r'.length+1≤r.length:=by
       have h1:=(zEB g').1 _ _ _ _ ht
       obtain ⟨c,q,e3,_⟩:=zF0 t
       rw [h1,e3]
       simp only [List.cons_append,List.length_cons,List.length_append]
       omega
      rw [e2] at hc
      try simp only [go_sem,zA7]
      repeat with_reducible refine zAc ?_
      refine zAE yR (hc) ?_
      try simp only [go_sem,zBk,zA7]
      repeat with_reducible refine zAc ?_
      refine zAa yF trivial (fun h5=>?_) (fun h5=>?_)
      ·cases h5
      ·try simp only [go_sem,zA7]
       repeat with_reducible refine zAc ?_
       refine ⟨(g',ts ++ [t],r'),by simp only; omega,⟨by simp only; omega,by simp only; omega,by simp only [List.length_append,List.length_cons,List.length_nil]; omega,k4⟩,?_⟩
       simp only [go_sem,zAf,zAl,zAs,zAb]
       all_goals (repeat' (first | exact trivial | exact zAi yO | exact zAh rfl | exact zAm rfl | exact zAn | exact le_refl _ | refine And.intro ?_ ?_))
       all_goals first | exact zAb | exact zAm (by rw [zJC,zBk]) | rfl
  ·rw [hn] at h1; cases h1
 ·refine zAa yF trivial (fun h1=>?_) (fun h1=>?_)
  ·exfalso; exact hn (by simpa using h1)
  ·have hE:zWG (f+1) d s=(match zGI f d (nmR s) [] with | some (l,r)=>some (.mk (zDG s) l,r) | none=>none):=by rw [zWG,if_neg hn] <;> rfl
   try simp only [go_sem]
   repeat with_reducible refine zAc ?_
   refine zAr (fun x:Nat × List Ts × Bys=>[(31,.pv (.one (bS x.2.2))),(34,.pv (.one (bS (zDG s)))),(35,.own zC8 6 (zUk x.2.1)),(6,.un),(7,.un),(23,.un),(32,.un),(33,.un),(36,.un),(37,.un),(38,.un),(39,.un),(40,.un),(41,.un)]) (fun x:Nat × List Ts × Bys=>x.1) (fun x:Nat × List Ts × Bys=>4 * x.2.2.length+2≤x.1∧x.1≤f∧x.2.1.length+x.2.2.length≤s.length∧zGI x.1 d x.2.2 x.2.1=zGI f d (nmR s) []) ((f,[],nmR s)) ?_ ⟨by simp only; omega,Nat.le_refl _,by simp; omega,rfl⟩ ?_
   focus (simp only [go_sem,zAf,zAl,zAs,zAb]; all_goals (repeat' (first | exact trivial | exact zAi yO | exact zAh rfl | exact zAm rfl | exact zAn | exact le_refl _ | refine And.intro ?_ ?_)))
   rintro ⟨g,ts,r⟩ ⟨k1,k2,k3,k4⟩
   simp only at k1 k2 k3 k4
   obtain ⟨g',rfl⟩:∃ g',g=g'+1:=⟨g - 1,by omega⟩
   have hc:=hT g' d r yO hd yO yO
   rw [zGI] at k4
   cases ht:zMs g' d r with
   |none=>
    rw [ht] at k4
    have e2:zAY g' d r = { res:=.pan xbV }:=by unfold zAY; rw [ht]
    have e:zBx (f+1) d s = { res:=.pan xbV }:=by unfold zBx; rw [hE,← k4]
    rw [e2] at hc
    rw [e]
    try simp only [go_sem,zA7]
    repeat with_reducible refine zAc ?_
    refine zBS yR hc ?_
    try simp only [go_sem]
    repeat with_reducible refine zAc ?_
    exact ⟨_,rfl,rfl⟩
   |some tr=>
    obtain ⟨o,r'⟩:=tr
    rw [ht] at k4
    cases o with
    |none=>
     simp only at k4
     have e2:zAY g' d r = { res:=.tup [.agg (tsV (.mk 0 [] [] 0 0 [])),bv false],io:=[bS r'] }:=by unfold zAY; rw [ht]
     have e:zBx (f+1) d s = { res:=.val (.agg (stV (.mk (zDG s) ts))),io:=[bS r'] }:=by unfold zBx; rw [hE,← k4]
     rw [e2] at hc
     rw [e]
     try simp only [go_sem,zA7]
     repeat with_reducible refine zAc ?_
     refine zAE yR (hc) ?_
     try simp only [go_sem,zBk]
     repeat with_reducible refine zAc ?_
     refine zAa yF trivial (fun h5=>?_) (fun h5=>?_)
     ·try simp only [go_sem]
      repeat with_reducible refine zAc ?_
      exact zCx rfl rfl rfl rfl rfl
     ·cases h5
    |some t=>
     simp only at k4
     have e2:zAY g' d r = { res:=.tup [.agg (tsV t),bv true],io:=[bS r'] }:=by unfold zAY; rw [ht]
     have hlen:r'.length+1≤r.length:=by
      have h1:=(zEB g').1 _ _ _ _ ht
      obtain ⟨c,q,e3,_⟩:=zF0 t
      rw [h1,e3]
      simp only [List.cons_append,List.length_cons,List.length_append]
      omega
     rw [e2] at hc
     try simp only [go_sem,zA7]
     repeat with_reducible refine zAc ?_
     refine zAE yR (hc) ?_
     try simp only [go_sem,zBk,zA7]
     repeat with_reducible refine zAc ?_
     refine zAa yF trivial (fun h5=>?_) (fun h5=>?_)
     ·cases h5
     ·try simp only [go_sem,zA7]
      repeat with_reducible refine zAc ?_
      refine ⟨(g',ts ++ [t],r'),by simp only; omega,⟨by simp only; omega,by simp only; omega,by simp only [List.length_append,List.length_cons,List.length_nil]; omega,k4⟩,?_⟩
      simp only [go_sem,zAf,zAl,zAs,zAb]
      all_goals (repeat' (first | exact trivial | exact zAi yO | exact zAh rfl | exact zAm rfl | exact zAn | exact le_refl _ | refine And.intro ?_ ?_))
      all_goals first | exact zAb | exact zAm (by rw [zJC,zBk]) | rfl
end Go.Hx
end
