/- FnBell: for every input the given law returns true and leaves its arguments as they were. No condition. -/
import Derived.Test.YtlpgcohnjhomgaaGreatFnBellLawA
import Derived.Test.YtlpgcohnjhomgaaGreatRows
import Derived.WalkKit
import Derived.ProofKit
import Derived.OpenShut
import Derived.ShutString
set_option linter.unusedVariables false
set_option linter.unusedSimpArgs false
namespace Go.Eng
open Go Go.Proofs
def aG1 (h:Int×List (List UInt8)) (n:Int) (q:List Int):Bool:=(rB h n).2 && (mH (rB h n).1).2 && decide (0≤Lib.index (rB h n).1 (jF q))
def shR (h:Int×List (List UInt8)) (n:Int) (q:List Int) (e:EdT):EdT×Bool:=
  if (cF e=true∧e.2.1=3)∧((q.length:Int)≤40∧q.all pr=true)∧aG1 h n q=true then (aRm (aNn (rB h n).1 q) n q e,true) else (zEd,false)
theorem uC {h:Int×List (List UInt8)} {n:Int} (k:(rB h n).2=true):1≤n∧n≤1000000060∧((rB h n).1.length:Int)≤1000:=by
 unfold rB at k ⊢
 by_cases c:hOk h=true∧h.1≤n∧n<h.1+h.2.length
 ·
  rw [if_pos c]
  obtain ⟨h1,h2,h3,h4⟩:=qM c.1
  have:=h4 (at' h.2 (n - h.1)) (List.mem_of_getElem? (bH ⟨by omega,by omega⟩))
  exact ⟨by omega,by omega,by simp only;omega⟩
 ·
  rw [if_neg c] at k;cases k
theorem aPp (h:Int×List (List UInt8)) (n:Int):((rB h n).1.length:Int)≤1000:=by
 cases k:(rB h n).2
 ·
  unfold rB at k ⊢
  by_cases c:hOk h=true∧h.1≤n∧n<h.1+h.2.length
  ·
   rw [if_pos c] at k;cases k
  ·
   rw [if_neg c];simp
 ·
  exact (uC k).2.2
theorem aGs {s:List UInt8} {q:List Int} (h1:(mH s).2=true) (h2:0≤Lib.index s (jF q)):bP (aNn s q)=true:=by
 unfold aNn atR
 rw [if_pos h2]
 unfold mH at h1 ⊢
 by_cases c:((iS s).2 && bP ((iS s).1,((iS s).1.length:Int)))=true
 ·
  rw [if_pos c]
  simp only [Bool.and_eq_true] at c
  have ht:=aHw (s:=s) (Lib.index s (jF q)).toNat c.1
  have hk:=c.2
  unfold bP at hk ⊢
  simp only [Bool.and_eq_true,decide_eq_true_eq] at hk ⊢
  refine ⟨hk.1,?_⟩
  first
   | exact ⟨by omega,by omega⟩
   | omega
 ·
  rw [if_neg c] at h1;cases h1
theorem aMb (e:EdT) (hv:cF e=true) (hm:e.2.1=3) (l:List Int×Int) (hl:bP l=true) (n:Int) (hn:1≤n∧n≤1000000060) (q:List Int):cF (aRm l n q e)=(decide ((q.length:Int)≤40) && q.all pr):=by
 obtain ⟨vi,D,G,B_,op,A7,A9,fr,fh,A5,A8,A4,O,A0,Z,A6,A_⟩:=e
 simp only at hm
 subst hm
 obtain ⟨h1,h2,h3,h4,h5,h6,h7,h8,h9,h10,h11,h12,h13,h14,h15,h16⟩:=cO hv
 have hM:iX vi 3 l op A7 A9=true:=by
  unfold iX at h6 ⊢
  simp only [Bool.and_eq_true,decide_eq_true_eq] at h6 ⊢
  obtain ⟨⟨⟨a1,a2,a3,a4,a5,a6,a7,a8⟩,b⟩,c⟩:=h6
  exact ⟨⟨⟨a1,a2,a3,a4,a5,fun h=>absurd h (by decide),a7,a8⟩,b⟩,c⟩
 have hO:bP (if O=0 then A_ else A0)=true:=by split <;> assumption
 have hU:gC []=true:=rfl
 have hS:uT 3 q n A_=true:=rfl
 unfold aRm cF
 simp only
 rw [hl,hO,h3,hM,h7,h9,hU,hS,decide_eq_true h4,decide_eq_true h5,decide_eq_true h8,decide_eq_true (show 0≤n∧n≤1000000060 by omega),decide_eq_false (show ¬ n=0 by omega)]
 cases decide ((q.length:Int)≤40) <;> cases q.all pr <;> rfl
theorem aJc (s p:List UInt8) (hs:(s.length:Int)≤1048576):gP s p=some (decide (0≤Lib.index s p)):=by
 have:gA s p=some (Lib.index s p):=by
  unfold gA
  unfold aN
  exact if_pos (by omega)
 unfold gP
 rw [aP this]
def yD (h:Int×List (List UInt8)) (p:List UInt8):Nat→Int
 | 0=>0
 | n+1=>if 0≤Lib.index (at' h.2 (n:Int)) p then h.1+n else yD h p n
def yE (h:Int×List (List UInt8)) (p:List UInt8) (f:Int):Int:=if hOk h=true then yD h p (min (f - h.1+1) (h.2.length:Int)).toNat else 0
theorem aRo (h:Int×List (List UInt8)) (hh:hOk h=true) (p:List UInt8):∀ n:Nat,n≤h.2.length→0≤yD h p n∧yD h p n≤2000000000:=by
 obtain ⟨h1,h2,h3,_⟩:=qM hh
 intro n
 induction n with
 | zero=>intro _;simp [yD]
 | succ n ih=>
  intro hn
  have:=ih (by omega)
  simp only [yD]
  split <;> omega
theorem aRq (h:Int×List (List UInt8)) (p:List UInt8) (f:Int):0≤yE h p f∧yE h p f≤2000000000:=by
 unfold yE
 split
 ·
  rename_i hh
  exact aRo h hh p _ (by omega)
 ·
  omega
theorem aK7 (h:Int×List (List UInt8)) (hh:hOk h=true) (p:List UInt8):∀ (m n:Nat),n≤h.2.length→n<m →
  aZ (gW h p (-1) false fun _=>some 0) m (h.1+n - 1)=some (yD h p n):=by
 obtain ⟨h1,h2,h3,h4⟩:=qM hh
 intro m
 induction m with
 | zero=>intro n _ h;omega
 | succ m ih=>
  intro n hn hm
  simp only [aZ,gW,aN,Bool.cond_decide,dH,aF]
  rw [bV (x:=h.1+(h.2.length:Int)) (by omega) (by omega),bV (x:=h.1+(h.2.length:Int) - 1) (by omega) (by omega)]
  cases n with
  | zero=>
   have:¬ (h.1≤h.1+((0:Nat):Int) - 1):=by omega
   simp only [this,decide_false,if_false,cond_false,yD]
  | succ n=>
   have c1:h.1≤h.1+((n+1:Nat):Int) - 1:=by omega
   have c2:h.1+((n+1:Nat):Int) - 1≤h.1+(h.2.length:Int) - 1:=by omega
   have e1:h.1+((n+1:Nat):Int) - 1 - h.1=(n:Int):=by omega
   have e2:h.1+((n+1:Nat):Int) - 1 + -1=h.1+(n:Int) - 1:=by omega
   rw [bV (x:=h.1+((n+1:Nat):Int) - 1 - h.1) (by omega) (by omega),bV (x:=h.1+((n+1:Nat):Int) - 1 + -1) (by omega) (by omega),e1,e2]
   have c3:(0:Int)≤n∧(n:Int)<(h.2.length:Int):=by omega
   have hlen:=h4 (at' h.2 (n:Int)) (List.mem_of_getElem? (bH c3))
   have hc:=aJc (at' h.2 (n:Int)) p (by omega)
   simp only [c1,c2,c3,if_true,and_self,decide_true,cond_true,cA,aF,Bool.not_false,Bool.false_eq_true,if_false,cond_false,yD,hc]
   by_cases hp:0≤Lib.index (at' h.2 (n:Int)) p
   ·
    rw [decide_eq_true hp,if_pos hp]
    simp;omega
   ·
    rw [decide_eq_false hp,if_neg hp]
    exact ih n (by omega) (by omega)
theorem aK8 (h:Int×List (List UInt8)) (hl:(h.2.length:Int)≤1048576) (p:List UInt8) (f:Int) (hf:-10≤f):iJ h p f (-1) false=some (yE h p f):=by
 unfold iJ yE
 rw [aP (uZ h hl)]
 cases hh:hOk h with
 | false=>simp
 | true=>
  obtain ⟨h1,h2,h3,_⟩:=qM hh
  simp only [Bool.not_true,cond_false,decide_true,show ¬ ((-1:Int)=1) by decide,decide_false,Bool.not_false,cond_true,aT,if_true]
  rw [bV (x:=h.1+(h.2.length:Int)) (by omega) (by omega),bV (x:=h.1+(h.2.length:Int) - 1) (by omega) (by omega)]
  by_cases c:0≤min (f - h.1+1) (h.2.length:Int)
  ·
   have e:min f (h.1+(h.2.length:Int) - 1)=h.1+((min (f - h.1+1) (h.2.length:Int)).toNat:Int) - 1:=by omega
   rw [e]
   exact aK7 h hh p bO _ (by omega) (by rw [bQ];omega)
  ·
   have e:(min (f - h.1+1) (h.2.length:Int)).toNat=0:=by omega
   rw [e]
   obtain ⟨n,hn⟩:∃ n,bO=n+1:=⟨bO - 1,by have:=bQ;omega⟩
   rw [hn]
   have c1:¬ (h.1≤min f (h.1+(h.2.length:Int) - 1)):=by omega
   simp only [aZ,gW,dH,aF,c1,yD,decide_false,cond_false]
def aSx (ok:Bool) (vi:Bool) (G:List Int×Int) (B_ op A7 A9 fr fh A5:Int) (A8:List (List Int)) (A4:List (List Int×Int)) (O:Int) (A0:List Int×Int):EdT:=
  if ok then (vi,(if vi then 2 else 0),(G.1,jA (if vi then 2 else 0) G),B_,op,A7,A9,fr,fh,A5,A8,A4,O,A0,[],0,([],0)) else zEd
def aB0 (h:Int×List (List UInt8)) (q:List Int) (f:Int) (e:EdT):EdT×Int:=
  if (shR h (yE h (jF q) f) q e).2=true then ((shR h (yE h (jF q) f) q e).1,0) else (e,1)
def rF (e:EdT):Int:=e.2.2.2.2.2.2.2.2.2.2.2.2.2.2.2.1
def eD (e:EdT):List Int:=e.2.2.2.2.2.2.2.2.2.2.2.2.2.2.1
def aDt:EdT→EdT
  | (vi,_,G,B_,op,A7,A9,fr,fh,A5,A8,A4,O,A0,_,_,_)=>aSx true vi G B_ op A7 A9 fr fh A5 A8 A4 O A0
def aQc:EdT→EdT
  | (vi,D,_,B_,op,A7,A9,fr,fh,A5,A8,A4,_,_,Z,A6,A_)=>(vi,D,A_,B_,op,A7,A9,fr,fh,A5,A8,A4,0,([],0),Z,A6,A_)
def aP0:EdT→EdT
  | (vi,D,G,B_,op,A7,A9,fr,fh,A5,A8,A4,O,A0,Z,A6,A_)=>(vi,D,G,B_,op,A7,A9,fr,fh,A5,A8,A4,O,A0,Z.take (Z.length - 1),A6,A_)
theorem aJj (e:EdT) (hv:cF e=true) (hm:e.2.1=3):cF (aQc e)=true:=by
 obtain ⟨vi,D,G,B_,op,A7,A9,fr,fh,A5,A8,A4,O,A0,Z,A6,A_⟩:=e
 simp only at hm
 subst hm
 obtain ⟨h1,h2,h3,h4,h5,h6,h7,h8,h9,h10,h11,h12,h13,h14,h15,h16⟩:=cO hv
 have hM:iX vi 3 A_ op A7 A9=true:=by
  unfold iX at h6 ⊢
  simp only [Bool.and_eq_true,decide_eq_true_eq] at h6 ⊢
  obtain ⟨⟨⟨a1,a2,a3,a4,a5,a6,a7,a8⟩,b⟩,c⟩:=h6
  exact ⟨⟨⟨a1,a2,a3,a4,a5,fun h=>absurd h (by decide),a7,a8⟩,b⟩,c⟩
 exact eT ⟨h3,rfl,h3,h4,h5,hM,h7,h8,h9,h10,by omega,h12,rfl,h14,h15,rfl⟩
theorem aTj (e:EdT) (hv:cF e=true):0≤rF e∧rF e≤1000000060:=by
 obtain ⟨vi,D,G,B_,op,A7,A9,fr,fh,A5,A8,A4,O,A0,Z,A6,A_⟩:=e
 exact (cO hv).2.2.2.2.2.2.2.2.2.2.2.1
theorem aQ9 (e:EdT) (hv:cF e=true):((eD e).length:Int)≤40:=by
 obtain ⟨vi,D,G,B_,op,A7,A9,fr,fh,A5,A8,A4,O,A0,Z,A6,A_⟩:=e
 exact (cO hv).2.2.2.2.2.2.2.2.2.2.2.2.2.1
def aCg (h:Int×List (List UInt8)) (k:Int×Int) (e:EdT):EdT×Int:=
 if k.1=1 then aB0 h (eD e ++ [k.2]) (if rF e=0 then fV h else rF e) e
 else if k.1=2∧k.2=114 then (if (eD e).length=0 then (e,1) else aB0 h (eD e) (if rF e=0 then fV h else rF e - 1) e)
 else if k.1=5 then (if (eD e).length=0 then (e,1) else (aP0 e,0))
 else if k.1=4 then (aDt e,2)
 else if k.1=2∧(k.2=103∨k.2=99) then (aDt (aQc e),1)
 else (aDt e,0)
def skR (h:Int×List (List UInt8)) (k:Int×Int) (e:EdT):EdT×Int:=
  if (cF e && hOk h && kOk k)=true∧e.2.1=3 then aCg h k e else (zEd,0)
theorem aTf {α:Type} (s:List α) (i:Int):bJ s 0 i=s.take i.toNat:=by
 unfold bJ
 simp
theorem aTu (s p:List UInt8) (hs:(s.length:Int)≤1048576):atR s p = -1∧Lib.index s p<0∨0≤atR s p∧atR s p≤65536∧0≤Lib.index s p:=by
 unfold atR
 by_cases h:0≤Lib.index s p
 ·
  rw [if_pos h]
  have:=aCx (s.take (Lib.index s p).toNat)
  exact Or.inr ⟨by omega,by omega,h⟩
 ·
  rw [if_neg h];exact Or.inl ⟨rfl,by omega⟩
theorem aNm (q:List Int) (hq:(q.length:Int)≤1048576) (j:Unit→Option (EdT×Bool)):∀ (m:Nat) (k:Int),0≤k→k≤(q.length:Int)→(q.length:Int) - k<m →
  aZ (lN q j) m k=if (q.drop k.toNat).all pr=true then j () else some (zEd,false):=by
 intro m
 induction m with
 | zero=>intro k _ _ h;omega
 | succ m ih=>
  intro k hk hk' hm
  simp only [aZ,lN,aN,Bool.cond_decide]
  by_cases h1:k<(q.length:Int)
  ·
   rw [if_pos h1,if_pos ⟨hk,h1⟩,aP (qK (at' q k)),fW hk h1,bV (by omega) (by omega),ih (k+1) (by omega) (by omega) (by omega),List.all_cons]
   cases pr (at' q k) with
   | true=>simp
   | false=>simp [zEd]
  ·
   rw [if_neg h1,List.drop_eq_nil_of_le (by omega)]
   simp
section
variable (h:Int×List (List UInt8)) (hh:(h.2.length:Int)≤1048576) (n:Int) (hn:-9223372036854775808≤n∧n≤9223372036854775807) (q:List Int) (hq:(q.length:Int)≤1048576) (e:EdT) (hs:oV 1048576 e)
include hh hn hq hs
theorem aM4:jH e h n q=some (shR h n q e):=by
 unfold jH
 rw [aP (aGx e (oL (by omega) hs))]
 cases hv:cF e with
 | false=>
  unfold shR
  rw [hv]
  simp [zEd]
 | true=>
  by_cases hm:e.2.1=3
  ·
   by_cases hl:(q.length:Int)≤40
   ·
    have hl':¬ (40:Int)<(q.length:Int):=by omega
    simp only [hm,decide_true,Bool.not_true,cond_false,decide_eq_false hl',aT]
    rw [aNm q hq _ bO 0 (by omega) (by omega) (by rw [bQ];omega)]
    simp only [Int.toNat_zero,List.drop_zero]
    cases hp:q.all pr with
    | false=>
     unfold shR
     simp [hp]
    | true=>
     simp only [if_true]
     have hgl:=aPp h n
     rw [aP (aA9 h hh n hn)]
     have hsp:(rB h n).2=true→_:=fun k=>uC k
     unfold shR
     rw [hv,hm,hp]
     simp only [aG1]
     generalize rB h n=g at hgl hsp ⊢
     obtain ⟨s,there⟩:=g
     simp only at hgl hsp ⊢
     have hL:∀ (a:(mH s).2=true) (b:0≤Lib.index s (jF q)),bP (aNn s q)=true:=fun a b=>aGs a b
     rw [aP (aDr s)]
     have hI:gA s (jF q)=some (Lib.index s (jF q)):=by
      unfold gA aN
      exact if_pos (by omega)
     have hab:=aTu s (jF q) (by omega)
     have hle:=Lib.index_le s (jF q)
     unfold aNn
     generalize mH s=L at hL ⊢
     obtain ⟨l,ok⟩:=L
     simp only
     rw [aP (aHh q hq),aP hI]
     cases there with
     | false=>simp [zEd]
     | true=>
      cases ok with
      | false=>simp [zEd]
      | true=>
       rcases hab with ⟨a1,a2⟩ | ⟨a1,a2,a3⟩
       ·
        have a4:¬ (0≤Lib.index s (jF q)):=by omega
        simp [a2,a4,zEd]
       ·
        have a4:¬ (Lib.index s (jF q)<0):=by omega
        simp only [Bool.not_true,cond_false,decide_eq_false a4,aN]
        rw [if_pos ⟨by omega,by omega,by omega⟩,aP (aE6 _),aTf]
        have eat:((iS (s.take (Lib.index s (jF q)).toNat)).1.length:Int)=atR s (jF q):=by
         unfold atR;rw [if_pos a3]
        have ec:=iZ e hv
        have cb:cL q=some q:=iP q (by omega)
        obtain ⟨vi,D,G,B_,op,A7,A9,fr,fh,A5,A8,A4,O,A0,Z,A6,A_⟩:=e
        have sb:(A_.1.length:Int)≤1048576:=by
         obtain ⟨x1,x2,x3,x4,x5,x6⟩:=hs
         omega
        rw [aP ec]
        generalize iS (s.take (Lib.index s (jF q)).toNat)=R at eat ⊢
        obtain ⟨R1,R2⟩:=R
        simp only at eat ⊢
        simp only [Bool.cond_decide,cb,aN4,aP (fY A_ sb)]
        simp only [hl,a3,and_self,decide_true,Bool.and_self,if_true,aRm,eat]
        by_cases hnav:O=0
        ·
         rw [if_pos hnav,if_pos hnav]
        ·
         rw [if_neg hnav,if_neg hnav]
   ·
    have hl':(40:Int)<(q.length:Int):=by omega
    unfold shR
    rw [if_neg (fun c=>hl c.2.1.1)]
    simp [hm,hl',zEd]
  ·
   unfold shR
   rw [if_neg (fun c=>hm c.1.2)]
   simp [hm,zEd]
end
theorem aOo (h:Int×List (List UInt8)) (n:Int) (q:List Int) (e:EdT):oV 1048576 (shR h n q e).1∧(shR h n q e).1.2.2.2.2.2.2.2.2.2.2.2.1=[]:=by
 unfold shR
 split
 ·
  rename_i c
  obtain ⟨⟨hv,hm⟩,⟨hl,hp⟩,hc⟩:=c
  unfold aG1 at hc
  simp only [Bool.and_eq_true,decide_eq_true_eq] at hc
  have hg:=uC hc.1.1
  have hE:=aMb e hv hm (aNn (rB h n).1 q) (aGs hc.1.2 hc.2) n ⟨hg.1,hg.2.1⟩ q
  rw [hp,decide_eq_true hl] at hE
  refine ⟨oL (by omega) (aJ5 _ hE),?_⟩
  obtain ⟨vi,D,G,B_,op,A7,A9,fr,fh,A5,A8,A4,O,A0,Z,A6,A_⟩:=e
  rfl
 ·
  exact ⟨oL (by omega) aM3,rfl⟩
theorem aRp (h:Int×List (List UInt8)):0≤fV h∧fV h≤2000000000:=by
 unfold fV
 split
 ·
  rename_i c
  obtain ⟨h1,h2,h3,_⟩:=qM c.1
  omega
 ·
  omega
section
variable (h:Int×List (List UInt8)) (hh:(h.2.length:Int)≤1048576) (e:EdT) (hv:cF e=true)
include hh hv
theorem aS1 (q:List Int) (hq:(q.length:Int)≤1048576) (f:Int) (hf:-10≤f):uL e h q f=some (aB0 h q (if rF e=0 then fV h else f) e):=by
 unfold uL
 simp only [aT]
 have hL:=aRp h
 have key:∀ x:Int,-10≤x→(aF (jR q) fun (y43:List UInt8)=>(aF (iJ h y43 x (-1) false) fun (y45:Int)=>(aF (jH e h y45 q) fun (y47,y48)=>(bif (!y48) then (aF (cK e) fun (y60:EdT)=>some (y60,(1:Int))) else
   some ((y47.1,y47.2.1,y47.2.2.1,y47.2.2.2.1,y47.2.2.2.2.1,y47.2.2.2.2.2.1,y47.2.2.2.2.2.2.1,y47.2.2.2.2.2.2.2.1,y47.2.2.2.2.2.2.2.2.1,y47.2.2.2.2.2.2.2.2.2.1,y47.2.2.2.2.2.2.2.2.2.2.1,([]:List (List Int×Int)),y47.2.2.2.2.2.2.2.2.2.2.2.2.1,y47.2.2.2.2.2.2.2.2.2.2.2.2.2.1,y47.2.2.2.2.2.2.2.2.2.2.2.2.2.2.1,y47.2.2.2.2.2.2.2.2.2.2.2.2.2.2.2.1,y47.2.2.2.2.2.2.2.2.2.2.2.2.2.2.2.2),(0:Int))))))=some (aB0 h q x e):=by
  intro x hx
  have hb:=aRq h (jF q) x
  have ts:=aM4 h hh (yE h (jF q) x) (by omega) q hq e (oL (by omega) (aJ5 e hv))
  have hu:=(aOo h (yE h (jF q) x) q e).2
  have ec:=iZ e hv
  unfold aB0
  rw [aP (aHh q hq),aP (aK8 h hh (jF q) x hx),aP ts]
  generalize shR h (yE h (jF q) x) q e=z at hu ⊢
  obtain ⟨⟨vi',mode',line',count',op',opc',wait',fr',fh',last',ring',undo',nav',own',query',hit',back'⟩,zb⟩:=z
  simp only at hu
  subst hu
  cases zb
  ·
   exact aK ec rfl
  ·
   rfl
 have he:∀ (t:Bool),(bif t then (aF (jT h) fun (y37:Int)=>(aF (jR q) fun (y43:List UInt8)=>(aF (iJ h y43 y37 (-1) false) fun (y45:Int)=>(aF (jH e h y45 q) fun (y47,y48)=>(bif (!y48) then (aF (cK e) fun (y60:EdT)=>some (y60,(1:Int))) else
   some ((y47.1,y47.2.1,y47.2.2.1,y47.2.2.2.1,y47.2.2.2.2.1,y47.2.2.2.2.2.1,y47.2.2.2.2.2.2.1,y47.2.2.2.2.2.2.2.1,y47.2.2.2.2.2.2.2.2.1,y47.2.2.2.2.2.2.2.2.2.1,y47.2.2.2.2.2.2.2.2.2.2.1,([]:List (List Int×Int)),y47.2.2.2.2.2.2.2.2.2.2.2.2.1,y47.2.2.2.2.2.2.2.2.2.2.2.2.2.1,y47.2.2.2.2.2.2.2.2.2.2.2.2.2.2.1,y47.2.2.2.2.2.2.2.2.2.2.2.2.2.2.2.1,y47.2.2.2.2.2.2.2.2.2.2.2.2.2.2.2.2),(0:Int))))))) else (aF (jR q) fun (y43:List UInt8)=>(aF (iJ h y43 f (-1) false) fun (y45:Int)=>(aF (jH e h y45 q) fun (y47,y48)=>(bif (!y48) then (aF (cK e) fun (y60:EdT)=>some (y60,(1:Int))) else
   some ((y47.1,y47.2.1,y47.2.2.1,y47.2.2.2.1,y47.2.2.2.2.1,y47.2.2.2.2.2.1,y47.2.2.2.2.2.2.1,y47.2.2.2.2.2.2.2.1,y47.2.2.2.2.2.2.2.2.1,y47.2.2.2.2.2.2.2.2.2.1,y47.2.2.2.2.2.2.2.2.2.2.1,([]:List (List Int×Int)),y47.2.2.2.2.2.2.2.2.2.2.2.2.1,y47.2.2.2.2.2.2.2.2.2.2.2.2.2.1,y47.2.2.2.2.2.2.2.2.2.2.2.2.2.2.1,y47.2.2.2.2.2.2.2.2.2.2.2.2.2.2.2.1,y47.2.2.2.2.2.2.2.2.2.2.2.2.2.2.2.2),(0:Int)))))))=some (aB0 h q (if t=true then fV h else f) e):=by
  intro t
  cases t
  ·
   exact key f hf
  ·
   exact aK (aDx h hh) (key (fV h) (by omega))
 have:=he (decide (rF e=0))
 rw [show (if rF e=0 then fV h else f)=(if decide (rF e=0)=true then fV h else f) by by_cases c:rF e=0 <;> simp [c]]
 exact this
end
theorem aPb (e:EdT) (hv:cF e=true):sS e=some (aDt e):=by
 unfold sS
 refine aK (iZ e hv) ?_
 obtain ⟨vi,D,G,B_,op,A7,A9,fr,fh,A5,A8,A4,O,A0,Z,A6,A_⟩:=e
 obtain ⟨h1,_⟩:=cO hv
 have hl:=bF h1
 have c:=fun md=>sZ (G.1,G.2) md (by simp only;omega)
 simp only [aT,aP (c _)]
 cases vi <;> rfl
theorem aP4 (e:EdT) (hv:cF e=true):dA e.2.2.2.2.2.2.2.2.2.2.2.2.2.2.2.2=some e.2.2.2.2.2.2.2.2.2.2.2.2.2.2.2.2∧lG e.2.2.2.2.2.2.2.2.2.2.2.2.2.2.2.2=some e.2.2.2.2.2.2.2.2.2.2.2.2.2.2.2.2:=by
 obtain ⟨vi,D,G,B_,op,A7,A9,fr,fh,A5,A8,A4,O,A0,Z,A6,A_⟩:=e
 obtain ⟨h1,h2,h3,_⟩:=cO hv
 have:=(bF h3).2.2
 exact ⟨fY _ (by simp only;omega),yZ _ (by simp only;omega)⟩
theorem aOp (h:Int×List (List UInt8)) (hh:(h.2.length:Int)≤1048576) (k:Int×Int) (e:EdT) (hs:oV 1048576 e):nD e h k=some (skR h k e):=by
 unfold nD skR
 rw [aP (aD4 h hh k e hs)]
 cases hv:cF e
 ·
  rfl
 cases hOk h
 ·
  rfl
 cases kOk k
 ·
  rfl
 by_cases hm:e.2.1=3
 ·
  rw [decide_eq_true hm,if_pos ⟨rfl,hm⟩]
  have hql:=aQ9 e hv
  have hhb:=aTj e hv
  have cq:cL (eD e)=some (eD e):=iP _ (by omega)
  have hu:=fun q hq f hf=>aS1 h hh e hv q hq f hf
  have ec:=iZ e hv
  have el:=aPb e hv
  have eb:=aPb _ (aJj e hv hm)
  have cb:=(aP4 e hv).1
  unfold aCg
  obtain ⟨k1,k2⟩:=k
  by_cases c1:k1=1
  ·
   rw [decide_eq_true c1,if_pos c1]
   refine aK cq ?_
   have hlen:(eD e ++ [k2]).length=(eD e).length+1:=by simp
   unfold aN
   rw [if_pos (by simp;omega)]
   exact aK (hu (eD e ++ [k2]) (by omega) (rF e) (by omega)) rfl
  ·
   rw [decide_eq_false c1,if_neg c1]
   have ek:∀ a b:Int,eqK (k1,k2) (a,b)=(decide (k1=a) && decide (k2=b)):=fun a b=>rfl
   by_cases c2:k1=2∧k2=114
   ·
    rw [if_pos c2,ek,ek,decide_eq_true c2.1,decide_eq_true c2.2]
    by_cases c3:(eD e).length=0
    ·
     rw [if_pos c3]
     have c4:¬ (0<((eD e).length:Int)):=by omega
     have c4':decide (0<((eD e).length:Int))=false:=decide_eq_false c4
     unfold eD at c4'
     rw [c4']
     exact aK ec rfl
    ·
     rw [if_neg c3]
     have c4:(0<((eD e).length:Int)):=by omega
     have c4':decide (0<((eD e).length:Int))=true:=decide_eq_true c4
     unfold eD at c4'
     rw [c4']
     have hw:W (rF e - 1)=rF e - 1:=bV (by omega) (by omega)
     unfold rF at hw
     refine aK (hu (eD e) (by omega) _ (by rw [hw];unfold rF at hhb;omega)) ?_
     rw [hw]
     rfl
   ·
    rw [if_neg c2,ek,ek]
    have c2':(decide (k1=2) && decide (k2=114))=false:=by
     by_cases x1:k1=2
     ·
      have x2:¬ k2=114:=fun x=>c2 ⟨x1,x⟩
      rw [decide_eq_false x2];simp
     ·
      rw [decide_eq_false x1];rfl
    rw [c2']
    by_cases c5:k1=5
    ·
     rw [decide_eq_true c5,if_pos c5]
     by_cases c3:(eD e).length=0
     ·
      rw [if_pos c3]
      have c4':decide (((eD e).length:Int)=0)=true:=decide_eq_true (by omega)
      unfold eD at c4'
      rw [c4']
      exact aK ec rfl
     ·
      rw [if_neg c3]
      have c4':decide (((eD e).length:Int)=0)=false:=decide_eq_false (by omega)
      unfold eD at c4'
      rw [c4']
      have hw:W (((eD e).length:Int) - 1)=((eD e).length:Int) - 1:=bV (by omega) (by omega)
      refine aK ec ?_
      obtain ⟨vi,D,G,B_,op,A7,A9,fr,fh,A5,A8,A4,O,A0,Z,A6,A_⟩:=e
      unfold eD at hw c3
      simp only at hw c3 ⊢
      rw [hw]
      unfold aN
      rw [if_pos (by omega)]
      unfold aP0
      have:bJ Z 0 ((Z.length:Int) - 1)=Z.take (Z.length - 1):=by
       rw [aTf];congr 1;omega
      rw [this]
    ·
     rw [decide_eq_false c5,if_neg c5]
     by_cases c4:k1=4
     ·
      rw [decide_eq_true c4,if_pos c4]
      refine aK el ?_
      obtain ⟨vi,D,G,B_,op,A7,A9,fr,fh,A5,A8,A4,O,A0,Z,A6,A_⟩:=e
      rfl
     ·
      rw [decide_eq_false c4,if_neg c4,ek]
      by_cases c6:k1=2∧(k2=103∨k2=99)
      ·
       rw [if_pos c6,decide_eq_true c6.1]
       have c7:(bif (false ^^ (true && decide (k2=103))) then true else (false ^^ (true && decide (k2=99))))=true:=by
        rcases c6.2 with x | x <;> subst x <;> rfl
       rw [c7]
       refine aK ec (aK cb ?_)
       obtain ⟨vi,D,G,B_,op,A7,A9,fr,fh,A5,A8,A4,O,A0,Z,A6,A_⟩:=e
       exact aK eb rfl
      ·
       rw [if_neg c6]
       have c7:(bif (false ^^ (decide (k1=2) && decide (k2=103))) then true else (false ^^ (decide (k1=2) && decide (k2=99))))=false:=by
        by_cases x1:k1=2
        ·
         have x2:¬ k2=103:=fun x=>c6 ⟨x1,.inl x⟩
         have x3:¬ k2=99:=fun x=>c6 ⟨x1,.inr x⟩
         rw [decide_eq_false x2,decide_eq_false x3];simp
        ·
         rw [decide_eq_false x1];rfl
       rw [c7]
       refine aK el ?_
       obtain ⟨vi,D,G,B_,op,A7,A9,fr,fh,A5,A8,A4,O,A0,Z,A6,A_⟩:=e
       rfl
 ·
  rw [decide_eq_false hm,if_neg (fun h=>hm h.2)]
  rfl
def aTv (e z:EdT):Prop:=z.2.2.1=e.2.2.1∧z.2.1=e.2.1∧z.2.2.2.2.2.2.2.2.2.2.1=e.2.2.2.2.2.2.2.2.2.2.1∧z.2.2.2.2.2.2.2.2.2.2.2.1=e.2.2.2.2.2.2.2.2.2.2.2.1∧z.2.2.2.2.2.2.2.2.2.2.2.2.1=e.2.2.2.2.2.2.2.2.2.2.2.2.1
def mJ (e:EdT) (q:EdT×Int):Prop:=cF q.1=true∧(q.2=1→aTv e q.1)
theorem cB {e:EdT} {c:Prop} [Decidable c] {a b:EdT×Int} (ha:c→mJ e a) (hb:¬ c→mJ e b):mJ e (if c then a else b):=by
 by_cases h:c
 ·
  rw [if_pos h];exact ha h
 ·
  rw [if_neg h];exact hb h
theorem uA {e z:EdT} {a:Int} (h:cF z=true) (ha:a≠1):mJ e (z,a):=⟨h,fun q=>absurd q ha⟩
theorem aOm (h:Int×List (List UInt8)) (st:Int) (e:EdT) (hv:cF e=true) (hk:(vP h st e).2=true):cF (vP h st e).1=true:=by
 obtain ⟨vi,D,G,B_,op,A7,A9,fr,fh,A5,A8,A4,O,A0,Z,A6,A_⟩:=e
 have hidle:=fun l hl=>uX vi D G B_ op A7 A9 fr fh A5 A8 A4 O A0 Z A6 A_ hv l hl
 obtain ⟨h1,h2,h3,h4,h5,h6,h7,h8,h9,h10,h11,h12,h13,h14,h15,h16⟩:=cO hv
 simp only [vP] at hk ⊢
 generalize (if O=0 then fV h+1 else O)+st=N at *
 split at hk
 ·
  rename_i c1
  rw [if_pos c1]
  split
  ·
   exact eT ⟨aAm h2,rfl,h3,by omega,by omega,hidle A0 h2,h7,by omega,h9,rfl,by omega,h12,rfl,h14,h15,h16⟩
  ·
   rename_i c2
   rw [if_neg c2] at hk
   split
   ·
    rename_i c3
    simp only [Bool.and_eq_true] at c3
    obtain ⟨g1,g2,_⟩:=uC c3.1
    have c4:=c3.2
    have hl:bP (mH (rB h N).1).1=true:=by
     unfold mH at c4 ⊢
     split at c4
     ·
      rename_i q
      simp only [Bool.and_eq_true] at q
      rw [if_pos (by simp only [Bool.and_eq_true];exact q)]
      exact q.2
     ·
      cases c4
    generalize (mH (rB h N).1).1=l at hl
    have hO:bP (if O=0 then G else A0)=true:=by split <;> assumption
    have hN:¬ N=0:=by omega
    have hi:=hidle l hl
    by_cases hm:D=2
    ·
     rw [if_pos hm]
     have hM:iX vi D (l.1,0) 0 0 0=true:=by
      unfold iX at hi ⊢
      simp only [Bool.and_eq_true,decide_eq_true_eq] at hi ⊢
      obtain ⟨⟨⟨a1,a2,a3,a4,a5,a6,a7,a8⟩,b⟩,c⟩:=hi
      refine ⟨⟨⟨a1,a2,a3,a4,a5,fun _=>?_,a7,a8⟩,b⟩,c⟩
      unfold uH
      by_cases z:0<(l.1.length:Int)
      ·
       rw [decide_eq_true z,decide_eq_false (by simp only;omega)];rfl
      ·
       rw [decide_eq_false z];rfl
     refine eT ⟨iY (eL hl) (by omega) (by omega),hO,h3,by omega,by omega,hM,h7,by omega,h9,rfl,by omega,h12,?_,h14,h15,h16⟩
     rw [decide_eq_false hN];rfl
    ·
     rw [if_neg hm]
     have he:jA D l=l.2:=by
      unfold jA
      rw [if_neg (fun q=>hm q.1)]
     rw [he] at hi
     refine eT ⟨hl,hO,h3,by omega,by omega,hi,h7,by omega,h9,rfl,by omega,h12,?_,h14,h15,h16⟩
     rw [decide_eq_false hN];rfl
   ·
    rename_i c3
    rw [if_neg c3] at hk
    cases hk
 ·
  cases hk
theorem aRc (l:List Int×Int):iX false 0 l 0 0 0=true:=by
 unfold iX
 rw [decide_eq_true ⟨by decide,by decide,fun _=>rfl,fun q=>absurd q (by decide),fun q=>absurd q (by decide),fun q=>absurd q (by decide),fun _=>⟨rfl,rfl,rfl⟩,fun _=>rfl⟩]
 rfl
theorem aRb (l:List Int×Int):iX true 1 l 0 0 0=true:=by
 unfold iX
 rw [decide_eq_true ⟨by decide,by decide,fun q=>absurd q (by decide),fun _=>rfl,fun q=>absurd q (by decide),fun q=>absurd q (by decide),fun _=>⟨rfl,rfl,rfl⟩,fun _=>rfl⟩]
 rfl
theorem aL5 (l:List Int×Int) (h:uH l=false):iX true 2 l 0 0 0=true:=by
 unfold iX
 rw [decide_eq_true ⟨by decide,by decide,fun q=>absurd q (by decide),fun q=>absurd q (by decide),fun _=>rfl,fun _=>h,fun q=>absurd rfl q,fun _=>rfl⟩]
 rfl
theorem aP5 {l:List Int×Int} (h:bP l=true):uH (l.1,jA 2 l)=false:=by
 obtain ⟨p0,p1,p2⟩:=bF h
 unfold uH jA
 by_cases c:(2:Int)=2∧l.2=(l.1.length:Int)∧0<l.2
 ·
  rw [if_pos c,decide_eq_false (show ¬ (l.2 - 1=(l.1.length:Int)) by omega),Bool.and_false]
 ·
  rw [if_neg c]
  by_cases e:l.2=(l.1.length:Int)
  ·
   rw [decide_eq_false (show ¬ 0<(l.1.length:Int) from fun hp=>c ⟨rfl,e,by omega⟩)];rfl
  ·
   rw [decide_eq_false e,Bool.and_false]
section
variable (e:EdT) (hv:cF e=true)
include hv
theorem gK:mJ e (fP e):=by
 refine ⟨aQb e hv,fun _=>?_⟩
 obtain ⟨vi,D,G,B_,op,A7,A9,fr,fh,A5,A8,A4,O,A0,Z,A6,A_⟩:=e
 exact ⟨rfl,rfl,rfl,rfl,rfl⟩
theorem qI (l:List Int×Int) (hl:bP l=true) (nl:Int) (hn:0≤nl∧nl≤3):mJ e (rJ l nl e,0):=uA (vZ e hv l hl nl hn) (by decide)
theorem oS (a:Int):mJ e (goE a e):=qI e hv _ (mI (eOk e hv).1 a) 0 (by omega)
theorem aD1 (a b:Int) (hr:0≤a∧a≤b∧b≤(e.2.2.1.1.length:Int)):mJ e (aN1 a b e):=cB (fun _=>gK e hv) fun _=>qI e hv _ (vC (eOk e hv).1 hr).1 0 (by omega)
theorem tZ (a b how:Int) (hr:0≤a∧a≤b∧b≤(e.2.2.1.1.length:Int)):mJ e (aBz a b how e):=by
 obtain ⟨hl,_,hro,_⟩:=eOk e hv
 exact cB (fun _=>gK e hv) fun _=>uA (xK _ (vZ e hv _ (vC hl hr).1 2 (by omega)) _ (sU hro (nQ (eL hl) a b))) (by decide)
theorem aDv (t:List Int) (nl:Int) (hn:0≤nl∧nl≤3):mJ e (aGq t nl e):=cB (fun hp=>qI e hv _ (xL hp) nl hn) fun _=>gK e hv
theorem tM (h:Int×List (List UInt8)) (st:Int):mJ e (vW h st e):=cB (fun hk=>uA (aOm h st e hv hk) (by decide)) fun _=>gK e hv
theorem aE0:mJ e (aE1 e):=by
 obtain ⟨hu,hm⟩:=aTs e hv
 obtain ⟨u1,u2⟩:=kX hu
 unfold aE1
 simp only
 refine cB (fun _=>gK e hv) fun c=>uA ?_ (by decide)
 have hlo:=u2 _ (List.mem_of_getElem? (bH (xs:=kY e) (i:=((kY e).length:Int) - 1) ⟨by omega,by omega⟩))
 have hu':gC ((kY e).take ((kY e).length - 1))=true:=by
  unfold gC
  simp only [Bool.and_eq_true,decide_eq_true_eq,List.all_eq_true]
  exact ⟨fun s hs=>u2 s (List.mem_of_mem_take hs),by rw [List.length_take];omega⟩
 generalize at' (kY e) (((kY e).length:Int) - 1)=l at hlo ⊢
 generalize (kY e).take ((kY e).length - 1)=u at hu' ⊢
 obtain ⟨vi,D,G,B_,op,A7,A9,fr,fh,A5,A8,A4,O,A0,Z,A6,A_⟩:=e
 have hi:=uX vi D G B_ op A7 A9 fr fh A5 A8 A4 O A0 Z A6 A_ hv l hlo
 obtain ⟨h1,h2,h3,h4,h5,h6,h7,h8,h9,h10,h11,h12,h13,h14,h15,h16⟩:=cO hv
 exact eT ⟨aAm hlo,h2,h3,by omega,by omega,hi,h7,by omega,h9,hu',h11,h12,h13,h14,h15,h16⟩
theorem aE3:mJ e (aHs e):=by
 obtain ⟨vi,D,G,B_,op,A7,A9,fr,fh,A5,A8,A4,O,A0,Z,A6,A_⟩:=e
 obtain ⟨h1,h2,h3,h4,h5,h6,h7,h8,h9,h10,h11,h12,h13,h14,h15,h16⟩:=cO hv
 refine uA (eT ⟨h1,h2,h1,by omega,by omega,?_,h7,by omega,h9,h10,h11,by omega,h13,by simp,rfl,rfl⟩) (by decide)
 unfold iX
 rw [decide_eq_true (show (0≤(3:Int)∧(3:Int)≤3∧((3:Int)=0→vi=false)∧((3:Int)=1→vi=true)∧((3:Int)=2→vi=true)∧((3:Int)=2→uH G=false)∧((3:Int)≠2→(0:Int)=0∧(0:Int)=0∧(0:Int)=0)∧((0:Int)=0→(0:Int)=0)) from
  ⟨by decide,by decide,fun q=>absurd q (by decide),fun q=>absurd q (by decide),fun q=>absurd q (by decide),fun q=>absurd q (by decide),fun _=>⟨rfl,rfl,rfl⟩,fun _=>rfl⟩)]
 rfl
theorem aC5 (h:Int×List (List UInt8)) (k:Int×Int) (hq:(nL h k e).2.2=true):mJ e ((nL h k e).1,(nL h k e).2.1):=by
 obtain ⟨hl,hc,_⟩:=eOk e hv
 obtain ⟨p0,p1,p2⟩:=bF hl
 have ite3:∀ {c:Prop} [Decidable c] {a b:EdT×Int×Bool},(c→a.2.2=true→mJ e (a.1,a.2.1))→(¬ c→b.2.2=true→mJ e (b.1,b.2.1))→(if c then a else b).2.2=true→mJ e ((if c then a else b).1,(if c then a else b).2.1):=by
  intro c _ a b ha hb
  by_cases q:c
  ·
   rw [if_pos q];exact ha q
  ·
   rw [if_neg q];exact hb q
 have hf:∀ q:EdT×Int,mJ e q→(xR q).2.2=true→mJ e ((xR q).1,(xR q).2.1):=fun q h _=>h
 have he:∀ a:Int,a≠1→mJ e (e,a):=fun a ha=>uA hv ha
 revert hq
 unfold nL aMh
 refine ite3 (fun _=>hf _ (aDv e hv _ 1 (by omega))) fun _=>?_
 refine ite3 (fun _=>hf _ (aDv e hv _ 1 (by omega))) fun _=>?_
 refine ite3 (fun _ _=>he 2 (by decide)) fun _=>?_
 refine ite3 (fun _=>?_) fun _=>?_
 ·
  refine ite3 (fun _ _=>he 3 (by decide)) fun _=>?_
  refine ite3 (fun _ _=>he 5 (by decide)) fun _=>?_
  refine ite3 (fun _=>ite3 (fun _=>hf _ (aD1 e hv _ _ (by omega))) fun _ _=>he 4 (by decide)) fun _=>?_
  refine ite3 (fun _=>hf _ (tZ e hv _ _ _ (by omega))) fun _=>?_
  refine ite3 (fun _=>hf _ (tZ e hv _ _ _ ?_)) fun _ q=>absurd q (by decide)
  have hb:=vV e.2.2.1.1 true e.2.2.1.2.toNat (by omega)
  omega
 refine ite3 (fun _=>hf _ (aD1 e hv _ _ (by omega))) fun _=>?_
 refine ite3 (fun _=>hf _ (aD1 e hv _ _ (by omega))) fun _=>?_
 refine ite3 (fun _=>hf _ (oS e hv _)) fun _=>?_
 refine ite3 (fun _=>hf _ (oS e hv _)) fun _=>?_
 refine ite3 (fun _=>hf _ (oS e hv _)) fun _=>?_
 refine ite3 (fun _=>hf _ (oS e hv _)) fun _=>?_
 refine ite3 (fun _=>hf _ (tM e hv h _)) fun _=>?_
 exact ite3 (fun _=>hf _ (tM e hv h _)) fun _ q=>absurd q (by decide)
theorem aLf (h:Int×List (List UInt8)) (k:Int×Int):mJ e (aD0 h k e):=by
 obtain ⟨hl,hc,hro,_⟩:=eOk e hv
 obtain ⟨p0,p1,p2⟩:=bF hl
 have ho:=aFa e hv
 have hb:=wY e hv
 have hw:=aSe e hv
 have hbell:=gK e hv
 have hcase:∀ how,mJ e (aJg how e):=fun how=>qI e hv _ (aJf hl _ _ how ⟨p0,hw⟩) 0 (by omega)
 unfold aD0 aL6 aRx
 refine cB (fun q=>aC5 e hv h k q) fun _=>?_
 refine cB (fun _=>?_) fun _=>?_
 ·
  refine cB (fun c=>uA ?_ (by decide)) fun _=>?_
  ·
   obtain ⟨vi,D,G,B_,op,A7,A9,fr,fh,A5,A8,A4,O,A0,Z,A6,A_⟩:=e
   obtain ⟨h1,h2,h3,h4,h5,h6,h7,h8,h9,h10,h11,h12,h13,h14,h15,h16⟩:=cO hv
   exact eT ⟨h1,h2,h3,by simp only;omega,h5,h6,h7,h8,h9,h10,h11,h12,h13,h14,h15,h16⟩
  refine cB (fun _=>oS e hv _) fun _=>?_
  refine cB (fun _=>oS e hv _) fun _=>?_
  refine cB (fun _=>tZ e hv _ _ _ ⟨p0,ho⟩) fun _=>?_
  refine cB (fun _=>?_) fun _=>?_
  ·
   unfold aG7 zE
   refine cB (fun _=>hbell) fun _=>cB (fun hq=>?_) fun _=>hbell
   exact uA (vZ _ (xK e hv _ (aHg hro)) _ (xL hq) 3 (by omega)) (by decide)
  refine cB (fun _=>hcase _) fun _=>?_
  refine cB (fun _=>hcase _) fun _=>?_
  exact cB (fun _=>hcase _) fun _=>hbell
 refine cB (fun _=>tZ e hv _ _ _ ⟨hb.1,hb.2,p1⟩) fun _=>?_
 refine cB (fun _=>?_) fun _=>hbell
 refine cB (fun _=>oS e hv _) fun _=>?_
 refine cB (fun _=>oS e hv _) fun _=>?_
 refine cB (fun _=>oS e hv _) fun _=>?_
 refine cB (fun _=>oS e hv _) fun _=>?_
 refine cB (fun _=>tM e hv h _) fun _=>?_
 refine cB (fun _=>tM e hv h _) fun _=>?_
 refine cB (fun _=>tZ e hv _ _ _ (by omega)) fun _=>?_
 refine cB (fun _=>cB (fun _=>hbell) fun _=>aDv e hv _ 3 (by omega)) fun _=>?_
 refine cB (fun _=>?_) fun _=>?_
 ·
  unfold aOl aE2
  refine cB (fun hq=>?_) fun _=>hbell
  split at hq
  ·
   cases hq
  ·
   rename_i c
   rw [if_neg c]
   exact qI e hv _ (aHj hl c) 0 (by omega)
 refine cB (fun _=>aE0 e hv) fun _=>?_
 exact cB (fun _=>aE3 e hv) fun _=>hbell
theorem aL4 (hm:e.2.1=1∨e.2.1=2):e.1=true:=by
 obtain ⟨vi,D,G,B_,op,A7,A9,fr,fh,A5,A8,A4,O,A0,Z,A6,A_⟩:=e
 obtain ⟨h1,h2,h3,h4,h5,h6,h7,h8,h9,h10,h11,h12,h13,h14,h15,h16⟩:=cO hv
 unfold iX at h6
 simp only [Bool.and_eq_true,decide_eq_true_eq] at h6
 obtain ⟨⟨⟨a1,a2,a3,a4,a5,a6,a7,a8⟩,b⟩,c⟩:=h6
 rcases hm with hm | hm
 ·
  exact a4 hm
 ·
  exact a5 hm
theorem aJv (hm:e.2.1=2) (l:List Int×Int) (hl:bP l=true) (a:Int) (ha:0≤a∧a≤(l.1.length:Int)):cF (aQw a (rJ l 0 e))=true:=by
 have hvi:=aL4 e hv (.inr hm)
 obtain ⟨vi,D,G,B_,op,A7,A9,fr,fh,A5,A8,A4,O,A0,Z,A6,A_⟩:=e
 simp only at hm hvi
 subst hm hvi
 obtain ⟨h1,h2,h3,h4,h5,h6,h7,h8,h9,h10,h11,h12,h13,h14,h15,h16⟩:=cO hv
 exact eT ⟨show bP (l.1,a)=true from iY (eL hl) ha.1 ha.2,h2,h3,by omega,by omega,aRb _,h7,by omega,h9,aLy h10 h1,h11,h12,h13,h14,h15,h16⟩
theorem aB3 (hm:e.2.1=2) (x a b:Int) (hr:0≤a∧a≤b∧b≤(e.2.2.1.1.length:Int)):mJ e (kV x a b e):=by
 obtain ⟨hl,_,hro,_⟩:=eOk e hv
 have hro':=sU (how:=0) hro (nQ (eL hl) a b)
 have hv':=xK e hv _ hro'
 have hm':(aBk (lA e.2.2.2.2.2.2.2.2.2.2.1 (bJ e.2.2.1.1 a b) 0) e).2.1=2:=by
  obtain ⟨vi,D,G,B_,op,A7,A9,fr,fh,A5,A8,A4,O,A0,Z,A6,A_⟩:=e
  exact hm
 obtain ⟨c1,c2⟩:=vC hl hr
 have g1:=mI hl a
 have g2:=mI c1 a
 refine cB (fun _=>cB (fun _=>uA (aJv e hv hm _ g1 a (by unfold goL;simp only;omega)) (by decide)) fun _=>gK e hv) fun _=>cB (fun _=>?_) fun _=>cB (fun _=>?_) fun _=>?_
 ·
  exact uA (vZ _ hv' _ g1 0 (by omega)) (by decide)
 ·
  exact uA (aJv _ hv' hm' _ g2 a (by unfold goL;simp only;omega)) (by decide)
 ·
  exact uA (vZ _ hv' _ g2 0 (by omega)) (by decide)
theorem aIm (hm:e.2.1=2) (a:Int) (ha:0≤a∧a≤(e.2.2.1.1.length:Int)):mJ e (yB a e):=uA (aJv e hv hm _ (mI (eOk e hv).1 a) a (by unfold goL;simp only;omega)) (by decide)
theorem aFc (hm:e.2.1=2) (to:Int) (w:Bool):mJ e (aIf to w e):=cB (fun _=>oS e hv to) fun _=>aB3 e hv hm _ _ _ (aBf _ _ _ _)
theorem aFl (hm:e.2.1=2) (r how:Int):mJ e (aIx r how e):=cB (fun _=>aFc e hv hm _ _) fun _=>gK e hv
theorem aMt (hm:e.2.1=2) (k:Int×Int) (hk:kOk k=true) (hw:e.2.2.2.2.2.2.1≠0):mJ e (aHd k e):=by
 have hb:=gK e hv
 unfold aHd
 refine cB (fun _=>hb) fun c1=>?_
 have c1:k.1=1:=Decidable.not_not.1 c1
 refine cB (fun c2=>cB (fun _=>hb) fun c3=>?_) fun c2=>cB (fun _=>?_) fun _=>hb
 ·
  exact qI e hv _ (aL2 e hv k hk c1 c3) 0 (by omega)
 ·
  obtain ⟨w1,_⟩:=aHc e hv k hk c1 hw c2
  have hm':(aMd k.2 (vS e.2.2.2.2.2.2.1) e).2.1=2:=by
   obtain ⟨vi,D,G,B_,op,A7,A9,fr,fh,A5,A8,A4,O,A0,Z,A6,A_⟩:=e
   exact hm
  obtain ⟨f1,f2⟩:=aFl _ w1 hm' k.2 (vS e.2.2.2.2.2.2.1)
  refine ⟨f1,fun q=>?_⟩
  have f2:=f2 q
  obtain ⟨vi,D,G,B_,op,A7,A9,fr,fh,A5,A8,A4,O,A0,Z,A6,A_⟩:=e
  exact f2
theorem aJx:mJ e (aCq e):=by
 obtain ⟨hl,_⟩:=eOk e hv
 obtain ⟨p0,p1,p2⟩:=bF hl
 have hn:=oR e hv
 unfold aCq
 refine cB (fun _=>gK e hv) fun _=>?_
 have ha:=zJ yF aD6 (min (e.2.2.1.2+nV e) (e.2.2.1.1.length:Int) - e.2.2.1.2).toNat _ _ (eL hl) p0 (by omega)
 have hlen:=zI yF (min (e.2.2.1.2+nV e) (e.2.2.1.1.length:Int) - e.2.2.1.2).toNat e.2.2.1.1 e.2.2.1.2
 exact qI e hv _ (iY ha (by omega) (by rw [hlen];omega)) 0 (by omega)
theorem aC6 (a:Int):mJ e (aA0 a e):=by
 have hok:=@xL (goL e.2.2.1 a) (pK (mK (fX e)) (nV e).toNat)
 unfold aA0 aAz
 refine cB (fun _=>gK e hv) fun c=>cB (fun hq=>?_) fun _=>gK e hv
 have hl2:=hok hq
 have hg:=mI hl2 ((qJ (goL e.2.2.1 a) (pK (mK (fX e)) (nV e).toNat)).1.2 - 1)
 have hpos:1≤(qJ (goL e.2.2.1 a) (pK (mK (fX e)) (nV e).toNat)).1.2:=by
  have:=(bF (mI (eOk e hv).1 a)).1
  unfold qJ at hq ⊢
  split at hq
  ·
   rename_i d
   rw [if_pos d]
   simp only [aC4];omega
  ·
   cases hq
 generalize qJ (goL e.2.2.1 a) (pK (mK (fX e)) (nV e).toNat)=z at *
 obtain ⟨l,b⟩:=z
 obtain ⟨r0,r1,r2⟩:=bF hl2
 simp only at r0 r1 r2 hpos hg
 have he:goL l (l.2 - 1)=(l.1,l.2 - 1):=by unfold goL;congr 1;omega
 rw [he] at hg
 exact qI e hv _ hg 0 (by omega)
theorem aNr (hm:e.2.1=2):(∀ n:Int,0≤n∧n≤999→cF (aTa n e)=true)∧(∀ r:Int,(0≤vS r∨r=114)→cF (aLq r e)=true)∧(∀ r:Int,(r=100∨r=99∨r=121)→cF (opW r e)=true)∧cF (jU e.2.2.2.2.2.2.2.2.2.1 e)=true:=by
 obtain ⟨vi,D,G,B_,op,A7,A9,fr,fh,A5,A8,A4,O,A0,Z,A6,A_⟩:=e
 simp only at hm
 subst hm
 have hset:=aBg vi 2 G B_ op A7 A9 fr fh A5 A8 A4 O A0 Z A6 A_ hv A5
 obtain ⟨h1,h2,h3,h4,h5,h6,h7,h8,h9,h10,h11,h12,h13,h14,h15,h16⟩:=cO hv
 refine ⟨fun n hn=>eT ⟨h1,h2,h3,hn,h5,h6,h7,h8,h9,h10,h11,h12,h13,h14,h15,h16⟩,fun r hr=>eT ⟨h1,h2,h3,h4,h5,?_,h7,h8,h9,h10,h11,h12,h13,h14,h15,h16⟩,fun r hr=>eT ⟨h1,h2,h3,by omega,h4,?_,h7,h8,h9,h10,h11,h12,h13,h14,h15,h16⟩,hset h8⟩
 ·
  unfold iX at h6 ⊢
  simp only [Bool.and_eq_true,decide_eq_true_eq] at h6 ⊢
  obtain ⟨⟨⟨a1,a2,a3,a4,a5,a6,a7,a8⟩,b⟩,c⟩:=h6
  refine ⟨⟨⟨a1,a2,a3,a4,a5,a6,fun q=>absurd rfl q,a8⟩,b⟩,?_⟩
  have hw:r=102∨r=70∨r=116∨r=84∨r=114:=by
   rcases hr with hr | hr
   ·
    unfold vS at hr
    by_cases w1:r=102
    ·
     exact .inl w1
    by_cases w2:r=70
    ·
     exact .inr (.inl w2)
    by_cases w3:r=116
    ·
     exact .inr (.inr (.inl w3))
    by_cases w4:r=84
    ·
     exact .inr (.inr (.inr (.inl w4)))
    rw [if_neg w1,if_neg w2,if_neg w3,if_neg w4] at hr
    exact absurd hr (by decide)
   ·
    omega
  rcases hw with rfl | rfl | rfl | rfl | rfl <;> rfl
 ·
  unfold iX at h6 ⊢
  simp only [Bool.and_eq_true,decide_eq_true_eq] at h6 ⊢
  obtain ⟨⟨⟨a1,a2,a3,a4,a5,a6,a7,a8⟩,b⟩,c⟩:=h6
  refine ⟨⟨⟨a1,a2,a3,a4,a5,a6,fun q=>absurd rfl q,fun q=>?_⟩,?_⟩,c⟩
  ·
   omega
  ·
   rcases hr with rfl | rfl | rfl <;> rfl
theorem aS5 (hm:e.2.1=1):cF (aTn e)=true:=by
 have hvi:=aL4 e hv (.inl hm)
 obtain ⟨_,_,_,_,hz,_⟩:=aN0 e hv
 obtain ⟨z1,z2,z3⟩:=hz (by omega)
 obtain ⟨vi,D,G,B_,op,A7,A9,fr,fh,A5,A8,A4,O,A0,Z,A6,A_⟩:=e
 simp only at hm hvi z1 z2 z3
 subst hm hvi z1 z2 z3
 obtain ⟨h1,h2,h3,h4,h5,h6,h7,h8,h9,h10,h11,h12,h13,h14,h15,h16⟩:=cO hv
 obtain ⟨p0,p1,p2⟩:=bF h1
 refine eT ⟨iY (eL h1) (by omega) (by omega),h2,h3,by omega,h5,aL5 _ ?_,h7,by omega,h9,h10,h11,h12,h13,h14,h15,h16⟩
 unfold uH
 by_cases z:0<(G.1.length:Int)
 ·
  rw [decide_eq_true z,decide_eq_false (by simp only;omega)];rfl
 ·
  rw [decide_eq_false z];rfl
theorem aQp (h:Int×List (List UInt8)) (k:Int×Int) (hk:kOk k=true) (hm:e.2.1=1∨e.2.1=2):mJ e (viE h k e):=by
 obtain ⟨hl,hc,_⟩:=eOk e hv
 obtain ⟨p0,p1,p2⟩:=bF hl
 have hn:=oR e hv
 have hb:=gK e hv
 have he:∀ a:Int,a≠1→mJ e (e,a):=fun a ha=>uA hv ha
 have hcb:=aRy e.2.2.1.1 e.2.2.1.2
 unfold viE
 refine cB (fun h2=>?_) fun h2=>cB (fun q=>aC5 e hv h k q) fun _=>cB (fun _=>uA (aS5 e hv (hm.resolve_right h2)) (by decide)) fun _=>hb
 obtain ⟨f1,f2,f3,f4⟩:=aNr e hv h2
 have hsemi:∀ how,mJ e (xV how e):=fun how=>cB (fun _=>hb) fun _=>aFl e hv h2 _ how
 have hmot:∀ r,mJ e (aGl r e):=fun r=>aFc e hv h2 _ _
 have hch:=aB3 e hv h2
 have hst:=fun st=>tM e hv h st
 have hsk:=aE3 e hv
 have hia:=aIm e hv h2
 refine cB (fun hw=>aMt e hv h2 k hk hw) fun _=>cB (fun _=>?_) fun _=>?_
 ·
  unfold aLz
  refine cB (fun q=>uA (f1 _ (by omega)) (by decide)) fun _=>cB (fun q=>uA (f2 _ (.inl q)) (by decide)) fun _=>cB (fun _=>hsemi _) fun _=>cB (fun _=>hsemi _) fun _=>cB (fun q=>uA (f3 _ q.2) (by decide)) fun _=>cB (fun _=>hch _ _ _ (by omega)) fun _=>cB (fun _=>hmot _) fun _=>cB (fun _=>hb) fun _=>?_
  unfold aKn
  refine cB (fun _=>hch _ _ _ (by omega)) fun _=>cB (fun _=>hch _ _ _ (by omega)) fun _=>cB (fun _=>hch _ _ _ (by omega)) fun _=>cB (fun _=>hch _ _ _ (by omega)) fun _=>cB (fun _=>hch _ _ _ (by omega)) fun _=>cB (fun _=>hch _ _ _ (by omega)) fun _=>cB (fun _=>uA (f2 _ (.inr rfl)) (by decide)) fun _=>cB (fun _=>aC6 e hv _) fun _=>cB (fun _=>aC6 e hv _) fun _=>cB (fun _=>aJx e hv) fun _=>cB (fun _=>aE0 e hv) fun _=>cB (fun _=>hst _) fun _=>cB (fun _=>hst _) fun _=>cB (fun _=>hsk) fun _=>cB (fun _=>hia _ (by omega)) fun _=>cB (fun _=>hia _ hcb) fun _=>cB (fun _=>hia _ (by omega)) fun _=>cB (fun _=>hia _ (by omega)) fun _=>hb
 ·
  unfold aLw
  exact cB (fun _=>he 2 (by decide)) fun _=>cB (fun _=>cB (fun _=>hb) fun _=>uA f4 (by decide)) fun _=>cB (fun _=>hst _) fun _=>cB (fun _=>hst _) fun _=>cB (fun _=>hmot _) fun _=>cB (fun _=>hmot _) fun _=>cB (fun _=>hmot _) fun _=>cB (fun _=>hmot _) fun _=>cB (fun _=>hch _ _ _ (by omega)) fun _=>cB (fun _=>he 3 (by decide)) fun _=>cB (fun _=>he 5 (by decide)) fun _=>cB (fun _=>he 4 (by decide)) fun _=>cB (fun _=>hsk) fun _=>hb
theorem aDs (hm:e.2.1=3):cF (aDt e)=true:=by
 obtain ⟨_,_,_,_,hz,_⟩:=aN0 e hv
 obtain ⟨z1,z2,z3⟩:=hz (by omega)
 obtain ⟨vi,D,G,B_,op,A7,A9,fr,fh,A5,A8,A4,O,A0,Z,A6,A_⟩:=e
 simp only at hm z1 z2 z3
 subst hm z1 z2 z3
 obtain ⟨h1,h2,h3,h4,h5,h6,h7,h8,h9,h10,h11,h12,h13,h14,h15,h16⟩:=cO hv
 cases vi
 ·
  exact eT ⟨aAm h1,h2,rfl,h4,h5,aRc _,h7,h8,h9,h10,h11,by omega,h13,by simp,rfl,rfl⟩
 ·
  exact eT ⟨aAm h1,h2,rfl,h4,h5,aL5 _ (aP5 h1),h7,h8,h9,h10,h11,by omega,h13,by simp,rfl,rfl⟩
theorem aMa (h:Int×List (List UInt8)) (q:List Int) (f:Int):cF (aB0 h q f e).1=true:=by
 unfold aB0
 split
 ·
  rename_i c
  unfold shR at c ⊢
  split at c
  ·
   rename_i g
   rw [if_pos g]
   obtain ⟨⟨g1,g2⟩,⟨g3,g4⟩,g5⟩:=g
   unfold aG1 at g5
   simp only [Bool.and_eq_true,decide_eq_true_eq] at g5
   obtain ⟨n1,n2,_⟩:=uC g5.1.1
   simp only
   rw [aMb e hv g2 _ (aGs g5.1.2 g5.2) _ ⟨n1,n2⟩ q,decide_eq_true g3,g4]
   rfl
  ·
   cases c
 ·
  exact hv
theorem aM5 (hm:e.2.1=3) (h:Int×List (List UInt8)) (k:Int×Int):cF (aCg h k e).1=true:=by
 have hbk:=aJj e hv hm
 have hb3:(aQc e).2.1=3:=by
  obtain ⟨vi,D,G,B_,op,A7,A9,fr,fh,A5,A8,A4,O,A0,Z,A6,A_⟩:=e
  exact hm
 have hd:cF (aP0 e)=true:=by
  obtain ⟨vi,D,G,B_,op,A7,A9,fr,fh,A5,A8,A4,O,A0,Z,A6,A_⟩:=e
  simp only at hm
  subst hm
  obtain ⟨h1,h2,h3,h4,h5,h6,h7,h8,h9,h10,h11,h12,h13,h14,h15,h16⟩:=cO hv
  refine eT ⟨h1,h2,h3,h4,h5,h6,h7,h8,h9,h10,h11,h12,h13,by rw [List.length_take];omega,?_,rfl⟩
  rw [List.all_eq_true] at h15 ⊢
  exact fun x hx=>h15 x (List.mem_of_mem_take hx)
 have ite1:∀ {c:Prop} [Decidable c] {a b:EdT×Int},cF a.1=true→cF b.1=true→cF (if c then a else b).1=true:=by
  intro c _ a b ha hb
  split <;> assumption
 have pk:∀ {z:EdT} (a:Int),cF z=true→cF (z,a).1=true:=fun _ h=>h
 unfold aCg
 exact ite1 (aMa e hv h _ _) (ite1 (ite1 (pk 1 hv) (aMa e hv h _ _)) (ite1 (ite1 (pk 1 hv) (pk 0 hd)) (ite1 (pk 2 (aDs e hv hm)) (ite1 (pk 1 (aDs _ hbk hb3)) (pk 0 (aDs e hv hm))))))
end
theorem cN {α β:Type} {m:Option α} {k:α→Option β} {P:α→Prop} {Q:β→Prop} (h:∃ x,m=some x∧P x) (hk:∀ x,P x→∃ y,k x=some y∧Q y):∃ y,aF m k=some y∧Q y:=by
 obtain ⟨x,e,p⟩:=h
 obtain ⟨y,e2,q⟩:=hk x p
 exact ⟨y,(aP e).trans e2,q⟩
theorem sY {α β:Type} {J:α→Option β} {m:(α→Option β)→Option β} (P:α→Prop) {Q:β→Prop} (hJ:∀ z,P z→∃ y,J z=some y∧Q y) (hm:∀ j:α→Option β,(∀ z,P z→∃ y,j z=some y∧Q y)→∃ y,m j=some y∧Q y):∃ y,aT J m=some y∧Q y:=hm J hJ
theorem nP {β:Type} {c:Bool} {a b:Option β} {Q:β→Prop} (ha:c=true→∃ y,a=some y∧Q y) (hb:c=false→∃ y,b=some y∧Q y):∃ y,(bif c then a else b)=some y∧Q y:=by
 cases c
 ·
  exact hb rfl
 ·
  exact ha rfl
def fM (c:List UInt8×Int×Int):Prop:=0≤c.2.1∧c.2.1≤(c.1.length:Int)∧(c.1.length:Int)≤1048576
theorem aN5 (x:BitVec 64) (n:Nat) (hn:n<2 ^ 64):(x &&& BitVec.ofInt 64 (n:Int)).toNat≤n:=by
 rw [BitVec.toNat_and]
 have:(BitVec.ofInt 64 (n:Int)).toNat=n:=by
  rw [BitVec.toNat_ofInt]
  have h:((n:Int) % ((2 ^ 64:Nat):Int))=n:=Int.emod_eq_of_lt (by omega) (by exact_mod_cast hn)
  rw [h];rfl
 rw [this]
 exact Nat.and_le_right
theorem aQf (x:BitVec 64):0≤W (((x &&& BitVec.ofInt 64 255).toNat:Nat):Int)∧W (((x &&& BitVec.ofInt 64 255).toNat:Nat):Int)≤255:=by
 have h:=aN5 x 255 (by decide)
 have h':(x &&& BitVec.ofInt 64 255).toNat≤255:=h
 rw [bV (by omega) (by omega)]
 omega
theorem aAo (c:List UInt8×Int×Int) (hc:fM c):∃ y i h,fQ c=some (y,(c.1,i,h))∧fM (c.1,i,h)∧0≤y∧y≤255:=by
 obtain ⟨h1,h2,h3⟩:=hc
 unfold fQ
 simp only [aT,Bool.cond_decide,aN]
 split
 ·
  rw [if_pos ⟨h1,by assumption⟩]
  exact ⟨_,_,_,rfl,⟨by simp only;rw [bV (by omega) (by omega)];omega,by simp only;rw [bV (by omega) (by omega)];omega,h3⟩,aQf _⟩
 ·
  exact ⟨_,_,_,rfl,⟨h1,h2,h3⟩,aQf _⟩
theorem gB (c:List UInt8×Int×Int) (hc:fM c) (n:Int):∃ y i h,aU c n=some (y,(c.1,i,h))∧fM (c.1,i,h)∧0≤y∧(0<n→y<n)∧(n≤0→y=0):=by
 unfold aU
 simp only [Bool.cond_decide]
 split
 ·
  exact ⟨0,c.2.1,c.2.2,rfl,hc,by omega,by omega,by omega⟩
 ·
  split
  ·
   obtain ⟨y,i,h,e,ho,y0,y1⟩:=aAo _ hc
   have e':fQ (c.1,c.2.1,c.2.2)=_:=e
   rw [aP e']
   simp only [aN]
   rw [if_pos (by omega)]
   exact ⟨_,i,h,rfl,ho,Int.tmod_nonneg _ y0,fun hn=>Int.tmod_lt_of_pos _ hn,by omega⟩
  ·
   obtain ⟨ya,ia,ha,e1,o1,a0,a1⟩:=aAo _ hc
   obtain ⟨yb,ib,hb,e2,o2,b0,b1⟩:=aAo _ o1
   obtain ⟨yc,ic,hcc,e3,o3,c0,c1⟩:=aAo _ o2
   obtain ⟨yd,id,hd,e4,o4,d0,d1⟩:=aAo _ o3
   have e1':fQ (c.1,c.2.1,c.2.2)=_:=e1
   rw [aP e1',aP e2,aP e3,aP e4]
   simp only [aN]
   rw [if_pos (by omega)]
   rw [bV (x:=ya*16777216) (by omega) (by omega),bV (x:=yb*65536) (by omega) (by omega),bV (x:=yc*256) (by omega) (by omega),bV (x:=ya*16777216+yb*65536) (by omega) (by omega),
    bV (x:=ya*16777216+yb*65536+yc*256) (by omega) (by omega),bV (x:=ya*16777216+yb*65536+yc*256+yd) (by omega) (by omega)]
   exact ⟨_,id,hd,rfl,o4,Int.tmod_nonneg _ (by omega),fun hn=>Int.tmod_lt_of_pos _ hn,by omega⟩
theorem aO8 (l:List UInt8) (hl:(l.length:Int)≤1048576):∀ (m:Nat) (h k:Int),0≤k→k≤4000→4000 - k<m→∃ v,aZ (mO l fun x15=>some (l,0,x15)) m (h,k)=some (l,0,v):=by
 intro m
 induction m with
 | zero=>intro h k _ _ h';omega
 | succ m ih=>
  intro h k hk hk' hm
  simp only [aZ,mO,aN,Bool.cond_decide]
  by_cases h1:k<(l.length:Int)
  ·
   by_cases h2:k<4000
   ·
    simp only [h1,h2,hk,if_true,and_self,decide_true]
    rw [bV (x:=k+1) (by omega) (by omega)]
    exact ih _ _ (by omega) (by omega) (by omega)
   ·
    simp only [h1,h2,if_true,decide_false,Bool.false_eq_true,if_false]
    exact ⟨h,rfl⟩
  ·
   simp only [h1,if_false,cond_false]
   exact ⟨h,rfl⟩
theorem aSu (l:List UInt8) (hl:(l.length:Int)≤1048576):∃ h,sM l=some (l,0,h)∧fM (l,0,h):=by
 unfold sM
 simp only [aT]
 obtain ⟨v,hv⟩:=aO8 l hl bO (W (600128+(l.length:Int))) 0 (by omega) (by omega) (by rw [bQ];omega)
 exact ⟨v,hv,⟨by simp,by simp,hl⟩⟩
def aEc (r:Int):Prop:=r ∈ ([97,98,99,120,49,50,32,32,46,45,95,233,4352,20013,128512,47]:List Int)∨(33≤r∧r≤126)∨(160≤r∧r≤459)∨(19968≤r∧r≤21967)
theorem aF2 (c:List UInt8×Int×Int) (hc:fM c):∃ y i h,iD c=some (y,(c.1,i,h))∧fM (c.1,i,h)∧aEc y:=by
 unfold iD
 obtain ⟨y,i,h,e,ho,y0,y1,_⟩:=gB _ hc 12
 have e':aU (c.1,c.2.1,c.2.2) 12=_:=e
 rw [aP e']
 simp only [Bool.cond_decide]
 have two:∀ n,0<n→∃ y2 i2 h2,aU (c.1,i,h) n=some (y2,(c.1,i2,h2))∧fM (c.1,i2,h2)∧0≤y2∧y2<n:=by
  intro n hn
  obtain ⟨y2,i2,h2,e2,o2,p0,p1,_⟩:=gB _ ho n
  exact ⟨y2,i2,h2,e2,o2,p0,p1 hn⟩
 split
 ·
  obtain ⟨y2,i2,h2,e2,o2,p0,p1⟩:=two 16 (by omega)
  rw [aP e2]
  simp only [aN]
  rw [if_pos ⟨p0,p1⟩]
  exact ⟨_,i2,h2,rfl,o2,.inl (List.mem_of_getElem? (bH ⟨p0,p1⟩))⟩
 ·
  split
  ·
   obtain ⟨y2,i2,h2,e2,o2,p0,p1⟩:=two 94 (by omega)
   rw [aP e2]
   simp only
   rw [bV (by omega) (by omega)]
   exact ⟨_,i2,h2,rfl,o2,.inr (.inl ⟨by omega,by omega⟩)⟩
  ·
   split
   ·
    obtain ⟨y2,i2,h2,e2,o2,p0,p1⟩:=two 300 (by omega)
    rw [aP e2]
    simp only
    rw [bV (by omega) (by omega)]
    exact ⟨_,i2,h2,rfl,o2,.inr (.inr (.inl ⟨by omega,by omega⟩))⟩
   ·
    obtain ⟨y2,i2,h2,e2,o2,p0,p1⟩:=two 2000 (by omega)
    rw [aP e2]
    simp only
    rw [bV (by omega) (by omega)]
    exact ⟨_,i2,h2,rfl,o2,.inr (.inr (.inr ⟨by omega,by omega⟩))⟩
theorem aKa (c:List UInt8×Int×Int):∀ (m:Nat) (o:List Int) (n i h:Int),fM (c.1,i,h)→0≤n→n≤100000→(o.length:Int)+n≤100000→n<m→(∀ r ∈ o,aEc r) →
  ∃ l i' h',aZ (jY c fun (x33,x36,x37)=>some (x33,(c.1,x36,x37))) m (o,n,i,h)=some (l,(c.1,i',h'))∧fM (c.1,i',h')∧(l.length:Int)=o.length+n∧∀ r ∈ l,aEc r:=by
 intro m
 induction m with
 | zero=>intro o n i h _ _ _ _ hm;omega
 | succ m ih=>
  intro o n i h hc hn hn' ho hm hd
  simp only [aZ,jY,Bool.cond_decide]
  by_cases h1:0<n
  ·
   rw [if_pos h1]
   obtain ⟨y,i2,h2,e,o2,dy⟩:=aF2 _ hc
   have e':iD (c.1,i,h)=some (y,(c.1,i2,h2)):=e
   rw [aP e']
   simp only [aN]
   rw [if_pos (by simp;omega),bV (by omega) (by omega)]
   obtain ⟨l,i',h',r1,r2,r3,r4⟩:=ih (o ++ [y]) (n - 1) i2 h2 o2 (by omega) (by omega) (by simp;omega) (by omega) (by
    intro r hr
    rcases List.mem_append.1 hr with hr | hr
    ·
     exact hd r hr
    ·
     simp only [List.mem_singleton] at hr;subst hr;exact dy)
   exact ⟨l,i',h',r1,r2,by simp at r3;omega,r4⟩
  ·
   rw [if_neg h1]
   exact ⟨o,i,h,rfl,hc,by omega,hd⟩
theorem aHv (c:List UInt8×Int×Int) (hc:fM c) (most:Int) (hm:0≤most) (hm':most≤1000):∃ l i h,iC c most=some (l,(c.1,i,h))∧fM (c.1,i,h)∧(l.length:Int)≤most∧∀ r ∈ l,aEc r:=by
 unfold iC
 rw [bV (by omega) (by omega)]
 obtain ⟨y,i,h,e,ho,y0,y1,_⟩:=gB _ hc (most+1)
 have e':aU (c.1,c.2.1,c.2.2) (most+1)=_:=e
 rw [aP e']
 simp only [aT]
 have:=y1 (by omega)
 obtain ⟨l,i',h',r1,r2,r3,r4⟩:=aKa c bO [] y i h ho y0 (by omega) (by simp;omega) (by rw [bQ];omega) (by simp)
 exact ⟨l,i',h',r1,r2,by simp at r3;omega,r4⟩
def aB5 (r:Int):Prop:=aEc r∨r=9∨r=10∨(65≤r∧r≤90)
theorem aF0 {p:Int→Prop} {l:List Int} {i:Nat} {v:Int} (h:∀ r ∈ l,p r) (hv:p v):∀ r ∈ List.set l i v,p r:=by
 intro r hr
 rcases List.mem_or_eq_of_mem_set hr with h' | h'
 ·
  exact h r h'
 ·
  subst h';exact hv
theorem aPd (c:List UInt8×Int×Int) (t:List Int) (ht:(t.length:Int)≤1000):∀ (m:Nat) (u:List Int) (k i h:Int),fM (c.1,i,h)→0≤k→k≤(t.length:Int)→u.length=t.length→(t.length:Int) - k<m→0<m→(∀ r ∈ u,aB5 r) →
  ∃ l i' h',aZ (gU c t fun (x101,x104,x105)=>some (x101,(c.1,x104,x105))) m (u,k,i,h)=some (l,(c.1,i',h'))∧fM (c.1,i',h')∧l.length=t.length∧∀ r ∈ l,aB5 r:=by
 intro m
 induction m with
 | zero=>intro u k i h _ _ _ _ _ hm;omega
 | succ m ih=>
  intro u k i h hc hk hk' hu hm _ hd
  simp only [aZ,gU,Bool.cond_decide,aT]
  by_cases h1:k<(t.length:Int)
  ·
   rw [if_pos h1]
   obtain ⟨y,i2,h2,e,o2,y0,y1,_⟩:=gB _ hc 14
   have e':aU (c.1,i,h) 14=some (y,(c.1,i2,h2)):=e
   rw [aP e']
   simp only [aN]
   rw [bV (x:=k+1) (by omega) (by omega)]
   have step:∀ u' i3 h3,fM (c.1,i3,h3)→u'.length=t.length→(∀ r ∈ u',aB5 r) →
     ∃ l i' h',aZ (gU c t fun (x101,x104,x105)=>some (x101,(c.1,x104,x105))) m (u',k+1,i3,h3)=some (l,(c.1,i',h'))∧fM (c.1,i',h')∧l.length=t.length∧∀ r ∈ l,aB5 r:=
    fun u' i3 h3 q1 q2 q3=>ih u' (k+1) i3 h3 q1 (by omega) (by omega) q2 (by omega) (by omega) q3
   by_cases c0:y=0
   ·
    subst c0
    simp only [if_true]
    rw [if_pos ⟨hk,by omega⟩]
    simp only [show ¬ ((0:Int)=1) by decide,show ¬ ((0:Int)=2) by decide,if_false]
    exact step _ _ _ o2 (by simpa using hu) (aF0 hd (.inr (.inl rfl)))
   ·
    simp only [c0,if_false]
    by_cases c1:y=1
    ·
     subst c1
     simp only [if_true]
     rw [if_pos ⟨hk,by omega⟩]
     simp only [show ¬ ((1:Int)=2) by decide,if_false]
     exact step _ _ _ o2 (by simpa using hu) (aF0 hd (.inr (.inr (.inl rfl))))
    ·
     simp only [c1,if_false]
     by_cases c2:y=2
     ·
      subst c2
      simp only [if_true]
      obtain ⟨y3,i3,h3,e3,o3,p0,p1,_⟩:=gB _ o2 26
      have e3':aU (c.1,i2,h2) 26=some (y3,(c.1,i3,h3)):=e3
      rw [aP e3']
      simp only
      have:=p1 (by omega)
      rw [if_pos ⟨hk,by omega⟩,bV (by omega) (by omega)]
      exact step _ _ _ o3 (by simpa using hu) (aF0 hd (.inr (.inr (.inr ⟨by omega,by omega⟩))))
     ·
      simp only [c2,if_false]
      exact step _ _ _ o2 hu hd
  ·
   rw [if_neg h1]
   exact ⟨u,i,h,rfl,hc,hu,hd⟩
theorem aPc (c:List UInt8×Int×Int) (hc:fM c) (most:Int) (hm:0≤most) (hm':most≤1000):∃ l i h,iA c most=some (l,(c.1,i,h))∧fM (c.1,i,h)∧(l.length:Int)≤most∧∀ r ∈ l,aB5 r:=by
 unfold iA
 obtain ⟨t,i,h,e,ho,t1,t2⟩:=aHv _ hc most hm hm'
 have e':iC (c.1,c.2.1,c.2.2) most=_:=e
 rw [aP e']
 simp only [aT]
 obtain ⟨l,i',h',r1,r2,r3,r4⟩:=aPd c t (by omega) bO t 0 i h ho (by omega) (by omega) rfl (by rw [bQ];omega) (by rw [bQ];omega) (fun r hr=>.inl (t2 r hr))
 exact ⟨l,i',h',r1,r2,by omega,r4⟩
theorem aK3 (c:List UInt8×Int×Int) (hc:fM c):∃ t a i h,iB c=some ((t,a),(c.1,i,h))∧fM (c.1,i,h)∧(t.length:Int)≤16∧(∀ r ∈ t,aB5 r)∧0≤a∧a≤(t.length:Int):=by
 unfold iB
 obtain ⟨t,i,h,e,ho,t1,t2⟩:=aPc _ hc 16 (by omega) (by omega)
 have e':iA (c.1,c.2.1,c.2.2) 16=_:=e
 rw [aP e']
 simp only
 rw [bV (by omega) (by omega)]
 obtain ⟨y,i2,h2,e2,o2,y0,y1,_⟩:=gB _ ho ((t.length:Int)+1)
 have e2':aU (c.1,i,h) ((t.length:Int)+1)=_:=e2
 rw [aP e2']
 have:=y1 (by omega)
 exact ⟨t,y,i2,h2,rfl,o2,t1,t2,y0,by omega⟩
def KeyD (k:Int×Int):Prop:=(k.1=1∧aEc k.2)∨(k.1=2∧k.2 ∈ ([97,101,107,117,119,121,98,102,100,116,114,112,110,95,103,99,108,122]:List Int))∨(k.1=3∧k.2 ∈ ([98,102,100,121,117,108,99,91,79,51,45,126]:List Int))∨(4≤k.1∧k.1≤16∧k.2=0)
theorem aSy (c:List UInt8×Int×Int) (hc:fM c):∃ y i h,nR c=some (y,(c.1,i,h))∧fM (c.1,i,h)∧KeyD y:=by
 unfold nR
 obtain ⟨y,i,h,e,ho,y0,y1,_⟩:=gB _ hc 12
 have e':aU (c.1,c.2.1,c.2.2) 12=_:=e
 have e'':aU c 12=_:=e
 rw [aP e'']
 simp only [Bool.cond_decide]
 have two:∀ n,0<n→∃ y2 i2 h2,aU (c.1,i,h) n=some (y2,(c.1,i2,h2))∧fM (c.1,i2,h2)∧0≤y2∧y2<n:=by
  intro n hn
  obtain ⟨y2,i2,h2,e2,o2,p0,p1,_⟩:=gB _ ho n
  exact ⟨y2,i2,h2,e2,o2,p0,p1 hn⟩
 split
 ·
  obtain ⟨y2,i2,h2,e2,o2,p⟩:=aF2 _ ho
  rw [aP e2]
  exact ⟨_,i2,h2,rfl,o2,.inl ⟨rfl,p⟩⟩
 ·
  split
  ·
   obtain ⟨y2,i2,h2,e2,o2,p0,p1⟩:=two 18 (by omega)
   rw [aP e2]
   simp only [aN]
   rw [if_pos ⟨p0,p1⟩]
   exact ⟨_,i2,h2,rfl,o2,.inr (.inl ⟨rfl,List.mem_of_getElem? (bH ⟨p0,p1⟩)⟩)⟩
  ·
   split
   ·
    obtain ⟨y2,i2,h2,e2,o2,p0,p1⟩:=two 12 (by omega)
    rw [aP e2]
    simp only [aN]
    rw [if_pos ⟨p0,p1⟩]
    exact ⟨_,i2,h2,rfl,o2,.inr (.inr (.inl ⟨rfl,List.mem_of_getElem? (bH ⟨p0,p1⟩)⟩))⟩
   ·
    obtain ⟨y2,i2,h2,e2,o2,p0,p1⟩:=two 13 (by omega)
    rw [aP e2]
    simp only
    rw [bV (by omega) (by omega)]
    exact ⟨_,i2,h2,rfl,o2,.inr (.inr (.inr ⟨by simp only;omega,by simp only;omega,rfl⟩))⟩
theorem aNh {r:Int} (h:aB5 r):adm r=true:=by
 have hp:∀ x,aEc x→adm x=true:=by
  intro x hx
  have:pr x=true:=by
   unfold pr
   rcases hx with h | h | h | h
   ·
    simp only [List.mem_cons,List.not_mem_nil,or_false] at h
    rcases h with h | h | h | h | h | h | h | h | h | h | h | h | h | h | h | h <;> subst h <;> decide
   ·
    exact decide_eq_true (by omega)
   ·
    exact decide_eq_true (by omega)
   ·
    exact decide_eq_true (by omega)
  unfold adm;rw [this];rfl
 rcases h with h | h | h | h
 ·
  exact hp r h
 ·
  subst h;decide
 ·
  subst h;decide
 ·
  exact hp r (.inr (.inl (by omega)))
theorem aFe {t:List Int} (h:∀ r ∈ t,aB5 r) (hl:t.length≤400):cT t=true:=by
 unfold cT
 rw [Bool.and_eq_true]
 exact ⟨List.all_eq_true.2 fun r hr=>aNh (h r hr),decide_eq_true hl⟩
theorem aEj (c:List UInt8×Int×Int):∀ (m:Nat) (n:Int) (r:List (List Int)) (i h:Int),fM (c.1,i,h)→0≤n→n≤100→eR r=true→n<m →
  ∃ r' i' h',aZ (lF c fun (x41,x44,x45)=>some (x41,(c.1,x44,x45))) m (n,r,i,h)=some (r',(c.1,i',h'))∧fM (c.1,i',h')∧eR r'=true:=by
 intro m
 induction m with
 | zero=>intro n r i h _ _ _ _ hm;omega
 | succ m ih=>
  intro n r i h hc hn hn' hr hm
  simp only [aZ,lF,Bool.cond_decide]
  by_cases h1:0<n
  ·
   rw [if_pos h1]
   obtain ⟨t,i2,h2,e,o2,t1,t2⟩:=aPc _ hc 5 (by omega) (by omega)
   have e':iA (c.1,i,h) 5=some (t,(c.1,i2,h2)):=e
   rw [aP e']
   obtain ⟨y,i3,h3,e3,o3,y0,y1,_⟩:=gB _ o2 3
   have e3':aU (c.1,i2,h2) 3=some (y,(c.1,i3,h3)):=e3
   have y1:=y1 (by omega)
   simp only
   rw [aP e3']
   have ha:=aFe t2 (by omega)
   rw [aP (aM9 r t y hr ha (by omega)),bV (by omega) (by omega)]
   exact ih (n - 1) _ i3 h3 o3 (by omega) (by omega) (sU hr ha) (by omega)
  ·
   rw [if_neg h1]
   exact ⟨r,i,h,rfl,hc,hr⟩
theorem aH0 (c:List UInt8×Int×Int) (hc:fM c):∃ r i h,oB c=some (r,(c.1,i,h))∧fM (c.1,i,h)∧eR r=true:=by
 unfold oB
 obtain ⟨y,i,h,e,ho,y0,y1,_⟩:=gB _ hc 8
 have e':aU c 8=_:=e
 rw [aP e']
 have y1:=y1 (by omega)
 simp only [aT]
 exact aEj c bO y [] i h ho y0 (by omega) (by decide) (by rw [bQ];omega)
theorem aQy (c:List UInt8×Int×Int) (hc:fM c):∃ y i h,oD c=some (y,(c.1,i,h))∧fM (c.1,i,h)∧1≤y.length∧y.length≤16:=by
 unfold oD
 obtain ⟨y,i,h,e,ho,y0,y1,_⟩:=gB _ hc 12
 have e':aU c 12=_:=e
 rw [aP e']
 have y1:=y1 (by omega)
 simp only [aN]
 rw [if_pos ⟨y0,y1⟩]
 refine ⟨_,i,h,rfl,ho,?_⟩
 have key:∀ t ∈ (([([108,115]:List UInt8),([101,99,104,111,32,97]:List UInt8),([99,97,116,32,98]:List UInt8),([97,32,124,32,98]:List UInt8),([120,61,49]:List UInt8),([105,102,32,97,59,32,116,104,101,110,32,98,59,32,102,105]:List UInt8),([101,99,104,111,32,39,97,10,98,39]:List UInt8),([109,97,107,101]:List UInt8),([108,115,32,45,108]:List UInt8),([101,99,104,111,32,195,169]:List UInt8),([103,105,116,32,108,111,103]:List UInt8),([119]:List UInt8)]:List (List UInt8))),1≤t.length∧t.length≤16:=by decide
 exact key _ (List.mem_of_getElem? (bH ⟨y0,y1⟩))
theorem aS2 {h:Int×List (List UInt8)} (h1:1≤h.1∧h.1≤1000000000∧(h.2.length:Int)≤60) (h2:∀ s ∈ h.2,1≤s.length∧s.length≤16):hOk h=true:=by
 unfold hOk
 simp only [Bool.and_eq_true,decide_eq_true_eq,List.all_eq_true]
 exact ⟨h1,fun s hs=>by have:=h2 s hs;omega⟩
def yI (h:Int×List (List UInt8)):Prop:=(1≤h.1∧h.1≤1000∧(h.2.length:Int)≤60)∧∀ s ∈ h.2,1≤s.length∧s.length≤16
theorem yI.ok {h:Int×List (List UInt8)} (hd:yI h):hOk h=true:=aS2 ⟨hd.1.1,by have:=hd.1.2.1;omega,hd.1.2.2⟩ hd.2
theorem aK9 (h:Int×List (List UInt8)) (hd:yI h) (h9:h.1<1000) (t:List UInt8) (ht:1≤t.length∧t.length≤16):∃ h',qT h t=some (h',true)∧yI h'∧h'.1≤h.1+1:=by
 have hok:=hd.ok
 obtain ⟨⟨d1,d2,d3⟩,d4⟩:=hd
 unfold qT
 have g1:([]:List (List UInt8)).length+h.2.length≤536870912:=by simp;omega
 have g2:(([]:List (List UInt8)) ++ h.2).length+([t]:List (List UInt8)).length≤536870912:=by simp;omega
 have g3:h.2.length+([t]:List (List UInt8)).length≤536870912:=by simp;omega
 simp only [aT,aN,g1,g2,g3,if_true,List.nil_append,Bool.cond_decide]
 have hall:∀ s ∈ h.2 ++ [t],1≤s.length∧s.length≤16:=by
  intro s hs
  rcases List.mem_append.1 hs with hs | hs
  ·
   exact d4 s hs
  ·
   simp only [List.mem_singleton] at hs;subst hs;exact ht
 have fin:∀ h':Int×List (List UInt8),yI h'→(aF (jM h) fun (y30:Bool)=>
   (cA ((!y30)=false) (jM (h'.1,h'.2)) false fun (y32:Bool)=>
   (bif (bif (!y30) then true else (!y32)) then some ((0,[]),false) else some ((h'.1,h'.2),true))))=some (h',true):=by
  intro h' hd'
  rw [aP (aCw h (by omega)),hok]
  have:=aCw h' (by have:=hd'.1.2.2;omega)
  rw [hd'.ok] at this
  have this':jM (h'.1,h'.2)=some true:=this
  rw [this']
  simp [cA,aF]
 by_cases hc:60<((h.2 ++ [t]).length:Int)
 ·
  rw [if_pos hc,if_pos ⟨by omega,by omega,by omega⟩,bV (by omega) (by omega),aFx (by omega)]
  refine ⟨(h.1+1,(h.2 ++ [t]).drop 1),fin (h.1+1,(h.2 ++ [t]).drop 1) ?_,?_,by simp⟩
  all_goals exact ⟨⟨by simp only;omega,by simp only;omega,by simp only [List.length_drop,List.length_append,List.length_cons,List.length_nil];omega⟩,fun s hs=>hall s (List.mem_of_mem_drop hs)⟩
 ·
  rw [if_neg hc]
  have hD:yI (h.1,h.2 ++ [t]):=⟨⟨d1,d2,by simp only;omega⟩,hall⟩
  exact ⟨(h.1,h.2 ++ [t]),fin (h.1,h.2 ++ [t]) hD,hD,by simp only;omega⟩
theorem aEy (c:List UInt8×Int×Int):∀ (m:Nat) (n f:Int) (ls:List (List UInt8)) (i h:Int),fM (c.1,i,h)→0≤n→n≤100→yI (f,ls)→f+n≤900→n<m →
  ∃ r i' h',aZ (jC c fun (x53,x54,x57,x58)=>some ((x53,x54),(c.1,x57,x58))) m (n,f,ls,i,h)=some (r,(c.1,i',h'))∧fM (c.1,i',h')∧yI r∧r.1≤f+n:=by
 intro m
 induction m with
 | zero=>intro n f ls i h _ _ _ _ _ hm;omega
 | succ m ih=>
  intro n f ls i h hc hn hn' hd hf hm
  simp only [aZ,jC,Bool.cond_decide]
  by_cases h1:0<n
  ·
   rw [if_pos h1]
   obtain ⟨t,i2,h2,e,o2,t1,t2⟩:=aQy _ hc
   have e':oD (c.1,i,h)=some (t,(c.1,i2,h2)):=e
   rw [aP e']
   obtain ⟨h',e3,d3,l3⟩:=aK9 (f,ls) hd (by simp only;omega) t ⟨t1,t2⟩
   have l3':h'.1≤f+1:=l3
   rw [aP e3,bV (by omega) (by omega)]
   obtain ⟨r,i',h'',r1,r2,r3,r4⟩:=ih (n - 1) h'.1 h'.2 i2 h2 o2 (by omega) (by omega) d3 (by omega) (by omega)
   exact ⟨r,i',h'',r1,r2,r3,by omega⟩
  ·
   rw [if_neg h1]
   exact ⟨(f,ls),i,h,rfl,hc,hd,by simp only;omega⟩
theorem aIu (c:List UInt8×Int×Int) (hc:fM c):∃ r i h,oA c=some (r,(c.1,i,h))∧fM (c.1,i,h)∧yI r∧r.1<1000:=by
 unfold oA
 obtain ⟨y,i,h,e,ho,y0,y1,_⟩:=gB _ hc 5
 have e':aU c 5=_:=e
 rw [aP e']
 have y1:=y1 (by omega)
 obtain ⟨z,i2,h2,e2,o2,z0,z1,_⟩:=gB _ ho 8
 simp only
 rw [aP e2]
 have z1:=z1 (by omega)
 obtain ⟨v,i3,h3,e3,o3,v0,v1,_⟩:=gB _ o2 12
 simp only [aT,Bool.cond_decide]
 rw [aP e3]
 have fin:∀ n i h,0≤n→n≤62→fM (c.1,i,h)→∃ r i' h',aZ (jC c fun (x53,x54,x57,x58)=>some ((x53,x54),(c.1,x57,x58))) bO (n,(W (1+y)),([]:List (List UInt8)),i,h)=some (r,(c.1,i',h'))∧fM (c.1,i',h')∧yI r∧r.1<1000:=by
  intro n i h hn hn' hcu
  rw [bV (by omega) (by omega)]
  obtain ⟨r,i',h',r1,r2,r3,r4⟩:=aEy c bO n (1+y) [] i h hcu hn (by omega) ⟨⟨by simp only;omega,by simp only;omega,by simp⟩,by simp⟩ (by omega) (by rw [bQ];omega)
  exact ⟨r,i',h',r1,r2,r3,by omega⟩
 simp only
 split
 ·
  obtain ⟨u,i4,h4,e4,o4,u0,u1,_⟩:=gB _ o3 4
  have u1:=u1 (by omega)
  rw [aP e4]
  rw [bV (x:=59+u) (by omega) (by omega)]
  exact fin (59+u) i4 h4 (by omega) (by omega) o4
 ·
  exact fin z i3 h3 z0 (by omega) o3
section
variable (s:List UInt8)
def iN (i h:Int):Prop:=fM (s,i,h)
theorem dT (i h:Int) (hc:iN s i h) (n:Int):∃ x,aU (s,i,h) n=some x∧(iN s x.2.2.1 x.2.2.2∧0≤x.1∧(0<n→x.1<n)):=by
 obtain ⟨y,i',h',e,o,p,q,_⟩:=gB (s,i,h) hc n
 exact ⟨_,e,o,p,q⟩
theorem aCi (i h:Int) (hc:iN s i h):∃ x,iB (s,i,h)=some x∧(iN s x.2.2.1 x.2.2.2∧bP x.1=true∧x.1.1.length≤400):=by
 obtain ⟨t,a,i',h',e,o,p,q,r1,r2⟩:=aK3 (s,i,h) hc
 have ha:=aFe q (by omega)
 exact ⟨_,e,o,by unfold bP;rw [ha,decide_eq_true ⟨r1,r2⟩];rfl,by simp only;omega⟩
theorem aQ6 (i h:Int) (hc:iN s i h):∃ x,oB (s,i,h)=some x∧(iN s x.2.2.1 x.2.2.2∧eR x.1=true):=by
 obtain ⟨r,i',h',e,o,p⟩:=aH0 (s,i,h) hc
 exact ⟨_,e,o,p⟩
theorem aQ4 (i h:Int) (hc:iN s i h):∃ x,iD (s,i,h)=some x∧iN s x.2.2.1 x.2.2.2:=by
 obtain ⟨r,i',h',e,o,p⟩:=aF2 (s,i,h) hc
 exact ⟨_,e,o⟩
theorem aOq (i h:Int) (hc:iN s i h) (n:Int) (h0:0≤n) (h1:n≤1000):∃ x,iC (s,i,h) n=some x∧(iN s x.2.2.1 x.2.2.2∧(x.1.length:Int)≤n):=by
 obtain ⟨r,i',h',e,o,p,_⟩:=aHv (s,i,h) hc n h0 h1
 exact ⟨_,e,o,p⟩
theorem aPe (i h:Int) (hc:iN s i h):∃ x,nR (s,i,h)=some x∧iN s x.2.2.1 x.2.2.2:=by
 obtain ⟨r,i',h',e,o,p⟩:=aSy (s,i,h) hc
 exact ⟨_,e,o⟩
theorem aRn (i h:Int) (hc:iN s i h):∃ x,oA (s,i,h)=some x∧(iN s x.2.2.1 x.2.2.2∧(x.1.2.length:Int)≤60):=by
 obtain ⟨r,i',h',e,o,p,_⟩:=aIu (s,i,h) hc
 exact ⟨_,e,o,p.1.2.2⟩
theorem aPy (b:Bool):xP b=some (b,(if b then 1 else 0),([],0),0,0,0,0,0,0,0,[],[],0,([],0),[],0,([],0)):=by cases b <;> rfl
set_option maxHeartbeats 1000000 in
theorem aTr (i h:Int) (hc:iN s i h):∃ x,qN (s,i,h)=some x∧(iN s x.2.2.1 x.2.2.2∧oV 1048576 x.1):=by
 unfold qN
 refine cN (dT s i h hc 2) fun x1 p1=>?_
 refine cN (P:=fun x=>x=_) ⟨_,aPy _,rfl⟩ fun x2 p2=>?_
 subst p2
 refine cN (aCi s _ _ p1.1) fun x3 p3=>?_
 refine cN (aQ6 s _ _ p3.1) fun x4 p4=>?_
 obtain ⟨q4,r4⟩:=p4
 obtain ⟨r1,r2⟩:=gX r4
 have hr:x4.1.length≤1048576∧∀ p ∈ x4.1,p.length≤1048576:=⟨by omega,fun p hp=>by have:=gO (r2 p hp).1;omega⟩
 have hl:=p3.2.2
 generalize (decide (x1.1=0))=b
 refine sY (fun z=>iN s z.2.1 z.2.2∧(z.1.length≤1048576∧∀ p ∈ z.1,p.1.length≤1048576)) ?_ ?_
 ·
  rintro ⟨u,i1,h1⟩ ⟨c1,hu⟩
  refine cN (dT s _ _ c1 4) fun x5 p5=>?_
  refine sY (fun z=>iN s z.2.1 z.2.2) ?_ ?_
  ·
   rintro ⟨cn,i2,h2⟩ c2
   refine sY (fun z=>iN s z.2.2.1 z.2.2.2) ?_ ?_
   ·
    rintro ⟨fr,fh,i3,h3⟩ c3
    refine sY (fun z=>iN s z.2.2.2.1 z.2.2.2.2∧z.2.1.length≤400) ?_ ?_
    ·
     rintro ⟨nv,ot,oa,i4,h4⟩ ⟨c4,ho⟩
     refine sY (fun z=>iN s z.2.2.2.2.2.2.2.2.2.2.2.2.2.2.2.2.1 z.2.2.2.2.2.2.2.2.2.2.2.2.2.2.2.2.2∧z.2.2.2.2.2.2.2.2.2.2.2.2.1.length≤400∧z.2.2.2.2.2.2.2.2.2.2.2.2.2.2.1.length≤400) ?_ ?_
     ·
      rintro ⟨a1,a2,a3,a4,a5,a6,a7,a8,a9,a10,a11,a12,a13,a14,a15,a16,a17,a18⟩ ⟨c5,hq,hb⟩
      simp only at hq hb ho
      exact ⟨_,rfl,c5,show x3.1.1.length≤1048576 by omega,hr,hu,show ot.length≤1048576 by omega,show a13.length≤1048576 by omega,show a15.length≤1048576 by omega⟩
     ·
      intro j hj
      have hcall:∀ k:Int×List UInt8×Int×Int→Option (EdQ×List UInt8×Int×Int),(∀ z,iN s z.2.2.1 z.2.2.2→∃ y,k z=some y∧(iN s y.2.2.1 y.2.2.2∧oV 1048576 y.1))→∃ y,cA (b=true) (aU (s,i4,h4) 3) ((0:Int),(s,i4,h4)) k=some y∧(iN s y.2.2.1 y.2.2.2∧oV 1048576 y.1):=by
       intro k hk
       cases b
       ·
        rw [uF (by decide)]
        exact hk _ c4
       ·
        unfold cA
        rw [if_pos rfl]
        exact cN (dT s _ _ c4 3) fun x p=>hk x p.1
      refine hcall _ fun x6 p6=>?_
      refine nP (fun _=>?_) fun _=>?_
      ·
       have hp3:=(bF p3.2.1).2.1
       have hcl:=aTb b 2 x3.1 cn 0 0 0 fr fh x5.1 x4.1 u nv (ot,oa) [] 0 ([],0) (by omega)
       refine cN (P:=fun x=>x=_) ⟨_,hcl,rfl⟩ fun x7 p7=>?_
       subst p7
       refine cN (dT s _ _ p6 8) fun x8 p8=>?_
       refine sY (fun z=>iN s z.2.2.1 z.2.2.2) ?_ ?_
       ·
        rintro ⟨o1,o2,i5,h5⟩ c5
        refine cN (dT s _ _ c5 4) fun x9 p9=>?_
        refine nP (fun _=>?_) fun _=>?_
        ·
         refine cN (dT s _ _ p9.1 5) fun x10 p10=>?_
         have hlen:(([102,70,116,84,114]:List Int).length:Int)=5:=rfl
         have:=p10.2.2 (by omega)
         simp only [aN]
         rw [if_pos ⟨p10.2.1,by rw [hlen];exact this⟩]
         exact hj _ ⟨p10.1,by simp,by simp⟩
        ·
         exact hj _ ⟨p9.1,by simp,by simp⟩
       ·
        intro j2 hj2
        refine nP (fun hc3=>?_) fun _=>?_
        ·
         have hlt:x8.1<3:=of_decide_eq_true hc3
         have hlen:(([100,99,121]:List Int).length:Int)=3:=rfl
         simp only [aN]
         rw [if_pos ⟨p8.2.1,by rw [hlen];exact hlt⟩]
         refine cN (dT s _ _ p8.1 4) fun x9 p9=>?_
         exact hj2 _ p9.1
        ·
         exact hj2 _ p8.1
      ·
       refine cN (dT s _ _ p6 4) fun x7 p7=>?_
       refine nP (fun _=>?_) fun _=>?_
       ·
        refine cN (aOq s _ _ p7.1 2 (by omega) (by omega)) fun x8 p8=>?_
        refine cN (dT s _ _ p8.1 6) fun x9 p9=>?_
        refine cN (aCi s _ _ p9.1) fun x10 p10=>?_
        exact hj _ ⟨p10.1,by have:=p8.2;simp only;omega,p10.2.2⟩
       ·
        exact hj _ ⟨p7.1,by simp,by simp⟩
    ·
     intro j hj
     refine cN (dT s _ _ c3 4) fun x6 p6=>?_
     refine nP (fun _=>?_) fun _=>?_
     ·
      refine cN (dT s _ _ p6.1 6) fun x7 p7=>?_
      refine cN (aCi s _ _ p7.1) fun x8 p8=>?_
      exact hj _ ⟨p8.1,p8.2.2⟩
     ·
      exact hj _ ⟨p6.1,by simp⟩
   ·
    intro j hj
    refine cN (dT s _ _ c2 3) fun x6 p6=>?_
    refine nP (fun _=>?_) fun _=>?_
    ·
     refine cN (aQ4 s _ _ p6.1) fun x7 p7=>?_
     refine cN (dT s _ _ p7 4) fun x8 p8=>?_
     exact hj _ p8.1
    ·
     exact hj _ p6.1
  ·
   intro j hj
   refine cN (dT s _ _ p5.1 3) fun x6 p6=>?_
   refine nP (fun _=>?_) fun _=>?_
   ·
    refine cN (dT s _ _ p6.1 4) fun x7 p7=>?_
    exact hj _ p7.1
   ·
    exact hj _ p6.1
 ·
  intro j hj
  refine cN (dT s _ _ q4 2) fun x5 p5=>?_
  refine nP (fun _=>?_) fun _=>?_
  ·
   refine cN (aCi s _ _ p5.1) fun x6 p6=>?_
   have hp:=aMv [] x6.1 rfl p6.2.1 (by simp) (by simp) (by have:=p6.2.2;omega)
   refine cN (P:=fun x=>x=_) ⟨_,hp,rfl⟩ fun x7 p7=>?_
   subst p7
   obtain ⟨u1,u2⟩:=kX (aL0 (u:=[]) rfl p6.2.1)
   exact hj _ ⟨p6.1,by simp only;omega,fun p hp=>by have:=(bF (u2 p hp)).2.2;omega⟩
  ·
   exact hj _ ⟨p5.1,by simp,by simp⟩
theorem aPg (i h:Int) (hc:iN s i h):∃ x,sK (s,i,h)=some x∧iN s x.2.2.1 x.2.2.2:=by
 unfold sK
 refine cN (dT s i h hc 8) fun x1 p1=>?_
 refine nP (fun _=>?_) fun _=>nP (fun _=>?_) fun _=>nP (fun _=>?_) fun _=>?_
 ·
  refine cN (dT s _ _ p1.1 17) fun x2 p2=>?_
  simp only [aN]
  rw [if_pos ⟨p2.2.1,p2.2.2 (by omega)⟩]
  exact ⟨_,rfl,p2.1⟩
 ·
  refine cN (dT s _ _ p1.1 10) fun x2 p2=>?_
  simp only [aN]
  rw [if_pos ⟨p2.2.1,p2.2.2 (by omega)⟩]
  exact ⟨_,rfl,p2.1⟩
 ·
  refine cN (dT s _ _ p1.1 13) fun x2 p2=>?_
  exact ⟨_,rfl,p2.1⟩
 ·
  refine cN (aPe s _ _ p1.1) fun x2 p2=>?_
  exact ⟨_,rfl,p2⟩
theorem aPf (i h:Int) (hc:iN s i h):∃ x,sJ (s,i,h)=some x∧iN s x.2.2.1 x.2.2.2:=by
 unfold sJ
 refine cN (dT s i h hc 10) fun x1 p1=>?_
 refine nP (fun _=>?_) fun _=>nP (fun _=>?_) fun _=>?_
 ·
  refine cN (dT s _ _ p1.1 45) fun x2 p2=>?_
  simp only [aN]
  rw [if_pos ⟨p2.2.1,p2.2.2 (by omega)⟩]
  exact ⟨_,rfl,p2.1⟩
 ·
  refine cN (dT s _ _ p1.1 13) fun x2 p2=>?_
  exact ⟨_,rfl,p2.1⟩
 ·
  refine cN (aPe s _ _ p1.1) fun x2 p2=>?_
  exact ⟨_,rfl,p2⟩
theorem aRd (hl:(s.length:Int)≤1048576):∃ x,mR s=some x∧(oV 1048576 x.1∧(x.2.1.2.length:Int)≤1048576):=by
 unfold mR
 obtain ⟨h0,e0,o0⟩:=aSu s hl
 rw [aP e0]
 refine cN (aTr s 0 h0 o0) fun x1 p1=>?_
 refine cN (aRn s _ _ p1.1) fun x2 p2=>?_
 refine cN (aPg s _ _ p2.1) fun x3 p3=>?_
 refine sY (fun z=>True) ?_ ?_
 ·
  rintro ⟨a,b,i,h⟩ _
  refine sY (fun z=>True) ?_ ?_
  ·
   rintro ⟨a',b'⟩ _
   exact ⟨_,rfl,p1.2,by have:=p2.2;simp only;omega⟩
  ·
   intro j hj
   refine cN (P:=fun _=>True) ⟨_,aRg (a,b),trivial⟩ fun x4 _=>?_
   exact nP (fun _=>hj _ trivial) fun _=>hj _ trivial
 ·
  intro j hj
  refine nP (fun _=>?_) fun _=>hj _ trivial
  exact cN (aPf s _ _ p3) fun x4 _=>hj _ trivial
end
theorem aJ9 (l:List Int) (hl:(l.length:Int)≤100000000):oZ l l=some true:=by
 have loop:∀ (m:Nat) (k:Int),0≤k→k≤(l.length:Int)→(l.length:Int) - k<m→aZ (jZ l l fun _=>some true) m k=some true:=by
  intro m
  induction m with
  | zero=>intro k _ _ h;omega
  | succ m ih=>
   intro k h0 hk hm
   simp only [aZ,jZ,aN]
   by_cases h:k<(l.length:Int)
   ·
    rw [decide_eq_true h,cond_true,if_pos ⟨h0,h⟩,if_pos ⟨h0,h⟩,decide_true,Bool.not_true,cond_false,bV (by omega) (by omega)]
    exact ih _ (by omega) (by omega) (by omega)
   ·
    rw [decide_eq_false h,cond_false]
 unfold oZ
 rw [decide_eq_true rfl,Bool.not_true,cond_false]
 exact loop bO 0 (by omega) (by omega) (by rw [bQ];omega)
theorem law_FnBell (l:List UInt8):vH l=some true:=by
 unfold vH
 by_cases hl:(1048576:Int)<(l.length:Int)
 ·
  rw [decide_eq_true hl];rfl
 rw [decide_eq_false hl,cond_false]
 obtain ⟨⟨e,h,k⟩,em,hs,hh⟩:=aRd l (by omega)
 rw [aP em]
 simp only at hs hh ⊢
 have hz:cF zEd=true:=rfl
 have key:∃ q:EdT×Int,uQ e h k=some q∧cF q.1=true∧(q.2=1→e.2.1≠3→aTv e q.1):=by
  unfold uQ
  by_cases m0:e.2.1=0
  ·
   rw [decide_eq_true m0]
   refine ⟨emR h k e,aK (em_i h hh k e hs) rfl,?_⟩
   unfold emR
   by_cases c:(cF e && hOk h && kOk k)=true∧e.2.1=0
   ·
    rw [if_pos c]
    have c1:=c.1
    simp only [Bool.and_eq_true] at c1
    obtain ⟨k1,k2⟩:=aLf e c1.1.1 h k
    exact ⟨k1,fun q _=>k2 q⟩
   ·
    rw [if_neg c]
    exact ⟨hz,fun q=>absurd q (by decide)⟩
  rw [decide_eq_false m0]
  by_cases m3:e.2.1=3
  ·
   rw [decide_eq_true m3]
   refine ⟨skR h k e,aK (aOp h hh k e hs) rfl,?_,fun _ q=>absurd m3 q⟩
   unfold skR
   by_cases c:(cF e && hOk h && kOk k)=true∧e.2.1=3
   ·
    rw [if_pos c]
    have c1:=c.1
    simp only [Bool.and_eq_true] at c1
    exact aM5 e c1.1.1 m3 h k
   ·
    rw [if_neg c];exact hz
  rw [decide_eq_false m3]
  refine ⟨viR h k e,aK (vi_i h hh k e hs) rfl,?_⟩
  unfold viR
  by_cases c:(cF e && hOk h && kOk k)=true∧(e.2.1=1∨e.2.1=2)
  ·
   rw [if_pos c]
   have c1:=c.1
   simp only [Bool.and_eq_true] at c1
   obtain ⟨k1,k2⟩:=aQp e c1.1.1 h k c1.2 c.2
   exact ⟨k1,fun q _=>k2 q⟩
  ·
   rw [if_neg c]
   exact ⟨hz,fun q=>absurd q (by decide)⟩
 obtain ⟨⟨z,a⟩,e1,ok,same⟩:=key
 rw [aP e1]
 have eok:lS z=some true:=by
  have:=aGx z (oL (by omega) (aJ5 z ok))
  rw [show cF z=true from ok] at this
  exact this
 simp only at same ⊢
 by_cases c:a=1∧e.2.1≠3
 ·
  rw [decide_eq_true c.1,decide_eq_false c.2]
  simp only [Bool.not_true,cond_false]
  obtain ⟨s1,s2,s3,s4,s5⟩:=same c.1 c.2
  have hlen:(z.2.2.1.1.length:Int)≤1048576:=by have:=(bF (eOk z ok).1).2.2;omega
  rw [aP eok,s1,s2,s3,s4,s5]
  rw [aG3 (aJ9 e.2.2.1.1 (by rw [s1] at hlen;omega)) rfl]
  simp
 ·
  rw [show (bif (!decide (a=1)) then true else decide (e.2.1=3))=true by
   by_cases x:a=1
   ·
    by_cases y:e.2.1=3
    ·
     simp [x,y]
    ·
     exact absurd ⟨x,y⟩ c
   ·
    simp [x]]
  exact aK eok rfl
end Go.Eng
namespace Go.Proofs.YtlpgcohnjhomgaaGreat.fnBell
open Go.ChangeShapes Go.WideShapes Go.ChangeAt Go.RowKit Go.Eng
open Go.ChangeMaps (open_string shut_string)
theorem own:ownKnob Tryz.prog.godebug=none:=by kernel_rfl
theorem laidOut:laidOutB Tryz.prog=true:=by kernel_rfl
set_option maxRecDepth 100000 in
theorem lifted (os:Os) (started:os.Started) (H:Type) (enc:TypeId×Value→H) :
  ReturnsInHanded {} Tryz.checked os 7 .any (Rows.fnBellSpec.pre6 enc Tryz.prog Tryz.f7 Rows.fnBellRow.domain false) (Rows.fnBellSpec.post enc Tryz.prog Tryz.f7 false true false false):=by
 refine returnsInHanded_of_change_shaped (C:=Tryz.checked) own started (by kernel_rfl) Tryz.func7
  (ChangeSpec.witness6 (enc:=enc) (C:=Tryz.checked) false ⟨#[],#[.slice none 0 0],[]⟩ 8 (by kernel_rfl) (by kernel_rfl) (by kernel_rfl) (by kernel_rfl)) ?_
 intro W base args ds gs before hval0 hW hcnd _ hsh _
 have hval:∀ (j:Nat) t v,Tryz.f7.params[j]?=some t→args[j]?=some v→Value.okWide Tryz.prog W .any base t v:=hval0
 have hW':=hW
 obtain ⟨p,q,hA0,hV,rfl,hfz,hnd⟩:=hW
 have hA:DataW.TrodAll enc Tryz.prog W 0 (fun _=>true) true Tryz.f7.params.toList args.toList ds p:=hA0
 rw [Tryz.params7] at hA hval
 obtain ⟨v0,vs0,d0,ds0,p0,q0,hargs,rfl,rfl,h0,r0⟩:=trodAll_cons hA
 obtain ⟨rfl,rfl,rfl⟩:=trodAll_nil r0
 obtain rfl:args=#[v0]:=by cases args;simp_all
 obtain ⟨rfl,rfl⟩:=trodVars_none hV
 have k0:=h0
 have lt0:∀ x ∈ p0,x.block<W.heap.size:=by obtain ⟨m,hm⟩:=k0;exact DataW.trod_lt m _ _ _ hm
 obtain ⟨sa0,sl0,sc0,rfl⟩:=okWide_slice Tryz.underlying69 (hval 0 69 v0 rfl rfl)
 obtain ⟨m0,hm0⟩:=h0
 obtain ⟨x0,L0,rep0,wf0⟩:=aOi 16 m0 69 (.sl .byte) _ _ (by kernel_rfl) hm0
 refine aOz rep0 ?_
 intro b0_0 c0_0 e0 f0
 have e0':some [.slice b0_0 x0.length c0_0]=some [Value.slice sa0 sl0 sc0]:=e0
 obtain ⟨rfl,rfl,rfl⟩:b0_0=sa0∧x0.length=sl0∧c0_0=sc0:=by cases e0';exact ⟨rfl,rfl,rfl⟩
 have f0':∀ f ∈ ([⟨.byte,⟨b0_0,x0.length,c0_0⟩,x0⟩]:List Fact),∃ L,f.rep false W L:=f0
 obtain ⟨gm0,Lg0,fg0⟩:=aFt (P:=Tryz.prog) (g:=0) (t:=3) (zero:=#[.int .i64 0]) hsh (of_decide_eq_true (by kernel_rfl)) (by kernel_rfl) rfl (by kernel_rfl) (by kernel_rfl) Tryz.underlying3
 clear hA0 hval0
 simp only [List.append_nil] at hW'
 have walk:Calls Tryz.prog 7 #[.slice b0_0 x0.length c0_0] W fun e w'=>e=.returned (.bool true)∧Below W.heap.size W w':=by
  have h:=ok_l_FnBell x0 b0_0 c0_0 _ rfl gm0 true (law_FnBell x0 )
  refine Calls.mono (h.calls W ?_) ?_
  ·
   intro x hx
   rcases List.mem_cons.1 hx with rfl | hx
   ·
    exact f0' _ List.mem_cons_self
   rcases List.mem_cons.1 hx with rfl | hx
   ·
    exact ⟨_,fg0⟩
   cases hx
  ·
   rintro e w' ⟨r,-,he,hk,-⟩
   exact ⟨he,hk.below⟩
 refine walk.mono fun e W' ⟨he,bel⟩=>?_
 subst he
 exact ⟨_,rfl,_,_,_,[],_,[],hW',trodAll_mk1 (shut_bool Tryz.underlying4 _),(trodAll_cons_mk (Below.trod laidOut (by kernel_rfl) (of_decide_eq_true (by kernel_rfl)) k0 bel lt0) trodAll_mk0),rfl,bel.frame _,fun h=>by cases h⟩
theorem andI {a b:Bool} (ha:a=true) (hb:b=true):(a && b)=true:=by rw [ha,hb];rfl
set_option maxHeartbeats 8000000 in
theorem closed:joinedFacts Tryz.checked.prog 7 Tryz.f7 Rows.fnBellSpec Rows.fnBellRow=true:=by
 unfold joinedFacts
 (repeat' with_reducible refine andI ?_ ?_) <;> as_aux_lemma=>kernel_rfl
theorem over:Rows.fnBellRow.holds Tryz.pinned (OpenSpec.ofChange Rows.fnBellSpec):=
 OpenClaim.holds_of_wide 7 Tryz.f7 rfl rfl rfl rfl rfl rfl rfl ⟨rfl,rfl,rfl,rfl,rfl⟩ rfl rfl rfl rfl rfl (by kernel_rfl) Tryz.func7 closed
  (of_decide_eq_true (by kernel_rfl)) (by unfold Func.isWrapper;first | (rw [if_pos (by decide +kernel)];kernel_rfl) | (rw [if_neg (by decide +kernel)];exact ⟨rfl,rfl⟩))
  (fun os started H enc _=>lifted os started H enc)
theorem proved:Rows.FnBellSaid:=over
#print axioms proved
end Go.Proofs.YtlpgcohnjhomgaaGreat.fnBell
