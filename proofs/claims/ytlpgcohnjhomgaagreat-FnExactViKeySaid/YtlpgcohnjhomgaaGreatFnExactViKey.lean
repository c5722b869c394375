/- FnExactViKey: for every input the given law returns true and leaves its arguments as they were. No condition. -/
import Derived.Test.YtlpgcohnjhomgaaGreatFnExactViKeyLawA
import Derived.Test.YtlpgcohnjhomgaaGreatRows
import Derived.WalkKit
import Derived.ProofKit
import Derived.OpenShut
import Derived.ShutString
set_option linter.unusedVariables false
set_option linter.unusedSimpArgs false
namespace Go.Eng
open Go Go.Proofs
section
variable (e:EdT) (hv:cG e=true)
include hv
theorem eOk:bO e.2.2.1=true∧(0≤e.2.2.2.1∧e.2.2.2.1≤999)∧gC e.2.2.2.2.2.2.2.2.2.2.1=true∧(0≤e.2.2.2.2.2.2.2.2.2.1∧e.2.2.2.2.2.2.2.2.2.1≤3):=by
 obtain ⟨vi,G,D,A9,op,A7,A8,fr,fh,A6,A4,A0,J,Z,O,A5,A_⟩:=e
 obtain ⟨h1,h2,h3,h4,h5,h6,h7,h8,h9,h10,h11,h12,h13,h14,h15,h16⟩:=eC hv
 exact ⟨h1,h4,h9,h8⟩
theorem tK:dA 400 e:=by
 obtain ⟨vi,G,D,A9,op,A7,A8,fr,fh,A6,A4,A0,J,Z,O,A5,A_⟩:=e
 exact sM hv
theorem fM:cZ e=some (jD e):=by
 obtain ⟨vi,G,D,A9,op,A7,A8,fr,fh,A6,A4,A0,J,Z,O,A5,A_⟩:=e
 exact aTs vi G D A9 op A7 A8 fr fh A6 A4 A0 J Z O A5 A_ hv
theorem iA:cH e=some (jD e):=by
 obtain ⟨vi,G,D,A9,op,A7,A8,fr,fh,A6,A4,A0,J,Z,O,A5,A_⟩:=e
 exact aTr vi G D A9 op A7 A8 fr fh A6 A4 A0 J Z O A5 A_ hv
theorem aJs (l:List Int×Int) (hl:bO l=true) (nl:Int):oW e l nl=some (sN l nl e):=by
 obtain ⟨vi,G,D,A9,op,A7,A8,fr,fh,A6,A4,A0,J,Z,O,A5,A_⟩:=e
 exact aPq vi G D A9 op A7 A8 fr fh A6 A4 A0 J Z O A5 A_ hv l hl nl
theorem aBs (l:List Int×Int) (hl:bO l=true):iH e l=some (sN l 0 e,0):=by
 obtain ⟨vi,G,D,A9,op,A7,A8,fr,fh,A6,A4,A0,J,Z,O,A5,A_⟩:=e
 exact aVb vi G D A9 op A7 A8 fr fh A6 A4 A0 J Z O A5 A_ hv l hl
theorem aJc (a:Int):gK e a=some (goE a e):=by
 obtain ⟨vi,G,D,A9,op,A7,A8,fr,fh,A6,A4,A0,J,Z,O,A5,A_⟩:=e
 exact aWb vi G D A9 op A7 A8 fr fh A6 A4 A0 J Z O A5 A_ hv a
theorem uV:dZ e=some e:=by
 obtain ⟨vi,G,D,A9,op,A7,A8,fr,fh,A6,A4,A0,J,Z,O,A5,A_⟩:=e
 exact aKz vi G D A9 op A7 A8 fr fh A6 A4 A0 J Z O A5 A_ hv
theorem hZ:cA e=some e:=by
 obtain ⟨vi,G,D,A9,op,A7,A8,fr,fh,A6,A4,A0,J,Z,O,A5,A_⟩:=e
 exact aKy vi G D A9 op A7 A8 fr fh A6 A4 A0 J Z O A5 A_ hv
theorem aDb (l:List Int×Int) (hl:bO l=true) (nl:Int) (hn:0≤nl∧nl≤3):dW e l true nl=some (sN l nl e,0):=by
 obtain ⟨vi,G,D,A9,op,A7,A8,fr,fh,A6,A4,A0,J,Z,O,A5,A_⟩:=e
 exact aGv vi G D A9 op A7 A8 fr fh A6 A4 A0 J Z O A5 A_ hv l hl nl hn
theorem aOc (l:List Int×Int) (hl:l.1.length≤1048576) (wl:l.2≤9223372036854775807) (nl:Int):dW e l false nl=some (jD e):=by
 obtain ⟨vi,G,D,A9,op,A7,A8,fr,fh,A6,A4,A0,J,Z,O,A5,A_⟩:=e
 unfold dW
 refine aI (aP9 vi G D A9 op A7 A8 fr fh A6 A4 A0 J Z O A5 A_ (cM (by omega) (sM hv)) l hl nl wl) ?_
 exact aI (iA _ hv) rfl
theorem aAp:cG (jD e).1=true:=by
 obtain ⟨vi,G,D,A9,op,A7,A8,fr,fh,A6,A4,A0,J,Z,O,A5,A_⟩:=e
 exact aLp vi G D A9 op A7 A8 fr fh A6 A4 A0 J Z O A5 A_ hv 0 (by omega)
theorem lT (l:List Int×Int) (hl:bO l=true) (nl:Int) (hn:0≤nl∧nl≤3):cG (sN l nl e)=true:=by
 obtain ⟨vi,G,D,A9,op,A7,A8,fr,fh,A6,A4,A0,J,Z,O,A5,A_⟩:=e
 exact aUf vi G D A9 op A7 A8 fr fh A6 A4 A0 J Z O A5 A_ hv l hl nl hn
theorem aIt (r:List (List Int)) (hr:gC r=true):cG (aIu r e)=true:=by
 obtain ⟨vi,G,D,A9,op,A7,A8,fr,fh,A6,A4,A0,J,Z,O,A5,A_⟩:=e
 exact aFx vi G D A9 op A7 A8 fr fh A6 A4 A0 J Z O A5 A_ hv r hr
theorem aE7 (a b:Int) (hr:0≤a∧a≤b∧b≤(e.2.2.1.1.length:Int)):aE2 e.2.2.1 a b=(tX e.2.2.1 a b,bU e.2.2.1.1 a b,true):=by
  unfold aE2;rw [(eOk e hv).1,decide_eq_true hr];rfl
theorem aTl (a b:Int) (hr:0≤a∧a≤b∧b≤(e.2.2.1.1.length:Int)):yQ e a b=some (aDt a b e):=by
 obtain ⟨hl,_⟩:=eOk e hv
 obtain ⟨p0,p1,p2⟩:=bB hl
 have hcut:=aDp e.2.2.1 a b (by omega)
 rw [aE7 e hv a b hr] at hcut
 obtain ⟨c1,c2⟩:=tW hl hr
 have hsl:=yB e.2.2.1.1 a b hr
 unfold yQ aDt
 rw [aO hcut]
 simp only [Bool.not_true,cond_true]
 by_cases hab:a=b
 ·
  rw [if_pos hab,decide_eq_true (by omega)]
  exact aI (fM e hv) rfl
 ·
  rw [if_neg hab,decide_eq_false (by omega)]
  exact aI (aBs e hv _ c1) rfl
theorem aSz (a b how:Int) (hr:0≤a∧a≤b∧b≤(e.2.2.1.1.length:Int)) (hh:0≤how∧how≤2):xR e a b how=some (zA a b how e):=by
 obtain ⟨hl,_,hro,_⟩:=eOk e hv
 obtain ⟨p0,p1,p2⟩:=bB hl
 have hcut:=aDp e.2.2.1 a b (by omega)
 rw [aE7 e hv a b hr] at hcut
 obtain ⟨c1,c2⟩:=tW hl hr
 have hsl:=yB e.2.2.1.1 a b hr
 unfold xR zA
 rw [aO hcut]
 simp only [Bool.not_true,cond_true]
 by_cases hab:a=b
 ·
  rw [if_pos hab,decide_eq_true (by omega)]
  exact aI (fM e hv) rfl
 ·
  rw [if_neg hab,decide_eq_false (by omega)]
  simp only [cond_false,aS]
  by_cases hk:e.2.2.2.2.2.2.2.2.2.1=2
  ·
   rw [if_pos hk,decide_eq_true hk]
   exact aI (aJs e hv _ c1 2) (aI (aDf _ _ how hro (kC (eT hl) a b) hh) rfl)
  ·
   rw [if_neg hk,decide_eq_false hk]
   exact aI (aJs e hv _ c1 2) (aI (aDf _ _ 0 hro (kC (eT hl) a b) (by omega)) rfl)
theorem aTk (a' b':Int) (hab':a'≤b'):pF e a' b'=some (aDt (max 0 (min a' (e.2.2.1.1.length:Int))) (max 0 (min b' (e.2.2.1.1.length:Int))) e):=by
 obtain ⟨hl,_⟩:=eOk e hv
 obtain ⟨p0,p1,p2⟩:=bB hl
 unfold pF aDt
 simp only [aS]
 rw [aO (cL a' _ (by omega)),aO (cL b' _ (by omega))]
 have hr:0≤max 0 (min a' (e.2.2.1.1.length:Int))∧max 0 (min a' (e.2.2.1.1.length:Int))≤max 0 (min b' (e.2.2.1.1.length:Int))∧max 0 (min b' (e.2.2.1.1.length:Int))≤(e.2.2.1.1.length:Int):=by omega
 generalize max 0 (min a' (e.2.2.1.1.length:Int))=a at *
 generalize max 0 (min b' (e.2.2.1.1.length:Int))=b at *
 have hcut:=aDo e.2.2.1 a b (by omega)
 rw [aE7 e hv a b hr] at hcut
 obtain ⟨c1,c2⟩:=tW hl hr
 rw [aO hcut]
 simp only [cond_true]
 by_cases hab:a=b
 ·
  rw [if_pos hab,decide_eq_false (by omega)]
  have:=(bB c1)
  exact aI (aOc e hv (tX e.2.2.1 a b) (by omega) (by omega) 0) rfl
 ·
  rw [if_neg hab,decide_eq_true (by omega)]
  exact aI (aDb e hv (tX e.2.2.1 a b) c1 0 (by omega)) rfl
theorem aSy (a' b' how:Int) (hab':a'≤b') (hh:0≤how∧how≤2):qB e a' b' how=some (zA (max 0 (min a' (e.2.2.1.1.length:Int))) (max 0 (min b' (e.2.2.1.1.length:Int))) how e):=by
 obtain ⟨hl,_,hro,_⟩:=eOk e hv
 obtain ⟨p0,p1,p2⟩:=bB hl
 unfold qB zA
 simp only [aS]
 rw [aO (cL a' _ (by omega)),aO (cL b' _ (by omega))]
 have hr:0≤max 0 (min a' (e.2.2.1.1.length:Int))∧max 0 (min a' (e.2.2.1.1.length:Int))≤max 0 (min b' (e.2.2.1.1.length:Int))∧max 0 (min b' (e.2.2.1.1.length:Int))≤(e.2.2.1.1.length:Int):=by omega
 generalize max 0 (min a' (e.2.2.1.1.length:Int))=a at *
 generalize max 0 (min b' (e.2.2.1.1.length:Int))=b at *
 have hcut:=aDo e.2.2.1 a b (by omega)
 rw [aE7 e hv a b hr] at hcut
 obtain ⟨c1,c2⟩:=tW hl hr
 have hsub:=kC (eT hl) a b
 rw [aO hcut]
 simp only [cond_true]
 by_cases hab:a=b
 ·
  rw [if_pos hab,decide_eq_false (show ¬ ((tX e.2.2.1 a b).1.length:Int)<(e.2.2.1.1.length:Int) by omega)]
  have:=(bB c1)
  have hf:=aOc e hv (tX e.2.2.1 a b) (by omega) (by omega) 2
  cases decide (e.2.2.2.2.2.2.2.2.2.1=2)
  ·
   exact aI hf rfl
  ·
   exact aI hf rfl
 ·
  rw [if_neg hab,decide_eq_true (show ((tX e.2.2.1 a b).1.length:Int)<(e.2.2.1.1.length:Int) by omega)]
  have hs:=aDb e hv (tX e.2.2.1 a b) c1 2 (by omega)
  by_cases hk:e.2.2.2.2.2.2.2.2.2.1=2
  ·
   rw [if_pos hk,decide_eq_true hk]
   refine aI hs ?_
   exact aI (aDe _ _ how hro hsub hh) rfl
  ·
   rw [if_neg hk,decide_eq_false hk]
   refine aI hs ?_
   exact aI (aDe _ _ 0 hro hsub (by omega)) rfl
theorem aVj (t:List Int) (ht:t.length≤1000) (nl:Int):rW e t nl=some (aB0 t nl e):=by
 obtain ⟨hl,_⟩:=eOk e hv
 have hp:=aI4 e.2.2.1 t hl ht
 have ho:=@aA6 e.2.2.1 t
 unfold rW aB0
 rw [aO hp]
 generalize nS e.2.2.1 t=q at ho
 obtain ⟨l,b⟩:=q
 cases b
 ·
  exact aI (fM e hv) rfl
 ·
  exact aI (aJs e hv l (ho rfl) nl) rfl
theorem aVi (t:List Int) (ht:t.length≤1000) (nl:Int) (hn:0≤nl∧nl≤3):rU e t nl=some (aB0 t nl e):=by
 obtain ⟨hl,_⟩:=eOk e hv
 have hp:=aI3 e.2.2.1 t hl ht
 have ho:=@aA6 e.2.2.1 t
 have hz:(nS e.2.2.1 t).2=false→(nS e.2.2.1 t).1=([],0):=by
  unfold nS
  split
  ·
   intro h;cases h
  ·
   intro _;rfl
 unfold rU aB0
 rw [aO hp]
 generalize nS e.2.2.1 t=q at ho hz
 obtain ⟨l,b⟩:=q
 cases b
 ·
  obtain rfl:l=([],0):=hz rfl
  exact aI (aOc e hv _ (by simp) (by simp) nl) rfl
 ·
  exact aI (aDb e hv l (ho rfl) nl hn) rfl
end
theorem aFl (h:Int×List (List UInt8)) (st:Int) (e:EdT) (hk:(uL h st e).2=true):(uL h st e).1.2.2.2.2.2.2.2.2.2.2.2.1=[]:=by
 obtain ⟨vi,G,D,A9,op,A7,A8,fr,fh,A6,A4,A0,J,Z,O,A5,A_⟩:=e
 simp only [uL] at hk ⊢
 generalize (if J=0 then eV h+1 else J)+st=N at *
 split at hk
 ·
  rename_i c1
  rw [if_pos c1]
  split
  ·
   rfl
  ·
   rename_i c2
   rw [if_neg c2] at hk
   split
   ·
    rfl
   ·
    rename_i c3
    rw [if_neg c3] at hk
    cases hk
 ·
  cases hk
section
variable (e:EdT) (hv:cG e=true) (h:Int×List (List UInt8)) (hl:(h.2.length:Int)≤1048576)
include hv hl
theorem aA5 (st:Int):oN e h st=some (yW h st e):=by
 have hu:=aFl h st e
 have hs:rX e h st=some (uL h st e):=by
  obtain ⟨vi,G,D,A9,op,A7,A8,fr,fh,A6,A4,A0,J,Z,O,A5,A_⟩:=e
  exact aTf vi G D A9 op A7 A8 fr fh A6 A4 A0 J Z O A5 A_ (cM (by omega) (sM hv)) h hl st
 unfold oN yW
 rw [aO hs]
 generalize uL h st e=q at hu
 obtain ⟨z,b⟩:=q
 cases b
 ·
  exact aI (fM e hv) rfl
 ·
  obtain ⟨vi,G,D,A9,op,A7,A8,fr,fh,A6,A4,A0,J,Z,O,A5,A_⟩:=z
  obtain rfl:A0=[]:=hu rfl
  rfl
theorem aA4 (st:Int):gE e h st=some (yW h st e):=by
 have hu:=aFl h st e
 have hs:rV e h st=some (uL h st e):=by
  obtain ⟨vi,G,D,A9,op,A7,A8,fr,fh,A6,A4,A0,J,Z,O,A5,A_⟩:=e
  exact aTe vi G D A9 op A7 A8 fr fh A6 A4 A0 J Z O A5 A_ (cM (by omega) (sM hv)) h hl st
 unfold gE yW
 rw [aO hs]
 generalize uL h st e=q at hu
 obtain ⟨z,b⟩:=q
 cases b
 ·
  exact aI (iA e hv) rfl
 ·
  obtain ⟨vi,G,D,A9,op,A7,A8,fr,fh,A6,A4,A0,J,Z,O,A5,A_⟩:=z
  obtain rfl:A0=[]:=hu rfl
  rfl
end
theorem aK2 {α β:Type} {c:Prop} [Decidable c] {m:Option α} {x d:α} {k:α→Option β} (h:m=some x) (hc:c):bW c m d k=k x:=by
  rw [h,aRv hc]
def kOk (k:Int×Int):Bool:=
 if k.1=1 then pr k.2
 else if k.1=2 then decide (k.2=95∨(97≤k.2∧k.2≤122∧k.2≠104∧k.2≠105∧k.2≠106∧k.2≠109))
 else if k.1=3 then decide (33≤k.2∧k.2≤126)
 else decide (4≤k.1∧k.1≤16∧k.2=0)
theorem aUo (k:Int×Int):xU k=some (kOk k):=by
 unfold xU kOk
 simp only [vP,aF,Bool.cond_decide,gG,dK,cE]
 by_cases h1:k.1=1
 ·
  rw [if_pos h1,if_pos h1]
 rw [if_neg h1,if_neg h1]
 by_cases h2:k.1=2
 ·
  rw [if_pos h2,if_pos h2]
  congr 1
  by_cases q1:k.2=95
  ·
   simp [q1]
  ·
   by_cases q2:97≤k.2 <;> by_cases q3:k.2≤122 <;> simp [q1,q2,q3,Bool.and_assoc]
 rw [if_neg h2,if_neg h2]
 by_cases h3:k.1=3
 ·
  rw [if_pos h3,if_pos h3]
  congr 1
  by_cases q2:33≤k.2 <;> simp [q2]
 rw [if_neg h3,if_neg h3]
 congr 1
 by_cases q2:4≤k.1 <;> by_cases q3:k.1≤16 <;> simp [q2,q3]
theorem aPy (k:Int×Int):uF k=some (kOk k):=by
 unfold uF kOk
 simp only [vO,aF,Bool.cond_decide]
 by_cases h1:k.1=1
 ·
  rw [if_pos h1,if_pos h1]
 rw [if_neg h1,if_neg h1]
 by_cases h2:k.1=2
 ·
  rw [if_pos h2,if_pos h2]
  congr 1
  by_cases q1:k.2=95
  ·
   simp [q1]
  ·
   by_cases q2:97≤k.2 <;> by_cases q3:k.2≤122 <;> simp [q1,q2,q3,Bool.and_assoc]
 rw [if_neg h2,if_neg h2]
 by_cases h3:k.1=3
 ·
  rw [if_pos h3,if_pos h3]
  congr 1
  by_cases q2:33≤k.2 <;> simp [q2]
 rw [if_neg h3,if_neg h3]
 congr 1
 by_cases q2:4≤k.1 <;> by_cases q3:k.1≤16 <;> simp [q2,q3]
def aBb (p:EdT×Int):EdT×Int×Bool:=(p.1,p.2,true)
def aJg (r:Int) (e:EdT):EdT×Int×Bool:=
 if r=99 then (e,3,true) else if r=108 then (e,5,true)
 else if r=100 then (if 0<(e.2.2.1.1.length:Int) then aBb (aDt e.2.2.1.2 (min (e.2.2.1.2+max e.2.2.2.1 1) (e.2.2.1.1.length:Int)) e) else (e,4,true))
 else if r=117 then aBb (zA 0 e.2.2.1.2 2 e)
 else if r=119 then aBb (zA (tL e.2.2.1.1 true e.2.2.1.2.toNat) e.2.2.1.2 2 e)
 else (zEd,0,false)
def iQ (h:Int×List (List UInt8)) (k:Int×Int) (e:EdT):EdT×Int×Bool:=
 if k.1=1 then aBb (aB0 (List.replicate (max e.2.2.2.1 1).toNat k.2) 1 e)
 else if k.1=6 then aBb (aB0 (List.replicate (max e.2.2.2.1 1).toNat 9) 1 e)
 else if k.1=4 then (e,2,true)
 else if k.1=2 then aJg k.2 e
 else if k.1=5 then aBb (aDt (max (e.2.2.1.2 - max e.2.2.2.1 1) 0) e.2.2.1.2 e)
 else if k.1=14 then aBb (aDt e.2.2.1.2 (min (e.2.2.1.2+max e.2.2.2.1 1) (e.2.2.1.1.length:Int)) e)
 else if k.1=11 then aBb (goE (e.2.2.1.2 - max e.2.2.2.1 1) e)
 else if k.1=10 then aBb (goE (e.2.2.1.2+max e.2.2.2.1 1) e)
 else if k.1=12 then aBb (goE 0 e)
 else if k.1=13 then aBb (goE (e.2.2.1.1.length:Int) e)
 else if k.1=8 then aBb (yW h (-1) e)
 else if k.1=9 then aBb (yW h 1 e)
 else (zEd,0,false)
theorem aMz (e:EdT) (hv:cG e=true) (r n nl:Int):aB0 (List.replicate (min n 401).toNat r) nl e=aB0 (List.replicate n.toNat r) nl e:=by
 unfold aB0
 rw [aSp (eOk e hv).1]
theorem n_s (e:EdT):xI e=some (max e.2.2.2.1 1):=by
 unfold xI
 rw [Bool.cond_decide]
 split
 ·
  rw [show max e.2.2.2.1 1=1 by omega]
 ·
  rw [show max e.2.2.2.1 1=e.2.2.2.1 by omega]
section
variable (e:EdT) (hv:cG e=true)
include hv
theorem aWi (r:Int):oP e r=some (aJg r e):=by
 obtain ⟨hl,hc,_⟩:=eOk e hv
 obtain ⟨p0,p1,p2⟩:=bB hl
 unfold oP aJg
 rw [aO (uV e hv),bK (x:=e.2.2.1.2+max e.2.2.2.1 1) (by omega) (by omega)]
 simp only [aS,Bool.cond_decide]
 by_cases c1:r=99
 ·
  rw [if_pos c1,if_pos c1]
 rw [if_neg c1,if_neg c1]
 by_cases c1:r=108
 ·
  rw [if_pos c1,if_pos c1]
 rw [if_neg c1,if_neg c1]
 by_cases c1:r=100
 ·
  rw [if_pos c1,if_pos c1]
  by_cases c2:0<(e.2.2.1.1.length:Int)
  ·
   rw [if_pos c2,if_pos c2]
   exact aI (aTl e hv _ _ (by omega)) rfl
  ·
   rw [if_neg c2,if_neg c2]
 rw [if_neg c1,if_neg c1]
 by_cases c1:r=117
 ·
  rw [if_pos c1,if_pos c1]
  exact aI (aSz e hv _ _ _ (by omega) (by omega)) rfl
 rw [if_neg c1,if_neg c1]
 by_cases c1:r=119
 ·
  rw [if_pos c1,if_pos c1]
  obtain ⟨n,hn⟩:∃ n:Nat,e.2.2.1.2=(n:Int):=⟨e.2.2.1.2.toNat,by omega⟩
  have hb:=sK e.2.2.1.1 true n (by omega)
  have hw:=aM1 e.2.2.1.1 (by omega) true n (by omega)
  rw [hn,Int.toNat_natCast]
  refine aI hw ?_
  exact aI (aSz e hv _ _ _ (by omega) (by omega)) rfl
 rw [if_neg c1,if_neg c1]
 rfl
variable (h:Int×List (List UInt8)) (hh:(h.2.length:Int)≤1048576)
include hh
theorem aUl (k:Int×Int):xP e h k=some (iQ h k e):=by
 obtain ⟨hl,hc,_⟩:=eOk e hv
 obtain ⟨p0,p1,p2⟩:=bB hl
 have hgo:∀ a:Int,aF (eE e.2.2.1 a) (fun l=>iH e l)=some (goE a e):=by
  intro a
  exact aI (wN _ a (by omega)) (aBs e hv _ (iS hl a))
 have hput:∀ a:Int,eE e.2.2.1 a=some (goL e.2.2.1 a):=fun a=>wN _ a (by omega)
 have hput2:∀ a:Int,iH e (goL e.2.2.1 a)=some (goE a e):=fun a=>aBs e hv _ (iS hl a)
 unfold xP iQ
 rw [bK (x:=e.2.2.1.2+max e.2.2.2.1 1) (by omega) (by omega),bK (x:=e.2.2.1.2 - max e.2.2.2.1 1) (by omega) (by omega)]
 simp only [aS,Bool.cond_decide]
 by_cases c1:k.1=1
 ·
  rw [if_pos c1,if_pos c1,← aMz e hv]
  exact aI (aPm _ _ (by omega) (by omega)) (aI (aVj e hv _ (by rw [List.length_replicate];omega) 1) rfl)
 rw [if_neg c1,if_neg c1]
 by_cases c1:k.1=6
 ·
  rw [if_pos c1,if_pos c1,← aMz e hv]
  exact aI (aPm _ _ (by omega) (by omega)) (aI (aVj e hv _ (by rw [List.length_replicate];omega) 1) rfl)
 rw [if_neg c1,if_neg c1]
 by_cases c1:k.1=4
 ·
  rw [if_pos c1,if_pos c1]
  exact aI (uV e hv) rfl
 rw [if_neg c1,if_neg c1]
 by_cases c1:k.1=2
 ·
  rw [if_pos c1,if_pos c1]
  exact aI (aWi e hv _) rfl
 rw [if_neg c1,if_neg c1]
 by_cases c1:k.1=5
 ·
  rw [if_pos c1,if_pos c1]
  exact aI (aTl e hv _ _ (by omega)) rfl
 rw [if_neg c1,if_neg c1]
 by_cases c1:k.1=14
 ·
  rw [if_pos c1,if_pos c1]
  exact aI (aTl e hv _ _ (by omega)) rfl
 rw [if_neg c1,if_neg c1]
 by_cases c1:k.1=11
 ·
  rw [if_pos c1,if_pos c1]
  exact aI (hput _) (aI (hput2 _) rfl)
 rw [if_neg c1,if_neg c1]
 by_cases c1:k.1=10
 ·
  rw [if_pos c1,if_pos c1]
  exact aI (hput _) (aI (hput2 _) rfl)
 rw [if_neg c1,if_neg c1]
 by_cases c1:k.1=12
 ·
  rw [if_pos c1,if_pos c1]
  exact aI (hput _) (aI (hput2 _) rfl)
 rw [if_neg c1,if_neg c1]
 by_cases c1:k.1=13
 ·
  rw [if_pos c1,if_pos c1]
  exact aI (hput _) (aI (hput2 _) rfl)
 rw [if_neg c1,if_neg c1]
 by_cases c1:k.1=8
 ·
  rw [if_pos c1,if_pos c1]
  exact aI (aA5 e hv h hh _) rfl
 rw [if_neg c1,if_neg c1]
 by_cases c1:k.1=9
 ·
  rw [if_pos c1,if_pos c1]
  exact aI (aA5 e hv h hh _) rfl
 rw [if_neg c1,if_neg c1]
 rfl
def aQb (q:EdT×Int×Bool):EdT×Int:=if q.2.2=true then (q.1,q.2.1) else (zEd,-1)
theorem aUk (k:Int×Int):nJ e h k=some (aQb (iQ h k e)):=by
 obtain ⟨hl,hc,_⟩:=eOk e hv
 obtain ⟨p0,p1,p2⟩:=bB hl
 obtain ⟨kk,kr⟩:=k
 unfold nJ iQ
 rw [aO (n_s e),bK (x:=e.2.2.1.2+max e.2.2.2.1 1) (by omega) (by omega),bK (x:=e.2.2.1.2 - max e.2.2.2.1 1) (by omega) (by omega)]
 simp only [aS,Bool.cond_decide]
 by_cases c1:kk=1
 ·
  subst c1
  simp only [Int.reduceEq,if_true,if_false]
  exact aI (aSw _ _ (by omega) (by omega)) (aI (aVi e hv _ (by rw [List.length_replicate];omega) 1 (by omega)) rfl)
 by_cases c2:kk=6
 ·
  subst c2
  simp only [Int.reduceEq,if_true,if_false]
  exact aI (aSw _ _ (by omega) (by omega)) (aI (aVi e hv _ (by rw [List.length_replicate];omega) 1 (by omega)) rfl)
 by_cases c3:kk=4
 ·
  subst c3
  simp only [Int.reduceEq,if_true,if_false]
  exact aI (hZ e hv) rfl
 by_cases c5:kk=5
 ·
  subst c5
  simp only [Int.reduceEq,if_true,if_false]
  refine aI (aTk e hv _ _ (by omega)) ?_
  rw [show max 0 (min (e.2.2.1.2 - max e.2.2.2.1 1) (e.2.2.1.1.length:Int))=max (e.2.2.1.2 - max e.2.2.2.1 1) 0 by omega,show max 0 (min e.2.2.1.2 (e.2.2.1.1.length:Int))=e.2.2.1.2 by omega]
  rfl
 by_cases c6:kk=14
 ·
  subst c6
  simp only [Int.reduceEq,if_true,if_false]
  refine aI (aTk e hv _ _ (by omega)) ?_
  rw [show max 0 (min (e.2.2.1.2+max e.2.2.2.1 1) (e.2.2.1.1.length:Int))=min (e.2.2.1.2+max e.2.2.2.1 1) (e.2.2.1.1.length:Int) by omega,show max 0 (min e.2.2.1.2 (e.2.2.1.1.length:Int))=e.2.2.1.2 by omega]
  rfl
 by_cases c7:kk=11
 ·
  subst c7
  simp only [Int.reduceEq,if_true,if_false]
  exact aI (aJc e hv _) rfl
 by_cases c8:kk=10
 ·
  subst c8
  simp only [Int.reduceEq,if_true,if_false]
  exact aI (aJc e hv _) rfl
 by_cases c9:kk=12
 ·
  subst c9
  simp only [Int.reduceEq,if_true,if_false]
  exact aI (aJc e hv _) rfl
 by_cases c10:kk=13
 ·
  subst c10
  simp only [Int.reduceEq,if_true,if_false]
  exact aI (aJc e hv _) rfl
 by_cases c11:kk=8
 ·
  subst c11
  simp only [Int.reduceEq,if_true,if_false]
  exact aI (aA4 e hv h hh _) rfl
 by_cases c12:kk=9
 ·
  subst c12
  simp only [Int.reduceEq,if_true,if_false]
  exact aI (aA4 e hv h hh _) rfl
 by_cases c13:kk=2
 ·
  subst c13
  simp only [Int.reduceEq,if_true,if_false,aJg]
  by_cases d1:kr=99
  ·
   rw [if_pos d1,if_pos d1]
   exact aI (hZ e hv) rfl
  rw [if_neg d1,if_neg d1]
  by_cases d1:kr=108
  ·
   rw [if_pos d1,if_pos d1]
   exact aI (hZ e hv) rfl
  rw [if_neg d1,if_neg d1]
  by_cases d1:kr=100
  ·
   rw [if_pos d1,if_pos d1]
   by_cases c2:0<(e.2.2.1.1.length:Int)
   ·
    rw [if_pos c2,if_neg (by omega)]
    refine aI (aTk e hv _ _ (by omega)) ?_
    rw [show max 0 (min (e.2.2.1.2+max e.2.2.2.1 1) (e.2.2.1.1.length:Int))=min (e.2.2.1.2+max e.2.2.2.1 1) (e.2.2.1.1.length:Int) by omega,show max 0 (min e.2.2.1.2 (e.2.2.1.1.length:Int))=e.2.2.1.2 by omega]
    rfl
   ·
    rw [if_neg c2,if_pos (by omega)]
    exact aI (hZ e hv) rfl
  rw [if_neg d1,if_neg d1]
  by_cases d1:kr=117
  ·
   rw [if_pos d1,if_pos d1]
   refine aI (aSy e hv _ _ _ (by omega) (by omega)) ?_
   rw [show max 0 (min 0 (e.2.2.1.1.length:Int))=0 by omega,show max 0 (min e.2.2.1.2 (e.2.2.1.1.length:Int))=e.2.2.1.2 by omega]
   rfl
  rw [if_neg d1,if_neg d1]
  by_cases d1:kr=119
  ·
   rw [if_pos d1,if_pos d1]
   obtain ⟨n,hn⟩:∃ n:Nat,e.2.2.1.2=(n:Int):=⟨e.2.2.1.2.toNat,by omega⟩
   have hb:=sK e.2.2.1.1 true n (by omega)
   have hw:=aLv e.2.2.1.1 (by omega) true n (by omega)
   rw [hn,Int.toNat_natCast]
   refine aI hw ?_
   refine aI (aSy e hv _ _ _ (by omega) (by omega)) ?_
   rw [show max 0 (min (tL e.2.2.1.1 true n) (e.2.2.1.1.length:Int))=tL e.2.2.1.1 true n by omega,show max 0 (min (n:Int) (e.2.2.1.1.length:Int))=n by omega]
   rfl
  rw [if_neg d1,if_neg d1]
  rfl
 simp only [c1,c2,c3,c5,c6,c7,c8,c9,c10,c11,c12,c13,if_false]
 rfl
end
def aIk (q:EdT×Int):Prop:=dA 1048576 q.1∧0≤q.2
def aNu (q:EdT×Int×Bool):Prop:=aIk (q.1,q.2.1)
theorem lQ {c:Prop} [Decidable c] {a b:EdT×Int×Bool} (ha:c→aNu a) (hb:¬ c→aNu b):aNu (if c then a else b):=by
 by_cases h:c
 ·
  rw [if_pos h];exact ha h
 ·
  rw [if_neg h];exact hb h
theorem tT {e:EdT} {a:Int} (h:cG e=true) (ha:0≤a):aIk (e,a):=⟨cM (by omega) (tK e h),ha⟩
theorem aLi (h:Int×List (List UInt8)) (st:Int) (e:EdT) (hs:dA 1048576 e):dA 1048576 (uL h st e).1:=by
 obtain ⟨vi,G,D,A9,op,A7,A8,fr,fh,A6,A4,A0,J,Z,O,A5,A_⟩:=e
 obtain ⟨h1,⟨h2,h3⟩,⟨h4,h5⟩,h6,h7,h8⟩:=hs
 simp only [uL]
 have zs:dA 1048576 zEd:=⟨by simp,⟨by simp,by simp⟩,⟨by simp,by simp⟩,by simp,by simp,by simp⟩
 have ho:(if J=0 then D else Z).1.length≤1048576:=by split <;> omega
 generalize (if J=0 then D else Z)=oo at *
 generalize (if J=0 then eV h+1 else J)+st=N
 have hN:=aKl (zB h N).1
 split
 ·
  split
  ·
   exact ⟨h6,⟨h2,h3⟩,⟨by simp,by simp⟩,by simp,h7,h8⟩
  ·
   split
   ·
    exact ⟨Nat.le_trans hN (by omega),⟨h2,h3⟩,⟨by simp,by simp⟩,ho,h7,h8⟩
   ·
    exact zs
 ·
  exact zs
theorem aTm (e:EdT) (a b:Int):0≤(aDt a b e).2:=by
 unfold aDt;split
 ·
  exact (by decide:(0:Int)≤1)
 ·
  exact Int.le_refl 0
theorem aRi (e:EdT) (a b how:Int):0≤(zA a b how e).2:=by
 unfold zA;split
 ·
  exact (by decide:(0:Int)≤1)
 ·
  exact Int.le_refl 0
theorem aS5 (e:EdT) (t:List Int) (nl:Int):0≤(aB0 t nl e).2:=by
 unfold aB0;split
 ·
  exact Int.le_refl 0
 ·
  exact (by decide:(0:Int)≤1)
theorem aK6:aIk (zEd,0):=⟨cM (by omega) aIm,Int.le_refl 0⟩
section
variable (e:EdT) (hv:cG e=true)
include hv
theorem mD:aIk (jD e):=tT (aAp e hv) (by decide)
theorem aU1 (a b:Int) (hr:0≤a∧a≤b∧b≤(e.2.2.1.1.length:Int)):cG (aDt a b e).1=true:=by
 unfold aDt
 split
 ·
  exact aAp e hv
 ·
  exact lT e hv _ (tW (eOk e hv).1 hr).1 0 (by omega)
theorem aS0 (a b how:Int) (hr:0≤a∧a≤b∧b≤(e.2.2.1.1.length:Int)) (hh:0≤how∧how≤2):cG (zA a b how e).1=true:=by
 obtain ⟨hl,_,hro,_⟩:=eOk e hv
 unfold zA
 split
 ·
  exact aAp e hv
 ·
  exact aIt _ (lT e hv _ (tW hl hr).1 2 (by omega)) _ (vN hro (kC (eT hl) a b))
theorem aUp (t:List Int) (nl:Int) (hn:0≤nl∧nl≤3):cG (aB0 t nl e).1=true:=by
 unfold aB0
 split
 ·
  rename_i hp
  exact lT e hv _ (aA6 hp) nl hn
 ·
  exact aAp e hv
theorem aWc (a:Int):cG (goE a e).1=true:=lT e hv _ (iS (eOk e hv).1 a) 0 (by omega)
theorem aBo (h:Int×List (List UInt8)) (st:Int):aIk (yW h st e):=by
 unfold yW
 split
 ·
  exact ⟨aLi h st e (cM (by omega) (tK e hv)),Int.le_refl 0⟩
 ·
  exact mD e hv
theorem aDs (a b:Int) (hr:0≤a∧a≤b∧b≤(e.2.2.1.1.length:Int)):aIk (aDt a b e):=tT (a:=(aDt a b e).2) (aU1 e hv a b hr) (aTm e a b)
theorem aGw (a b how:Int) (hr:0≤a∧a≤b∧b≤(e.2.2.1.1.length:Int)) (hh:0≤how∧how≤2):aIk (zA a b how e):=tT (a:=(zA a b how e).2) (aS0 e hv a b how hr hh) (aRi e a b how)
theorem aI8 (t:List Int) (nl:Int) (hn:0≤nl∧nl≤3):aIk (aB0 t nl e):=tT (a:=(aB0 t nl e).2) (aUp e hv t nl hn) (aS5 e t nl)
theorem aAi (a:Int):aIk (goE a e):=tT (a:=0) (aWc e hv a) (by omega)
theorem aD6 (h:Int×List (List UInt8)) (k:Int×Int):aNu (iQ h k e):=by
 obtain ⟨hl,hc,_⟩:=eOk e hv
 obtain ⟨p0,p1,p2⟩:=bB hl
 have he:=tT (a:=3) hv (by omega)
 have he5:=tT (a:=5) hv (by omega)
 have he4:=tT (a:=4) hv (by omega)
 have he2:=tT (a:=2) hv (by omega)
 have hf:∀ q:EdT×Int,aIk q→aNu (aBb q):=fun q h=>h
 unfold iQ aJg
 refine lQ (fun _=>hf _ (aI8 e hv _ 1 (by omega))) fun _=>?_
 refine lQ (fun _=>hf _ (aI8 e hv _ 1 (by omega))) fun _=>?_
 refine lQ (fun _=>he2) fun _=>?_
 refine lQ (fun _=>?_) fun _=>?_
 ·
  refine lQ (fun _=>he) fun _=>?_
  refine lQ (fun _=>he5) fun _=>?_
  refine lQ (fun _=>lQ (fun _=>hf _ (aDs e hv _ _ (by omega))) fun _=>he4) fun _=>?_
  refine lQ (fun _=>hf _ (aGw e hv _ _ _ (by omega) (by omega))) fun _=>?_
  refine lQ (fun _=>hf _ (aGw e hv _ _ _ ?_ (by omega))) fun _=>aK6
  have hb:=sK e.2.2.1.1 true e.2.2.1.2.toNat (by omega)
  omega
 refine lQ (fun _=>hf _ (aDs e hv _ _ (by omega))) fun _=>?_
 refine lQ (fun _=>hf _ (aDs e hv _ _ (by omega))) fun _=>?_
 refine lQ (fun _=>hf _ (aAi e hv _)) fun _=>?_
 refine lQ (fun _=>hf _ (aAi e hv _)) fun _=>?_
 refine lQ (fun _=>hf _ (aAi e hv _)) fun _=>?_
 refine lQ (fun _=>hf _ (aAi e hv _)) fun _=>?_
 refine lQ (fun _=>hf _ (aBo e hv h _)) fun _=>?_
 exact lQ (fun _=>hf _ (aBo e hv h _)) fun _=>aK6
end
theorem lP {c:Prop} [Decidable c] {a b:EdT×Int×Bool} (ha:a.2.2=false→a=(zEd,0,false)) (hb:b.2.2=false→b=(zEd,0,false)) :
  (if c then a else b).2.2=false→(if c then a else b)=(zEd,0,false):=by
 by_cases h:c
 ·
  rw [if_pos h];exact ha
 ·
  rw [if_neg h];exact hb
theorem aQ9 (h:Int×List (List UInt8)) (k:Int×Int) (e:EdT):(iQ h k e).2.2=false→iQ h k e=(zEd,0,false):=by
 have ht:∀ q:EdT×Int,(aBb q).2.2=false→aBb q=(zEd,0,false):=fun q h=>by cases h
 have hn:∀ n:Int,((e,n,true):EdT×Int×Bool).2.2=false→((e,n,true):EdT×Int×Bool)=(zEd,0,false):=fun n h=>by cases h
 unfold iQ aJg
 refine lP (ht _) (lP (ht _) (lP (hn _) (lP ?_ (lP (ht _) (lP (ht _) (lP (ht _) (lP (ht _) (lP (ht _) (lP (ht _) (lP (ht _) (lP (ht _) fun _=>rfl)))))))))))
 exact lP (hn _) (lP (hn _) (lP (lP (ht _) (hn _)) (lP (ht _) (lP (ht _) fun _=>rfl))))
def aFw (e:EdT):List (List Int):=e.2.2.2.2.2.2.2.2.2.2.1
def kL (r:List (List Int)):List Int:=r.headD []
def aSx (l:List Int×Int) (u:List (List Int×Int)):EdT→EdT
  | (vi,G,_,A9,op,A7,A8,fr,fh,A6,A4,_,J,Z,O,A5,A_)=>(vi,G,l,A9,op,A7,A8,fr,fh,A6,A4,u,J,Z,O,A5,A_)
def fO (e:EdT):List (List Int×Int):=e.2.2.2.2.2.2.2.2.2.2.2.1
def aFf (e:EdT):EdT×Int:=
 let u:=fO e
 if (u.length:Int)=0 then jD e
 else (aSx ((at' u ((u.length:Int) - 1)).1,nT e.2.1 (at' u ((u.length:Int) - 1))) (u.take (u.length - 1)) (jA 0 e),0)
def aLr:EdT→EdT×Int
  | (vi,_,D,_,_,_,_,fr,fh,_,A4,A0,J,Z,_,_,_)=>((vi,3,D,0,0,0,0,fr,fh,0,A4,A0,J,Z,[],0,D),0)
theorem aPl {r:List (List Int)} (h:gC r=true):cS (kL r)=true∧(kL r).length≤400:=by
 obtain ⟨h1,h2⟩:=lV h
 cases r with
 | nil=>exact ⟨rfl,by simp [kL]⟩
 | cons a r=>
  have:=(h2 a List.mem_cons_self).1
  exact ⟨this,iV this⟩
theorem aQ7 (r:List (List Int)) (h:gC r=true):tI r=some (kL r):=by
 obtain ⟨h1,h2⟩:=lV h
 unfold tI
 rw [aO (aFv r (by omega) (fun s hs=>by have:=iV (h2 s hs).1;omega)),h]
 cases r with
 | nil=>rfl
 | cons a r=>
  have ha:=iV (h2 a List.mem_cons_self).1
  have e0:at' (a :: r) 0=a:=rfl
  rw [e0,decide_eq_false (by simp only [List.length_cons];omega)]
  simp only [Bool.not_true,cond_false,aP]
  rw [if_pos (by simp only [List.length_cons];omega),aO (mC a (by omega))]
  rfl
theorem aQ6 (r:List (List Int)) (h:gC r=true):sX r=some (kL r):=by
 obtain ⟨h1,h2⟩:=lV h
 unfold sX
 rw [aO (aFu r (by omega) (fun s hs=>by have:=iV (h2 s hs).1;omega)),h]
 cases r with
 | nil=>rfl
 | cons a r=>
  have ha:=iV (h2 a List.mem_cons_self).1
  have e0:at' (a :: r) 0=a:=rfl
  rw [e0,decide_eq_false (by simp only [List.length_cons];omega)]
  simp only [Bool.not_true,cond_false,aP]
  rw [if_pos (by simp only [List.length_cons];omega),if_pos (by simp only [List.length_nil];omega)]
  rfl
section
variable (e:EdT) (hv:cG e=true)
include hv
theorem aWh:fZ (fO e)=true∧(0≤e.2.1∧e.2.1≤3):=by
 obtain ⟨vi,G,D,A9,op,A7,A8,fr,fh,A6,A4,A0,J,Z,O,A5,A_⟩:=e
 obtain ⟨h1,h2,h3,h4,h5,h6,h7,h8,h9,h10,h11,h12,h13,h14,h15,h16⟩:=eC hv
 refine ⟨h10,?_⟩
 unfold vV at h6
 simp only [Bool.and_eq_true,decide_eq_true_eq] at h6
 exact ⟨h6.1.1.1,h6.1.1.2.1⟩
end
theorem aT8 (u:List (List Int×Int)) (h:fZ u=true):rI u=some (if (u.length:Int)=0 then ([],([],0),false) else (u.take (u.length - 1),at' u ((u.length:Int) - 1),true)):=by
 obtain ⟨h1,h2⟩:=jO h
 have hs:∀ s ∈ u,(s.1.length:Int)≤1048576:=fun s hs=>by have:=(bB (h2 s hs)).2.2;omega
 unfold rI
 rw [aO (aFe u (by omega) (fun s hs=>by have:=(bB (h2 s hs)).2.2;omega)),h]
 by_cases c:(u.length:Int)=0
 ·
  rw [if_pos c,decide_eq_true c];rfl
 rw [if_neg c,decide_eq_false c,bK (x:=(u.length:Int) - 1) (by omega) (by omega)]
 have hsub:bU u 0 ((u.length:Int) - 1)=u.take (u.length - 1):=by
  unfold bU
  rw [show ((u.length:Int) - 1).toNat=u.length - 1 by omega]
  simp
 have hm:=List.mem_of_getElem? (bD (xs:=u) (i:=(u.length:Int) - 1) ⟨by omega,by omega⟩)
 simp only [Bool.not_true,cond_false,aP]
 rw [if_pos (by omega),hsub,aO (aB3 _ (by rw [List.length_take];omega) (fun s q=>hs s (List.mem_of_mem_take q))),if_pos (by omega)]
 rw [aO (iU ((at' u ((u.length:Int) - 1)).1,(at' u ((u.length:Int) - 1)).2) (hs _ hm))]
theorem aT7 (u:List (List Int×Int)) (h:fZ u=true):qR u=some (if (u.length:Int)=0 then ([],([],0),false) else (u.take (u.length - 1),at' u ((u.length:Int) - 1),true)):=by
 obtain ⟨h1,h2⟩:=jO h
 have hs:∀ s ∈ u,(s.1.length:Int)≤1048576:=fun s hs=>by have:=(bB (h2 s hs)).2.2;omega
 unfold qR
 rw [aO (aFd u (by omega) (fun s hs=>by have:=(bB (h2 s hs)).2.2;omega)),h]
 by_cases c:(u.length:Int)=0
 ·
  rw [if_pos c,decide_eq_true c];rfl
 rw [if_neg c,decide_eq_false c,bK (x:=(u.length:Int) - 1) (by omega) (by omega)]
 simp only [Bool.not_true,cond_false,aP]
 rw [aO (aB2 u (by omega) hs),if_pos (by omega),if_pos (by omega),show ((u.length:Int) - 1).toNat=u.length - 1 by omega]
section
variable (e:EdT) (hv:cG e=true)
include hv
theorem aVq:aAw e=some (aFf e):=by
 obtain ⟨hu,hm⟩:=aWh e hv
 obtain ⟨h1,h2⟩:=jO hu
 have ht:=aT8 _ hu
 have hset:dQ e 0=some (jA 0 e):=by
  obtain ⟨vi,G,D,A9,op,A7,A8,fr,fh,A6,A4,A0,J,Z,O,A5,A_⟩:=e
  exact wT vi G D A9 op A7 A8 fr fh A6 A4 A0 J Z O A5 A_ hv 0
 unfold aAw aFf
 refine aI ht ?_
 simp only
 by_cases c:((fO e).length:Int)=0
 ·
  rw [if_pos c,if_pos c]
  exact aI (fM e hv) rfl
 rw [if_neg c,if_neg c]
 have hmem:=List.mem_of_getElem? (bD (xs:=fO e) (i:=((fO e).length:Int) - 1) ⟨by omega,by omega⟩)
 have hlo:=bB (h2 _ hmem)
 generalize at' (fO e) (((fO e).length:Int) - 1)=l at hlo ⊢
 generalize (fO e).take ((fO e).length - 1)=u
 refine aI hset (aI (aAf l e.2.1 (by omega)) ?_)
 obtain ⟨vi,G,D,A9,op,A7,A8,fr,fh,A6,A4,A0,J,Z,O,A5,A_⟩:=e
 rfl
theorem aVp:sS e=some (aFf e):=by
 obtain ⟨hu,hm⟩:=aWh e hv
 obtain ⟨h1,h2⟩:=jO hu
 have ht:=aT7 _ hu
 unfold sS aFf
 refine aI ht ?_
 simp only
 by_cases c:((fO e).length:Int)=0
 ·
  rw [if_pos c,if_pos c]
  exact aI (iA e hv) rfl
 rw [if_neg c,if_neg c]
 have hmem:=List.mem_of_getElem? (bD (xs:=fO e) (i:=((fO e).length:Int) - 1) ⟨by omega,by omega⟩)
 have hlo:=bB (h2 _ hmem)
 generalize at' (fO e) (((fO e).length:Int) - 1)=l at hlo ⊢
 generalize (fO e).take ((fO e).length - 1)=u
 refine aI (hZ e hv) ?_
 obtain ⟨vi,G,D,A9,op,A7,A8,fr,fh,A6,A4,A0,J,Z,O,A5,A_⟩:=e
 unfold eD
 have hcl:=aPb vi G l 0 0 0 0 fr fh 0 A4 u J Z O A5 A_ (by omega)
 exact aI rfl (aI hcl rfl)
theorem aSc:xO e=some (aLr e):=by
 have hl:=eOk e hv
 have hset:dQ e 0=some (jA 0 e):=by
  obtain ⟨vi,G,D,A9,op,A7,A8,fr,fh,A6,A4,A0,J,Z,O,A5,A_⟩:=e
  exact wT vi G D A9 op A7 A8 fr fh A6 A4 A0 J Z O A5 A_ hv 0
 have hl2:=(bB hl.1).2.2
 unfold xO
 refine aI hset (aI (iU e.2.2.1 (by omega)) ?_)
 obtain ⟨vi,G,D,A9,op,A7,A8,fr,fh,A6,A4,A0,J,Z,O,A5,A_⟩:=e
 rfl
theorem aSb (hm:e.2.1≠3):lM e=some (aLr e):=by
 have hl:=eOk e hv
 have hl2:=(bB hl.1).2.2
 unfold lM
 refine aI (hZ e hv) ?_
 obtain ⟨vi,G,D,A9,op,A7,A8,fr,fh,A6,A4,A0,J,Z,O,A5,A_⟩:=e
 obtain ⟨h1,h2,h3,h4,h5,h6,h7,h8,h9,h10,h11,h12,h13,h14,h15,h16⟩:=eC hv
 unfold rY at h16
 rw [decide_eq_false hm] at h16
 simp only [Bool.false_or,Bool.and_eq_true,decide_eq_true_eq] at h16
 obtain rfl:O=[]:=List.eq_nil_of_length_eq_zero (by omega)
 obtain rfl:A5=0:=h16.1.2
 exact aI rfl (aI (gR D (by simp only at hl2;omega)) rfl)
end
theorem aLq {N:Nat} (e:EdT) (h:dA N e):dA N (aLr e).1:=by
 obtain ⟨vi,G,D,A9,op,A7,A8,fr,fh,A6,A4,A0,J,Z,O,A5,A_⟩:=e
 obtain ⟨h1,h2,h3,h4,h5,h6⟩:=h
 exact ⟨h1,h2,h3,h4,Nat.zero_le _,h1⟩
theorem aK9 (e:EdT) (hv:cG e=true):dA 1048576 (aFf e).1:=by
 obtain ⟨hu,hm⟩:=aWh e hv
 obtain ⟨u1,u2⟩:=jO hu
 unfold aFf
 simp only
 split
 ·
  exact (mD e hv).1
 ·
  rename_i c
  have hmem:=List.mem_of_getElem? (bD (xs:=fO e) (i:=((fO e).length:Int) - 1) ⟨by omega,by omega⟩)
  have hlo:=(bB (u2 _ hmem)).2.2
  have hs:=tK e hv
  generalize at' (fO e) (((fO e).length:Int) - 1)=l at hlo ⊢
  have hu':((fO e).take ((fO e).length - 1)).length≤1048576∧∀ s ∈ (fO e).take ((fO e).length - 1),s.1.length≤1048576:=
   ⟨by rw [List.length_take];omega,fun s hs=>by have:=(bB (u2 s (List.mem_of_mem_take hs))).2.2;omega⟩
  generalize (fO e).take ((fO e).length - 1)=u at hu' ⊢
  obtain ⟨vi,G,D,A9,op,A7,A8,fr,fh,A6,A4,A0,J,Z,O,A5,A_⟩:=e
  obtain ⟨h1,⟨h2,h3⟩,⟨h4,h5⟩,h6,h7,h8⟩:=cM (M:=1048576) (by omega) hs
  exact ⟨Nat.le_trans hlo (by omega),⟨h2,h3⟩,hu',h6,h7,h8⟩
theorem cR {c:Prop} [Decidable c] {a b:EdT×Int} (ha:c→dA 1048576 a.1) (hb:¬ c→dA 1048576 b.1):dA 1048576 (if c then a else b).1:=by
 by_cases h:c
 ·
  rw [if_pos h];exact ha h
 ·
  rw [if_neg h];exact hb h
def nV (e:EdT):Int:=min (max e.2.2.2.1 1*max e.2.2.2.2.2.1 1) 999
def yM (x:Int):Int:=if x=102 then 0 else if x=70 then 1 else if x=116 then 2 else if x=84 then 3 else -1
theorem aS7 (x:Int):uJ x=some (yM x):=by
 unfold uJ yM
 simp only [Bool.cond_decide]
 repeat' split
 all_goals rfl
theorem aVk (x:Int):xK x=some (yM x):=aS7 x
noncomputable def fT (t:List Int) (a r how n:Int):Int×Bool:=(nA t a r how n).getD (0,false)
theorem aWq (t:List Int) (hl:(t.length:Int)≤1048576) (a r how n:Int):nA t a r how n=some (fT t a r how n):=by
 obtain ⟨v,e1,e2⟩:=aJd t hl a r how n
 unfold fT;rw [e2];rfl
theorem aWp (t:List Int) (hl:(t.length:Int)≤1048576) (a r how n:Int):pJ t a r how n=some (fT t a r how n):=by
 obtain ⟨v,e1,e2⟩:=aJd t hl a r how n
 unfold fT;rw [e2,e1];rfl
def zI (t:List Int) (a b:Int) (w:Bool):Int×Int:=
 (min (max 0 (min a (t.length:Int))) (max 0 (min b (t.length:Int))),
  if w=true∧max (max 0 (min a (t.length:Int))) (max 0 (min b (t.length:Int)))<(t.length:Int) then max (max 0 (min a (t.length:Int))) (max 0 (min b (t.length:Int)))+1 else max (max 0 (min a (t.length:Int))) (max 0 (min b (t.length:Int))))
theorem zH (t:List Int) (a b:Int) (w:Bool):0≤(zI t a b w).1∧(zI t a b w).1≤(zI t a b w).2∧(zI t a b w).2≤(t.length:Int):=by
 unfold zI
 simp only
 split <;> omega
theorem aUd (t:List Int) (hl:(t.length:Int)≤1048576) (a b:Int) (w:Bool):aAx t a b w=some (zI t a b w):=by
 unfold aAx dE zI
 have h0:0≤max (0:Int) (min a (t.length:Int))∧max (0:Int) (min a (t.length:Int))≤(t.length:Int):=by omega
 have h1:0≤max (0:Int) (min b (t.length:Int))∧max (0:Int) (min b (t.length:Int))≤(t.length:Int):=by omega
 simp only [aF,aS]
 generalize max (0:Int) (min a (t.length:Int))=x at *
 generalize max (0:Int) (min b (t.length:Int))=y at *
 rw [bK (x:=max x y+1) (by omega) (by omega)]
 cases w
 ·
  rfl
 ·
  by_cases c:max x y<(t.length:Int)
  ·
   simp [c]
  ·
   simp [c]
theorem aUc (t:List Int) (hl:(t.length:Int)≤1048576) (a b:Int) (w:Bool):aAv t a b w=some (zI t a b w):=by
 unfold aAv zI
 rw [aO (cL a _ (by omega)),aO (cL b _ (by omega))]
 have h0:0≤max (0:Int) (min a (t.length:Int))∧max (0:Int) (min a (t.length:Int))≤(t.length:Int):=by omega
 have h1:0≤max (0:Int) (min b (t.length:Int))∧max (0:Int) (min b (t.length:Int))≤(t.length:Int):=by omega
 simp only [aS]
 generalize max (0:Int) (min a (t.length:Int))=x at *
 generalize max (0:Int) (min b (t.length:Int))=y at *
 rw [bK (x:=x+1) (by omega) (by omega),bK (x:=y+1) (by omega) (by omega)]
 by_cases q:y<x
 ·
  rw [decide_eq_true q,show min x y=y by omega,show max x y=x by omega]
  cases w
  ·
   rfl
  ·
   by_cases c:x<(t.length:Int) <;> simp [c]
 ·
  rw [decide_eq_false q,show min x y=x by omega,show max x y=y by omega]
  cases w
  ·
   rfl
  ·
   by_cases c:y<(t.length:Int) <;> simp [c]
def aEj (to:Int) (w:Bool) (e:EdT):EdT×Int:=
  if e.2.2.2.2.1=0 then goE to e else fB e.2.2.2.2.1 (zI e.2.2.1.1 e.2.2.1.2 to w).1 (zI e.2.2.1.1 e.2.2.1.2 to w).2 e
def aGp (r:Int) (e:EdT):EdT×Int:=aEj (gQ e.2.2.1.1 e.2.2.1.2 r (nV e)).1 (gQ e.2.2.1.1 e.2.2.1.2 r (nV e)).2.1 e
noncomputable def aEm (r how:Int) (e:EdT):EdT×Int:=
  if (fT e.2.2.1.1 e.2.2.1.2 r how (nV e)).2=true then aEj (fT e.2.2.1.1 e.2.2.1.2 r how (nV e)).1 (decide (how=0∨how=2)) e else jD e
noncomputable def aBc (how:Int) (e:EdT):EdT×Int:=if e.2.2.2.2.2.2.2.1=0 then jD e else aEm e.2.2.2.2.2.2.2.1 how e
def aP2 (r how:Int):EdT→EdT
  | (vi,G,D,A9,op,A7,A8,_,_,A6,A4,A0,J,Z,O,A5,A_)=>(vi,G,D,A9,op,A7,A8,r,how,A6,A4,A0,J,Z,O,A5,A_)
def aPk (r:Int):EdT→EdT
  | (vi,G,D,A9,op,A7,_,fr,fh,A6,A4,A0,J,Z,O,A5,A_)=>(vi,G,D,A9,op,A7,r,fr,fh,A6,A4,A0,J,Z,O,A5,A_)
def aWj (n:Int):EdT→EdT
  | (vi,G,D,_,op,A7,A8,fr,fh,A6,A4,A0,J,Z,O,A5,A_)=>(vi,G,D,n,op,A7,A8,fr,fh,A6,A4,A0,J,Z,O,A5,A_)
def opW (r:Int):EdT→EdT
  | (vi,G,D,A9,_,_,A8,fr,fh,A6,A4,A0,J,Z,O,A5,A_)=>(vi,G,D,0,r,A9,A8,fr,fh,A6,A4,A0,J,Z,O,A5,A_)
def xD (a:Int) (e:EdT):EdT×Int:=(aR1 a (sN (goL e.2.2.1 a) 0 e),0)
def aBm (f:Int→Int):List Int→Int→Nat→List Int
 | t,_,0=>t
 | t,k,m+1=>aBm f (List.set t k.toNat (f (at' t k))) (k+1) m
def sO (r:Int):Int:=if 97≤r∧r≤122 then r - 32 else if 65≤r∧r≤90 then r+32 else r
noncomputable def aD1 (k:Int×Int) (e:EdT):EdT×Int:=
 if k.1≠1 then jD e
 else if e.2.2.2.2.2.2.1=114 then
  (if (e.2.2.1.1.length:Int)<e.2.2.1.2+nV e then jD e else (sN (aBm (fun _=>k.2) e.2.2.1.1 e.2.2.1.2 (nV e).toNat,e.2.2.1.2+nV e - 1) 0 e,0))
 else if (fT e.2.2.1.1 e.2.2.1.2 k.2 (yM e.2.2.2.2.2.2.1) (nV e)).2=true then aEm k.2 (yM e.2.2.2.2.2.2.1) (aP2 k.2 (yM e.2.2.2.2.2.2.1) e) else jD e
def aBn (e:EdT):EdT×Int:=
 if (e.2.2.1.1.length:Int)=0 then jD e
 else (sN (aBm sO e.2.2.1.1 e.2.2.1.2 (min (e.2.2.1.2+nV e) (e.2.2.1.1.length:Int) - e.2.2.1.2).toNat,min (e.2.2.1.2+nV e) (e.2.2.1.1.length:Int)) 0 e,0)
def gU (t:List Int):Nat→List Int
 | 0=>[]
 | n+1=>gU t n ++ t
def zO (t:List Int) (a:Int) (e:EdT):EdT×Int:=
 if (t.length:Int)=0∨400<(t.length:Int) then jD e
 else if (nS (goL e.2.2.1 a) t).2=true then (sN ((nS (goL e.2.2.1 a) t).1.1,(nS (goL e.2.2.1 a) t).1.2 - 1) 0 e,0) else jD e
def zP (a:Int) (e:EdT):EdT×Int:=zO (gU (kL (aFw e)) (nV e).toNat) a e
def aWr:EdT→EdT
  | (vi,_,D,_,op,A7,A8,fr,fh,_,A4,A0,J,Z,O,A5,A_)=>(vi,2,(D.1,max (D.2 - 1) 0),0,op,A7,A8,fr,fh,0,A4,A0,J,Z,O,A5,A_)
theorem zD (f:Int→Int):∀ (m:Nat) (t:List Int) (k:Int),(aBm f t k m).length=t.length
 | 0,_,_=>rfl
 | m+1,t,k=>by rw [aBm,zD f m,List.length_set]
theorem aK4 {t:List Int} (h:cS t=true) (k:Nat) (v:Int) (hv:adm v=true):cS (List.set t k v)=true:=by
 unfold cS at *
 simp only [Bool.and_eq_true,decide_eq_true_eq,List.all_eq_true] at *
 refine ⟨fun x hx=>?_,by rw [List.length_set];exact h.2⟩
 rcases List.mem_or_eq_of_mem_set hx with hx | rfl
 ·
  exact h.1 x hx
 ·
  exact hv
theorem zE (f:Int→Int) (hf:∀ x,adm x=true→adm (f x)=true):∀ (m:Nat) (t:List Int) (k:Int),cS t=true→0≤k→k+m≤(t.length:Int)→cS (aBm f t k m)=true
 | 0,_,_,h,_,_=>h
 | m+1,t,k,h,h0,h1=>by
  rw [aBm]
  have hm:=List.mem_of_getElem? (bD (xs:=t) (i:=k) ⟨h0,by omega⟩)
  have ha:adm (at' t k)=true:=by
   unfold cS at h
   simp only [Bool.and_eq_true,List.all_eq_true] at h
   exact h.1 _ hm
  exact zE f hf m _ (k+1) (aK4 h _ _ (hf _ ha)) (by omega) (by rw [List.length_set];omega)
theorem aAt (x:Int) (h:adm x=true):adm (sO x)=true:=by
 unfold sO
 split
 ·
  rename_i c;unfold adm pr;rw [decide_eq_true (show ((0≤x - 32∧x - 32≤1114111∧(x - 32<55296∨57343<x - 32))∧32≤x - 32∧(x - 32<127∨159<x - 32)) by omega)];rfl
 ·
  split
  ·
   rename_i c;unfold adm pr;rw [decide_eq_true (show ((0≤x+32∧x+32≤1114111∧(x+32<55296∨57343<x+32))∧32≤x+32∧(x+32<127∨159<x+32)) by omega)];rfl
  ·
   exact h
theorem aIn (xs:List Int) (i:Int) (h0:0≤i) (h1:i<(xs.length:Int)):List.set xs i.toNat (at' xs i)=xs:=by
 apply List.ext_getElem?
 intro j
 rw [List.getElem?_set]
 split
 ·
  rename_i c
  subst c
  rw [if_pos (by omega),bD ⟨h0,h1⟩]
 ·
  rfl
section
variable (e:EdT) (hv:cG e=true)
include hv
theorem aNn:(0≤e.2.2.2.2.2.1∧e.2.2.2.2.2.1≤999)∧(e.2.2.2.2.1=0→e.2.2.2.2.2.1=0)∧(e.2.2.2.2.1=0∨e.2.2.2.2.1=100∨e.2.2.2.2.1=99∨e.2.2.2.2.1=121) ∧
  (e.2.2.2.2.2.2.1=0∨e.2.2.2.2.2.2.1=102∨e.2.2.2.2.2.2.1=70∨e.2.2.2.2.2.2.1=116∨e.2.2.2.2.2.2.1=84∨e.2.2.2.2.2.2.1=114) ∧
  (e.2.1≠2→e.2.2.2.2.1=0∧e.2.2.2.2.2.1=0∧e.2.2.2.2.2.2.1=0)∧xF e.2.2.2.2.2.2.2.1 e.2.2.2.2.2.2.2.2.1=true:=by
 obtain ⟨vi,G,D,A9,op,A7,A8,fr,fh,A6,A4,A0,J,Z,O,A5,A_⟩:=e
 obtain ⟨h1,h2,h3,h4,h5,h6,h7,h8,h9,h10,h11,h12,h13,h14,h15,h16⟩:=eC hv
 unfold vV kN at h6
 simp only [Bool.and_eq_true,decide_eq_true_eq,List.any_cons,List.any_nil,Bool.or_eq_true,Bool.or_false] at h6
 obtain ⟨⟨⟨a1,a2,a3,a4,a5,a6,a7,a8⟩,b⟩,c⟩:=h6
 exact ⟨h5,a8,by simp only;omega,by simp only;omega,a7,h7⟩
theorem gP:1≤nV e∧nV e≤999:=by
 have:=eOk e hv
 have h1:1≤max e.2.2.2.1 1:=by omega
 have h2:1≤max e.2.2.2.2.2.1 1:=by omega
 have h3:1*1≤max e.2.2.2.1 1*max e.2.2.2.2.2.1 1:=Int.mul_le_mul h1 h2 (by omega) (by omega)
 unfold nV
 generalize max e.2.2.2.1 1*max e.2.2.2.2.2.1 1=x at *
 omega
theorem aI1:-9223372036854775808≤max e.2.2.2.1 1*max e.2.2.2.2.2.1 1∧max e.2.2.2.1 1*max e.2.2.2.2.2.1 1≤9223372036854775807:=by
 obtain ⟨_,hc,_⟩:=eOk e hv
 obtain ⟨ho,_⟩:=aNn e hv
 have h1:1≤max e.2.2.2.1 1:=by omega
 have h2:1≤max e.2.2.2.2.2.1 1:=by omega
 have h3:1*1≤max e.2.2.2.1 1*max e.2.2.2.2.2.1 1:=Int.mul_le_mul h1 h2 (by omega) (by omega)
 have h4:max e.2.2.2.1 1*max e.2.2.2.2.2.1 1≤999*999:=Int.mul_le_mul (by omega) (by omega) (by omega) (by omega)
 omega
theorem aMp:kQ e=some (nV e):=by
 obtain ⟨hl,hc,_⟩:=eOk e hv
 obtain ⟨ho,_⟩:=aNn e hv
 have hb:=aI1 e hv
 unfold kQ nV
 refine aI (n_s e) ?_
 simp only [aS]
 by_cases c:0<e.2.2.2.2.2.1
 ·
  rw [decide_eq_true c,cond_true]
  have e1:max e.2.2.2.2.2.1 1=e.2.2.2.2.2.1:=by omega
  rw [e1] at hb ⊢
  rw [bK (by omega) (by omega)]
  have h1:0≤max e.2.2.2.1 1*e.2.2.2.2.2.1:=Int.mul_nonneg (by omega) (by omega)
  rw [aO (cL _ 999 (by omega))]
  generalize max e.2.2.2.1 1*e.2.2.2.2.2.1=x at *
  congr 1;omega
 ·
  rw [decide_eq_false c,cond_false,show max e.2.2.2.2.2.1 1=1 by omega,Int.mul_one,aO (cL _ 999 (by omega))]
  congr 1;omega
theorem aBa (x a b:Int) (hr:0≤a∧a≤b∧b≤(e.2.2.1.1.length:Int)):eA e x a b=some (fB x a b e):=by
 obtain ⟨vi,G,D,A9,op,A7,A8,fr,fh,A6,A4,A0,J,Z,O,A5,A_⟩:=e
 exact aTn vi G D A9 op A7 A8 fr fh A6 A4 A0 J Z O A5 A_ x a b hv hr
theorem aA9 (hm:e.2.1=2) (x a b:Int) (hx:x=100∨x=99∨x=121) (hr:0≤a∧a≤b∧b≤(e.2.2.1.1.length:Int)):dY e x a b=some (fB x a b e):=by
 obtain ⟨vi,G,D,A9,op,A7,A8,fr,fh,A6,A4,A0,J,Z,O,A5,A_⟩:=e
 rw [aWt vi G D A9 op A7 A8 fr fh A6 A4 A0 J Z O A5 A_ (cM (by omega) (sM hv)) x a b,hv,decide_eq_true (show G=2 from hm),decide_eq_true hx,decide_eq_true (show 0≤a∧a≤b∧b≤(D.1.length:Int) from hr)]
 rfl
theorem aG8 (x a b:Int) (hr:0≤a∧a≤b∧b≤(e.2.2.1.1.length:Int)):dA 1048576 (fB x a b e).1:=by
 obtain ⟨hl,_,hro,_⟩:=eOk e hv
 have hro':=vN (how:=0) hro (kC (eT hl) a b)
 have hv':=aIt e hv _ hro'
 obtain ⟨c1,c2⟩:=tW hl hr
 have s1:=tK _ (lT e hv (goL e.2.2.1 a) (iS hl a) 0 (by omega))
 have s2:=tK _ (aAp e hv)
 have s3:=tK _ (lT _ hv' (goL e.2.2.1 a) (iS hl a) 0 (by omega))
 have s4:=tK _ (lT _ hv' (goL (tX e.2.2.1 a b) a) (iS c1 a) 0 (by omega))
 obtain ⟨vi,G,D,A9,op,A7,A8,fr,fh,A6,A4,A0,J,Z,O,A5,A_⟩:=e
 refine cM (N:=400) (by omega) ?_
 unfold fB
 split
 ·
  split
  ·
   exact s1
  ·
   exact s2
 ·
  split
  ·
   exact s3
  ·
   split
   ·
    exact s4
   ·
    exact s4
theorem aKq (a:Int):(aF (eE e.2.2.1 a) fun (y56:List Int×Int)=>
 (aF (oW e y56 0) fun (y60:EdQ)=>
 (aF (pP y60 a) fun (y74:EdQ)=>
 some ((y74.1,y74.2.1,(y60.2.2.1.1,y74.2.2.1.2),y74.2.2.2.1,y74.2.2.2.2.1,y74.2.2.2.2.2.1,y74.2.2.2.2.2.2.1,y74.2.2.2.2.2.2.2.1,y74.2.2.2.2.2.2.2.2.1,y74.2.2.2.2.2.2.2.2.2.1,y60.2.2.2.2.2.2.2.2.2.2.1,y60.2.2.2.2.2.2.2.2.2.2.2.1,y74.2.2.2.2.2.2.2.2.2.2.2.2.1,(y60.2.2.2.2.2.2.2.2.2.2.2.2.2.1.1,y74.2.2.2.2.2.2.2.2.2.2.2.2.2.1.2),y60.2.2.2.2.2.2.2.2.2.2.2.2.2.2.1,y74.2.2.2.2.2.2.2.2.2.2.2.2.2.2.2.1,(y60.2.2.2.2.2.2.2.2.2.2.2.2.2.2.2.2.1,y74.2.2.2.2.2.2.2.2.2.2.2.2.2.2.2.2.2)),(0:Int)))))=some (xD a e):=by
 obtain ⟨hl,_⟩:=eOk e hv
 obtain ⟨p0,p1,p2⟩:=bB hl
 refine aI (wN _ a (by omega)) (aI (aJs e hv _ (iS hl a) 0) ?_)
 obtain ⟨vi,G,D,A9,op,A7,A8,fr,fh,A6,A4,A0,J,Z,O,A5,A_⟩:=e
 rfl
theorem aKp (a:Int) (ha:0≤a∧a≤(e.2.2.1.1.length:Int)):dT e a=some (xD a e):=by
 have hgo:=aJc e hv a
 unfold dT xD
 rw [aO hgo]
 obtain ⟨vi,G,D,A9,op,A7,A8,fr,fh,A6,A4,A0,J,Z,O,A5,A_⟩:=e
 have e1:max 0 (min a (D.1.length:Int))=a:=by simp only at ha;omega
 simp only [goE,aS,decide_true,cond_true,aF,sN,goL,cL a _ (Int.natCast_nonneg D.1.length),e1,aR1]
theorem aE4 (a:Int):dA 1048576 (xD a e).1:=by
 have h:=tK _ (lT e hv (goL e.2.2.1 a) (iS (eOk e hv).1 a) 0 (by omega))
 unfold xD
 generalize sN (goL e.2.2.1 a) 0 e=z at h
 obtain ⟨vi,G,D,A9,op,A7,A8,fr,fh,A6,A4,A0,J,Z,O,A5,A_⟩:=z
 exact cM (M:=1048576) (by omega) h
theorem aKk (to:Int) (w:Bool):tE e to w=some (aEj to w e):=by
 obtain ⟨hl,_⟩:=eOk e hv
 obtain ⟨p0,p1,p2⟩:=bB hl
 unfold tE aEj
 simp only [Bool.cond_decide]
 by_cases c:e.2.2.2.2.1=0
 ·
  rw [if_pos c,if_pos c]
  exact aI (wN _ to (by omega)) (aI (aBs e hv _ (iS hl to)) rfl)
 ·
  rw [if_neg c,if_neg c]
  exact aI (aUd _ (by omega) _ to w) (aI (aBa e hv _ _ _ (zH _ _ _ _)) rfl)
theorem aPu (hm:e.2.1=2) (to:Int) (w:Bool):pZ e to w=some (aEj to w e):=by
 obtain ⟨hl,_⟩:=eOk e hv
 obtain ⟨p0,p1,p2⟩:=bB hl
 obtain ⟨_,_,ho,_⟩:=aNn e hv
 unfold pZ aEj
 simp only [Bool.cond_decide]
 by_cases c:e.2.2.2.2.1=0
 ·
  rw [if_pos c,if_pos c]
  exact aI (aJc e hv to) rfl
 ·
  rw [if_neg c,if_neg c]
  exact aI (aUc _ (by omega) _ to w) (aI (aA9 e hv hm _ _ _ (ho.resolve_left c) (zH _ _ _ _)) rfl)
theorem aMq (to:Int) (w:Bool):dA 1048576 (aEj to w e).1:=by
 unfold aEj
 exact cR (fun _=>(aAi e hv to).1) fun _=>aG8 e hv _ _ _ (zH _ _ _ _)
theorem aDl (hm:e.2.1=2) (r:Int):fN e r=some (aGp r e):=by
 obtain ⟨hl,_⟩:=eOk e hv
 obtain ⟨p0,p1,p2⟩:=bB hl
 unfold fN aGp
 exact aI (aMp e hv) (aI (aBr _ (by omega) _ r _) (aI (aPu e hv hm _ _) rfl))
theorem aGo (r:Int):mW e r (nV e)=some (aGp r e):=by
 obtain ⟨hl,_⟩:=eOk e hv
 obtain ⟨p0,p1,p2⟩:=bB hl
 unfold mW aGp
 exact aI (aB1 _ (by omega) _ r _) (aI (aKk e hv _ _) rfl)
theorem aP3 (r how:Int):pQ e r how (nV e)=some (aEm r how e):=by
 obtain ⟨hl,_⟩:=eOk e hv
 obtain ⟨p0,p1,p2⟩:=bB hl
 unfold pQ aEm
 rw [aO (aWq _ (by omega) _ r how _)]
 have h02:(bif (decide (how=0)) then true else (decide (how=2)))=decide (how=0∨how=2):=by
  by_cases a:how=0 <;> by_cases b:how=2 <;> simp [a,b]
 rw [h02]
 generalize fT e.2.2.1.1 e.2.2.1.2 r how (nV e)=q
 obtain ⟨to,b⟩:=q
 cases b
 ·
  exact aI (fM e hv) rfl
 ·
  exact aI (aKk e hv _ _) rfl
theorem aKt (hm:e.2.1=2) (r how:Int):mF e r how=some (if r=0 then jD e else aEm r how e):=by
 obtain ⟨hl,_⟩:=eOk e hv
 obtain ⟨p0,p1,p2⟩:=bB hl
 unfold mF aEm
 rw [aO (aMp e hv),aO (aWp _ (by omega) _ r how _)]
 have h02:(bif (decide (how=0)) then true else (decide (how=2)))=decide (how=0∨how=2):=by
  by_cases a:how=0 <;> by_cases b:how=2 <;> simp [a,b]
 rw [h02]
 generalize fT e.2.2.1.1 e.2.2.1.2 r how (nV e)=q
 obtain ⟨to,b⟩:=q
 by_cases c:r=0
 ·
  rw [decide_eq_true c,if_pos c]
  exact aI (iA e hv) rfl
 ·
  rw [decide_eq_false c,if_neg c]
  cases b
  ·
   exact aI (iA e hv) rfl
  ·
   exact aI (aPu e hv hm _ _) rfl
theorem aNa (r how:Int):dA 1048576 (aEm r how e).1:=by
 unfold aEm
 exact cR (fun _=>aMq e hv _ _) fun _=>(mD e hv).1
theorem aTa (r how:Int) (hr:pr r=true) (hh:0≤how∧how≤3):cG (aP2 r how e)=true:=by
 obtain ⟨vi,G,D,A9,op,A7,A8,fr,fh,A6,A4,A0,J,Z,O,A5,A_⟩:=e
 obtain ⟨h1,h2,h3,h4,h5,h6,h7,h8,h9,h10,h11,h12,h13,h14,h15,h16⟩:=eC hv
 have h0:r≠0:=by
  intro h;subst h;exact absurd hr (by decide)
 refine aCz ⟨h1,h2,h3,h4,h5,h6,?_,h8,h9,h10,h11,h12,h13,h14,h15,h16⟩
 unfold xF
 rw [hr,decide_eq_true (show (r=0→how=0)∧(r≠0→0≤how∧how≤3) from ⟨fun h=>absurd h h0,fun _=>hh⟩)]
 simp
end
theorem aWe (e:EdT) (k:Int×Int) (n:Int) (hb:0≤e.2.2.1.2+n∧e.2.2.1.2+n≤1000000) (j:List Int→Option (EdT×Int)):∀ (m r:Nat) (i:Int) (t:List Int),0≤i→i+r=e.2.2.1.2+n→e.2.2.1.2+n≤(t.length:Int)→r<m →
  aW (oM e k n j) m (i,t)=j (aBm (fun _=>k.2) t i r):=by
 intro m
 induction m with
 | zero=>intro r i t _ _ _ h;omega
 | succ m ih=>
  intro r i t h0 h1 h2 hm
  simp only [aW,oM,aP,Bool.cond_decide]
  rw [bK (x:=e.2.2.1.2+n) (by omega) (by omega)]
  cases r with
  | zero=>rw [if_neg (by omega)];rfl
  | succ r=>
   rw [if_pos (by omega),if_pos (by omega),bK (by omega) (by omega)]
   exact ih r (i+1) _ (by omega) (by omega) (by rw [List.length_set];omega) (by omega)
theorem aWd (e:EdT) (k:Int×Int) (n:Int) (hb:0≤e.2.2.1.2+n∧e.2.2.1.2+n≤1000000) (j:List Int→Option (EdT×Int)):∀ (m r:Nat) (i:Int) (t:List Int),0≤i→i+r=e.2.2.1.2+n→e.2.2.1.2+n≤(t.length:Int)→r<m →
  aW (mE e k n j) m (i,t)=j (aBm (fun _=>k.2) t i r):=by
 intro m
 induction m with
 | zero=>intro r i t _ _ _ h;omega
 | succ m ih=>
  intro r i t h0 h1 h2 hm
  simp only [aW,mE,aP,Bool.cond_decide]
  rw [bK (x:=e.2.2.1.2+n) (by omega) (by omega)]
  cases r with
  | zero=>rw [if_neg (by omega)];rfl
  | succ r=>
   rw [if_pos (by omega),if_pos (by omega),bK (by omega) (by omega)]
   exact ih r (i+1) _ (by omega) (by omega) (by rw [List.length_set];omega) (by omega)
theorem aS9 (x:Int) (h:adm x=true):-1≤x∧x≤1114111:=by
 unfold adm pr at h
 simp only [Bool.or_eq_true,decide_eq_true_eq] at h
 omega
theorem aUn (x:Int) (h:-1≤x∧x≤1114111):gG x=some (decide (97≤x∧x≤122))∧xN x=some (if 97≤x∧x≤122 then x - 32 else x)∧xQ x=some (if 65≤x∧x≤90 then x+32 else x):=by
 unfold xN xQ gG jV
 rw [aO (aCu x 97 122),aO (aCu x 65 90),bK (x:=x - 32) (by omega) (by omega),bK (x:=x+32) (by omega) (by omega)]
 refine ⟨rfl,?_,?_⟩
 ·
  by_cases c:97≤x∧x≤122
  ·
   rw [if_pos c,decide_eq_true c];rfl
  ·
   rw [if_neg c,decide_eq_false c];rfl
 ·
  by_cases c:65≤x∧x≤90
  ·
   rw [if_pos c,decide_eq_true c];rfl
  ·
   rw [if_neg c,decide_eq_false c];rfl
theorem aTv {t:List Int} (h:cS t=true) (i:Int) (h0:0≤i) (h1:i<(t.length:Int)):adm (at' t i)=true:=by
 unfold cS at h
 simp only [Bool.and_eq_true,List.all_eq_true] at h
 exact h.1 _ (List.mem_of_getElem? (bD (xs:=t) (i:=i) ⟨h0,h1⟩))
theorem aT6 (l:List Int×Int) (hl:l.2≤1000000) (j:List Int→Option (EdT×Int)):∀ (m r:Nat) (i:Int) (t:List Int),0≤i→i+r=l.2→l.2≤(t.length:Int)→cS t=true→r<m →
  aW (lB l j) m (i,t)=j (aBm sO t i r):=by
 intro m
 induction m with
 | zero=>intro r i t _ _ _ _ h;omega
 | succ m ih=>
  intro r i t h0 h1 h2 ha hm
  simp only [aW,lB,aP,aS]
  cases r with
  | zero=>rw [decide_eq_false (show ¬ i<l.2 by omega)];rfl
  | succ r=>
   rw [decide_eq_true (show i<l.2 by omega),cond_true,bK (by omega) (by omega),if_pos (by omega)]
   have hx:=aTv ha i h0 (by omega)
   obtain ⟨q1,q2,q3⟩:=aUn _ (aS9 _ hx)
   have hgo:=ih r (i+1) (List.set t i.toNat (sO (at' t i))) (by omega) (by omega) (by rw [List.length_set];omega) (aK4 ha _ _ (aAt _ hx)) (by omega)
   rw [aO q1]
   have hf:sO (at' t i)=if 97≤at' t i∧at' t i≤122 then at' t i - 32 else if 65≤at' t i∧at' t i≤90 then at' t i+32 else at' t i:=rfl
   by_cases c:97≤at' t i∧at' t i≤122
   ·
    rw [decide_eq_true c,cond_true,aO q2,if_pos (by omega)]
    rw [if_pos c] at hf ⊢
    rw [← hf];exact hgo
   ·
    rw [decide_eq_false c,cond_false,aO q3,if_pos (by omega)]
    rw [if_neg c] at hf
    rw [← hf];exact hgo
theorem aT5 (n:Int) (hn:n≤1000000) (j:List Int→Option (EdT×Int)):∀ (m r:Nat) (i:Int) (t:List Int),0≤i→i+r=n→n≤(t.length:Int)→cS t=true→r<m →
  aW (kP n j) m (i,t)=j (aBm sO t i r):=by
 intro m
 induction m with
 | zero=>intro r i t _ _ _ _ h;omega
 | succ m ih=>
  intro r i t h0 h1 h2 ha hm
  simp only [aW,kP,aP,aS]
  cases r with
  | zero=>rw [decide_eq_false (show ¬ i<n by omega)];rfl
  | succ r=>
   rw [decide_eq_true (show i<n by omega),cond_true,bK (x:=i+1) (by omega) (by omega)]
   have hx:=aTv ha i h0 (by omega)
   have hb:=aS9 _ hx
   rw [bK (x:=at' t i+32) (by omega) (by omega),bK (x:=at' t i - 32) (by omega) (by omega)]
   have hgo:=ih r (i+1) (List.set t i.toNat (sO (at' t i))) (by omega) (by omega) (by rw [List.length_set];omega) (aK4 ha _ _ (aAt _ hx)) (by omega)
   have hf:sO (at' t i)=if 97≤at' t i∧at' t i≤122 then at' t i - 32 else if 65≤at' t i∧at' t i≤90 then at' t i+32 else at' t i:=rfl
   have g:∀ lo hi x:Int,(bif decide (lo≤x) then decide (x≤hi) else false)=decide (lo≤x∧x≤hi):=by
    intro lo hi x
    by_cases a:lo≤x <;> by_cases b:x≤hi <;> simp [a,b]
   simp only [g]
   by_cases c:97≤at' t i∧at' t i≤122
   ·
    rw [decide_eq_true c,cond_true,decide_eq_false (show ¬ (65≤at' t i∧at' t i≤90) by omega),cond_false]
    rw [if_pos c] at hf
    rw [if_pos (by omega),if_pos (by omega),← hf];exact hgo
   ·
    rw [decide_eq_false c,cond_false]
    rw [if_neg c] at hf
    by_cases d:65≤at' t i∧at' t i≤90
    ·
     rw [decide_eq_true d,cond_true]
     rw [if_pos d] at hf
     rw [if_pos (by omega),if_pos (by omega),← hf];exact hgo
    ·
     rw [decide_eq_false d,cond_false]
     rw [if_neg d] at hf
     rw [if_pos (by omega)]
     rw [hf,aIn t i h0 (by omega)] at hgo
     rw [show aBm sO t i (r+1)=aBm sO t (i+1) r by rw [aBm,hf,aIn t i h0 (by omega)]]
     exact hgo
theorem zL (t:List Int):∀ n,(gU t n).length=n*t.length
 | 0=>by simp [gU]
 | n+1=>by rw [gU,List.length_append,zL t n,Nat.succ_mul]
theorem aSo (t:List Int) (n:Int) (hn:n≤1000) (ht:n*(t.length:Int)≤400) (j:List Int→Option (EdT×Int)):∀ (m r:Nat) (k:Nat),k+r=n→r<m →
  aW (lL t n j) m (gU t k,k)=j (gU t (k+r)):=by
 intro m
 induction m with
 | zero=>intro r k _ h;omega
 | succ m ih=>
  intro r k h1 hm
  simp only [aW,lL,aP,Bool.cond_decide]
  cases r with
  | zero=>rw [if_neg (by omega)];rfl
  | succ r=>
   have hle:(gU t k).length+t.length≤400:=by
    have e1:(gU t k).length+t.length=(k+1)*t.length:=by rw [zL,Nat.succ_mul]
    have e2:(k+1)*t.length≤n.toNat*t.length:=Nat.mul_le_mul_right _ (by omega)
    have e3:((n.toNat*t.length:Nat):Int)=n*(t.length:Int):=by rw [Int.natCast_mul];congr 1;omega
    omega
   rw [if_pos (by omega),if_pos (by omega),bK (by omega) (by omega)]
   have:=ih r (k+1) (by omega) (by omega)
   rw [show k+(r+1)=k+1+r by omega,← this]
   rfl
theorem aVr (t:List Int) (ht:t.length≤400) (n:Int) (hn:n≤1000) (j:List Int→Option (List Int)):∀ (m r:Nat) (k:Nat),k+r=n→r<m→(gU t k).length≤800 →
  ∃ q,aW (kH t n j) m (gU t k,k)=j q∧q.length≤800∧((q=gU t (k+r))∨(400<q.length∧400<(gU t (k+r)).length)):=by
 intro m
 induction m with
 | zero=>intro r k _ h _;omega
 | succ m ih=>
  intro r k h1 hm hl
  simp only [aW,kH,aP]
  cases r with
  | zero=>
   rw [decide_eq_false (show ¬ (k:Int)<n by omega)]
   exact ⟨_,rfl,hl,.inl rfl⟩
  | succ r=>
   rw [decide_eq_true (show (k:Int)<n by omega)]
   by_cases c:((gU t k).length:Int)≤400
   ·
    rw [decide_eq_true c,if_pos (by omega),bK (by omega) (by omega)]
    obtain ⟨q,q1,q2,q3⟩:=ih r (k+1) (by omega) (by omega) (by rw [gU,List.length_append];omega)
    rw [show k+(r+1)=k+1+r by omega]
    exact ⟨q,q1,q2,q3⟩
   ·
    rw [decide_eq_false c]
    have:(gU t k).length≤(gU t (k+(r+1))).length:=by
     rw [zL,zL];exact Nat.mul_le_mul_right _ (by omega)
    exact ⟨_,rfl,hl,.inr ⟨by omega,by omega⟩⟩
theorem aR5 (t:List Int) (ht:t.length≤400) (n:Int) (h0:0≤n) (hn:n≤1000):∃ q,nP t n=some q∧q.length≤800∧((q=gU t n.toNat)∨(400<q.length∧400<(gU t n.toNat).length)):=by
 obtain ⟨q,q1,q2,q3⟩:=aVr t ht n hn (fun x=>some x) bG n.toNat 0 (by omega) (by rw [bI];omega) (by simp [gU])
 rw [Nat.zero_add] at q3
 refine ⟨q,?_,q2,q3⟩
 unfold nP
 simp only [aS]
 exact q1
section
variable (e:EdT) (hv:cG e=true)
include hv
theorem aPs (a:Int):uH e a (nV e)=some (zP a e):=by
 obtain ⟨hl,_,hro,_⟩:=eOk e hv
 obtain ⟨p0,p1,p2⟩:=bB hl
 have hn:=gP e hv
 obtain ⟨t1,t2⟩:=aPl hro
 have hg:=iS hl a
 unfold uH zP
 rw [aO (aQ7 _ hro)]
 obtain ⟨q,q1,q2,q3⟩:=aR5 (kL e.2.2.2.2.2.2.2.2.2.2.1) t2 (nV e) (by omega) (by omega)
 rw [aO q1,aO (wN _ a (by omega))]
 have hp:=aI4 (goL e.2.2.1 a) q hg (by omega)
 rw [aO (show mZ (goL e.2.2.1 a) q=_ from hp)]
 change _=some (zO (gU (kL e.2.2.2.2.2.2.2.2.2.2.1) (nV e).toNat) a e)
 rcases q3 with rfl | ⟨q3,q4⟩
 ·
  unfold zO
  have hok:=@aA6 (goL e.2.2.1 a) (gU (kL e.2.2.2.2.2.2.2.2.2.2.1) (nV e).toNat)
  have hlong:=fun h=>@aA7 (goL e.2.2.1 a) hg (gU (kL e.2.2.2.2.2.2.2.2.2.2.1) (nV e).toNat) h
  have hpos:(nS (goL e.2.2.1 a) (gU (kL e.2.2.2.2.2.2.2.2.2.2.1) (nV e).toNat)).2=true→1≤(gU (kL e.2.2.2.2.2.2.2.2.2.2.1) (nV e).toNat).length→1≤(nS (goL e.2.2.1 a) (gU (kL e.2.2.2.2.2.2.2.2.2.2.1) (nV e).toNat)).1.2:=by
   intro h h'
   unfold nS at h ⊢
   split at h
   ·
    rename_i c
    rw [if_pos c]
    have:=(bB hg).1
    simp only [zM];omega
   ·
    cases h
  generalize gU (kL e.2.2.2.2.2.2.2.2.2.2.1) (nV e).toNat=t at *
  by_cases c0:(t.length:Int)=0
  ·
   rw [decide_eq_true c0,if_pos (.inl c0)]
   exact aI (fM e hv) rfl
  rw [decide_eq_false c0]
  by_cases c1:400<(t.length:Int)
  ·
   rw [hlong (by omega),if_pos (.inr c1)]
   exact aI (fM e hv) rfl
  rw [if_neg (by omega)]
  generalize nS (goL e.2.2.1 a) t=z at *
  obtain ⟨l,b⟩:=z
  cases b
  ·
   exact aI (fM e hv) rfl
  ·
   have hl2:=hok rfl
   obtain ⟨r0,r1,r2⟩:=bB hl2
   have hz:=hpos rfl (by omega)
   simp only at r0 r1 r2 hz
   simp only [cond_false,Bool.not_true,if_true]
   rw [bK (x:=l.2 - 1) (by omega) (by omega)]
   have he:goL l (l.2 - 1)=(l.1,l.2 - 1):=by unfold goL;congr 1;omega
   refine aI (wN l _ (by omega)) ?_
   rw [he]
   exact aI (aBs e hv _ (by rw [← he];exact iS hl2 _)) rfl
 ·
  have hb:∀ b:EdT×Int,zO (gU (kL e.2.2.2.2.2.2.2.2.2.2.1) (nV e).toNat) a e=jD e:=by
   intro _
   unfold zO
   exact if_pos (.inr (by omega))
  rw [hb (jD e),aA7 hg q3,decide_eq_false (by omega)]
  exact aI (fM e hv) rfl
theorem aPr (a:Int):rT e a=some (zP a e):=by
 obtain ⟨hl,_,hro,_⟩:=eOk e hv
 obtain ⟨p0,p1,p2⟩:=bB hl
 have hn:=gP e hv
 obtain ⟨t1,t2⟩:=aPl hro
 have hg:=iS hl a
 have hlen:=zL (kL e.2.2.2.2.2.2.2.2.2.2.1) (nV e).toNat
 unfold rT zP
 rw [aO (aQ6 _ hro),aO (aMp e hv)]
 change _=some (zO (gU (kL e.2.2.2.2.2.2.2.2.2.2.1) (nV e).toNat) a e)
 have hmul:(((kL e.2.2.2.2.2.2.2.2.2.2.1).length:Int)*nV e)=((gU (kL e.2.2.2.2.2.2.2.2.2.2.1) (nV e).toNat).length:Int):=by
  rw [hlen,Int.natCast_mul,Int.mul_comm];congr 1;omega
 have hle:((gU (kL e.2.2.2.2.2.2.2.2.2.2.1) (nV e).toNat).length:Int)≤1000*400:=by
  rw [← hmul,Int.mul_comm]
  exact Int.mul_le_mul (by omega) (by omega) (by omega) (by omega)
 rw [bK (by omega) (by omega),hmul]
 have hloop:400<((gU (kL e.2.2.2.2.2.2.2.2.2.2.1) (nV e).toNat).length:Int)∨∀ j,aW (lL (kL e.2.2.2.2.2.2.2.2.2.2.1) (nV e) j) bG ([],0)=j (gU (kL e.2.2.2.2.2.2.2.2.2.2.1) (nV e).toNat):=by
  by_cases c:400<((gU (kL e.2.2.2.2.2.2.2.2.2.2.1) (nV e).toNat).length:Int)
  ·
   exact .inl c
  ·
   refine .inr fun j=>?_
   have:=aSo (kL e.2.2.2.2.2.2.2.2.2.2.1) (nV e) (by omega) (by rw [Int.mul_comm];omega) j bG (nV e).toNat 0 (by omega) (by rw [bI];omega)
   rw [Nat.zero_add] at this
   exact this
 have hz:((kL e.2.2.2.2.2.2.2.2.2.2.1).length:Int)=0 ↔ ((gU (kL e.2.2.2.2.2.2.2.2.2.2.1) (nV e).toNat).length:Int)=0:=by
  rw [hlen,Int.natCast_mul]
  constructor
  ·
   intro h;rw [h];simp
  ·
   intro h
   rcases Int.mul_eq_zero.1 h with h | h
   ·
    omega
   ·
    exact h
 simp only [decide_eq_decide.2 hz]
 have hok:=@aA6 (goL e.2.2.1 a) (gU (kL e.2.2.2.2.2.2.2.2.2.2.1) (nV e).toNat)
 have hpos:(nS (goL e.2.2.1 a) (gU (kL e.2.2.2.2.2.2.2.2.2.2.1) (nV e).toNat)).2=true→1≤(gU (kL e.2.2.2.2.2.2.2.2.2.2.1) (nV e).toNat).length→1≤(nS (goL e.2.2.1 a) (gU (kL e.2.2.2.2.2.2.2.2.2.2.1) (nV e).toNat)).1.2:=by
  intro h h'
  unfold nS at h ⊢
  split at h
  ·
   rename_i c
   rw [if_pos c]
   have:=(bB hg).1
   simp only [zM];omega
  ·
   cases h
 have hlp:(gU (kL e.2.2.2.2.2.2.2.2.2.2.1) (nV e).toNat).length≤1000→_:=fun h=>aI3 (goL e.2.2.1 a) (gU (kL e.2.2.2.2.2.2.2.2.2.2.1) (nV e).toNat) hg h
 clear hmul hle hz hlen
 generalize gU (kL e.2.2.2.2.2.2.2.2.2.2.1) (nV e).toNat=t at *
 unfold zO
 by_cases c0:(t.length:Int)=0
 ·
  rw [decide_eq_true c0,if_pos (.inl c0)]
  exact aI (iA e hv) rfl
 rw [decide_eq_false c0]
 by_cases c1:400<(t.length:Int)
 ·
  rw [decide_eq_true c1,if_pos (.inr c1)]
  exact aI (iA e hv) rfl
 rw [decide_eq_false c1,if_neg (by omega)]
 simp only [cond_false,aS]
 rw [hloop.resolve_left c1 _]
 refine aI (aGu _ a hl) (aI (hlp (by omega)) ?_)
 generalize nS (goL e.2.2.1 a) t=z at *
 obtain ⟨l,b⟩:=z
 cases b
 ·
  exact aI (iA e hv) rfl
 ·
  have hl2:=hok rfl
  obtain ⟨r0,r1,r2⟩:=bB hl2
  have hz:=hpos rfl (by omega)
  simp only at r0 r1 r2 hz
  simp only [cond_false,Bool.not_true,if_true]
  rw [bK (x:=l.2 - 1) (by omega) (by omega)]
  have he:goL l (l.2 - 1)=(l.1,l.2 - 1):=by unfold goL;congr 1;omega
  exact aI (aDb e hv _ (by rw [← he];exact iS hl2 _) 0 (by omega)) rfl
theorem aL7 (a:Int):dA 1048576 (zP a e).1:=by
 have hok:=@aA6 (goL e.2.2.1 a) (gU (kL (aFw e)) (nV e).toNat)
 unfold zP zO
 refine cR (fun _=>(mD e hv).1) fun c=>cR (fun hq=>?_) fun _=>(mD e hv).1
 have hl2:=hok hq
 have hg:=iS hl2 ((nS (goL e.2.2.1 a) (gU (kL (aFw e)) (nV e).toNat)).1.2 - 1)
 have hpos:1≤(nS (goL e.2.2.1 a) (gU (kL (aFw e)) (nV e).toNat)).1.2:=by
  have:=(bB (iS (eOk e hv).1 a)).1
  unfold nS at hq ⊢
  split at hq
  ·
   rename_i d
   rw [if_pos d]
   simp only [zM];omega
  ·
   cases hq
 generalize nS (goL e.2.2.1 a) (gU (kL (aFw e)) (nV e).toNat)=z at *
 obtain ⟨l,b⟩:=z
 obtain ⟨r0,r1,r2⟩:=bB hl2
 simp only at r0 r1 r2 hpos hg
 have he:goL l (l.2 - 1)=(l.1,l.2 - 1):=by unfold goL;congr 1;omega
 rw [he] at hg
 exact cM (by omega) (tK _ (lT e hv _ hg 0 (by omega)))
end
theorem aUz (e:EdT) (hs:dA 100000000 e):vL e=some (cG e):=by
 obtain ⟨vi,G,D,A9,op,A7,A8,fr,fh,A6,A4,A0,J,Z,O,A5,A_⟩:=e
 exact aTg vi G D A9 op A7 A8 fr fh A6 A4 A0 J Z O A5 A_ hs
theorem aQa (e:EdT) (hs:dA 100000000 e):oF e=some (cG e):=by
 obtain ⟨vi,G,D,A9,op,A7,A8,fr,fh,A6,A4,A0,J,Z,O,A5,A_⟩:=e
 exact aKx vi G D A9 op A7 A8 fr fh A6 A4 A0 J Z O A5 A_ hs
section
variable (h:Int×List (List UInt8)) (hh:(h.2.length:Int)≤1048576) (k:Int×Int) (e:EdT) (hs:dA 1048576 e)
include hh hs
theorem aTo:vJ e h k=some (cG e && hOk h && kOk k):=by
 unfold vJ
 rw [aO (aUz e (cM (by omega) hs)),uS h hh,cE,aUo,cE]
 cases cG e <;> cases hOk h <;> cases kOk k <;> rfl
end
theorem aIg (j:List UInt8→Option (List UInt8)) (hj:∀ l:List UInt8,(l.length:Int)≤9000000000000000→∃ v,j l=some v):∀ (m:Nat) (x:Int) (l:List UInt8),0≤x→x<m→(l.length:Int)+x≤9000000000000000→∃ v,aW (kW j) m (x,l)=some v:=by
 intro m
 induction m with
 | zero=>intro x l h0 h _;omega
 | succ m ih=>
  intro x l h0 hm hl
  simp only [aW,kW,aP,Bool.cond_decide]
  by_cases h:0<x
  ·
   rw [if_pos h]
   have hd:Int.tdiv x 10=x / 10:=Int.tdiv_eq_ediv_of_nonneg h0
   rw [hd,bK (x:=x / 10) (by omega) (by omega)]
   rw [if_pos (by simp;omega)]
   exact ih _ _ (by omega) (by omega) (by simp;omega)
  ·
   rw [if_neg h]
   exact hj l (by omega)
theorem aMs (k:Int) (hk:k≤8000000000000000):∃ t,qZ k=some t:=by
 unfold qZ
 simp only [aS,Bool.cond_decide]
 by_cases h:k≤0
 ·
  rw [if_pos h];exact ⟨_,rfl⟩
 ·
  rw [if_neg h]
  refine aIg _ (fun l hl=>?_) bG k [] (by omega) (by rw [bI];omega) (by simp;omega)
  simp only [aP]
  rw [if_pos (by simp;omega)]
  exact ⟨_,rfl⟩
theorem aDn (xs:List (List UInt8)) (hl:(xs.length:Int)≤1048576) (k0:Int) (hk0:0≤k0∧k0≤5000000000000000) (j:List (List UInt8)×Int→Option (Int×List (List UInt8))):∀ (m:Nat) (ys:List (List UInt8)) (i:Int),0≤i→i≤(xs.length:Int)→ys.length=xs.length→(xs.length:Int) - i<m →
  ∃ zs,aW (gS xs j) m (ys,k0+i,i)=j (zs,k0+xs.length)∧zs.length=xs.length:=by
 intro m
 induction m with
 | zero=>intro ys i _ _ _ h;omega
 | succ m ih=>
  intro ys i h0 h1 hy hm
  simp only [aW,gS,aP,Bool.cond_decide]
  by_cases h:i<(xs.length:Int)
  ·
   rw [if_pos h]
   obtain ⟨t,ht⟩:=aMs (k0+i) (by omega)
   rw [aO ht,if_pos ⟨h0,h⟩,bK (x:=k0+i+1) (by omega) (by omega),bK (x:=i+1) (by omega) (by omega)]
   have:=ih (List.set ys i.toNat t) (i+1) (by omega) (by omega) (by simpa using hy) (by omega)
   rw [← Int.add_assoc] at this
   exact this
  ·
   rw [if_neg h]
   have:i=(xs.length:Int):=by omega
   subst this
   exact ⟨ys,rfl,hy⟩
theorem aGs (xs:List (List UInt8)) (hl:(xs.length:Int)≤1048576) (k0:Int) (hk0:0≤k0∧k0≤5000000000000000):∃ zs,kX xs k0=some (k0+xs.length,zs):=by
 unfold kX
 simp only [aS]
 obtain ⟨zs,h,_⟩:=aDn xs hl k0 hk0 (fun x=>some (x.2,x.1)) bG xs 0 (by omega) (by omega) rfl (by rw [bI];omega)
 refine ⟨zs,?_⟩
 rw [Int.add_zero] at h
 exact h
theorem aQo (h:Int×List (List UInt8)) (hl:(h.2.length:Int)≤100000000):mP h=some h:=by
  unfold mP;rw [aO (aJl h.2 hl)]
theorem aNk (h:Int×List (List UInt8)) (hl:(h.2.length:Int)≤100000000):vF h h=some true:=by
  unfold vF;rw [aO (aG3 h.2 hl)];simp
theorem aQr (h:Int×List (List UInt8)) (wh:WfT (.pair (.int .i64) (.sl .str)) h) (left:Int) (h0:0≤left) (h1:left≤1048576) :
  ∃ v,vC h left=some v∧(v = -1∨(0≤v∧v≤left∧(h.2.length:Int)≤1048576∧∀ s ∈ h.2,(s.length:Int)≤1048576)):=by
 obtain ⟨w1,w2,w3⟩:=wh
 obtain ⟨v,e,hv⟩:=aJo h.2 w2 w3 left h0 h1
 unfold vC
 rw [aO e]
 rcases hv with rfl | ⟨v0,v1,v2,v3⟩
 ·
  exact ⟨-1,rfl,.inl rfl⟩
 ·
  have nv:¬ (v<0):=by omega
  exact ⟨v,by simp [nv],.inr ⟨v0,v1,by omega,fun s hs=>by have:=v3 s hs;omega⟩⟩
theorem aMu (h:Int×List (List UInt8)) (hl:(h.2.length:Int)≤1048576) (k0:Int) (hk0:0≤k0∧k0≤5000000000000000):∃ zs,rC h k0=some (k0+h.2.length,zs):=by
 obtain ⟨zs,e⟩:=aGs h.2 hl k0 hk0
 exact ⟨zs,by unfold rC;rw [aO e]⟩
def MkI (ys:List Int) (k:Int):Prop:=∀ i:Nat,i<ys.length→ys[i]?=some (k+i)
theorem aIh (xs:List Int) (hl:(xs.length:Int)≤100000000) (k0:Int) (hk0:0≤k0∧k0≤4000000000000000000) (j:List Int×Int→Option (Int×List Int)):∀ (m:Nat) (ys:List Int) (i:Int),0≤i→i≤(xs.length:Int)→ys.length=xs.length→(∀ q:Nat,(q:Int)<i→ys[q]?=some (k0+q))→(xs.length:Int) - i<m→0<m →
  ∃ zs,aW (kY xs j) m (ys,k0+i,i)=j (zs,k0+xs.length)∧zs.length=xs.length∧MkI zs k0:=by
 intro m
 induction m with
 | zero=>intro ys k _ _ _ _ h h';omega
 | succ m ih=>
  intro ys k hk hk' hy hyx hm _
  simp only [aW,kY,aP,Bool.cond_decide]
  by_cases h1:k<(xs.length:Int)
  ·
   simp only [h1,hk,if_true,and_self]
   rw [bK (x:=k+1) (by omega) (by omega),bK (x:=k0+k+1) (by omega) (by omega)]
   have e:k0+k+1=k0+(k+1):=by omega
   rw [e]
   refine ih _ _ (by omega) (by omega) (by simpa using hy) (fun q hq=>?_) (by omega) (by omega)
   rw [List.getElem?_set]
   by_cases he:k.toNat=q
   ·
    subst he
    rw [if_pos rfl,if_pos (by omega)]
    congr 1;omega
   ·
    rw [if_neg he]
    exact hyx q (by omega)
  ·
   simp only [h1,if_false]
   have:k=(xs.length:Int):=by omega
   subst this
   exact ⟨ys,rfl,hy,fun q hq=>hyx q (by omega)⟩
theorem vW (xs:List Int) (hl:(xs.length:Int)≤100000000) (k:Int) (hk0:0≤k∧k≤4000000000000000000):∃ ys,iE xs k=some (k+xs.length,ys)∧ys.length=xs.length∧MkI ys k:=by
 obtain ⟨zs,h1,h2,h3⟩:=aIh xs hl k hk0 (fun x=>some (x.2,x.1)) bG xs 0 (by omega) (by omega) rfl (fun q hq=>by omega) (by rw [bI];omega) (by rw [bI];omega)
 refine ⟨zs,?_,h2,h3⟩
 unfold iE aS
 have e:k+0=k:=by omega
 rw [e] at h1
 exact h1
theorem aIi (xs:List Int) (hl:(xs.length:Int)≤100000000) (k0:Int) (hk0:0≤k0∧k0≤4000000000000000000) (hM:MkI xs k0) (j:Int→Option Int):∀ (m:Nat) (i:Int),0≤i→i≤(xs.length:Int)→(xs.length:Int) - i<m→0<m →
  aW (kZ xs j) m (k0+i,i)=j (k0+xs.length):=by
 intro m
 induction m with
 | zero=>intro k _ _ h h';omega
 | succ m ih=>
  intro k hk hk' hm _
  simp only [aW,kZ,aP,Bool.cond_decide]
  by_cases h1:k<(xs.length:Int)
  ·
   have h2:=hM k.toNat (by omega)
   rw [bD ⟨hk,h1⟩] at h2
   have h3:at' xs k=k0+k:=by
    injection h2 with h2
    rw [h2];omega
   simp only [h1,hk,if_true,and_self,h3,decide_true,Bool.not_true,cond_false]
   rw [bK (x:=k+1) (by omega) (by omega),bK (x:=k0+k+1) (by omega) (by omega)]
   have e:k0+k+1=k0+(k+1):=by omega
   rw [e]
   exact ih _ (by omega) (by omega) (by omega) (by omega)
  ·
   simp only [h1,if_false]
   congr 1;omega
theorem vX (xs:List Int) (hl:(xs.length:Int)≤100000000) (k:Int) (hk0:0≤k∧k≤4000000000000000000) (hM:MkI xs k):iG xs k=some (k+xs.length):=by
 have h:=aIi xs hl k hk0 hM (fun x=>some x) bG 0 (by omega) (by omega) (by rw [bI];omega) (by rw [bI];omega)
 unfold iG aS
 have e:k+0=k:=by omega
 rw [e] at h
 exact h
def iZ:List (List Int)→Int
 | []=>0
 | p :: t=>(p.length:Int)+iZ t
def MkP:List (List Int)→Int→Prop
 | [],_=>True
 | p :: t,k=>MkI p k∧MkP t (k+p.length)
theorem aR3 (a b:List (List Int)):iZ (a ++ b)=iZ a+iZ b:=by
 induction a with
 | nil=>simp [iZ]
 | cons p t ih=>simp only [List.cons_append,iZ,ih];omega
theorem aU5 (a b:List (List Int)):∀ k,MkP (a ++ b) k ↔ MkP a k∧MkP b (k+iZ a):=by
 induction a with
 | nil=>intro k;simp [MkP,iZ]
 | cons p t ih=>
  intro k
  simp only [List.cons_append,MkP,ih,iZ,and_assoc]
  have:k+↑p.length+iZ t=k+(↑p.length+iZ t):=by omega
  rw [this]
theorem xY (xs:List (List Int)) (N:Int) (hN:0≤N) (hs:∀ s ∈ xs,(s.length:Int)≤N):0≤iZ xs∧iZ xs≤N*xs.length:=by
 induction xs with
 | nil=>simp [iZ]
 | cons p t ih=>
  have h1:=hs p (by simp)
  have h2:=ih (fun s h=>hs s (by simp [h]))
  simp only [iZ,List.length_cons]
  have e:N*((t.length+1:Nat):Int)=N*t.length+N:=by rw [Int.natCast_add,Int.mul_add];simp
  omega
theorem aLb {xs ys:List (List Int)} (h:xs.map List.length=ys.map List.length):iZ xs=iZ ys:=by
 induction xs generalizing ys with
 | nil=>cases ys with
  | nil=>rfl
  | cons _ _=>simp at h
 | cons p t ih=>cases ys with
  | nil=>simp at h
  | cons q u=>
   simp only [List.map_cons,List.cons.injEq] at h
   simp only [iZ,ih h.2,h.1]
theorem aDk {a b:Int} (ha:0≤a) (hb:0≤b) (ha':a≤1048576) (hb':b≤1048576):a*b≤1099511627776:=by
 have h1:a*b≤1048576*b:=Int.mul_le_mul_of_nonneg_right ha' hb
 omega
theorem aEz (xs:List (List Int)) (hl:(xs.length:Int)≤1048576) (hs:∀ s ∈ xs,(s.length:Int)≤1048576) (k0:Int) (hk0:0≤k0∧k0≤1000000000000000000) (j:List (List Int)×Int→Option (Int×List (List Int))):∀ (rest:List (List Int)) (m:Nat) (ds:List (List Int)),xs.length=ds.length+rest.length→xs.map List.length=(ds ++ rest).map List.length→MkP ds k0→rest.length<m →
  ∃ zs,aW (fY xs j) m (ds ++ rest,k0+iZ ds,(ds.length:Int))=j (zs,k0+iZ xs)∧zs.map List.length=xs.map List.length∧MkP zs k0:=by
 intro rest
 induction rest with
 | nil=>
  intro m ds h1 h2 h3 hm
  obtain ⟨m,rfl⟩:∃ q,m=q+1:=⟨m - 1,by simp at hm;omega⟩
  simp only [List.append_nil,List.length_nil,Nat.add_zero] at h1 h2 ⊢
  simp only [aW,fY,Bool.cond_decide]
  rw [if_neg (by omega)]
  exact ⟨ds,by rw [aLb h2],h2.symm,h3⟩
 | cons p rest ih=>
  intro m ds h1 h2 h3 hm
  obtain ⟨m,rfl⟩:∃ q,m=q+1:=⟨m - 1,by simp at hm;omega⟩
  simp only [List.length_cons] at h1 hm
  have hlt:(ds.length:Int)<(xs.length:Int):=by omega
  have hp:(p.length:Int)≤1048576:=by
   have hm':p.length ∈ xs.map List.length:=by rw [h2];simp
   obtain ⟨s,q1,q2⟩:=List.mem_map.1 hm'
   have:=hs s q1
   omega
  have hds:=xY ds 1048576 (by omega) (fun s h=>by
   have hm':s.length ∈ xs.map List.length:=by rw [h2];simp;exact .inl ⟨s,h,rfl⟩
   obtain ⟨s',q1,q2⟩:=List.mem_map.1 hm'
   have:=hs s' q1
   omega)
  have hb:iZ ds≤1099511627776:=by
   have:=aDk (a:=1048576) (b:=ds.length) (by omega) (by omega) (by omega) (by omega)
   omega
  have hat:at' (ds ++ p :: rest) (ds.length:Int)=p:=by
   unfold at'
   simp [List.getD_eq_getElem?_getD]
  obtain ⟨ys,y1,y2,y3⟩:=vW p (by omega) (k0+iZ ds) (by omega)
  simp only [aW,fY,aP,Bool.cond_decide]
  rw [if_pos hlt,if_pos ⟨by omega,hlt⟩,hat,aO y1,bK (by omega) (by omega)]
  have hset:(ds ++ p :: rest).set (Int.toNat (ds.length:Int)) ys=(ds ++ [ys]) ++ rest:=by
   simp [List.set_append]
  have hk:k0+iZ ds+(p.length:Int)=k0+iZ (ds ++ [ys]):=by
   rw [aR3];simp only [iZ];omega
  have hi:(ds.length:Int)+1=((ds ++ [ys]).length:Int):=by simp
  rw [hset,hi]
  simp only
  rw [hk]
  refine ih m (ds ++ [ys]) (by simp;omega) (by rw [h2];simp [y2]) ?_ (by omega)
  rw [aU5]
  exact ⟨h3,y3,trivial⟩
theorem aMt (xs:List (List Int)) (hl:(xs.length:Int)≤1048576) (hs:∀ s ∈ xs,(s.length:Int)≤1048576) (k:Int) (hk0:0≤k∧k≤1000000000000000000):∃ zs,rA xs k=some (k+iZ xs,zs)∧zs.map List.length=xs.map List.length∧MkP zs k:=by
 obtain ⟨zs,h1,h2,h3⟩:=aEz xs hl hs k hk0 (fun x=>some (x.2,x.1)) xs bG [] (by simp) (by simp) trivial (by rw [bI];omega)
 refine ⟨zs,?_,h2,h3⟩
 unfold rA rB aS
 simp only [List.nil_append,iZ,Int.add_zero,List.length_nil] at h1
 have e:((0:Nat):Int)=0:=rfl
 rw [e] at h1
 exact aO h1
theorem aE0 (xs:List (List Int)) (hl:(xs.length:Int)≤1048576) (hs:∀ s ∈ xs,(s.length:Int)≤1048576) (j:Int→Option Int):∀ (m:Nat) (k i:Int),0≤i→i≤(xs.length:Int)→0≤k→k+iZ (xs.drop i.toNat)≤2000000000000000000→MkP (xs.drop i.toNat) k→(xs.length:Int) - i<m →
  aW (iF xs j) m (k,i)=j (k+iZ (xs.drop i.toNat)):=by
 intro m
 induction m with
 | zero=>intro k i _ _ _ _ _ h;omega
 | succ m ih=>
  intro k i hi hi' hk hk' hM hm
  simp only [aW,iF,aP,Bool.cond_decide]
  by_cases h1:i<(xs.length:Int)
  ·
   rw [dU hi h1] at hM hk' ⊢
   have hb:=hs (at' xs i) (List.mem_of_getElem? (bD ⟨hi,h1⟩))
   have htb:=xY (xs.drop (i+1).toNat) 1048576 (by omega) (fun s h=>hs s (List.mem_of_mem_drop h))
   simp only [iZ] at hk' ⊢
   obtain ⟨hM1,hM2⟩:=hM
   rw [if_pos h1,if_pos ⟨hi,h1⟩,aO (vX _ (by omega) k (by omega) hM1),if_neg (by omega),bK (by omega) (by omega)]
   rw [ih _ (i+1) (by omega) (by omega) (by omega) (by omega) hM2 (by omega)]
   congr 1;omega
  ·
   rw [if_neg h1,List.drop_eq_nil_of_le (by omega)]
   simp [iZ]
theorem aM6 (xs:List (List Int)) (hl:(xs.length:Int)≤1048576) (hs:∀ s ∈ xs,(s.length:Int)≤1048576) (k:Int) (hk0:0≤k∧k≤1000000000000000000) (hM:MkP xs k):rE xs k=some (k+iZ xs):=by
 have hb:=xY xs 1048576 (by omega) hs
 have:=aDk (a:=1048576) (b:=xs.length) (by omega) (by omega) (by omega) (by omega)
 unfold rE rF
 simp only [aS]
 rw [aE0 xs hl hs _ bG k 0 (by omega) (by omega) (by omega) (by simp only [Int.toNat_zero,List.drop_zero];omega) (by simpa using hM) (by rw [bI];omega)]
 simp only [Int.toNat_zero,List.drop_zero,aF]
 have:¬ (k+iZ xs<0):=by omega
 simp [this]
def gV:List (List Int×Int)→Int
 | []=>0
 | p :: t=>(p.1.length:Int)+1+gV t
def MkL:List (List Int×Int)→Int→Prop
 | [],_=>True
 | p :: t,k=>(MkI p.1 k∧p.2=k+p.1.length)∧MkL t (k+p.1.length+1)
theorem aR4 (a b:List (List Int×Int)):gV (a ++ b)=gV a+gV b:=by
 induction a with
 | nil=>simp [gV]
 | cons p t ih=>simp only [List.cons_append,gV,ih];omega
theorem aU6 (a b:List (List Int×Int)):∀ k,MkL (a ++ b) k ↔ MkL a k∧MkL b (k+gV a):=by
 induction a with
 | nil=>intro k;simp [MkL,gV]
 | cons p t ih=>
  intro k
  simp only [List.cons_append,MkL,ih,gV,and_assoc]
  have:k+↑p.1.length+1+gV t=k+(↑p.1.length+1+gV t):=by omega
  rw [this]
theorem xZ (xs:List (List Int×Int)) (N:Int) (hN:0≤N) (hs:∀ s ∈ xs,(s.1.length:Int)+1≤N):0≤gV xs∧gV xs≤N*xs.length:=by
 induction xs with
 | nil=>simp [gV]
 | cons p t ih=>
  have h1:=hs p (by simp)
  have h2:=ih (fun s h=>hs s (by simp [h]))
  simp only [gV,List.length_cons]
  have e:N*((t.length+1:Nat):Int)=N*t.length+N:=by rw [Int.natCast_add,Int.mul_add];simp
  omega
def wM (p:List Int×Int):Nat:=p.1.length
theorem aLc {xs ys:List (List Int×Int)} (h:xs.map wM=ys.map wM):gV xs=gV ys:=by
 induction xs generalizing ys with
 | nil=>cases ys with
  | nil=>rfl
  | cons _ _=>simp at h
 | cons p t ih=>cases ys with
  | nil=>simp at h
  | cons q u=>
   simp only [List.map_cons,List.cons.injEq,wM] at h
   simp only [gV,ih h.2,h.1]
theorem aBy {b:Int} (hb:0≤b) (hb':b≤1048576):1048577*b≤1099512676352:=by omega
theorem aGt (xs:List (List Int×Int)) (hl:(xs.length:Int)≤1048576) (hs:∀ s ∈ xs,(s.1.length:Int)≤1048576) (k0:Int) (hk0:0≤k0∧k0≤1000000000000000000) (j:List (List Int×Int)×Int→Option (Int×List (List Int×Int))):∀ (rest:List (List Int×Int)) (m:Nat) (ds:List (List Int×Int)),xs.length=ds.length+rest.length→xs.map wM=(ds ++ rest).map wM→MkL ds k0→rest.length<m →
  ∃ zs,aW (gL xs j) m (ds ++ rest,k0+gV ds,(ds.length:Int))=j (zs,k0+gV xs)∧zs.map wM=xs.map wM∧MkL zs k0:=by
 intro rest
 induction rest with
 | nil=>
  intro m ds h1 h2 h3 hm
  obtain ⟨m,rfl⟩:∃ q,m=q+1:=⟨m - 1,by simp at hm;omega⟩
  simp only [List.append_nil,List.length_nil,Nat.add_zero] at h1 h2 ⊢
  simp only [aW,gL,Bool.cond_decide]
  rw [if_neg (by omega)]
  exact ⟨ds,by rw [aLc h2],h2.symm,h3⟩
 | cons p rest ih=>
  intro m ds h1 h2 h3 hm
  obtain ⟨m,rfl⟩:∃ q,m=q+1:=⟨m - 1,by simp at hm;omega⟩
  simp only [List.length_cons] at h1 hm
  have hlt:(ds.length:Int)<(xs.length:Int):=by omega
  have hp:(p.1.length:Int)≤1048576:=by
   have hm':wM p ∈ xs.map wM:=by rw [h2];simp
   obtain ⟨s,q1,q2⟩:=List.mem_map.1 hm'
   have:=hs s q1
   unfold wM at q2
   omega
  have hds:=xZ ds 1048577 (by omega) (fun s h=>by
   have hm':wM s ∈ xs.map wM:=by rw [h2];exact List.mem_map.2 ⟨s,List.mem_append_left _ h,rfl⟩
   obtain ⟨s',q1,q2⟩:=List.mem_map.1 hm'
   have:=hs s' q1
   unfold wM at q2
   omega)
  have hb:gV ds≤1099512676352:=by
   have:=aBy (b:=ds.length) (by omega) (by omega)
   omega
  have hat:at' (ds ++ p :: rest) (ds.length:Int)=p:=by
   unfold at'
   simp [List.getD_eq_getElem?_getD]
  obtain ⟨ys,y1,y2,y3⟩:=vW p.1 (by omega) (k0+gV ds) (by omega)
  simp only [aW,gL,aP,Bool.cond_decide]
  rw [if_pos hlt,if_pos ⟨by omega,hlt⟩,hat,aO y1]
  have hset:∀ v,(ds ++ p :: rest).set (Int.toNat (ds.length:Int)) v=ds ++ v :: rest:=by
   intro v;simp [List.set_append]
  have hset2:∀ u v,(ds ++ u :: rest).set (Int.toNat (ds.length:Int)) v=ds ++ v :: rest:=by
   intro u v;simp [List.set_append]
  have hat2:∀ u:List Int×Int,at' (ds ++ u :: rest) (ds.length:Int)=u:=by
   intro u;unfold at';simp [List.getD_eq_getElem?_getD]
  simp only [hset,hset2,hat2]
  rw [if_pos ⟨by omega,hlt⟩,bK (x:=(ds.length:Int)+1) (by omega) (by omega),bK (x:=k0+gV ds+(p.1.length:Int)+1) (by omega) (by omega)]
  have hk:k0+gV ds+(p.1.length:Int)+1=k0+gV (ds ++ [(ys,k0+gV ds+(p.1.length:Int))]):=by
   rw [aR4];simp only [gV];omega
  have hi:(ds.length:Int)+1=((ds ++ [(ys,k0+gV ds+(p.1.length:Int))]).length:Int):=by simp
  rw [hi,hk]
  have ha:ds ++ (ys,k0+gV ds+(p.1.length:Int)) :: rest=(ds ++ [(ys,k0+gV ds+(p.1.length:Int))]) ++ rest:=by simp
  rw [ha]
  refine ih m _ (by simp;omega) (by rw [h2];simp [wM,y2]) ?_ (by omega)
  rw [aU6]
  exact ⟨h3,⟨y3,by rw [y2]⟩,trivial⟩
theorem aMr (xs:List (List Int×Int)) (hl:(xs.length:Int)≤1048576) (hs:∀ s ∈ xs,(s.1.length:Int)≤1048576) (k:Int) (hk0:0≤k∧k≤1000000000000000000):∃ zs,qY xs k=some (k+gV xs,zs)∧zs.map wM=xs.map wM∧MkL zs k:=by
 obtain ⟨zs,h1,h2,h3⟩:=aGt xs hl hs k hk0 (fun x=>some (x.2,x.1)) xs bG [] (by simp) (by simp) trivial (by rw [bI];omega)
 refine ⟨zs,?_,h2,h3⟩
 unfold qY sE aS
 simp only [List.nil_append,gV,Int.add_zero,List.length_nil] at h1
 have e:((0:Nat):Int)=0:=rfl
 rw [e] at h1
 exact aO h1
theorem aGz (xs:List (List Int×Int)) (hl:(xs.length:Int)≤1048576) (hs:∀ s ∈ xs,(s.1.length:Int)≤1048576) (j:Int→Option Int):∀ (m:Nat) (k i:Int),0≤i→i≤(xs.length:Int)→0≤k→k+gV (xs.drop i.toNat)≤2000000000000000000→MkL (xs.drop i.toNat) k→(xs.length:Int) - i<m →
  aW (jK xs j) m (k,i)=j (k+gV (xs.drop i.toNat)):=by
 intro m
 induction m with
 | zero=>intro k i _ _ _ _ _ h;omega
 | succ m ih=>
  intro k i hi hi' hk hk' hM hm
  simp only [aW,jK,aP,Bool.cond_decide]
  by_cases h1:i<(xs.length:Int)
  ·
   rw [dU hi h1] at hM hk' ⊢
   have hb:=hs (at' xs i) (List.mem_of_getElem? (bD ⟨hi,h1⟩))
   have htb:=xZ (xs.drop (i+1).toNat) 1048577 (by omega) (fun s h=>by have:=hs s (List.mem_of_mem_drop h);omega)
   simp only [gV] at hk' ⊢
   obtain ⟨⟨hM1,hM3⟩,hM2⟩:=hM
   rw [if_pos h1,if_pos ⟨hi,h1⟩,aO (vX _ (by omega) k (by omega) hM1),if_neg (by omega),if_pos ⟨hi,h1⟩]
   rw [decide_eq_true hM3]
   simp only [Bool.not_true,cond_false]
   rw [bK (x:=i+1) (by omega) (by omega),bK (x:=k+_+1) (by omega) (by omega)]
   rw [ih _ (i+1) (by omega) (by omega) (by omega) (by omega) hM2 (by omega)]
   congr 1;omega
  ·
   rw [if_neg h1,List.drop_eq_nil_of_le (by omega)]
   simp [gV]
theorem aM5 (xs:List (List Int×Int)) (hl:(xs.length:Int)≤1048576) (hs:∀ s ∈ xs,(s.1.length:Int)≤1048576) (k:Int) (hk0:0≤k∧k≤1000000000000000000) (hM:MkL xs k):rD xs k=some (k+gV xs):=by
 have hb:=xZ xs 1048577 (by omega) (fun s h=>by have:=hs s h;omega)
 have:=aBy (b:=xs.length) (by omega) (by omega)
 unfold rD sF
 simp only [aS]
 rw [aGz xs hl hs _ bG k 0 (by omega) (by omega) (by omega) (by simp only [Int.toNat_zero,List.drop_zero];omega) (by simpa using hM) (by rw [bI];omega)]
 simp only [Int.toNat_zero,List.drop_zero,aF]
 have:¬ (k+gV xs<0):=by omega
 simp [this]
theorem aAe (l:List Int×Int) (hl:(l.1.length:Int)≤100000000) (k:Int) (hk0:0≤k∧k≤4000000000000000000):∃ ys,kF l k=some (k+l.1.length,ys)∧ys.length=l.1.length∧MkI ys k:=by
 obtain ⟨ys,h1,h2,h3⟩:=vW l.1 hl k hk0
 exact ⟨ys,by unfold kF;rw [aO h1],h2,h3⟩
theorem aAg (l:List Int×Int) (hl:(l.1.length:Int)≤100000000) (k:Int) (hk0:0≤k∧k≤4000000000000000000) (hM:MkI l.1 k):kG l k=some (k+l.1.length):=by
 unfold kG
 rw [aO (vX l.1 hl k hk0 hM)]
 have:¬ (k+(l.1.length:Int)<0):=by omega
 simp [this]
theorem aPx {xs ys:List (List Int)} (h:xs.map List.length=ys.map List.length):xs.length=ys.length:=by
  have:=congrArg List.length h;simpa using this
theorem aMv {xs ys:List (List Int×Int)} (h:xs.map wM=ys.map wM):xs.length=ys.length:=by
  have:=congrArg List.length h;simpa using this
theorem aI2 (vi:Bool) (G:Int) (D:List Int×Int) (A9 op A7 A8 fr fh A6:Int) (A4:List (List Int)) (A0:List (List Int×Int)) (J:Int) (Z:List Int×Int) (O:List Int) (A5:Int) (A_:List Int×Int)
  (hs:dA 1048576 (vi,G,D,A9,op,A7,A8,fr,fh,A6,A4,A0,J,Z,O,A5,A_)) :
  ∃ n l r u o q b,mS (vi,G,D,A9,op,A7,A8,fr,fh,A6,A4,A0,J,Z,O,A5,A_) 1=some (n,l,r,u,o,q,b)∧(0≤n∧n≤4000000000000) ∧
   l.length=D.1.length∧r.length=A4.length∧u.length=A0.length∧o.length=Z.1.length∧q.length=O.length∧b.length=A_.1.length ∧
   pM (vi,G,(l,D.2),A9,op,A7,A8,fr,fh,A6,r,u,J,(o,Z.2),q,A5,(b,A_.2)) 1=some n:=by
 obtain ⟨h1,⟨h2,h3⟩,⟨h4,h5⟩,h6,h7,h8⟩:=hs
 have h3':∀ s ∈ A4,(s.length:Int)≤1048576:=fun s h=>by have:=h3 s h;omega
 have h5':∀ s ∈ A0,(s.1.length:Int)≤1048576:=fun s h=>by have:=h5 s h;omega
 have tr:=xY A4 1048576 (by omega) h3'
 have tr':=aDk (a:=1048576) (b:=A4.length) (by omega) (by omega) (by omega) (by omega)
 have tu:=xZ A0 1048577 (by omega) (fun s h=>by have:=h5' s h;omega)
 have tu':=aBy (b:=A0.length) (by omega) (by omega)
 obtain ⟨l,a1,a2,a3⟩:=aAe D (by omega) 1 (by omega)
 obtain ⟨r,b1,b2,b3⟩:=aMt A4 (by omega) h3' (1+D.1.length) (by omega)
 obtain ⟨u,c1,c2,c3⟩:=aMr A0 (by omega) h5' (1+D.1.length+iZ A4) (by omega)
 obtain ⟨o,d1,d2,d3⟩:=aAe Z (by omega) (1+D.1.length+iZ A4+gV A0) (by omega)
 obtain ⟨q,e1,e2,e3⟩:=vW O (by omega) (1+D.1.length+iZ A4+gV A0+Z.1.length) (by omega)
 obtain ⟨b,f1,f2,f3⟩:=aAe A_ (by omega) (1+D.1.length+iZ A4+gV A0+Z.1.length+O.length) (by omega)
 refine ⟨1+D.1.length+iZ A4+gV A0+Z.1.length+O.length+A_.1.length,l,r,u,o,q,b,?_,?_,a2,aPx b2,aMv c2,d2,e2,f2,?_⟩
 ·
  unfold mS
  rw [aO a1]
  simp only
  rw [aO b1]
  simp only
  rw [aO c1]
  simp only
  rw [aO d1]
  simp only
  rw [aO e1]
  simp only
  rw [aO f1]
 ·
  omega
 ·
  have rl:=aPx b2
  have ul:=aMv c2
  have r3:∀ s ∈ r,(s.length:Int)≤1048576:=fun s h=>by
   have hm':s.length ∈ A4.map List.length:=by rw [← b2];exact List.mem_map.2 ⟨s,h,rfl⟩
   obtain ⟨s',q1,q2⟩:=List.mem_map.1 hm'
   have:=h3' s' q1
   omega
  have u3:∀ s ∈ u,(s.1.length:Int)≤1048576:=fun s h=>by
   have hm':wM s ∈ A0.map wM:=by rw [← c2];exact List.mem_map.2 ⟨s,h,rfl⟩
   obtain ⟨s',q1,q2⟩:=List.mem_map.1 hm'
   have:=h5' s' q1
   unfold wM at q2
   omega
  have g1:=aAg (l,D.2) (by simp only;omega) 1 (by omega) a3
  have g2:=aM6 r (by omega) r3 (1+D.1.length) (by omega) b3
  have g3:=aM5 u (by omega) u3 (1+D.1.length+iZ A4) (by omega) c3
  have g4:=aAg (o,Z.2) (by simp only;omega) (1+D.1.length+iZ A4+gV A0) (by omega) d3
  have g5:=vX q (by omega) (1+D.1.length+iZ A4+gV A0+Z.1.length) (by omega) e3
  have g6:=aAg (b,A_.2) (by simp only;omega) (1+D.1.length+iZ A4+gV A0+Z.1.length+O.length) (by omega) f3
  simp only [a2,aLb b2,aLc c2,d2,e2,f2] at g1 g2 g3 g4 g5 g6
  unfold pM
  simp only [Bool.cond_decide]
  rw [aO g1,if_neg (by omega),aO g2,if_neg (by omega),aO g3,if_neg (by omega),aO g4,if_neg (by omega),aO g5,if_neg (by omega),aO g6,if_neg (by omega)]
theorem aWs (z:EdT) (hS:dA 1048576 z):oL z z=some true∧∃ n l r u o q b,mS z 1=some (n,l,r,u,o,q,b)∧¬ n<0 ∧
  pM (z.1,z.2.1,(l,z.2.2.1.2),z.2.2.2.1,z.2.2.2.2.1,z.2.2.2.2.2.1,z.2.2.2.2.2.2.1,z.2.2.2.2.2.2.2.1,z.2.2.2.2.2.2.2.2.1,z.2.2.2.2.2.2.2.2.2.1,r,u,z.2.2.2.2.2.2.2.2.2.2.2.2.1,(o,z.2.2.2.2.2.2.2.2.2.2.2.2.2.1.2),q,z.2.2.2.2.2.2.2.2.2.2.2.2.2.2.2.1,(b,z.2.2.2.2.2.2.2.2.2.2.2.2.2.2.2.2.2)) 1=some n∧n≤4000000000000:=by
 obtain ⟨vi',mode',line',count',op',opc',wait',fr',fh',last',ring',undo',nav',own',query',hit',back'⟩:=z
 have ez:=aJe vi' mode' line' count' op' opc' wait' fr' fh' last' ring' undo' nav' own' query' hit' back' (cM (by omega) hS)
 obtain ⟨n,x1,x2,x3,x4,x5,x6,g1,g2,g3,g4,g5,g6,g7,g8,g9⟩:=aI2 vi' mode' line' count' op' opc' wait' fr' fh' last' ring' undo' nav' own' query' hit' back' hS
 exact ⟨ez,n,x1,x2,x3,x4,x5,x6,g1,by omega,g9,by omega⟩
theorem aU0 (e:EdT) (hs:dA 1048576 e):qW e=some e∧oL e e=some true∧∃ n l r u o q b,mS e 1=some (n,l,r,u,o,q,b)∧0≤n∧n≤4000000000000:=by
 obtain ⟨vi,G,D,A9,op,A7,A8,fr,fh,A6,A4,A0,J,Z,O,A5,A_⟩:=e
 have te:=aT4 vi G D A9 op A7 A8 fr fh A6 A4 A0 J Z O A5 A_ (cM (by omega) hs)
 have ee:=aJe vi G D A9 op A7 A8 fr fh A6 A4 A0 J Z O A5 A_ (cM (by omega) hs)
 obtain ⟨n0,l0,r0,u0,o0,q0,b0,m1,m2,m3⟩:=aI2 vi G D A9 op A7 A8 fr fh A6 A4 A0 J Z O A5 A_ hs
 exact ⟨te,ee,n0,l0,r0,u0,o0,q0,b0,m1,by omega,by omega⟩
def pkR (h:Int×List (List UInt8)) (k:Int×Int) (e:EdT):EdT×Int×Bool:=
  if (cG e && hOk h && kOk k)=true∧(e.2.1=0∨e.2.1=1) then iQ h k e else (zEd,0,false)
theorem aWn (m:Int):(bif (!(decide (m=0))) then (!(decide (m=1))) else false)=!decide (m=0∨m=1):=by
  by_cases h0:m=0 <;> by_cases h1:m=1 <;> simp [h0,h1]
theorem aRr:∀ q:EdT×Int×Bool,(q.2.2=true→0≤q.2.1)→(q.2.2=false→q=(zEd,0,false)) →
  (match aQb q with | (a,b)=>bif decide (b<0) then some (zEd,(0:Int),false) else some (a,b,true))=some q:=by
 intro q h1 h2
 obtain ⟨z,n,b⟩:=q
 cases b
 ·
  have:=h2 rfl
  cases this
  rfl
 ·
  have:=h1 rfl
  simp only at this
  simp only [aQb,if_true]
  rw [decide_eq_false (by omega)]
  rfl
section
variable (h:Int×List (List UInt8)) (hh:(h.2.length:Int)≤1048576) (k:Int×Int) (e:EdT) (hs:dA 1048576 e)
include hh hs
theorem pk_s:qT e h k=some (pkR h k e):=by
 unfold qT pkR
 rw [aO (aQa e (cM (by omega) hs)),yD h hh,cE,aPy,cE,aWn]
 have hp:cG e=true→nJ e h k=some (aQb (iQ h k e)):=fun hv=>aUk e hv h hh k
 have hd:cG e=true→(iQ h k e).2.2=true→0≤(iQ h k e).2.1:=fun hv _=>(aD6 e hv h k).2
 have hz:(iQ h k e).2.2=false→iQ h k e=(zEd,0,false):=aQ9 h k e
 cases hv:cG e
 ·
  rfl
 have hp:=hp hv
 have hd:=hd hv
 generalize iQ h k e=q at hp hd hz ⊢
 cases hOk h
 ·
  rfl
 cases kOk k
 ·
  rfl
 by_cases hm:e.2.1=0∨e.2.1=1
 ·
  rw [decide_eq_true hm,show (if (true && true && true)=true∧(e.2.1=0∨e.2.1=1) then q else (zEd,0,false))=q from if_pos ⟨rfl,hm⟩]
  exact (aI hp rfl).trans (aRr q hd hz)
 ·
  rw [decide_eq_false hm,show (if (true && true && true)=true∧(e.2.1=0∨e.2.1=1) then q else (zEd,0,false))=(zEd,0,false) from if_neg (fun h=>hm h.2)]
  rfl
end
noncomputable def aF2 (h:Int×List (List UInt8)) (r:Int) (e:EdT):EdT×Int:=
 if r=120 then fB 100 e.2.2.1.2 (min (e.2.2.1.2+nV e) (e.2.2.1.1.length:Int)) e
 else if r=88 then fB 100 (max (e.2.2.1.2 - nV e) 0) e.2.2.1.2 e
 else if r=68 then fB 100 e.2.2.1.2 (e.2.2.1.1.length:Int) e
 else if r=67 then fB 99 e.2.2.1.2 (e.2.2.1.1.length:Int) e
 else if r=115 then fB 99 e.2.2.1.2 (min (e.2.2.1.2+nV e) (e.2.2.1.1.length:Int)) e
 else if r=83 then fB 99 0 (e.2.2.1.1.length:Int) e
 else if r=114 then (aPk 114 e,0)
 else if r=112 then zP (min (e.2.2.1.2+1) (e.2.2.1.1.length:Int)) e
 else if r=80 then zP e.2.2.1.2 e
 else if r=126 then aBn e
 else if r=117 then aFf e
 else if r=107∨r=45 then yW h (-1) e
 else if r=106∨r=43 then yW h 1 e
 else if r=47 then aLr e
 else if r=105 then xD e.2.2.1.2 e
 else if r=73 then xD (gQ e.2.2.1.1 e.2.2.1.2 94 1).1 e
 else if r=97 then xD (min (e.2.2.1.2+1) (e.2.2.1.1.length:Int)) e
 else if r=65 then xD (e.2.2.1.1.length:Int) e
 else jD e
noncomputable def aFq (h:Int×List (List UInt8)) (r:Int) (e:EdT):EdT×Int:=
 if (49≤r∧r≤57)∨(r=48∧e.2.2.2.1≠0) then (aWj (min (10*e.2.2.2.1+r - 48) 999) e,0)
 else if 0≤yM r then (aPk r e,0)
 else if r=59 then aBc e.2.2.2.2.2.2.2.2.1 e
 else if r=44 then aBc (at' ([1,0,3,2]:List Int) e.2.2.2.2.2.2.2.2.1) e
 else if e.2.2.2.2.1=0∧(r=100∨r=99∨r=121) then (opW r e,0)
 else if e.2.2.2.2.1≠0∧r=e.2.2.2.2.1 then fB e.2.2.2.2.1 0 (e.2.2.1.1.length:Int) e
 else if (gQ e.2.2.1.1 e.2.2.1.2 r (nV e)).2.2=true then aGp r e
 else if e.2.2.2.2.1≠0 then jD e
 else aF2 h r e
noncomputable def aFm (h:Int×List (List UInt8)) (k:Int×Int) (e:EdT):EdT×Int:=
 if k.1=4 then (e,2)
 else if k.1=7 then (if e.2.2.2.1=0∧e.2.2.2.2.1=0 then jD e else (jA e.2.2.2.2.2.2.2.2.2.1 e,0))
 else if k.1=8 then yW h (-1) e
 else if k.1=9 then yW h 1 e
 else if k.1=11∨k.1=5 then aGp 104 e
 else if k.1=10 then aGp 108 e
 else if k.1=12 then aGp 48 e
 else if k.1=13 then aGp 36 e
 else if k.1=14 then fB 100 e.2.2.1.2 (min (e.2.2.1.2+nV e) (e.2.2.1.1.length:Int)) e
 else if k.1=2∧k.2=99 then (e,3)
 else if k.1=2∧k.2=108 then (e,5)
 else if (k.1=2∧k.2=100)∧(e.2.2.1.1.length:Int)=0 then (e,4)
 else if k.1=2∧k.2=114 then aLr e
 else jD e
noncomputable def viE (h:Int×List (List UInt8)) (k:Int×Int) (e:EdT):EdT×Int:=
 if e.2.1=2 then (if e.2.2.2.2.2.2.1≠0 then aD1 k e else if k.1=1 then aFq h k.2 e else aFm h k e)
 else if (iQ h k e).2.2=true then ((iQ h k e).1,(iQ h k e).2.1)
 else if k.1=7 then (aWr e,0)
 else jD e
noncomputable def viR (h:Int×List (List UInt8)) (k:Int×Int) (e:EdT):EdT×Int:=
  if (cG e && hOk h && kOk k)=true∧(e.2.1=1∨e.2.1=2) then viE h k e else (zEd,0)
theorem aO3 (t:List Int) (a r c c':Int):(gQ t a r c).2.2=(gQ t a r c').2.2:=by
 unfold gQ
 simp only
 repeat' split
 all_goals rfl
theorem aUs {x:Int} (h:x=102∨x=70∨x=116∨x=84):0≤yM x∧yM x≤3:=by
  rcases h with rfl | rfl | rfl | rfl <;> exact ⟨by decide,by decide⟩
theorem aU3 (t:List Int) (a:Int):0≤(gQ t a 94 1).1∧(gQ t a 94 1).1≤(t.length:Int):=by
 have h:(gQ t a 94 1).1=fwd (fun i=>aDu (at' t i)=0) t.length 0:=rfl
 have b:=gW (fun i=>aDu (at' t i)=0) t.length 0
 rw [h];omega
section
variable (e:EdT) (hv:cG e=true)
include hv
theorem aOb (nl:Int):dQ e nl=some (jA nl e):=by
 obtain ⟨vi,G,D,A9,op,A7,A8,fr,fh,A6,A4,A0,J,Z,O,A5,A_⟩:=e
 exact wT vi G D A9 op A7 A8 fr fh A6 A4 A0 J Z O A5 A_ hv nl
theorem aR8:rG e (nV e)=some (aBn e):=by
 obtain ⟨hl,_⟩:=eOk e hv
 obtain ⟨p0,p1,p2⟩:=bB hl
 have hn:=gP e hv
 unfold rG aBn
 rw [bK (x:=e.2.2.1.2+nV e) (by omega) (by omega)]
 by_cases c:(e.2.2.1.1.length:Int)=0
 ·
  rw [decide_eq_true c,if_pos c]
  exact aI (fM e hv) rfl
 rw [decide_eq_false c,if_neg c]
 simp only [cond_false,aS]
 refine aI (wN _ _ (by omega)) ?_
 have he:goL e.2.2.1 (e.2.2.1.2+nV e)=(e.2.2.1.1,min (e.2.2.1.2+nV e) (e.2.2.1.1.length:Int)):=by unfold goL;congr 1;omega
 rw [he,aT6 _ (by simp only;omega) _ bG (min (e.2.2.1.2+nV e) (e.2.2.1.1.length:Int) - e.2.2.1.2).toNat _ _ p0 (by simp only;omega) (by simp only;omega) (eT hl) (by rw [bI];omega)]
 have ha:=zE sO aAt (min (e.2.2.1.2+nV e) (e.2.2.1.1.length:Int) - e.2.2.1.2).toNat _ _ (eT hl) p0 (by omega)
 have hlen:=zD sO (min (e.2.2.1.2+nV e) (e.2.2.1.1.length:Int) - e.2.2.1.2).toNat e.2.2.1.1 e.2.2.1.2
 exact aI (aBs e hv _ (rQ ha (by omega) (by rw [hlen];omega))) rfl
theorem aR6:qN e=some (aBn e):=by
 obtain ⟨hl,_⟩:=eOk e hv
 obtain ⟨p0,p1,p2⟩:=bB hl
 have hn:=gP e hv
 unfold qN aBn
 by_cases c:(e.2.2.1.1.length:Int)=0
 ·
  rw [decide_eq_true c,if_pos c]
  exact aI (iA e hv) rfl
 rw [decide_eq_false c,if_neg c]
 simp only [cond_false,aS]
 refine aI (gR _ (by omega)) (aI (aMp e hv) ?_)
 rw [bK (x:=e.2.2.1.2+nV e) (by omega) (by omega)]
 refine aI (cL _ _ (by omega)) ?_
 rw [show max 0 (min (e.2.2.1.2+nV e) (e.2.2.1.1.length:Int))=min (e.2.2.1.2+nV e) (e.2.2.1.1.length:Int) by omega]
 rw [aT5 _ (by omega) _ bG (min (e.2.2.1.2+nV e) (e.2.2.1.1.length:Int) - e.2.2.1.2).toNat _ _ p0 (by omega) (by omega) (eT hl) (by rw [bI];omega)]
 have ha:=zE sO aAt (min (e.2.2.1.2+nV e) (e.2.2.1.1.length:Int) - e.2.2.1.2).toNat _ _ (eT hl) p0 (by omega)
 have hlen:=zD sO (min (e.2.2.1.2+nV e) (e.2.2.1.1.length:Int) - e.2.2.1.2).toNat e.2.2.1.1 e.2.2.1.2
 exact aI (aDb e hv _ (rQ ha (by omega) (by rw [hlen];omega)) 0 (by omega)) rfl
theorem aR7:dA 1048576 (aBn e).1:=by
 obtain ⟨hl,_⟩:=eOk e hv
 obtain ⟨p0,p1,p2⟩:=bB hl
 have hn:=gP e hv
 unfold aBn
 refine cR (fun _=>(mD e hv).1) fun _=>?_
 have ha:=zE sO aAt (min (e.2.2.1.2+nV e) (e.2.2.1.1.length:Int) - e.2.2.1.2).toNat _ _ (eT hl) p0 (by omega)
 have hlen:=zD sO (min (e.2.2.1.2+nV e) (e.2.2.1.1.length:Int) - e.2.2.1.2).toNat e.2.2.1.1 e.2.2.1.2
 exact cM (by omega) (tK _ (lT e hv _ (rQ ha (by omega) (by rw [hlen];omega)) 0 (by omega)))
variable (k:Int×Int) (hk:kOk k=true)
include hk
theorem aJv (h1:k.1=1) (hc:¬ (e.2.2.1.1.length:Int)<e.2.2.1.2+nV e):bO (aBm (fun _=>k.2) e.2.2.1.1 e.2.2.1.2 (nV e).toNat,e.2.2.1.2+nV e - 1)=true:=by
 obtain ⟨hl,_⟩:=eOk e hv
 obtain ⟨p0,p1,p2⟩:=bB hl
 have hn:=gP e hv
 have hp:pr k.2=true:=by
  unfold kOk at hk
  rw [if_pos h1] at hk
  exact hk
 have ha:=zE (fun _=>k.2) (fun _ _=>by unfold adm;rw [hp];rfl) (nV e).toNat _ _ (eT hl) p0 (by omega)
 have hlen:=zD (fun _=>k.2) (nV e).toNat e.2.2.1.1 e.2.2.1.2
 exact rQ ha (by omega) (by rw [hlen];omega)
theorem aFb (h1:k.1=1) (hw:e.2.2.2.2.2.2.1≠0) (h114:e.2.2.2.2.2.2.1≠114):cG (aP2 k.2 (yM e.2.2.2.2.2.2.1) e)=true∧k.2≠0:=by
 have hp:pr k.2=true:=by
  unfold kOk at hk
  rw [if_pos h1] at hk
  exact hk
 obtain ⟨_,_,_,ho,_⟩:=aNn e hv
 refine ⟨aTa e hv _ _ hp (aUs (by omega)),fun h=>?_⟩
 rw [h] at hp
 exact absurd hp (by decide)
theorem aVo (hw:e.2.2.2.2.2.2.1≠0):vG e k (nV e)=some (aD1 k e):=by
 obtain ⟨hl,_⟩:=eOk e hv
 obtain ⟨p0,p1,p2⟩:=bB hl
 have hn:=gP e hv
 unfold vG aD1
 by_cases c1:k.1=1
 ·
  rw [decide_eq_true c1,if_neg (fun h=>h c1)]
  simp only [Bool.not_true,cond_false,Bool.cond_decide]
  by_cases c2:e.2.2.2.2.2.2.1=114
  ·
   rw [if_pos c2,if_pos c2,bK (x:=e.2.2.1.2+nV e) (by omega) (by omega),bK (x:=e.2.2.1.2+nV e - 1) (by omega) (by omega)]
   by_cases c3:(e.2.2.1.1.length:Int)<e.2.2.1.2+nV e
   ·
    rw [if_pos c3,if_pos c3]
    exact aI (fM e hv) rfl
   ·
    rw [if_neg c3,if_neg c3]
    refine aI (wN _ _ (by omega)) ?_
    simp only [aS]
    have he:goL e.2.2.1 (e.2.2.1.2+nV e - 1)=(e.2.2.1.1,e.2.2.1.2+nV e - 1):=by unfold goL;congr 1;omega
    rw [he,aWe e k (nV e) (by omega) _ bG (nV e).toNat _ _ p0 (by omega) (by simp only;omega) (by rw [bI];omega)]
    exact aI (aBs e hv _ (aJv e hv k hk c1 c3)) rfl
  ·
   rw [if_neg c2,if_neg c2,aO (aS7 _),aO (aWq _ (by omega) _ _ _ _)]
   obtain ⟨w1,w2⟩:=aFb e hv k hk c1 hw c2
   have hf:=aP3 _ w1 k.2 (yM e.2.2.2.2.2.2.1)
   generalize fT e.2.2.1.1 e.2.2.1.2 k.2 (yM e.2.2.2.2.2.2.1) (nV e)=q
   obtain ⟨to,b⟩:=q
   cases b
   ·
    exact aI (fM e hv) rfl
   ·
    refine aI (uV e hv) ?_
    obtain ⟨vi,G,D,A9,op,A7,A8,fr,fh,A6,A4,A0,J,Z,O,A5,A_⟩:=e
    exact aI hf rfl
 ·
  rw [decide_eq_false c1,if_pos c1]
  exact aI (fM e hv) rfl
theorem aVn (hm:e.2.1=2) (hw:e.2.2.2.2.2.2.1≠0):sQ e k=some (aD1 k e):=by
 obtain ⟨hl,_⟩:=eOk e hv
 obtain ⟨p0,p1,p2⟩:=bB hl
 have hn:=gP e hv
 unfold sQ aD1
 by_cases c1:k.1=1
 ·
  rw [decide_eq_true c1,if_neg (fun h=>h c1)]
  simp only [Bool.not_true,cond_false,Bool.cond_decide]
  by_cases c2:e.2.2.2.2.2.2.1=114
  ·
   rw [if_pos c2,if_pos c2,aO (aMp e hv),bK (x:=(e.2.2.1.1.length:Int) - e.2.2.1.2) (by omega) (by omega),bK (x:=e.2.2.1.2+nV e) (by omega) (by omega),bK (x:=e.2.2.1.2+nV e - 1) (by omega) (by omega)]
   by_cases c3:(e.2.2.1.1.length:Int)<e.2.2.1.2+nV e
   ·
    rw [if_pos (show (e.2.2.1.1.length:Int) - e.2.2.1.2<nV e by omega),if_pos c3]
    exact aI (iA e hv) rfl
   ·
    rw [if_neg (show ¬ (e.2.2.1.1.length:Int) - e.2.2.1.2<nV e by omega),if_neg c3]
    refine aI (gR _ (by omega)) ?_
    simp only [aS]
    rw [aWd e k (nV e) (by omega) _ bG (nV e).toNat _ _ p0 (by omega) (by omega) (by rw [bI];omega)]
    exact aI (aDb e hv _ (aJv e hv k hk c1 c3) 0 (by omega)) rfl
  ·
   rw [if_neg c2,if_neg c2,aO (aVk _),aO (aMp e hv),aO (aWp _ (by omega) _ _ _ _)]
   obtain ⟨w1,w2⟩:=aFb e hv k hk c1 hw c2
   have hm':(aP2 k.2 (yM e.2.2.2.2.2.2.1) e).2.1=2:=by
    obtain ⟨vi,G,D,A9,op,A7,A8,fr,fh,A6,A4,A0,J,Z,O,A5,A_⟩:=e
    exact hm
   have hf:=aKt _ w1 hm' k.2 (yM e.2.2.2.2.2.2.1)
   rw [if_neg w2] at hf
   generalize fT e.2.2.1.1 e.2.2.1.2 k.2 (yM e.2.2.2.2.2.2.1) (nV e)=q
   obtain ⟨to,b⟩:=q
   cases b
   ·
    exact aI (iA e hv) rfl
   ·
    refine aI (hZ e hv) ?_
    obtain ⟨vi,G,D,A9,op,A7,A8,fr,fh,A6,A4,A0,J,Z,O,A5,A_⟩:=e
    exact aI hf rfl
 ·
  rw [decide_eq_false c1,if_pos c1]
  exact aI (iA e hv) rfl
theorem aT0 (hw:e.2.2.2.2.2.2.1≠0):dA 1048576 (aD1 k e).1:=by
 have hb:=(mD e hv).1
 unfold aD1
 refine cR (fun _=>hb) fun c1=>?_
 have c1:k.1=1:=Decidable.not_not.1 c1
 refine cR (fun c2=>cR (fun _=>hb) fun c3=>?_) fun c2=>cR (fun _=>?_) fun _=>hb
 ·
  exact cM (by omega) (tK _ (lT e hv _ (aJv e hv k hk c1 c3) 0 (by omega)))
 ·
  exact aNa _ (aFb e hv k hk c1 hw c2).1 _ _
end
noncomputable def aPe (r:Int) (e:EdT):EdT×Int×Bool:=
 if (49≤r∧r≤57)∨(r=48∧e.2.2.2.1≠0) then (aWj (min (10*e.2.2.2.1+r - 48) 999) e,0,true)
 else if 0≤yM r then (aPk r e,0,true)
 else if r=59 then ((aBc e.2.2.2.2.2.2.2.2.1 e).1,(aBc e.2.2.2.2.2.2.2.2.1 e).2,true)
 else if r=44 then ((aBc (at' ([1,0,3,2]:List Int) e.2.2.2.2.2.2.2.2.1) e).1,(aBc (at' ([1,0,3,2]:List Int) e.2.2.2.2.2.2.2.2.1) e).2,true)
 else if e.2.2.2.2.1=0∧(r=100∨r=99∨r=121) then (opW r e,0,true)
 else (zEd,0,false)
section
variable (e:EdT) (hv:cG e=true)
include hv
theorem aU4 (r:Int) (hr:-1000000≤r∧r≤10000000000):xS e r (nV e)=some (aPe r e):=by
 obtain ⟨hl,hc,_⟩:=eOk e hv
 obtain ⟨p0,p1,p2⟩:=bB hl
 obtain ⟨_,_,_,_,_,hf⟩:=aNn e hv
 have hn:=gP e hv
 unfold xS aPe
 refine aI (uV e hv) ?_
 rw [aO (aCu r 49 57),bK (x:=10*e.2.2.2.1) (by omega) (by omega),bK (x:=10*e.2.2.2.1+r) (by omega) (by omega),bK (x:=10*e.2.2.2.1+r - 48) (by omega) (by omega)]
 rw [show (bif (decide (49≤r∧r≤57)) then true else (bif (decide (r=48)) then (!(decide (e.2.2.2.1=0))) else false))=decide ((49≤r∧r≤57)∨(r=48∧e.2.2.2.1≠0)) by
  by_cases a:49≤r∧r≤57 <;> by_cases b:r=48 <;> by_cases c:e.2.2.2.1=0 <;> simp [a,b,c]]
 by_cases c1:(49≤r∧r≤57)∨(r=48∧e.2.2.2.1≠0)
 ·
  rw [decide_eq_true c1,if_pos c1]
  obtain ⟨vi,G,D,A9,op,A7,A8,fr,fh,A6,A4,A0,J,Z,O,A5,A_⟩:=e
  rfl
 rw [decide_eq_false c1,if_neg c1]
 refine aI (aS7 r) ?_
 by_cases c2:0≤yM r
 ·
  rw [decide_eq_true c2,if_pos c2]
  obtain ⟨vi,G,D,A9,op,A7,A8,fr,fh,A6,A4,A0,J,Z,O,A5,A_⟩:=e
  rfl
 rw [decide_eq_false c2,if_neg c2]
 have hsemi:∀ how:Int,(bif decide (e.2.2.2.2.2.2.2.1=0) then aF (cZ e) fun (y54,y55)=>some (y54,y55,true)
   else aF (pQ e e.2.2.2.2.2.2.2.1 how (nV e)) fun (y69,y70)=>some (y69,y70,true))=some ((aBc how e).1,(aBc how e).2,true):=by
  intro how
  unfold aBc
  by_cases c:e.2.2.2.2.2.2.2.1=0
  ·
   rw [decide_eq_true c,if_pos c];exact aI (fM e hv) rfl
  ·
   rw [decide_eq_false c,if_neg c];exact aI (aP3 e hv _ how) rfl
 simp only [aS,aP]
 have hrng:0≤e.2.2.2.2.2.2.2.2.1∧e.2.2.2.2.2.2.2.2.1≤3:=by
  unfold xF at hf
  simp only [Bool.and_eq_true,decide_eq_true_eq] at hf
  obtain ⟨⟨f1,f2⟩,_⟩:=hf
  by_cases z:e.2.2.2.2.2.2.2.1=0
  ·
   have:=f1 z;omega
  ·
   exact f2 z
 have hlen:(([1,0,3,2]:List Int).length:Int)=4:=rfl
 by_cases c3:r=59
 ·
  subst c3
  exact hsemi _
 by_cases c4:r=44
 ·
  subst c4
  rw [hlen,if_pos (by omega)]
  exact hsemi _
 rw [decide_eq_false c3,if_neg c3,decide_eq_false c4,if_neg c4,aWm r,cE]
 simp only [cond_false]
 by_cases c5:e.2.2.2.2.1=0
 ·
  rw [decide_eq_true c5,if_pos rfl,cond_true]
  by_cases c6:r=100∨r=99∨r=121
  ·
   rw [decide_eq_true c6,if_pos ⟨c5,c6⟩]
   obtain ⟨vi,G,D,A9,op,A7,A8,fr,fh,A6,A4,A0,J,Z,O,A5,A_⟩:=e
   rfl
  ·
   rw [decide_eq_false c6,if_neg (fun h=>c6 h.2)]
   rfl
 ·
  rw [decide_eq_false c5,if_neg Bool.false_ne_true,if_neg (fun h=>c5 h.1)]
  rfl
end
section
variable (e:EdT) (hv:cG e=true) (h:Int×List (List UInt8)) (hh:(h.2.length:Int)≤1048576)
include hv hh
theorem aRs (r:Int) (hr:-1000000≤r∧r≤10000000000):tF e h r (nV e)=some (aFq h r e):=by
 have hb:=aU4 e hv r hr
 unfold tF aFq
 unfold aPe at hb
 by_cases c1:(49≤r∧r≤57)∨(r=48∧e.2.2.2.1≠0)
 ·
  rw [if_pos c1] at hb ⊢;exact aI hb rfl
 rw [if_neg c1] at hb ⊢
 by_cases c2:0≤yM r
 ·
  rw [if_pos c2] at hb ⊢;exact aI hb rfl
 rw [if_neg c2] at hb ⊢
 by_cases c3:r=59
 ·
  rw [if_pos c3] at hb ⊢;exact aI hb rfl
 rw [if_neg c3] at hb ⊢
 by_cases c4:r=44
 ·
  rw [if_pos c4] at hb ⊢;exact aI hb rfl
 rw [if_neg c4] at hb ⊢
 by_cases c5:e.2.2.2.2.1=0∧(r=100∨r=99∨r=121)
 ·
  rw [if_pos c5] at hb ⊢;exact aI hb rfl
 rw [if_neg c5] at hb ⊢
 refine aI hb ?_
 obtain ⟨hl,_⟩:=eOk e hv
 obtain ⟨p0,p1,p2⟩:=bB hl
 have hn:=gP e hv
 simp only [cond_false]
 rw [show (bif (!(decide (e.2.2.2.2.1=0))) then (decide (r=e.2.2.2.2.1)) else false)=decide (e.2.2.2.2.1≠0∧r=e.2.2.2.2.1) by
  by_cases a:e.2.2.2.2.1=0 <;> by_cases b:r=e.2.2.2.2.1 <;> simp [a,b]]
 by_cases c6:e.2.2.2.2.1≠0∧r=e.2.2.2.2.1
 ·
  rw [decide_eq_true c6,if_pos c6,← c6.2];exact aI (aBa e hv _ _ _ (by omega)) rfl
 rw [decide_eq_false c6,if_neg c6]
 refine aI (aB1 _ (by omega) _ r _) ?_
 have hmo:(aF (tE e (gQ e.2.2.1.1 e.2.2.1.2 r (nV e)).1 (gQ e.2.2.1.1 e.2.2.1.2 r (nV e)).2.1) fun (y68,y69)=>some (y68,y69))=some (aGp r e):=aI (aKk e hv _ _) rfl
 by_cases c7:(gQ e.2.2.1.1 e.2.2.1.2 r (nV e)).2.2=true
 ·
  rw [if_pos c7]
  generalize gQ e.2.2.1.1 e.2.2.1.2 r (nV e)=q at c7 hmo
  obtain ⟨a,b,c⟩:=q
  obtain rfl:c=true:=c7
  exact hmo
 rw [if_neg c7]
 generalize gQ e.2.2.1.1 e.2.2.1.2 r (nV e)=q at c7
 obtain ⟨qa,qb,qc⟩:=q
 obtain rfl:qc=false:=by cases qc;rfl;exact absurd rfl c7
 by_cases c8:e.2.2.2.2.1=0
 ·
  rw [if_neg (fun h=>h c8),decide_eq_true c8]
  simp only [Bool.not_true,cond_false]
  unfold aF2
  simp only [aS]
  rw [bK (x:=e.2.2.1.2+nV e) (by omega) (by omega),bK (x:=e.2.2.1.2 - nV e) (by omega) (by omega),bK (x:=e.2.2.1.2+1) (by omega) (by omega)]
  simp only [Bool.cond_decide]
  have hch:∀ x a b:Int,(0≤a∧a≤b∧b≤(e.2.2.1.1.length:Int))→(aF (eA e x a b) fun (y98,y99)=>some (y98,y99))=some (fB x a b e):=fun x a b hr=>aI (aBa e hv x a b hr) rfl
  by_cases c1:r=120
  ·
   rw [if_pos c1,if_pos c1];exact hch _ _ _ (by omega)
  rw [if_neg c1,if_neg c1]
  by_cases c2:r=88
  ·
   rw [if_pos c2,if_pos c2];exact hch _ _ _ (by omega)
  rw [if_neg c2,if_neg c2]
  by_cases c3:r=68
  ·
   rw [if_pos c3,if_pos c3];exact hch _ _ _ (by omega)
  rw [if_neg c3,if_neg c3]
  by_cases c4:r=67
  ·
   rw [if_pos c4,if_pos c4];exact hch _ _ _ (by omega)
  rw [if_neg c4,if_neg c4]
  by_cases c5:r=115
  ·
   rw [if_pos c5,if_pos c5];exact hch _ _ _ (by omega)
  rw [if_neg c5,if_neg c5]
  by_cases c6:r=83
  ·
   rw [if_pos c6,if_pos c6];exact hch _ _ _ (by omega)
  rw [if_neg c6,if_neg c6]
  by_cases c7:r=114
  ·
   rw [if_pos c7,if_pos c7]
   refine aI (uV e hv) ?_
   obtain ⟨vi,G,D,A9,op,A7,A8,fr,fh,A6,A4,A0,J,Z,O,A5,A_⟩:=e
   rfl
  rw [if_neg c7,if_neg c7]
  by_cases c8:r=112
  ·
   rw [if_pos c8,if_pos c8];exact aI (aPs e hv _) rfl
  rw [if_neg c8,if_neg c8]
  by_cases c9:r=80
  ·
   rw [if_pos c9,if_pos c9];exact aI (aPs e hv _) rfl
  rw [if_neg c9,if_neg c9]
  by_cases c10:r=126
  ·
   rw [if_pos c10,if_pos c10];exact aI (aR8 e hv) rfl
  rw [if_neg c10,if_neg c10]
  by_cases c11:r=117
  ·
   rw [if_pos c11,if_pos c11];exact aI (aVq e hv) rfl
  rw [if_neg c11,if_neg c11]
  by_cases c12:r=107∨r=45
  ·
   rw [if_pos c12];rcases c12 with rfl | rfl <;> exact aI (aA5 e hv h hh _) rfl
  rw [if_neg (fun h=>c12 (.inl h)),if_neg (fun h=>c12 (.inr h)),if_neg c12]
  by_cases c13:r=106∨r=43
  ·
   rw [if_pos c13];rcases c13 with rfl | rfl <;> exact aI (aA5 e hv h hh _) rfl
  rw [if_neg (fun h=>c13 (.inl h)),if_neg (fun h=>c13 (.inr h)),if_neg c13]
  by_cases c14:r=47
  ·
   rw [if_pos c14,if_pos c14]
   refine aI (aSc e hv) ?_
   obtain ⟨vi,G,D,A9,op,A7,A8,fr,fh,A6,A4,A0,J,Z,O,A5,A_⟩:=e
   rfl
  rw [if_neg c14,if_neg c14]
  have hb:xT e r=some (if r=105 then xD e.2.2.1.2 e
    else if r=73 then xD (gQ e.2.2.1.1 e.2.2.1.2 94 1).1 e
    else if r=97 then xD (min (e.2.2.1.2+1) (e.2.2.1.1.length:Int)) e
    else if r=65 then xD (e.2.2.1.1.length:Int) e
    else jD e):=by
   unfold xT
   simp only [aS]
   rw [bK (x:=e.2.2.1.2+1) (by omega) (by omega)]
   simp only [Bool.cond_decide]
   by_cases d1:r=105
   ·
    rw [if_pos d1,if_pos d1];exact aKq e hv _
   rw [if_neg d1,if_neg d1]
   by_cases d2:r=73
   ·
    rw [if_pos d2,if_pos d2];exact aI (aB1 _ (by omega) _ 94 1) (aKq e hv _)
   rw [if_neg d2,if_neg d2]
   by_cases d3:r=97
   ·
    rw [if_pos d3,if_pos d3];exact aKq e hv _
   rw [if_neg d3,if_neg d3]
   by_cases d4:r=65
   ·
    rw [if_pos d4,if_pos d4];exact aKq e hv _
   rw [if_neg d4,if_neg d4]
   exact aI (fM e hv) rfl
  exact aI hb rfl
 ·
  rw [if_pos c8,decide_eq_false c8]
  exact aI (fM e hv) rfl
theorem aSq (hm:e.2.1=2) (r:Int):qO e h r=some (aF2 h r e):=by
 obtain ⟨hl,_⟩:=eOk e hv
 obtain ⟨p0,p1,p2⟩:=bB hl
 have hn:=gP e hv
 have hcb:=aU3 e.2.2.1.1 e.2.2.1.2
 unfold qO aF2
 rw [aO (aMp e hv)]
 simp only [aS]
 rw [bK (x:=e.2.2.1.2+nV e) (by omega) (by omega),bK (x:=e.2.2.1.2 - nV e) (by omega) (by omega),bK (x:=e.2.2.1.2+1) (by omega) (by omega)]
 rw [cL (e.2.2.1.2+nV e) _ (by omega),cL (e.2.2.1.2 - nV e) _ (by omega),cL (e.2.2.1.2+1) _ (by omega)]
 rw [show max 0 (min (e.2.2.1.2+nV e) (e.2.2.1.1.length:Int))=min (e.2.2.1.2+nV e) (e.2.2.1.1.length:Int) by omega,show max 0 (min (e.2.2.1.2 - nV e) (e.2.2.1.1.length:Int))=max (e.2.2.1.2 - nV e) 0 by omega,show max 0 (min (e.2.2.1.2+1) (e.2.2.1.1.length:Int))=min (e.2.2.1.2+1) (e.2.2.1.1.length:Int) by omega]
 simp only [aRw,Bool.cond_decide]
 have hch:∀ x a b:Int,(x=100∨x=99∨x=121)→(0≤a∧a≤b∧b≤(e.2.2.1.1.length:Int))→(aF (dY e x a b) fun (y98,y99)=>some (y98,y99))=some (fB x a b e):=fun x a b hx hr=>aI (aA9 e hv hm x a b hx hr) rfl
 by_cases c1:r=120
 ·
  rw [if_pos c1,if_pos c1];exact hch _ _ _ (by omega) (by omega)
 rw [if_neg c1,if_neg c1]
 by_cases c2:r=88
 ·
  rw [if_pos c2,if_pos c2];exact hch _ _ _ (by omega) (by omega)
 rw [if_neg c2,if_neg c2]
 by_cases c3:r=68
 ·
  rw [if_pos c3,if_pos c3];exact hch _ _ _ (by omega) (by omega)
 rw [if_neg c3,if_neg c3]
 by_cases c4:r=67
 ·
  rw [if_pos c4,if_pos c4];exact hch _ _ _ (by omega) (by omega)
 rw [if_neg c4,if_neg c4]
 by_cases c5:r=115
 ·
  rw [if_pos c5,if_pos c5];exact hch _ _ _ (by omega) (by omega)
 rw [if_neg c5,if_neg c5]
 by_cases c6:r=83
 ·
  rw [if_pos c6,if_pos c6];exact hch _ _ _ (by omega) (by omega)
 rw [if_neg c6,if_neg c6]
 by_cases c7:r=114
 ·
  rw [if_pos c7,if_pos c7]
  refine aI (hZ e hv) ?_
  obtain ⟨vi,G,D,A9,op,A7,A8,fr,fh,A6,A4,A0,J,Z,O,A5,A_⟩:=e
  rfl
 rw [if_neg c7,if_neg c7]
 by_cases d1:r=105
 ·
  subst d1;exact aI (aKp e hv _ ⟨p0,p1⟩) rfl
 by_cases d2:r=73
 ·
  subst d2;exact aI (aBr _ (by omega) _ 94 1) (aI (aKp e hv _ hcb) rfl)
 by_cases d3:r=97
 ·
  subst d3;exact aI (aKp e hv _ (by omega)) rfl
 by_cases d4:r=65
 ·
  subst d4;exact aI (aKp e hv _ (by omega)) rfl
 rw [if_neg d1,if_neg d1,if_neg d2,if_neg d2,if_neg d3,if_neg d3,if_neg d4,if_neg d4]
 by_cases c8:r=112
 ·
  rw [if_pos c8,if_pos c8];exact aI (aPr e hv _) rfl
 rw [if_neg c8,if_neg c8]
 by_cases c9:r=80
 ·
  rw [if_pos c9,if_pos c9];exact aI (aPr e hv _) rfl
 rw [if_neg c9,if_neg c9]
 by_cases c10:r=126
 ·
  rw [if_pos c10,if_pos c10];exact aI (aR6 e hv) rfl
 rw [if_neg c10,if_neg c10]
 by_cases c11:r=117
 ·
  rw [if_pos c11,if_pos c11];exact aI (aVp e hv) rfl
 rw [if_neg c11,if_neg c11]
 by_cases c12:r=107∨r=45
 ·
  rw [if_pos c12];rcases c12 with rfl | rfl <;> exact aI (aA4 e hv h hh _) rfl
 rw [if_neg (fun h=>c12 (.inl h)),if_neg (fun h=>c12 (.inr h)),if_neg c12]
 by_cases c13:r=106∨r=43
 ·
  rw [if_pos c13];rcases c13 with rfl | rfl <;> exact aI (aA4 e hv h hh _) rfl
 rw [if_neg (fun h=>c13 (.inl h)),if_neg (fun h=>c13 (.inr h)),if_neg c13]
 by_cases c14:r=47
 ·
  rw [if_pos c14,if_pos c14];exact aI (aSb e hv (by omega)) rfl
 rw [if_neg c14,if_neg c14]
 exact aI (iA e hv) rfl
end
theorem aWk (x:Int) (h:0≤x∧x≤3):wA x=some (at' ([1,0,3,2]:List Int) x):=by
 have:x=0∨x=1∨x=2∨x=3:=by omega
 rcases this with rfl | rfl | rfl | rfl <;> rfl
section
variable (e:EdT) (hv:cG e=true) (h:Int×List (List UInt8)) (hh:(h.2.length:Int)≤1048576)
include hv hh
theorem aVw (hm:e.2.1=2) (r:Int) (hr:-1000000≤r∧r≤10000000000):sR e h r=some (aFq h r e):=by
 obtain ⟨hl,hc,_⟩:=eOk e hv
 obtain ⟨p0,p1,p2⟩:=bB hl
 obtain ⟨_,_,hop,_,_,hf⟩:=aNn e hv
 have hn:=gP e hv
 have hrng:0≤e.2.2.2.2.2.2.2.2.1∧e.2.2.2.2.2.2.2.2.1≤3:=by
  unfold xF at hf
  simp only [Bool.and_eq_true,decide_eq_true_eq] at hf
  obtain ⟨⟨f1,f2⟩,_⟩:=hf
  by_cases z:e.2.2.2.2.2.2.2.1=0
  ·
   have:=f1 z;omega
  ·
   exact f2 z
 unfold sR aFq
 refine aI (hZ e hv) ?_
 rw [bK (x:=e.2.2.2.1*10) (by omega) (by omega),bK (x:=e.2.2.2.1*10+r) (by omega) (by omega),bK (x:=e.2.2.2.1*10+r - 48) (by omega) (by omega)]
 rw [show (bif (bif (decide (49≤r)) then (decide (r≤57)) else false) then true else (bif (decide (r=48)) then (decide (0<e.2.2.2.1)) else false))=decide ((49≤r∧r≤57)∨(r=48∧e.2.2.2.1≠0)) by
  have hz:decide (0<e.2.2.2.1)=decide (e.2.2.2.1≠0):=decide_eq_decide.2 (by omega)
  rw [hz]
  by_cases a:49≤r <;> by_cases a':r≤57 <;> by_cases b:r=48 <;> by_cases c:e.2.2.2.1=0 <;> simp [a,a',b,c]]
 by_cases c1:(49≤r∧r≤57)∨(r=48∧e.2.2.2.1≠0)
 ·
  rw [decide_eq_true c1,if_pos c1]
  refine aI (cL _ 999 (by omega)) ?_
  rw [show max 0 (min (e.2.2.2.1*10+r - 48) 999)=min (10*e.2.2.2.1+r - 48) 999 by omega]
  obtain ⟨vi,G,D,A9,op,A7,A8,fr,fh,A6,A4,A0,J,Z,O,A5,A_⟩:=e
  rfl
 rw [decide_eq_false c1,if_neg c1]
 refine aI (aVk r) ?_
 by_cases c2:0≤yM r
 ·
  rw [decide_eq_true c2,if_pos c2]
  obtain ⟨vi,G,D,A9,op,A7,A8,fr,fh,A6,A4,A0,J,Z,O,A5,A_⟩:=e
  rfl
 rw [decide_eq_false c2,if_neg c2]
 by_cases c3:r=59
 ·
  subst c3;exact aI (aKt e hv hm _ _) rfl
 by_cases c4:r=44
 ·
  subst c4;exact aI (aWk _ hrng) (aI (aKt e hv hm _ _) rfl)
 rw [decide_eq_false c3,if_neg c3,decide_eq_false c4,if_neg c4]
 simp only [cond_false]
 rw [show (bif (decide (e.2.2.2.2.1=0)) then (bif (bif (decide (r=100)) then true else (decide (r=99))) then true else (decide (r=121))) else false)=decide (e.2.2.2.2.1=0∧(r=100∨r=99∨r=121)) by
  by_cases a:e.2.2.2.2.1=0 <;> by_cases b:r=100 <;> by_cases c:r=99 <;> by_cases d:r=121 <;> simp [a,b,c,d]]
 by_cases c5:e.2.2.2.2.1=0∧(r=100∨r=99∨r=121)
 ·
  rw [decide_eq_true c5,if_pos c5]
  obtain ⟨vi,G,D,A9,op,A7,A8,fr,fh,A6,A4,A0,J,Z,O,A5,A_⟩:=e
  rfl
 rw [decide_eq_false c5,if_neg c5]
 simp only [cond_false]
 rw [show (bif (!(decide (e.2.2.2.2.1=0))) then (decide (r=e.2.2.2.2.1)) else false)=decide (e.2.2.2.2.1≠0∧r=e.2.2.2.2.1) by
  by_cases a:e.2.2.2.2.1=0 <;> by_cases b:r=e.2.2.2.2.1 <;> simp [a,b]]
 by_cases c6:e.2.2.2.2.1≠0∧r=e.2.2.2.2.1
 ·
  rw [decide_eq_true c6,if_pos c6];exact aI (aA9 e hv hm _ _ _ (hop.resolve_left c6.1) (by omega)) rfl
 rw [decide_eq_false c6,if_neg c6]
 refine aI (aBr _ (by omega) _ r 1) ?_
 have hmo:=aO3 e.2.2.1.1 e.2.2.1.2 r 1 (nV e)
 by_cases c7:(gQ e.2.2.1.1 e.2.2.1.2 r (nV e)).2.2=true
 ·
  rw [if_pos c7]
  rw [c7] at hmo
  generalize gQ e.2.2.1.1 e.2.2.1.2 r 1=q at hmo
  obtain ⟨a,b,c⟩:=q
  obtain rfl:c=true:=hmo
  exact aI (aDl e hv hm r) rfl
 rw [if_neg c7]
 rw [Bool.eq_false_iff.2 c7] at hmo
 generalize gQ e.2.2.1.1 e.2.2.1.2 r 1=q at hmo
 obtain ⟨qa,qb,qc⟩:=q
 obtain rfl:qc=false:=hmo
 by_cases c8:e.2.2.2.2.1=0
 ·
  rw [if_neg (fun h=>h c8),decide_eq_true c8]
  exact aI (aSq e hv h hh hm r) rfl
 ·
  rw [if_pos c8,decide_eq_false c8]
  exact aI (iA e hv) rfl
theorem aVt (hw:e.2.2.2.2.2.2.1=0) (k:Int×Int):tD e h k (nV e)=some (aFm h k e):=by
 obtain ⟨hl,hc,_⟩:=eOk e hv
 obtain ⟨p0,p1,p2⟩:=bB hl
 obtain ⟨_,hoc,_⟩:=aNn e hv
 have hn:=gP e hv
 unfold tD aFm
 refine aI (uV e hv) ?_
 simp only [aS]
 rw [bK (x:=e.2.2.1.2+nV e) (by omega) (by omega)]
 obtain ⟨k,r⟩:=k
 simp only
 by_cases c1:k=4
 ·
  subst c1;rfl
 by_cases c2:k=7
 ·
  subst c2
  simp only [decide_true,cond_true,decide_false,cond_false,if_true,if_false,show ¬ (7:Int)=4 by decide]
  by_cases d:e.2.2.2.1=0∧e.2.2.2.2.1=0
  ·
   rw [decide_eq_true d.1,decide_eq_true d.2,decide_eq_true (hoc d.2),decide_eq_true hw,if_pos d]
   exact aI (fM e hv) rfl
  ·
   rw [if_neg d,show (bif (bif (bif (decide (e.2.2.2.1=0)) then (decide (e.2.2.2.2.1=0)) else false) then (decide (e.2.2.2.2.2.1=0)) else false) then (decide (e.2.2.2.2.2.2.1=0)) else false)=false by
    by_cases a:e.2.2.2.1=0
    ·
     have b:¬ e.2.2.2.2.1=0:=fun b=>d ⟨a,b⟩
     simp [a,b]
    ·
     simp [a]]
   exact aI (aOb e hv _) rfl
 by_cases c3:k=8
 ·
  subst c3;exact aI (aA5 e hv h hh _) rfl
 by_cases c4:k=9
 ·
  subst c4;exact aI (aA5 e hv h hh _) rfl
 by_cases c5:k=11
 ·
  subst c5;exact aI (aGo e hv 104) rfl
 by_cases c6:k=5
 ·
  subst c6;exact aI (aGo e hv 104) rfl
 by_cases c7:k=10
 ·
  subst c7;exact aI (aGo e hv 108) rfl
 by_cases c8:k=12
 ·
  subst c8;exact aI (aGo e hv 48) rfl
 by_cases c9:k=13
 ·
  subst c9;exact aI (aGo e hv 36) rfl
 by_cases c10:k=14
 ·
  subst c10;exact aI (aBa e hv 100 e.2.2.1.2 (min (e.2.2.1.2+nV e) (e.2.2.1.1.length:Int)) (by omega)) rfl
 simp only [c1,c2,c3,c4,c5,c6,c7,c8,c9,c10,decide_false,cond_false,if_false,or_false]
 by_cases c11:k=2
 ·
  simp only [c11,decide_true,cond_true,true_and,Bool.cond_decide]
  by_cases d1:r=99
  ·
   rw [if_pos d1,if_pos d1]
  rw [if_neg d1,if_neg d1]
  by_cases d2:r=108
  ·
   rw [if_pos d2,if_pos d2]
  rw [if_neg d2,if_neg d2]
  by_cases d3:r=100∧(e.2.2.1.1.length:Int)=0
  ·
   rw [if_pos d3,if_pos d3.1,decide_eq_true d3.2];rfl
  rw [if_neg d3]
  rw [show (if r=100 then decide ((e.2.2.1.1.length:Int)=0) else false)=false by
   by_cases a:r=100
   ·
    rw [if_pos a,decide_eq_false (fun b=>d3 ⟨a,b⟩)]
   ·
    rw [if_neg a]]
  simp only [cond_false]
  by_cases d4:r=114
  ·
   rw [if_pos d4,if_pos d4]
   refine aI (aSc e hv) ?_
   obtain ⟨vi,G,D,A9,op,A7,A8,fr,fh,A6,A4,A0,J,Z,O,A5,A_⟩:=e
   rfl
  rw [if_neg d4,if_neg d4]
  exact aI (fM e hv) rfl
 ·
  simp only [c11,decide_false,cond_false,false_and,if_false]
  exact aI (fM e hv) rfl
theorem aVs (hm:e.2.1=2) (hw:e.2.2.2.2.2.2.1=0) (k:Int×Int) (h1:k.1≠1):fQ e h k=some (aFm h k e):=by
 obtain ⟨hl,hc,_⟩:=eOk e hv
 obtain ⟨p0,p1,p2⟩:=bB hl
 have hn:=gP e hv
 have eqd:∀ r:Int,(false ^^ eqK k (2,r))=decide (k.1=2∧k.2=r):=by
  intro r
  unfold eqK
  by_cases a:k.1=2 <;> by_cases b:k.2=r <;> simp [a,b]
 unfold fQ aFm
 simp only [aS,eqd]
 rw [decide_eq_true hw,decide_eq_false h1]
 simp only [Bool.not_true,cond_false]
 obtain ⟨k,r⟩:=k
 simp only
 by_cases c1:k=4
 ·
  subst c1;exact aI (hZ e hv) rfl
 by_cases c2:k=7
 ·
  subst c2
  refine aI (iA e hv) ?_
  simp only [if_true,if_false,show ¬ (7:Int)=4 by decide]
  by_cases d:e.2.2.2.1=0∧e.2.2.2.2.1=0
  ·
   rw [decide_eq_true d.1,decide_eq_true d.2,if_pos d]
   rfl
  ·
   rw [if_neg d,show (bif (!(decide (e.2.2.2.1=0))) then true else (!(decide (e.2.2.2.2.1=0))))=true by
    by_cases a:e.2.2.2.1=0
    ·
     have b:¬ e.2.2.2.2.1=0:=fun b=>d ⟨a,b⟩
     simp [a,b]
    ·
     simp [a]]
   obtain ⟨vi,G,D,A9,op,A7,A8,fr,fh,A6,A4,A0,J,Z,O,A5,A_⟩:=e
   rfl
 by_cases c3:k=8
 ·
  subst c3;exact aI (aA4 e hv h hh _) rfl
 by_cases c4:k=9
 ·
  subst c4;exact aI (aA4 e hv h hh _) rfl
 by_cases c5:k=11
 ·
  subst c5;exact aI (aDl e hv hm 104) rfl
 by_cases c6:k=5
 ·
  subst c6;exact aI (aDl e hv hm 104) rfl
 by_cases c7:k=10
 ·
  subst c7;exact aI (aDl e hv hm 108) rfl
 by_cases c8:k=12
 ·
  subst c8;exact aI (aDl e hv hm 48) rfl
 by_cases c9:k=13
 ·
  subst c9;exact aI (aDl e hv hm 36) rfl
 by_cases c10:k=14
 ·
  subst c10
  refine aI (aMp e hv) ?_
  rw [bK (x:=e.2.2.1.2+nV e) (by omega) (by omega)]
  refine aI (cL _ _ (by omega)) ?_
  rw [show max 0 (min (e.2.2.1.2+nV e) (e.2.2.1.1.length:Int))=min (e.2.2.1.2+nV e) (e.2.2.1.1.length:Int) by omega]
  exact aI (aA9 e hv hm 100 e.2.2.1.2 (min (e.2.2.1.2+nV e) (e.2.2.1.1.length:Int)) (by omega) (by omega)) rfl
 simp only [c1,c2,c3,c4,c5,c6,c7,c8,c9,c10,decide_false,cond_false,if_false,or_false,Bool.cond_decide]
 by_cases d1:k=2∧r=99
 ·
  rw [if_pos d1,if_pos d1];exact aI (hZ e hv) rfl
 rw [if_neg d1,if_neg d1]
 by_cases d2:k=2∧r=108
 ·
  rw [if_pos d2,if_pos d2];exact aI (hZ e hv) rfl
 rw [if_neg d2,if_neg d2]
 by_cases d3:(k=2∧r=100)∧(e.2.2.1.1.length:Int)=0
 ·
  rw [if_pos d3,if_pos d3.1,decide_eq_true d3.2];exact aI (hZ e hv) rfl
 rw [if_neg d3]
 rw [show (if k=2∧r=100 then decide ((e.2.2.1.1.length:Int)=0) else false)=false by
  by_cases a:k=2∧r=100
  ·
   rw [if_pos a,decide_eq_false (fun b=>d3 ⟨a,b⟩)]
  ·
   rw [if_neg a]]
 simp only [cond_false]
 by_cases d4:k=2∧r=114
 ·
  rw [if_pos d4,if_pos d4];exact aI (aSb e hv (by omega)) rfl
 rw [if_neg d4,if_neg d4]
 exact aI (iA e hv) rfl
end
theorem aVg {k:Int×Int} (h:kOk k=true):-1000000≤k.2∧k.2≤10000000000:=by
 unfold kOk pr at h
 split at h
 ·
  have:=of_decide_eq_true h;omega
 ·
  split at h
  ·
   have:=of_decide_eq_true h;omega
  ·
   split at h
   ·
    have:=of_decide_eq_true h;omega
   ·
    have:=of_decide_eq_true h;omega
theorem nV_W (e:EdT) (hv:cG e=true):min (W (max e.2.2.2.1 1*max e.2.2.2.2.2.1 1)) 999=nV e:=by
 have hb:=aI1 e hv
 unfold nV
 rw [bK (by omega) (by omega)]
theorem aQj (e:EdT) (hv:cG e=true) (h:Int×List (List UInt8)) (k:Int×Int) (hk:kOk k=true):dA 1048576 (viE h k e).1:=by
 obtain ⟨hl,hc,_⟩:=eOk e hv
 obtain ⟨p0,p1,p2⟩:=bB hl
 have hn:=gP e hv
 have hs:=cM (M:=1048576) (by omega) (tK e hv)
 have hb:=(mD e hv).1
 have hfields:∀ r n:Int,dA 1048576 (aPk r e)∧dA 1048576 (aWj n e)∧dA 1048576 (opW r e)∧dA 1048576 (jA n e)∧dA 1048576 (aWr e):=by
  intro r n
  obtain ⟨vi,G,D,A9,op,A7,A8,fr,fh,A6,A4,A0,J,Z,O,A5,A_⟩:=e
  exact ⟨hs,hs,hs,hs,hs⟩
 have hsemi:∀ how,dA 1048576 (aBc how e).1:=fun how=>cR (fun _=>hb) fun _=>aNa e hv _ how
 have hmot:∀ r,dA 1048576 (aGp r e).1:=fun r=>aMq e hv _ _
 have hch:=aG8 e hv
 have hst:=fun st=>(aBo e hv h st).1
 have hsk:=aLq e hs
 unfold viE
 refine cR (fun _=>cR (fun hw=>aT0 e hv k hk hw) fun _=>cR (fun _=>?_) fun _=>?_) fun _=>cR (fun _=>(aD6 e hv h k).1) fun _=>cR (fun _=>(hfields 0 0).2.2.2.2) fun _=>hb
 ·
  unfold aFq
  refine cR (fun _=>(hfields 0 _).2.1) fun _=>cR (fun _=>(hfields _ 0).1) fun _=>cR (fun _=>hsemi _) fun _=>cR (fun _=>hsemi _) fun _=>cR (fun _=>(hfields _ 0).2.2.1) fun _=>cR (fun _=>hch _ _ _ (by omega)) fun _=>cR (fun _=>hmot _) fun _=>cR (fun _=>hb) fun _=>?_
  unfold aF2
  refine cR (fun _=>hch _ _ _ (by omega)) fun _=>cR (fun _=>hch _ _ _ (by omega)) fun _=>cR (fun _=>hch _ _ _ (by omega)) fun _=>cR (fun _=>hch _ _ _ (by omega)) fun _=>cR (fun _=>hch _ _ _ (by omega)) fun _=>cR (fun _=>hch _ _ _ (by omega)) fun _=>cR (fun _=>(hfields 114 0).1) fun _=>cR (fun _=>aL7 e hv _) fun _=>cR (fun _=>aL7 e hv _) fun _=>cR (fun _=>aR7 e hv) fun _=>cR (fun _=>aK9 e hv) fun _=>cR (fun _=>hst _) fun _=>cR (fun _=>hst _) fun _=>cR (fun _=>hsk) fun _=>cR (fun _=>aE4 e hv _) fun _=>cR (fun _=>aE4 e hv _) fun _=>cR (fun _=>aE4 e hv _) fun _=>cR (fun _=>aE4 e hv _) fun _=>hb
 ·
  unfold aFm
  exact cR (fun _=>hs) fun _=>cR (fun _=>cR (fun _=>hb) fun _=>(hfields 0 _).2.2.2.1) fun _=>cR (fun _=>hst _) fun _=>cR (fun _=>hst _) fun _=>cR (fun _=>hmot _) fun _=>cR (fun _=>hmot _) fun _=>cR (fun _=>hmot _) fun _=>cR (fun _=>hmot _) fun _=>cR (fun _=>hch _ _ _ (by omega)) fun _=>cR (fun _=>hs) fun _=>cR (fun _=>hs) fun _=>cR (fun _=>hs) fun _=>cR (fun _=>hsk) fun _=>hb
section
variable (h:Int×List (List UInt8)) (hh:(h.2.length:Int)≤1048576) (k:Int×Int) (e:EdT) (hs:dA 1048576 e)
include hh hs
theorem vi_i:uI e h k=some (viR h k e):=by
 unfold uI viR
 rw [aO (aTo h hh k e hs)]
 cases hv:cG e
 ·
  rfl
 cases hOk h
 ·
  rfl
 cases hk:kOk k
 ·
  rfl
 rw [nV_W e hv]
 have hkr:=aVg hk
 rw [show (bif (!(true && true && true)) then true else (bif (!(decide (e.2.1=1))) then (!(decide (e.2.1=2))) else false))=!decide (e.2.1=1∨e.2.1=2) by
  by_cases a:e.2.1=1 <;> by_cases b:e.2.1=2 <;> simp [a,b]]
 by_cases hm:e.2.1=1∨e.2.1=2
 ·
  rw [decide_eq_true hm,show (if (true && true && true)=true∧(e.2.1=1∨e.2.1=2) then viE h k e else (zEd,0))=viE h k e from if_pos ⟨rfl,hm⟩]
  unfold viE
  simp only [Bool.not_true,cond_false]
  by_cases h1:e.2.1=1
  ·
   rw [decide_eq_true h1,if_neg (show ¬ e.2.1=2 by omega)]
   refine aI (aUl e hv h hh k) ?_
   generalize iQ h k e=q
   obtain ⟨z,n,b⟩:=q
   cases b
   ·
    simp only [cond_false,Bool.false_eq_true,if_false]
    by_cases c:k.1=7
    ·
     rw [decide_eq_true c,if_pos c]
     refine aI (uV e hv) ?_
     rw [bK (x:=e.2.2.1.2 - 1) (by have:=bB (eOk e hv).1;omega) (by have:=bB (eOk e hv).1;omega)]
     obtain ⟨vi,G,D,A9,op,A7,A8,fr,fh,A6,A4,A0,J,Z,O,A5,A_⟩:=e
     rfl
    ·
     rw [decide_eq_false c,if_neg c]
     exact aI (fM e hv) rfl
   ·
    rfl
  ·
   rw [decide_eq_false h1,if_pos (hm.resolve_left h1)]
   simp only [cond_false]
   by_cases hw:e.2.2.2.2.2.2.1=0
   ·
    rw [decide_eq_true hw,if_neg (fun h=>h hw)]
    by_cases c:k.1=1
    ·
     rw [decide_eq_true c,if_pos c];exact aI (aRs e hv h hh k.2 hkr) rfl
    ·
     rw [decide_eq_false c,if_neg c];exact aI (aVt e hv h hh hw k) rfl
   ·
    rw [decide_eq_false hw,if_pos hw]
    exact aI (aVo e hv k hk hw) rfl
 ·
  rw [decide_eq_false hm,show (if (true && true && true)=true∧(e.2.1=1∨e.2.1=2) then viE h k e else (zEd,0))=(zEd,0) from if_neg (fun h=>hm h.2)]
  rfl
theorem vi_s:xJ e h k=some (viR h k e):=by
 have hpk:=pk_s h hh k e hs
 unfold xJ viR
 rw [aO (aQa e (cM (by omega) hs)),yD h hh,cE,aPy,cE]
 unfold pkR at hpk
 cases hv:cG e
 ·
  rfl
 cases ho:hOk h
 ·
  rfl
 cases hk:kOk k
 ·
  rfl
 have hkr:=aVg hk
 by_cases hm:e.2.1=1∨e.2.1=2
 ·
  rw [show (if (true && true && true)=true∧(e.2.1=1∨e.2.1=2) then viE h k e else (zEd,0))=viE h k e from if_pos ⟨rfl,hm⟩]
  unfold viE
  by_cases h1:e.2.1=2
  ·
   rw [decide_eq_true h1,if_pos h1,decide_eq_false (show ¬ e.2.1=1 by omega)]
   have hcmd:fQ e h k=some (if e.2.2.2.2.2.2.1≠0 then aD1 k e else if k.1=1 then aFq h k.2 e else aFm h k e):=by
    by_cases hw:e.2.2.2.2.2.2.1=0
    ·
     rw [if_neg (fun h=>h hw)]
     by_cases c:k.1=1
     ·
      rw [if_pos c]
      unfold fQ
      rw [decide_eq_true hw,decide_eq_true c]
      exact aI (aVw e hv h hh h1 k.2 hkr) rfl
     ·
      rw [if_neg c]
      exact aVs e hv h hh h1 hw k c
    ·
     rw [if_pos hw]
     unfold fQ
     rw [decide_eq_false hw]
     exact aI (aVn e hv k hk h1 hw) rfl
   exact aI hcmd rfl
  ·
   have h2:=hm.resolve_right h1
   rw [hv,ho,hk,if_pos ⟨rfl,.inr h2⟩] at hpk
   rw [decide_eq_false h1,if_neg h1,decide_eq_true h2]
   refine aI hpk ?_
   generalize iQ h k e=q
   obtain ⟨z,n,b⟩:=q
   cases b
   ·
    simp only [cond_false,Bool.false_eq_true,if_false]
    by_cases c:k.1=7
    ·
     rw [decide_eq_true c,if_pos c]
     obtain ⟨p0,p1,p2⟩:=bB (eOk e hv).1
     obtain ⟨_,_,_,_,hx,_⟩:=aNn e hv
     obtain ⟨x1,x2,x3⟩:=hx h1
     refine aI (hZ e hv) ?_
     rw [bK (x:=e.2.2.1.2 - 1) (by omega) (by omega)]
     obtain ⟨vi,G,D,A9,op,A7,A8,fr,fh,A6,A4,A0,J,Z,O,A5,A_⟩:=e
     simp only at x1 x2 x3 p0 p1
     subst x1 x2 x3
     unfold eD
     refine aI rfl (aI (cL _ _ (by omega)) ?_)
     rw [show max 0 (min (D.2 - 1) (D.1.length:Int))=max (D.2 - 1) 0 by omega]
     rfl
    ·
     rw [decide_eq_false c,if_neg c]
     exact aI (iA e hv) rfl
   ·
    rfl
 ·
  have a:¬ e.2.1=1:=fun a=>hm (.inl a)
  have b:¬ e.2.1=2:=fun b=>hm (.inr b)
  rw [decide_eq_false a,decide_eq_false b,show (if (true && true && true)=true∧(e.2.1=1∨e.2.1=2) then viE h k e else (zEd,0))=(zEd,0) from if_neg (fun h=>hm h.2)]
  rfl
end
theorem law_ViKey (e:EdT) (h:Int×List (List UInt8)) (k:Int×Int) (w:WfT (.pair .bool (.pair (.int .i64) (.pair (.pair (.sl (.int .i64)) (.int .i64)) (.pair (.int .i64) (.pair (.int .i64) (.pair (.int .i64) (.pair (.int .i64) (.pair (.int .i64) (.pair (.int .i64) (.pair (.int .i64) (.pair (.sl (.sl (.int .i64))) (.pair (.sl (.pair (.sl (.int .i64)) (.int .i64))) (.pair (.int .i64) (.pair (.pair (.sl (.int .i64)) (.int .i64)) (.pair (.sl (.int .i64)) (.pair (.int .i64) (.pair (.sl (.int .i64)) (.int .i64)))))))))))))))))) e) (wh:WfT (.pair (.int .i64) (.sl .str)) h) (wk:WfT (.pair (.int .i64) (.int .i64)) k):nO e h k=some true:=by
 have e1:∃ v,xM e 1048576=some v∧(v = -1∨0≤v∧v≤1048576∧dA 1048576 e):=by
  obtain ⟨vi,G,D,A9,op,A7,A8,fr,fh,A6,A4,A0,J,Z,O,A5,A_⟩:=e
  exact aT9 vi G D A9 op A7 A8 fr fh A6 A4 A0 J Z O A5 A_ w 1048576 (by omega) (by omega)
 obtain ⟨v,e1,hv⟩:=e1
 unfold nO
 rw [aO e1]
 rcases hv with rfl | ⟨v0,v1,hs⟩
 ·
  rfl
 have nv:¬ (v<0):=by omega
 rw [decide_eq_false nv,cond_false]
 obtain ⟨v',e2,hv'⟩:=aQr h wh v (by omega) (by omega)
 rw [aO e2]
 rcases hv' with rfl | ⟨v2,v3,hl,_⟩
 ·
  rfl
 have nv':¬ (v'<0):=by omega
 rw [decide_eq_false nv',cond_false]
 have th:=aQo h (by omega)
 have eh:=aNk h (by omega)
 have ts:=vi_s h hl k e hs
 have ti:=vi_i h hl k e hs
 have hS:dA 1048576 (viR h k e).1:=by
  unfold viR
  split
  ·
   rename_i hc
   have hx:=hc.1
   simp only [Bool.and_eq_true] at hx
   exact aQj e hx.1.1 h k hx.2
  ·
   exact cM (by omega) aIm
 generalize viR h k e=z at ts ti hS
 obtain ⟨te,ee,n0,l0,r0,u0,o0,q0,b0,m1,m2,m3⟩:=aU0 e hs
 obtain ⟨hz,mh⟩:=aMu h hl n0 (by omega)
 obtain ⟨ez,n,x1,x2,x3,x4,x5,x6,g1,nn,g9,_⟩:=aWs z.1 hS
 have nk:¬ (n0+(h.2.length:Int)<0):=by omega
 simp only [aS]
 refine aI te (aI th (aI rfl (aI ts (aI te (aI th (aI rfl (aI ti (aI ez ?_))))))))
 rw [decide_eq_true rfl]
 refine aI te (aI ee (aI th (aI eh (aI m1 (aI mh ?_)))))
 rw [decide_eq_false nk,aK2 ez rfl]
 refine aI g1 (aI g9 ?_)
 rw [decide_eq_false nn,decide_eq_true rfl]
 refine aI te (aI th (aI rfl (aI ti (aI ez ?_))))
 rw [decide_eq_true rfl]
 refine aI g9 ?_
 rw [decide_eq_false nn,decide_eq_true rfl]
 rfl
end Go.Eng
namespace Go.Proofs.YtlpgcohnjhomgaaGreat.fnExactViKey
open Go.ChangeShapes Go.WideShapes Go.ChangeAt Go.RowKit Go.Eng
open Go.ChangeMaps (open_string shut_string)
theorem own:ownKnob Tryz.prog.godebug=none:=by kernel_rfl
theorem laidOut:laidOutB Tryz.prog=true:=by kernel_rfl
set_option maxRecDepth 100000 in
theorem lifted (os:Os) (started:os.Started) (H:Type) (enc:TypeId×Value→H) :
  ReturnsInHanded {} Tryz.checked os 9 .any (Rows.fnExactViKeySpec.pre6 enc Tryz.prog Tryz.f9 Rows.fnExactViKeyRow.domain false) (Rows.fnExactViKeySpec.post enc Tryz.prog Tryz.f9 false true false false):=by
 refine returnsInHanded_of_change (C:=Tryz.checked) own started (by kernel_rfl) Tryz.func9
  (ChangeSpec.witness6 (enc:=enc) (C:=Tryz.checked) false ⟨#[],#[.agg #[.bool false,.int .i64 0,.slice none 0 0,.int .i64 0,.int .i64 0,.int .i64 0,.int .i64 0,.int .i64 0,.int .i64 0,.int .i64 0,.int .i64 0,.slice none 0 0,.slice none 0 0,.int .i64 0,.slice none 0 0,.int .i64 0,.slice none 0 0,.int .i64 0,.slice none 0 0,.int .i64 0],.agg #[.int .i64 0,.slice none 0 0],.agg #[.int .i64 0,.int .i64 0]],[]⟩ 8 (by kernel_rfl) (by kernel_rfl) (by kernel_rfl) (by kernel_rfl)) ?_
 intro W base args ds gs before hval0 hW hcnd _
 have hval:∀ (j:Nat) t v,Tryz.f9.params[j]?=some t→args[j]?=some v→Value.okWide Tryz.prog W .any base t v:=hval0
 have hW':=hW
 obtain ⟨p,q,hA0,hV,rfl,hfz,hnd⟩:=hW
 have hA:DataW.TrodAll enc Tryz.prog W 0 (fun _=>true) true Tryz.f9.params.toList args.toList ds p:=hA0
 rw [Tryz.params9] at hA hval
 obtain ⟨v0,vs0,d0,ds0,p0,q0,hargs,rfl,rfl,h0,r0⟩:=trodAll_cons hA
 obtain ⟨v1,vs1,d1,ds1,p1,q1,rfl,rfl,rfl,h1,r1⟩:=trodAll_cons r0
 obtain ⟨v2,vs2,d2,ds2,p2,q2,rfl,rfl,rfl,h2,r2⟩:=trodAll_cons r1
 obtain ⟨rfl,rfl,rfl⟩:=trodAll_nil r2
 obtain rfl:args=#[v0,v1,v2]:=by cases args;simp_all
 obtain ⟨rfl,rfl⟩:=trodVars_none hV
 have k0:=h0
 have lt0:∀ x ∈ p0,x.block<W.heap.size:=by obtain ⟨m,hm⟩:=k0;exact DataW.trod_lt m _ _ _ hm
 obtain ⟨cs0,rfl,-⟩:=okWide_struct Tryz.underlying32 (hval 0 32 v0 rfl rfl)
 obtain ⟨m0,hm0⟩:=h0
 obtain ⟨x0,L0,rep0,wf0⟩:=aFg 16 m0 32 (.pair .bool (.pair (.int .i64) (.pair (.pair (.sl (.int .i64)) (.int .i64)) (.pair (.int .i64) (.pair (.int .i64) (.pair (.int .i64) (.pair (.int .i64) (.pair (.int .i64) (.pair (.int .i64) (.pair (.int .i64) (.pair (.sl (.sl (.int .i64))) (.pair (.sl (.pair (.sl (.int .i64)) (.int .i64))) (.pair (.int .i64) (.pair (.pair (.sl (.int .i64)) (.int .i64)) (.pair (.sl (.int .i64)) (.pair (.int .i64) (.pair (.sl (.int .i64)) (.int .i64)))))))))))))))))) _ _ (by kernel_rfl) hm0
 refine aFz rep0 ?_
 intro b0_0 c0_0 b0_1 c0_1 b0_2 c0_2 b0_3 c0_3 b0_4 c0_4 b0_5 c0_5 e0 f0
 have e0':some [.bool x0.1,.int .i64 x0.2.1,.slice b0_0 x0.2.2.1.1.length c0_0,.int .i64 x0.2.2.1.2,.int .i64 x0.2.2.2.1,.int .i64 x0.2.2.2.2.1,.int .i64 x0.2.2.2.2.2.1,.int .i64 x0.2.2.2.2.2.2.1,.int .i64 x0.2.2.2.2.2.2.2.1,.int .i64 x0.2.2.2.2.2.2.2.2.1,.int .i64 x0.2.2.2.2.2.2.2.2.2.1,.slice b0_1 x0.2.2.2.2.2.2.2.2.2.2.1.length c0_1,.slice b0_2 x0.2.2.2.2.2.2.2.2.2.2.2.1.length c0_2,.int .i64 x0.2.2.2.2.2.2.2.2.2.2.2.2.1,.slice b0_3 x0.2.2.2.2.2.2.2.2.2.2.2.2.2.1.1.length c0_3,.int .i64 x0.2.2.2.2.2.2.2.2.2.2.2.2.2.1.2,.slice b0_4 x0.2.2.2.2.2.2.2.2.2.2.2.2.2.2.1.length c0_4,.int .i64 x0.2.2.2.2.2.2.2.2.2.2.2.2.2.2.2.1,.slice b0_5 x0.2.2.2.2.2.2.2.2.2.2.2.2.2.2.2.2.1.length c0_5,.int .i64 x0.2.2.2.2.2.2.2.2.2.2.2.2.2.2.2.2.2]=some cs0.toList:=e0
 obtain rfl:cs0=#[.bool x0.1,.int .i64 x0.2.1,.slice b0_0 x0.2.2.1.1.length c0_0,.int .i64 x0.2.2.1.2,.int .i64 x0.2.2.2.1,.int .i64 x0.2.2.2.2.1,.int .i64 x0.2.2.2.2.2.1,.int .i64 x0.2.2.2.2.2.2.1,.int .i64 x0.2.2.2.2.2.2.2.1,.int .i64 x0.2.2.2.2.2.2.2.2.1,.int .i64 x0.2.2.2.2.2.2.2.2.2.1,.slice b0_1 x0.2.2.2.2.2.2.2.2.2.2.1.length c0_1,.slice b0_2 x0.2.2.2.2.2.2.2.2.2.2.2.1.length c0_2,.int .i64 x0.2.2.2.2.2.2.2.2.2.2.2.2.1,.slice b0_3 x0.2.2.2.2.2.2.2.2.2.2.2.2.2.1.1.length c0_3,.int .i64 x0.2.2.2.2.2.2.2.2.2.2.2.2.2.1.2,.slice b0_4 x0.2.2.2.2.2.2.2.2.2.2.2.2.2.2.1.length c0_4,.int .i64 x0.2.2.2.2.2.2.2.2.2.2.2.2.2.2.2.1,.slice b0_5 x0.2.2.2.2.2.2.2.2.2.2.2.2.2.2.2.2.1.length c0_5,.int .i64 x0.2.2.2.2.2.2.2.2.2.2.2.2.2.2.2.2.2]:=Array.ext' (Option.some.inj e0').symm
 have f0':∀ f ∈ ([⟨(.int .i64),⟨b0_0,x0.2.2.1.1.length,c0_0⟩,x0.2.2.1.1⟩,⟨(.sl (.int .i64)),⟨b0_1,x0.2.2.2.2.2.2.2.2.2.2.1.length,c0_1⟩,x0.2.2.2.2.2.2.2.2.2.2.1⟩,⟨(.pair (.sl (.int .i64)) (.int .i64)),⟨b0_2,x0.2.2.2.2.2.2.2.2.2.2.2.1.length,c0_2⟩,x0.2.2.2.2.2.2.2.2.2.2.2.1⟩,⟨(.int .i64),⟨b0_3,x0.2.2.2.2.2.2.2.2.2.2.2.2.2.1.1.length,c0_3⟩,x0.2.2.2.2.2.2.2.2.2.2.2.2.2.1.1⟩,⟨(.int .i64),⟨b0_4,x0.2.2.2.2.2.2.2.2.2.2.2.2.2.2.1.length,c0_4⟩,x0.2.2.2.2.2.2.2.2.2.2.2.2.2.2.1⟩,⟨(.int .i64),⟨b0_5,x0.2.2.2.2.2.2.2.2.2.2.2.2.2.2.2.2.1.length,c0_5⟩,x0.2.2.2.2.2.2.2.2.2.2.2.2.2.2.2.2.1⟩]:List Fact),∃ L,f.rep false W L:=f0
 have k1:=h1
 have lt1:∀ x ∈ p1,x.block<W.heap.size:=by obtain ⟨m,hm⟩:=k1;exact DataW.trod_lt m _ _ _ hm
 obtain ⟨cs1,rfl,-⟩:=okWide_struct Tryz.underlying35 (hval 1 35 v1 rfl rfl)
 obtain ⟨m1,hm1⟩:=h1
 obtain ⟨x1,L1,rep1,wf1⟩:=aFg 16 m1 35 (.pair (.int .i64) (.sl .str)) _ _ (by kernel_rfl) hm1
 refine aFz rep1 ?_
 intro b1_0 c1_0 e1 f1
 have e1':some [.int .i64 x1.1,.slice b1_0 x1.2.length c1_0]=some cs1.toList:=e1
 obtain rfl:cs1=#[.int .i64 x1.1,.slice b1_0 x1.2.length c1_0]:=Array.ext' (Option.some.inj e1').symm
 have f1':∀ f ∈ ([⟨.str,⟨b1_0,x1.2.length,c1_0⟩,x1.2⟩]:List Fact),∃ L,f.rep false W L:=f1
 have k2:=h2
 have lt2:∀ x ∈ p2,x.block<W.heap.size:=by obtain ⟨m,hm⟩:=k2;exact DataW.trod_lt m _ _ _ hm
 obtain ⟨cs2,rfl,-⟩:=okWide_struct Tryz.underlying61 (hval 2 61 v2 rfl rfl)
 obtain ⟨m2,hm2⟩:=h2
 obtain ⟨x2,L2,rep2,wf2⟩:=aFg 16 m2 61 (.pair (.int .i64) (.int .i64)) _ _ (by kernel_rfl) hm2
 refine aFz rep2 ?_
 intro  e2 f2
 have e2':some [.int .i64 x2.1,.int .i64 x2.2]=some cs2.toList:=e2
 obtain rfl:cs2=#[.int .i64 x2.1,.int .i64 x2.2]:=Array.ext' (Option.some.inj e2').symm
 have f2':∀ f ∈ ([]:List Fact),∃ L,f.rep false W L:=f2
 clear hA0 hval0
 simp only [List.append_nil] at hW'
 have walk:Calls Tryz.prog 9 #[.agg #[.bool x0.1,.int .i64 x0.2.1,.slice b0_0 x0.2.2.1.1.length c0_0,.int .i64 x0.2.2.1.2,.int .i64 x0.2.2.2.1,.int .i64 x0.2.2.2.2.1,.int .i64 x0.2.2.2.2.2.1,.int .i64 x0.2.2.2.2.2.2.1,.int .i64 x0.2.2.2.2.2.2.2.1,.int .i64 x0.2.2.2.2.2.2.2.2.1,.int .i64 x0.2.2.2.2.2.2.2.2.2.1,.slice b0_1 x0.2.2.2.2.2.2.2.2.2.2.1.length c0_1,.slice b0_2 x0.2.2.2.2.2.2.2.2.2.2.2.1.length c0_2,.int .i64 x0.2.2.2.2.2.2.2.2.2.2.2.2.1,.slice b0_3 x0.2.2.2.2.2.2.2.2.2.2.2.2.2.1.1.length c0_3,.int .i64 x0.2.2.2.2.2.2.2.2.2.2.2.2.2.1.2,.slice b0_4 x0.2.2.2.2.2.2.2.2.2.2.2.2.2.2.1.length c0_4,.int .i64 x0.2.2.2.2.2.2.2.2.2.2.2.2.2.2.2.1,.slice b0_5 x0.2.2.2.2.2.2.2.2.2.2.2.2.2.2.2.2.1.length c0_5,.int .i64 x0.2.2.2.2.2.2.2.2.2.2.2.2.2.2.2.2.2],.agg #[.int .i64 x1.1,.slice b1_0 x1.2.length c1_0],.agg #[.int .i64 x2.1,.int .i64 x2.2]] W fun e w'=>e=.returned (.bool true)∧Below W.heap.size W w':=by
  have h:=ok_l_FnExactViKey x0 x1 x2 b0_0 c0_0 _ rfl b0_1 c0_1 _ rfl b0_2 c0_2 _ rfl b0_3 c0_3 _ rfl b0_4 c0_4 _ rfl b0_5 c0_5 _ rfl b1_0 c1_0 _ rfl true (law_ViKey x0 x1 x2 wf0 wf1 wf2)
  refine Calls.mono (h.calls W ?_) ?_
  ·
   intro x hx
   rcases List.mem_cons.1 hx with rfl | hx
   ·
    exact f0' _ List.mem_cons_self
   rcases List.mem_cons.1 hx with rfl | hx
   ·
    exact f0' _ (List.mem_cons_of_mem _ List.mem_cons_self)
   rcases List.mem_cons.1 hx with rfl | hx
   ·
    exact f0' _ (List.mem_cons_of_mem _ (List.mem_cons_of_mem _ List.mem_cons_self))
   rcases List.mem_cons.1 hx with rfl | hx
   ·
    exact f0' _ (List.mem_cons_of_mem _ (List.mem_cons_of_mem _ (List.mem_cons_of_mem _ List.mem_cons_self)))
   rcases List.mem_cons.1 hx with rfl | hx
   ·
    exact f0' _ (List.mem_cons_of_mem _ (List.mem_cons_of_mem _ (List.mem_cons_of_mem _ (List.mem_cons_of_mem _ List.mem_cons_self))))
   rcases List.mem_cons.1 hx with rfl | hx
   ·
    exact f0' _ (List.mem_cons_of_mem _ (List.mem_cons_of_mem _ (List.mem_cons_of_mem _ (List.mem_cons_of_mem _ (List.mem_cons_of_mem _ List.mem_cons_self)))))
   rcases List.mem_cons.1 hx with rfl | hx
   ·
    exact f1' _ List.mem_cons_self
   cases hx
  ·
   rintro e w' ⟨r,-,he,hk,-⟩
   exact ⟨he,hk.below⟩
 refine walk.mono fun e W' ⟨he,bel⟩=>?_
 subst he
 exact ⟨_,rfl,_,_,_,[],_,[],hW',trodAll_mk1 (shut_bool Tryz.underlying4 _),(trodAll_cons_mk (Below.trod laidOut (by kernel_rfl) (of_decide_eq_true (by kernel_rfl)) k0 bel lt0) (trodAll_cons_mk (Below.trod laidOut (by kernel_rfl) (of_decide_eq_true (by kernel_rfl)) k1 bel lt1) (trodAll_cons_mk (Below.trod laidOut (by kernel_rfl) (of_decide_eq_true (by kernel_rfl)) k2 bel lt2) trodAll_mk0))),rfl,bel.frame _,fun h=>by cases h⟩
theorem andI {a b:Bool} (ha:a=true) (hb:b=true):(a && b)=true:=by rw [ha,hb];rfl
set_option maxHeartbeats 8000000 in
theorem closed:joinedFacts Tryz.checked.prog 9 Tryz.f9 Rows.fnExactViKeySpec Rows.fnExactViKeyRow=true:=by
 unfold joinedFacts
 (repeat' with_reducible refine andI ?_ ?_) <;> as_aux_lemma=>kernel_rfl
theorem over:Rows.fnExactViKeyRow.holds Tryz.pinned (OpenSpec.ofChange Rows.fnExactViKeySpec):=
 OpenClaim.holds_of_wide 9 Tryz.f9 rfl rfl rfl rfl rfl rfl rfl ⟨rfl,rfl,rfl,rfl,rfl⟩ rfl rfl rfl rfl rfl (by kernel_rfl) Tryz.func9 closed
  (of_decide_eq_true (by kernel_rfl)) (by unfold Func.isWrapper;first | (rw [if_pos (by decide +kernel)];kernel_rfl) | (rw [if_neg (by decide +kernel)];exact ⟨rfl,rfl⟩))
  (fun os started H enc _=>lifted os started H enc)
theorem proved:Rows.FnExactViKeySaid:=over
#print axioms proved
end Go.Proofs.YtlpgcohnjhomgaaGreat.fnExactViKey
