/- The walks of the functions that FnExactViKey reaches: what each computes, as a plain function (M_..), and that the model computes it (ok_..). Condition of each: that the plain function answers. -/
import Derived.Test.YtlpgcohnjhomgaaGreatFnExactViKeyWalkC
set_option linter.unusedVariables false
set_option linter.unusedSimpArgs false
namespace Go.Eng
open Go Go.Proofs
noncomputable section

def oM (c:EdQ) (d:Int×Int) (e:Int) (f:(List Int)→Option (EdQ×Int)) (g:(Int×List Int)→Option (EdQ×Int)):(Int×List Int)→Option (EdQ×Int):=fun (a,b)=>(bif decide (a<(W (c.2.2.1.2+e))) then (aP (0≤a∧a<(b.length:Int)) <|g ((W (a+1)),(List.set b (Int.toNat a) d.2))) else f b)

def vG (a:EdQ) (c:Int×Int) (d:Int):Option (EdQ×Int):= (bif (!(decide (c.1=1))) then (aF (cZ a) fun (g,h)=> some (g,h)) else (bif decide (a.2.2.2.2.2.2.1=114) then (bif decide ((a.2.2.1.1.length:Int)<(W (a.2.2.1.2+d))) then (aF (cZ a) fun (i,j)=> some (i,j)) else (aF (eE a.2.2.1 (W ((W (a.2.2.1.2+d)) - 1))) fun f=>(aS (fun (k:List Int)=>(aF (iH a (k,f.2)) fun (l,m)=> some (l,m))) fun n=>(aW (oM a c d n) bG (a.2.2.1.2,f.1))))) else (aF (uJ a.2.2.2.2.2.2.1) fun e=>(aF (nA a.2.2.1.1 a.2.2.1.2 c.2 e d) fun (t,o)=>(bif (!o) then (aF (cZ a) fun (p,q)=> some (p,q)) else (aF (dZ a) fun b=>(aF (pQ (b.1,b.2.1,b.2.2.1,b.2.2.2.1,b.2.2.2.2.1,b.2.2.2.2.2.1,b.2.2.2.2.2.2.1,c.2,e,b.2.2.2.2.2.2.2.2.2.1,b.2.2.2.2.2.2.2.2.2.2.1,b.2.2.2.2.2.2.2.2.2.2.2.1,b.2.2.2.2.2.2.2.2.2.2.2.2.1,b.2.2.2.2.2.2.2.2.2.2.2.2.2.1,b.2.2.2.2.2.2.2.2.2.2.2.2.2.2.1,b.2.2.2.2.2.2.2.2.2.2.2.2.2.2.2.1,b.2.2.2.2.2.2.2.2.2.2.2.2.2.2.2.2) c.2 e d) fun (r,s)=> some (r,s))))))))

theorem aMj (a:EdQ) (c:Int×Int) (d:Int) (b:P6) (r:EdQ×Int) (h:vG a c d=some r):
 FC Tryz.prog 123 [.agg (cD a b).toArray,.agg #[I c.1,I c.2],I d] (bP a b []) (fun _:P6=>True) (fun q=>.tuple #[.agg (aG r.1 q).toArray,I r.2]) (fun q=>(bP r.1 q [])):= by
 refine FC.of (T:=TTx) Tryz.call123 Tryz.func123 E E fun w0=>?_
 unfold vG at h
 refine aM aA 4 [] [7,8,9] [(3,.bp 7 0),(4,.bp 8 0),(6,.bp 9 0)] (.new 7 46 (aG a b) (.new 8 64 [I c.1,I c.2] (.new 9 46 bA .nil))) ⟨(Es E),(Bs E E)⟩ E E (JS.seq (aC aA 3 [(17,.v (.bool (!(decide (c.1=1)))))] ev1 E E ?_))
 refine aH E h (fun h=>?_) (fun h=>?_)
 ·
  refine JS.seq (JS.region (aB aA 1 [] [] [(18,.v (.agg (aG a b).toArray))] _ E ev1 ?_))
  obtain ⟨⟨H,J⟩,K,h⟩:=aE h
  refine JO.call E E E E (dR a b _ K) E [0,1,2,3,4,5] E E fun o _=>aL aA 4 [] [] [(7,.v (I J))] (.new 9 46 (aG H o) .nil) E ⟨ev2,(Bs E E)⟩ (aD E ?_)
  cases h
  exact JS.ret aA o V E E [0,0,0,0,0,0] E
 refine JS.skip (aC aA 4 [(8,.v (I a.2.2.1.2))] ev1 E E (JS.seq (aC aA 3 [(27,.v (.bool (decide ((Q4 a).2.2.1=114))))] ev1 E E ?_)))
 refine aH E h (fun h=>?_) (fun h=>?_)
 ·
  refine JS.seq (gH aA 8 [(W (a.2.2.1.2+d))] [] [(35,.v (.bool (decide ((a.2.2.1.1.length:Int)<(W (a.2.2.1.2+d))))))] _ ev3 E E ?_)
  refine aH E h (fun h=>?_) (fun h=>?_)
  ·
   refine JS.seq (JS.region (aB aA 1 [] [] [(36,.v (.agg (aG a b).toArray))] _ E ev1 ?_))
   obtain ⟨⟨L,M⟩,N,h⟩:=aE h
   refine JO.call E E E E (dR a b _ N) E [0,1,2,3,4,5] E E fun p _=>aL aA 4 [] [] [(7,.v (I M))] (.new 9 46 (aG L p) .nil) E ⟨ev2,(Bs E E)⟩ (aD E ?_)
   cases h
   exact JS.ret aA p V E E [0,0,0,0,0,0] E
  refine JS.skip (JS.seq (JS.region (aB aA 6 [(W (a.2.2.1.2+d)),(W ((W (a.2.2.1.2+d)) - 1))] [] [(41,.v (.agg #[sL b.1 a.2.2.1.1 b.2.1,I a.2.2.1.2])),(45,.v (I (W ((W (a.2.2.1.2+d)) - 1))))] _ E ⟨ev5,ev5,(Es E),E⟩ ?_)))
  refine bnw h fun e O h=>JO.call E E E E (gI a.2.2.1 (W ((W (a.2.2.1.2+d)) - 1)) b.1 b.2.1 _ O) E [0] E E ?_
  rintro ⟨s,t⟩ -
  refine aL aA 2 [] [57] [(9,.bp 57 0)] (.new 7 46 (aG a b) (.new 8 64 [I c.1,I c.2] (.new 9 46 bA (.new 57 38 [sL s e.1 t,I e.2] .nil)))) E ⟨ev2,(Bs E E)⟩ (aD E (JS.seq (aC aA 2 [(10,.v (I a.2.2.1.2))] ev1 E E ?_)))
  obtain ⟨u,P,h⟩:=aN h
  refine aX (ι:=List Int×Option Addr×Nat) ⟨fun z=>u z.1=some r,fun z=>[(3,.bp 7 0),(6,.bp 9 0),(9,.bp 57 0)],fun z=>(.new 7 46 (aG a b) (.new 9 46 bA (.new 57 38 [sL z.2.1 z.1 z.2.2,I e.2] .nil))),fun z=>(bP a b []),fun z=>[fI z.2.1 z.2.2 z.1],fun z=>0⟩ ?_ ?_
  ·
   refine JS.loop (ι:=Nat×Int×List Int×Option Addr×Nat) ⟨fun z=>aW (oM a c d u) z.1 (z.2.1,z.2.2.1)=some r,fun z=>[(2,.v (I d)),(3,.bp 7 0),(4,.bp 8 0),(6,.bp 9 0),(8,.v (I a.2.2.1.2)),(9,.bp 57 0),(10,.v (I z.2.1))],fun z=>(.new 7 46 (aG a b) (.new 8 64 [I c.1,I c.2] (.new 9 46 bA (.new 57 38 [sL z.2.2.2.1 z.2.2.1 (Q4 z),I e.2] .nil)))),fun z=>(bP a b []),fun z=>[fI z.2.2.2.1 (Q4 z) z.2.2.1],fun z=>z.1⟩ (bG,a.2.2.1.2,e.1,s,t) h (Es E) (Bs E E) [0,1,2,3,4,5] E [0] E ?_
   rintro ⟨w,f,i,j,k⟩ h
   obtain ⟨w,rfl,h⟩:=bC h
   rw [oM] at h
   refine JS.seq (gH aA 5 [(W (a.2.2.1.2+d))] [] [(52,.v (.bool (decide (f<(W (a.2.2.1.2+d))))))] _ ev3 E E ?_)
   refine aH E h (fun h=>?_) (fun h=>?_)
   ·
    refine JS.skip (JS.seq (JS.block (JS.region (bJ 6 E fun Q=>?_))))
    obtain ⟨x,h⟩:=aK h
    refine aB aA 6 [] [] [(59,.v (I c.2)),(60,.ep ⟨j,i.length,k⟩ (Int.toNat f*1))] _ E ⟨Q.ix x,(Es E),E⟩ (gY aA E E E E E E E E E [0] (fs:=[]) E (Int.toNat f) 0 (at' i f) c.2 ⟨bD x,E⟩ ev8 (aD E (aV (bY aA 3 [(W (f+1))] [] [(10,.v (I (W (f+1))))] _ ev3 E E (bR (w,(W (f+1)),(List.set i (Int.toNat f) c.2),j,k) h (Nat.lt_succ_self _) (Es E) ⟨E,E,E,E,E,E,E,E,E,E,E,E,E,(congrArg (fun n=>([.slice j n k,I e.2]:List Value)) (List.length_set.trans E)),E,E,V⟩ [0,1,2,3,4,5] E [0] (by simp only [List.length_set,List.length_replicate,cF,eU,sL,fI,rM,rL];rfl))))))
   refine JS.exit E (aQ (i,j,k) h (Es E) (Bs E E) [0,1,2,3,4,5] E [0] E)
  rintro ⟨y,A,B⟩ h
  subst P
  refine JS.seq (JS.region (aB aA 2 [] [] [(61,.v (.agg (aG a b).toArray)),(62,.v (.agg #[sL A y B,I e.2]))] _ E ⟨(Es E),E⟩ ?_))
  obtain ⟨⟨R,S⟩,U,h⟩:=aE h
  refine JO.call E E E E (nU a (y,e.2) b A B _ U) E [0,1,2,3,4,5,6] E E fun C _=>aL aA 4 [] [] [(7,.v (I S))] (.new 9 46 (aG R C) .nil) E ⟨ev2,(Bs E E)⟩ (aD E ?_)
  cases h
  exact JS.ret aA C V E E [0,0,0,0,0,0] E
 refine JS.skip (JS.seq (JS.region (aB aA 2 [] [] [(67,.v (I (Q4 a).2.2.1))] _ E ev1 ?_)))
 refine bnw h fun g X h=>JO.call E E E E (aGn (Q4 a).2.2.1 _ X) E [] E E fun _ _=>aB aA 1 [] [] [(11,.v (I g))] _ E ev1 (aD E (JS.seq (JS.seq (JS.region (aB aA 8 [] [] [(72,.v (sL b.1 a.2.2.1.1 b.2.1)),(73,.v (I a.2.2.1.2)),(75,.v (I c.2)),(76,.v (I g)),(77,.v (I d))] _ E ⟨(Es E),E⟩ ?_)))))
 obtain ⟨⟨a7,D⟩,Y,h⟩:=aE h
 refine JO.call E E E E (aEh a.2.2.1.1 a.2.2.1.2 c.2 g d b.1 b.2.1 _ Y) E [0] E E fun _ _=>aB aA 5 [] [] [(13,.v (.bool D))] _ E ev1 (aD E (aC aA 2 [(82,.v (.bool (!D)))] ev1 E E ?_))
 refine aH E h (fun h=>?_) (fun h=>?_)
 ·
  refine JS.seq (JS.region (aB aA 1 [] [] [(83,.v (.agg (aG a b).toArray))] _ E ev1 ?_))
  obtain ⟨⟨Z,a0⟩,a1,h⟩:=aE h
  refine JO.call E E E E (dR a b _ a1) E [0,1,2,3,4,5] E E fun F _=>aL aA 4 [] [] [(7,.v (I a0))] (.new 9 46 (aG Z F) .nil) E ⟨ev2,(Bs E E)⟩ (aD E ?_)
  cases h
  exact JS.ret aA F V E E [0,0,0,0,0,0] E
 refine JS.skip (JS.seq (JS.region (aB aA 1 [] [] [(87,.v (.agg (aG a b).toArray))] _ E ev1 ?_)))
 refine bnw h fun l a2 h=>JO.call E E E E (hD a b _ a2) E [0,1,2,3,4,5] E E fun m _=>aL aA 2 [] [217] [(14,.bp 217 0)] (.new 8 64 [I c.1,I c.2] (.new 9 46 bA (.new 217 46 (aG l m) .nil))) E ⟨ev2,(Bs E E)⟩ (aD E (aM aA 7 [] [] [] (.new 8 64 [I c.1,I c.2] (.new 9 46 bA (.new 217 46 (aG (U8 (U7 l c.2) g) m) .nil))) ⟨V,(Bs E E)⟩ E E (JS.seq (JS.region (aB aA 5 [] [] [(94,.v (.agg (aG (U8 (U7 l c.2) g) m).toArray)),(96,.v (I c.2)),(97,.v (I g)),(98,.v (I d))] _ E ⟨(Es E),E⟩ ?_)))))
 obtain ⟨⟨a3,a4⟩,a5,h⟩:=aE h
 refine JO.call E E E E (aEf (U8 (U7 l c.2) g) c.2 g d m _ a5) E [6,7,8,9,10,11] E E fun G _=>aL aA 4 [] [] [(7,.v (I a4))] (.new 9 46 (aG a3 G) .nil) E ⟨ev2,(Bs E E)⟩ (aD E ?_)
 cases h
 exact JS.ret aA G V E E [0,0,0,0,0,0] E

def xS (b:EdQ) (c:Int) (f:Int):Option (EdQ×Int×Bool):= (aF (dZ b) fun a=>(aF (dK c 49 57) fun g=>(bif (bif g then true else (bif decide (c=48) then (!(decide (b.2.2.2.1=0))) else false)) then some ((a.1,a.2.1,a.2.2.1,(min (W ((W ((W (10*b.2.2.2.1))+c)) - 48)) 999),a.2.2.2.2.1,a.2.2.2.2.2.1,a.2.2.2.2.2.2.1,a.2.2.2.2.2.2.2.1,a.2.2.2.2.2.2.2.2.1,a.2.2.2.2.2.2.2.2.2.1,a.2.2.2.2.2.2.2.2.2.2.1,a.2.2.2.2.2.2.2.2.2.2.2.1,a.2.2.2.2.2.2.2.2.2.2.2.2.1,a.2.2.2.2.2.2.2.2.2.2.2.2.2.1,a.2.2.2.2.2.2.2.2.2.2.2.2.2.2.1,a.2.2.2.2.2.2.2.2.2.2.2.2.2.2.2.1,a.2.2.2.2.2.2.2.2.2.2.2.2.2.2.2.2),0,true) else (aF (uJ c) fun h=>(bif decide (0≤h) then some ((a.1,a.2.1,a.2.2.1,a.2.2.2.1,a.2.2.2.2.1,a.2.2.2.2.2.1,c,a.2.2.2.2.2.2.2.1,a.2.2.2.2.2.2.2.2.1,a.2.2.2.2.2.2.2.2.2.1,a.2.2.2.2.2.2.2.2.2.2.1,a.2.2.2.2.2.2.2.2.2.2.2.1,a.2.2.2.2.2.2.2.2.2.2.2.2.1,a.2.2.2.2.2.2.2.2.2.2.2.2.2.1,a.2.2.2.2.2.2.2.2.2.2.2.2.2.2.1,a.2.2.2.2.2.2.2.2.2.2.2.2.2.2.2.1,a.2.2.2.2.2.2.2.2.2.2.2.2.2.2.2.2),0,true) else (bif (bif decide (c=59) then true else (decide (c=44))) then (aS (fun (i:Int)=>(aS (fun ((j,k):Int×EdQ)=> some (k,j,true)) fun d=>(bif decide (b.2.2.2.2.2.2.2.1=0) then (aF (cZ b) fun (l,m)=> d (m,l)) else (aF (pQ b b.2.2.2.2.2.2.2.1 i f) fun (n,o)=> d (o,n))))) fun e=>(bif decide (c=44) then (aP (0≤b.2.2.2.2.2.2.2.2.1∧b.2.2.2.2.2.2.2.2.1<(([1,0,3,2]:List Int).length:Int)) <|e (at' ([1,0,3,2]:List Int) b.2.2.2.2.2.2.2.2.1)) else e b.2.2.2.2.2.2.2.2.1)) else (bW ((decide (b.2.2.2.2.1=0))=true) (iI c ([100,99,121]:List UInt8)) false fun p=>(bif (bif decide (b.2.2.2.2.1=0) then p else false) then some ((a.1,a.2.1,a.2.2.1,0,c,b.2.2.2.1,a.2.2.2.2.2.2.1,a.2.2.2.2.2.2.2.1,a.2.2.2.2.2.2.2.2.1,a.2.2.2.2.2.2.2.2.2.1,a.2.2.2.2.2.2.2.2.2.2.1,a.2.2.2.2.2.2.2.2.2.2.2.1,a.2.2.2.2.2.2.2.2.2.2.2.2.1,a.2.2.2.2.2.2.2.2.2.2.2.2.2.1,a.2.2.2.2.2.2.2.2.2.2.2.2.2.2.1,a.2.2.2.2.2.2.2.2.2.2.2.2.2.2.2.1,a.2.2.2.2.2.2.2.2.2.2.2.2.2.2.2.2),0,true) else some ((false,0,([],0),0,0,0,0,0,0,0,[],[],0,([],0),[],0,([],0)),0,false)))))))))

theorem aOz (a:EdQ) (b:Int) (f:Int) (c:P6) (r:EdQ×Int×Bool) (h:xS a b f=some r):
 FC Tryz.prog 220 [.agg (cD a c).toArray,I b,I f] (bP a c []) (fun _:P6=>True) (fun q=>.tuple #[.agg (aG r.1 q).toArray,I r.2.1,.bool r.2.2]) (fun q=>(bP r.1 q [])):= by
 refine FC.of (T:=TTx) Tryz.call220 Tryz.func220 E E fun O=>?_
 unfold xS at h
 refine aM aA 4 [] [7,8] [(3,.bp 7 0),(6,.bp 8 0)] (.new 7 46 (aG a c) (.new 8 46 bA .nil)) ⟨(Es E),(Bs E E)⟩ E E (JS.seq (JS.region (aB aA 1 [] [] [(12,.v (.agg (aG a c).toArray))] _ E ev1 ?_)))
 refine bnw h fun e s h=>JO.call E E E E (hD a c _ s) E [0,1,2,3,4,5] E E fun d _=>aL aA 2 [] [29] [(9,.bp 29 0)] (.new 7 46 (aG a c) (.new 8 46 bA (.new 29 46 (aG e d) .nil))) E ⟨ev2,(Bs E E)⟩ (aD E (JS.seq (JS.block (JS.seq (JS.region (aB aA 1 [] [] [(15,.v (I b))] _ E ev1 ?_))))))
 refine bnw h fun t u h=>JO.call E E E E (eK b 49 57 _ u) E [] E E fun _ _=>aB aA 10 [] [] [(14,.v (.bool (bif t then true else (bif (decide (b=48)) then (!(decide (a.2.2.2.1=0))) else false))))] _ E ev1 (aD E ?_)
 refine aH E h (fun h=>?_) (fun h=>?_)
 ·
  refine aM aA 9 [(W (10*a.2.2.2.1)),(W ((W (10*a.2.2.2.1))+b)),(W ((W ((W (10*a.2.2.2.1))+b)) - 48))] [] [] (.new 8 46 bA (.new 29 46 (aG (U3 e (min (W ((W ((W (10*a.2.2.2.1))+b)) - 48)) 999)) d) .nil)) ⟨ev5,ev5,ev5,V,(Bs E E)⟩ E E (aM aA 4 [] [] [(7,.v (I 0)),(8,.v (.bool true))] (.new 8 46 (aG (U3 e (min (W ((W ((W (10*a.2.2.2.1))+b)) - 48)) 999)) d) .nil) ⟨(Es E),(Bs E E)⟩ E E ?_)
  cases h
  exact JS.ret aA d V E E [0,0,0,0,0,0] E
 refine JS.seq (JS.region (aB aA 1 [] [] [(36,.v (I b))] _ E ev1 ?_))
 refine bnw h fun w x h=>JO.call E E E E (aGn b _ x) E [] E E fun _ _=>aB aA 2 [] [] [(35,.v (.bool (decide (0≤w))))] _ E ev1 (aD E ?_)
 refine aH E h (fun h=>?_) (fun h=>?_)
 ·
  refine aM aA 3 [] [] [] (.new 8 46 bA (.new 29 46 (aG (U6 e b) d) .nil)) ⟨V,(Bs E E)⟩ E E (aM aA 4 [] [] [(7,.v (I 0)),(8,.v (.bool true))] (.new 8 46 (aG (U6 e b) d) .nil) ⟨(Es E),(Bs E E)⟩ E E ?_)
  cases h
  exact JS.ret aA d V E E [0,0,0,0,0,0] E
 refine aC aA 7 [(42,.v (.bool (bif (decide (b=59)) then true else (decide (b=44)))))] ev1 E E ?_
 refine aH E h (fun h=>?_) (fun h=>?_)
 ·
  refine aC aA 3 [(10,.v (I (Q8 a).1))] ev1 E E ?_
  obtain ⟨y,A,h⟩:=aN h
  refine bZ (ι:=Int) ⟨fun z=>y z=some r,fun z=>[(2,.v (I f)),(3,.bp 7 0),(6,.bp 8 0),(9,.bp 29 0),(10,.v (I z))],fun z=>(.new 7 46 (aG a c) (.new 8 46 bA (.new 29 46 (aG e d) .nil))),fun z=>(bP a c []),fun z=>(bP e d []),fun z=>0⟩ ?_ ?_
  ·
   refine aC aA 2 [(52,.v (.bool (decide (b=44))))] ev1 E E ?_
   refine aH E h (fun h=>?_) (fun h=>?_)
   ·
    refine JS.region ?_
    refine iY E (JK.buildSlice aA E E E E E E E E E E E [] E iT [1,0,3,2] ev9 E E fun B=>iX ?_)
    refine bJ 6 E fun C=>?_
    obtain ⟨g,h⟩:=aK h
    refine aB aA 2 [] [] [(55,.ep ⟨B,([1,0,3,2]:List Int).length,([1,0,3,2]:List Int).length⟩ (Int.toNat (Q8 a).1*1))] _ E ⟨C.ix g,ev2,E⟩ (JO.load aA E E E E E E E 6 E E (Int.toNat (Q8 a).1) 0 (at' ([1,0,3,2]:List Int) (Q8 a).1) ⟨bD g,E⟩ E E (aB aA 1 [] [] [(10,.v (I (at' ([1,0,3,2]:List Int) (Q8 a).1)))] _ E ev1 (aD E (bT (at' ([1,0,3,2]:List Int) (Q8 a).1) h (Es E) (Bs E E) [0,1,2,3,4,5] E [1,2,3,4,5,6] E E))))
   refine JS.skip (bT (Q8 a).1 h (Es E) (Bs E E) [0,1,2,3,4,5] E [0,1,2,3,4,5] E E)
  rintro i h
  subst A
  refine aC aA 1 [] ev5 E E ?_
  obtain ⟨D,F,h⟩:=aN h
  refine bZ (ι:=Int×EdQ×P6) ⟨fun z=>D (z.1,z.2.1)=some r,fun z=>[(6,.bp 8 0),(9,.bp 29 0),(11,.v (I z.1))],fun z=>(.new 8 46 bA (.new 29 46 (aG z.2.1 z.2.2) .nil)),fun z=>[],fun z=>(bP z.2.1 z.2.2 []),fun z=>0⟩ ?_ ?_
  ·
   refine aC aA 3 [(59,.v (.bool (decide ((Q4 a).2.2.2.1=0))))] ev1 E E ?_
   refine aH E h (fun h=>?_) (fun h=>?_)
   ·
    refine JS.region (aB aA 1 [] [] [(61,.v (.agg (aG a c).toArray))] _ E ev1 ?_)
    obtain ⟨⟨j,k⟩,G,h⟩:=aE h
    refine JO.call E E E E (dR a c _ G) E [0,1,2,3,4,5] E E fun l _=>aL aA 5 [] [] [(11,.v (I k))] (.new 8 46 bA (.new 29 46 (aG j l) .nil)) E ⟨ev2,(Bs E E)⟩ (aD E (bT (k,j,l) h (Es E) (Bs E E) [] E [0,1,2,3,4,5] E E))
   refine JS.region (aB aA 5 [] [] [(66,.v (.agg (aG a c).toArray)),(68,.v (I (Q4 a).2.2.2.1)),(69,.v (I i)),(70,.v (I f))] _ E ⟨(Es E),E⟩ ?_)
   obtain ⟨⟨m,n⟩,H,h⟩:=aE h
   refine JO.call E E E E (aEf a (Q4 a).2.2.2.1 i f c _ H) E [0,1,2,3,4,5] E E fun o _=>aL aA 5 [] [] [(11,.v (I n))] (.new 8 46 bA (.new 29 46 (aG m o) .nil)) E ⟨ev2,(Bs E E)⟩ (aD E (bT (n,m,o) h (Es E) (Bs E E) [] E [0,1,2,3,4,5] E E))
  rintro ⟨J,K,p⟩ h
  subst F
  refine aM aA 5 [] [] [(7,.v (I J)),(8,.v (.bool true))] (.new 8 46 (aG K p) .nil) ⟨(Es E),(Bs E E)⟩ E E ?_
  cases h
  exact JS.ret aA p V E E [0,0,0,0,0,0] E
 refine JS.seq (JS.region (aB aA 5 [] [] [(80,.v (.bool (decide ((Q4 a).1=0)))),(81,.cd [(80,true)] (.v (I b)))] _ E ⟨(Es E),E⟩ ?_))
 obtain ⟨L,M,-,h⟩:=aY h
 refine bL E E E E (fun N=>yI b ([100,99,121]:List UInt8) _ (M N)) E [] E E (aB aA 2 [] [] [(76,.v (.bool (bif (decide ((Q4 a).1=0)) then L else false)))] _ E ev1 (aD E ?_))
 refine aH E h (fun h=>?_) (fun h=>?_)
 ·
  refine JS.seq ?_
  refine bF E (.new 7 46 (aG a c) .nil) [] [5,6,7,8] ev4 E (fun P=>?_)
  refine bX aA aJ true 5 [0,1,2,3] E (by kernel_rfl) [] [(84,.v (I b)),(86,.v (I a.2.2.2.1)),(87,.bp 29 5)] ev4 [] E E (Es E) (JA.one 4 (by kernel_rfl) (bH aA E E E E E E E E (aU ev4 [] E (aT aA aJ 3 [5] E (by kernel_rfl) [] [(88,.bp 29 6)] E ev2 (JA.one 6 (by kernel_rfl) (bH aA E E E E E E E E (aR E (aT aA aJ 1 [7] E (by kernel_rfl) [] [(89,.bp 29 4)] E ev2 (JA.one 8 (by kernel_rfl) (bH aA E E E E E E E E (aR E (bM (by kernel_rfl) (bE (B':=(.new 8 46 bA (.new 29 46 (aG (U5 (U4 (U3 e 0) b) a.2.2.2.1) d) .nil))) (Bs E E) (aM aA 4 [] [] [(7,.v (I 0)),(8,.v (.bool true))] (.new 8 46 (aG (U5 (U4 (U3 e 0) b) a.2.2.2.1) d) .nil) ⟨(Es E),(Bs E E)⟩ E E ?_))))))))))))))
  cases h
  exact JS.ret aA d V E E [0,0,0,0,0,0] E
 refine JS.skip (aV (aM aA 4 [] [] [(7,.v (I 0)),(8,.v (.bool false))] (.new 8 46 bA .nil) ⟨(Es E),(Bs E E)⟩ E E ?_))
 cases h
 refine aZ iT Sl.nil E E (aZ (.sl iT) Sl.nil E E (aZ (.pair (.sl iT) iT) Sl.nil E E (aZ iT Sl.nil E E (aZ iT Sl.nil E E (aZ iT Sl.nil E E (JS.ret aA (none,0,none,0,none,0,none,0,none,0,none,0) V E E [5,4,3,2,1,0] E))))))

def rI (a:List (List Int×Int)):Option ((List (List Int×Int))×(List Int×Int)×Bool):= (aF (pS a) fun b=>(bif (bif (!b) then true else (decide ((a.length:Int)=0))) then some ([],([],0),false) else (aP (0≤(0:Int)∧(0:Int)≤(W ((a.length:Int) - 1))∧(W ((a.length:Int) - 1))≤(a.length:Int)) <|(aF (kI (bU a 0 (W ((a.length:Int) - 1)))) fun c=>(aP (0≤(W ((a.length:Int) - 1))∧(W ((a.length:Int) - 1))<(a.length:Int)) <|(aF (cY ((at' a (W ((a.length:Int) - 1))).1,(at' a (W ((a.length:Int) - 1))).2)) fun d=> some (c,d,true)))))))

theorem aIc (a:List (List Int×Int)) (b:Option Addr) (c:Nat) (r:(List (List Int×Int))×(List Int×Int)×Bool) (h:rI a=some r):
 FC Tryz.prog 265 [.agg #[sL b a c]] [⟨(.pair (.sl iT) iT),⟨b,a.length,c⟩,a⟩] (fun _:Option Addr×Nat×Option Addr×Nat=>True) (fun q=>.tuple #[.agg #[sL q.1 r.1 q.2.1],.agg #[sL q.2.2.1 r.2.1.1 q.2.2.2,I r.2.1.2],.bool r.2.2]) (fun q=>[⟨(.pair (.sl iT) iT),⟨q.1,r.1.length,q.2.1⟩,r.1⟩,fI q.2.2.1 q.2.2.2 r.2.1.1]):= by
 refine FC.of (T:=TTx) Tryz.call265 Tryz.func265 E E fun z=>?_
 unfold rI at h
 refine aM aA 4 [] [2,3,4] [(1,.bp 2 0),(2,.bp 3 0),(3,.bp 4 0)] (.new 2 44 [sL b a c] (.new 3 44 [.slice none 0 0] (.new 4 38 [.slice none 0 0,I 0] .nil))) ⟨(Es E),(Bs E E)⟩ E E (aC aA 4 [(5,.v (I (a.length:Int)))] ev1 E E (JS.seq (JS.seq (JS.region (aB aA 1 [] [] [(10,.v (.agg #[sL b a c]))] _ E ev1 ?_)))))
 refine bnw h fun p s h=>JO.call E E E E (aAa a b c _ s) E [0] E E fun _ _=>aB aA 5 [] [] [(16,.v (.bool (bif (!p) then true else (decide ((a.length:Int)=0)))))] _ E ev1 (aD E ?_)
 refine aH E h (fun h=>?_) (fun h=>?_)
 ·
  refine aM aA 5 [] [] [(4,.v (.bool false))] (.new 3 44 [.slice none 0 0] (.new 4 38 [.slice none 0 0,I 0] .nil)) ⟨ev2,(Bs E E)⟩ E E ?_
  cases h
  refine aZ (.pair (.sl iT) iT) Sl.nil E E (aZ iT Sl.nil E E (JS.ret aA (none,0,none,0) V E E [1,0] E))
 refine JS.skip (JS.seq (JS.region (aB aA 4 [(W ((a.length:Int) - 1))] [] [(20,.v (sL b a c)),(22,.v (I (W ((a.length:Int) - 1))))] _ E ⟨ev5,(Es E),E⟩ ?_)))
 obtain ⟨t,h⟩:=aK h
 refine aHe aA E E E E E E E E 0 E (0:Int) (W ((a.length:Int) - 1)) E E t E fun g i=>aB aA 1 [] [] [(24,.v (.agg #[sL g (bU a 0 (W ((a.length:Int) - 1))) i]))] _ E ev1 ?_
 refine bnw h fun f u h=>JO.call E E E E (wK (bU a 0 (W ((a.length:Int) - 1))) g i _ u) E [0] E E ?_
 rintro ⟨d,e⟩ -
 refine aL aA 2 [] [16] [(6,.bp 16 0)] (.new 2 44 [sL b a c] (.new 3 44 [.slice none 0 0] (.new 4 38 [.slice none 0 0,I 0] (.new 16 44 [sL d f e] .nil)))) E ⟨ev2,(Bs E E)⟩ (aD E (JS.seq ?_))
 obtain ⟨j,h⟩:=aK h
 refine bnw h fun k w h=>aAy 1 E (Int.toNat (W ((a.length:Int) - 1))) (at' a (W ((a.length:Int) - 1))) E fun l m A B x=>cV 3 E fun y=>?_
 refine bF E (.new 2 44 [sL b a c] (.new 16 44 [sL d f e] .nil)) [0] [8,9,10] ev6 E (fun C=>?_)
 refine bX aA aJ true 5 [0,1,2,3,4,5] E (by kernel_rfl) [(W ((a.length:Int) - 1))] [(26,.v (.agg #[sL d f e])),(31,.ep ⟨b,a.length,c⟩ (Int.toNat (W ((a.length:Int) - 1))*2))] ev6 [0] E E ⟨ev5,y.ix j,(Es E)⟩ (aC5 aA aJ 6 E (by kernel_rfl) E E E E E 0 E E (Int.toNat (W ((a.length:Int) - 1))) 0 ((Sl.v ⟨l,((at' a (W ((a.length:Int) - 1))).1).length,m⟩),(at' a (W ((a.length:Int) - 1))).2) ⟨x (lR j),E⟩ E E E ev6 [0] E (JA.one 7 (by kernel_rfl) (JK.call E E E E (eG ((at' a (W ((a.length:Int) - 1))).1,(at' a (W ((a.length:Int) - 1))).2) l m _ w) E [1] E E ?_)))
 rintro ⟨n,o⟩ -
 refine aU ev6 [0] E (JA.one 8 (by kernel_rfl) (bH aA E E E E E E E E (aR E (JA.one 9 (by kernel_rfl) (bH aA E E E E E E E E (aR E (aT aA aJ 0 [10] E (by kernel_rfl) [] [(4,.v (.bool true))] E ev2 (bM (by kernel_rfl) (bE (B':=(.new 3 44 [sL d f e] (.new 4 38 [sL n k.1 o,I k.2] .nil))) (Bs E E) ?_)))))))))
 cases h
 exact JS.ret aA (d,e,n,o) V E E [1,0] E

def aAw (b:EdQ):Option (EdQ×Int):= (aF (rI b.2.2.2.2.2.2.2.2.2.2.2.1) fun (d,c,e)=>(bif (!e) then (aF (cZ b) fun (f,g)=> some (f,g)) else (aF (dQ b 0) fun a=>(aF (iW c b.2.1) fun h=> some ((a.1,a.2.1,(c.1,h.2),a.2.2.2.1,a.2.2.2.2.1,a.2.2.2.2.2.1,a.2.2.2.2.2.2.1,a.2.2.2.2.2.2.2.1,a.2.2.2.2.2.2.2.2.1,a.2.2.2.2.2.2.2.2.2.1,a.2.2.2.2.2.2.2.2.2.2.1,d,a.2.2.2.2.2.2.2.2.2.2.2.2.1,a.2.2.2.2.2.2.2.2.2.2.2.2.2.1,a.2.2.2.2.2.2.2.2.2.2.2.2.2.2.1,a.2.2.2.2.2.2.2.2.2.2.2.2.2.2.2.1,a.2.2.2.2.2.2.2.2.2.2.2.2.2.2.2.2),0)))))

theorem aRe (a:EdQ) (b:P6) (r:EdQ×Int) (h:aAw a=some r):
 FC Tryz.prog 207 [.agg (cD a b).toArray] (bP a b []) (fun _:P6=>True) (fun q=>.tuple #[.agg (aG r.1 q).toArray,I r.2]) (fun q=>(bP r.1 q [])):= by
 refine FC.of (T:=TTx) Tryz.call207 Tryz.func207 E E fun x=>?_
 unfold aAw at h
 refine aM aA 3 [] [7,8] [(1,.bp 7 0),(2,.bp 8 0)] (.new 7 46 (aG a b) (.new 8 46 bA .nil)) ⟨(Es E),(Bs E E)⟩ E E (JS.seq (JS.region (aB aA 2 [] [] [(10,.v (.agg #[sL (Q4 b).1 (Q8 a).2.2.2.1 (Q4 b).2.1]))] _ E ev1 ?_)))
 obtain ⟨⟨j,c,l⟩,o,h⟩:=aE h
 refine JO.call E E E E (aIc (Q8 a).2.2.2.1 (Q4 b).1 (Q4 b).2.1 _ o) E [2] E E ?_
 rintro ⟨g,i,e,f⟩ -
 refine aL aA 9 [] [19,20] [(4,.bp 19 0),(5,.bp 20 0),(6,.v (.bool l))] (.new 7 46 (aG a b) (.new 8 46 bA (.new 19 44 [sL g j i] (.new 20 38 [sL e c.1 f,I c.2] .nil)))) E ⟨(Es E),(Bs E E)⟩ (aD E (JS.seq (aC aA 2 [(16,.v (.bool (!l)))] ev1 E E ?_)))
 refine aH E h (fun h=>?_) (fun h=>?_)
 ·
  refine JS.seq (JS.region (aB aA 1 [] [] [(17,.v (.agg (aG a b).toArray))] _ E ev1 ?_))
  obtain ⟨⟨p,s⟩,t,h⟩:=aE h
  refine JO.call E E E E (dR a b _ t) E [0,1,2,3,4,5] E E fun m _=>aL aA 4 [] [] [(3,.v (I s))] (.new 8 46 (aG p m) .nil) E ⟨ev2,(Bs E E)⟩ (aD E ?_)
  cases h
  exact JS.ret aA m V E E [0,0,0,0,0,0] E
 refine JS.skip (JS.seq (JS.region (aB aA 1 [] [] [(21,.v (.agg (aG a b).toArray))] _ E ev1 ?_)))
 refine bnw h fun k u h=>JO.call E E E E (nG a 0 b _ u) E [0,1,2,3,4,5] E E fun d _=>aL aA 2 [] [62] [(7,.bp 62 0)] (.new 7 46 (aG a b) (.new 8 46 bA (.new 19 44 [sL g j i] (.new 20 38 [sL e c.1 f,I c.2] (.new 62 46 (aG k d) .nil))))) E ⟨ev2,(Bs E E)⟩ (aD E (JS.seq ?_))
 refine bnw h fun n w h=>bF E (.new 7 46 (aG a b) (.new 19 44 [sL g j i] (.new 20 38 [sL e c.1 f,I c.2] .nil))) [] [7,8] ev7 E (fun y=>?_)
 refine bX aA aJ true 5 [0,1,2,4] E (by kernel_rfl) [] [(23,.v (.agg #[sL e c.1 f,I c.2])),(25,.v (I a.2.1)),(27,.v (.agg #[sL g j i]))] ev7 [] E E (Es E) (JA.one 3 (by kernel_rfl) (JK.call E E E E (uR c a.2.1 e f _ w) E [13] E E fun _ _=>aU ev7 [] E (bX aA aJ true 3 [5] E (by kernel_rfl) [] [(28,.bp 62 2)] ev7 [] E E ev2 (JA.one 6 (by kernel_rfl) (bH aA E E E E E E E E (aU ev7 [] E (aT aA aJ 1 [7] E (by kernel_rfl) [] [(29,.bp 62 12)] E ev2 (JA.one 8 (by kernel_rfl) (bH aA E E E E E E E E (aR E (bM (by kernel_rfl) (bE (B':=(.new 8 46 bA (.new 62 46 (aG (U11 (U2 k (c.1,n.2)) j) (e,f,d.2.2.1,d.2.2.2.1,g,i,(Q4 d).2.2)) .nil))) (Bs E E) (aM aA 3 [] [] [(3,.v (I 0))] (.new 8 46 (aG (U11 (U2 k (c.1,n.2)) j) (e,f,d.2.2.1,d.2.2.2.1,g,i,(Q4 d).2.2)) .nil) ⟨ev2,(Bs E E)⟩ E E ?_)))))))))))))
 cases h
 exact JS.ret aA (e,f,d.2.2.1,d.2.2.2.1,g,i,(Q4 d).2.2) V E E [7,1,5,2,2,2] E

def xQ (a:Int):Option Int:= (aF (jV a) fun b=>(bif b then some (W (a+32)) else some a))

theorem aOy (a:Int) (r:Int) (h:xQ a=some r) :
 FC Tryz.prog 263 [I a] [] (fun _:Unit=>True) (fun _=>I r) (fun _=>[]):= by
 refine FC.of (T:=TTx) Tryz.call263 Tryz.func263 E E fun c=>?_
 unfold xQ at h
 refine aC aA 1 [] ev5 E E (JS.seq (JS.seq (JS.region (aB aA 1 [] [] [(3,.v (I a))] _ E ev1 ?_))))
 refine bnw h fun d b h=>JO.call E E E E (yH a _ b) E [] E E fun _ _=>aD E ?_
 refine aH E h (fun h=>?_) (fun h=>?_)
 ·
  refine gH aA 3 [(W (a+32))] [] [(2,.v (I (W (a+32))))] _ ev3 E E ?_
  cases h
  exact JS.ret aA () V E E [] E
 refine JS.skip (aC aA 2 [(2,.v (I a))] ev1 E E ?_)
 cases h
 exact JS.ret aA () V E E [] E

def xN (a:Int):Option Int:= (aF (gG a) fun b=>(bif b then some (W (a - 32)) else some a))

theorem aOw (a:Int) (r:Int) (h:xN a=some r) :
 FC Tryz.prog 262 [I a] [] (fun _:Unit=>True) (fun _=>I r) (fun _=>[]):= by
 refine FC.of (T:=TTx) Tryz.call262 Tryz.func262 E E fun c=>?_
 unfold xN at h
 refine aC aA 1 [] ev5 E E (JS.seq (JS.seq (JS.region (aB aA 1 [] [] [(3,.v (I a))] _ E ev1 ?_))))
 refine bnw h fun d b h=>JO.call E E E E (tR a _ b) E [] E E fun _ _=>aD E ?_
 refine aH E h (fun h=>?_) (fun h=>?_)
 ·
  refine gH aA 3 [(W (a - 32))] [] [(2,.v (I (W (a - 32))))] _ ev3 E E ?_
  cases h
  exact JS.ret aA () V E E [] E
 refine JS.skip (aC aA 2 [(2,.v (I a))] ev1 E E ?_)
 cases h
 exact JS.ret aA () V E E [] E

def lB (d:List Int×Int) (e:(List Int)→Option (EdQ×Int)) (f:(Int×List Int)→Option (EdQ×Int)):(Int×List Int)→Option (EdQ×Int):=fun (a,b)=>(bif decide (a<d.2) then (aS (fun (g:List Int)=> f ((W (a+1)),g)) fun c=>(aP (0≤a∧a<(b.length:Int)) <|(aF (gG (at' b a)) fun h=>(bif h then (aF (xN (at' b a)) fun i=>(aP (0≤a∧a<(b.length:Int)) <|c (List.set b (Int.toNat a) i))) else (aF (xQ (at' b a)) fun j=>(aP (0≤a∧a<(b.length:Int)) <|c (List.set b (Int.toNat a) j))))))) else e b)

def rG (a:EdQ) (c:Int):Option (EdQ×Int):= (bif decide ((a.2.2.1.1.length:Int)=0) then (aF (cZ a) fun (d,e)=> some (d,e)) else (aF (eE a.2.2.1 (W (a.2.2.1.2+c))) fun b=>(aS (fun (f:List Int)=>(aF (iH a (f,b.2)) fun (g,h)=> some (g,h))) fun i=>(aW (lB b i) bG (a.2.2.1.2,b.1)))))

theorem aIa (a:EdQ) (i:Int) (d:P6) (r:EdQ×Int) (h:rG a i=some r):
 FC Tryz.prog 224 [.agg (cD a d).toArray,I i] (bP a d []) (fun _:P6=>True) (fun q=>.tuple #[.agg (aG r.1 q).toArray,I r.2]) (fun q=>(bP r.1 q [])):= by
 refine FC.of (T:=TTx) Tryz.call224 Tryz.func224 E E fun Y=>?_
 unfold rG at h
 refine aM aA 3 [] [7,8] [(2,.bp 7 0),(4,.bp 8 0)] (.new 7 46 (aG a d) (.new 8 46 bA .nil)) ⟨(Es E),(Bs E E)⟩ E E (JS.seq (aC aA 5 [(14,.v (.bool (decide ((a.2.2.1.1.length:Int)=0))))] ev1 E E ?_))
 refine aH E h (fun h=>?_) (fun h=>?_)
 ·
  refine JS.seq (JS.region (aB aA 1 [] [] [(15,.v (.agg (aG a d).toArray))] _ E ev1 ?_))
  obtain ⟨⟨D,F⟩,G,h⟩:=aE h
  refine JO.call E E E E (dR a d _ G) E [0,1,2,3,4,5] E E fun k _=>aL aA 4 [] [] [(5,.v (I F))] (.new 8 46 (aG D k) .nil) E ⟨ev2,(Bs E E)⟩ (aD E ?_)
  cases h
  exact JS.ret aA k V E E [0,0,0,0,0,0] E
 refine JS.skip (aC aA 4 [(6,.v (I a.2.2.1.2))] ev1 E E (JS.seq (JS.region (aB aA 5 [(W (a.2.2.1.2+i))] [] [(23,.v (.agg #[sL d.1 a.2.2.1.1 d.2.1,I a.2.2.1.2])),(26,.v (I (W (a.2.2.1.2+i))))] _ E ⟨ev5,(Es E),E⟩ ?_))))
 refine bnw h fun e H h=>JO.call E E E E (gI a.2.2.1 (W (a.2.2.1.2+i)) d.1 d.2.1 _ H) E [0] E E ?_
 rintro ⟨l,m⟩ -
 refine aL aA 2 [] [35] [(7,.bp 35 0)] (.new 7 46 (aG a d) (.new 8 46 bA (.new 35 38 [sL l e.1 m,I e.2] .nil))) E ⟨ev2,(Bs E E)⟩ (aD E (JS.seq (aC aA 2 [(8,.v (I a.2.2.1.2))] ev1 E E ?_)))
 obtain ⟨o,J,h⟩:=aN h
 refine aX (ι:=List Int×Option Addr×Nat) ⟨fun z=>o z.1=some r,fun z=>[(2,.bp 7 0),(4,.bp 8 0),(7,.bp 35 0)],fun z=>(.new 7 46 (aG a d) (.new 8 46 bA (.new 35 38 [sL z.2.1 z.1 z.2.2,I e.2] .nil))),fun z=>(bP a d []),fun z=>[fI z.2.1 z.2.2 z.1],fun z=>0⟩ ?_ ?_
 ·
  refine JS.loop (ι:=Nat×Int×List Int×Option Addr×Nat) ⟨fun z=>aW (lB e o) z.1 (z.2.1,z.2.2.1)=some r,fun z=>[(2,.bp 7 0),(4,.bp 8 0),(7,.bp 35 0),(8,.v (I z.2.1))],fun z=>(.new 7 46 (aG a d) (.new 8 46 bA (.new 35 38 [sL z.2.2.2.1 z.2.2.1 (Q4 z),I e.2] .nil))),fun z=>(bP a d []),fun z=>[fI z.2.2.2.1 (Q4 z) z.2.2.1],fun z=>z.1⟩ (bG,a.2.2.1.2,e.1,l,m) h (Es E) (Bs E E) [0,1,2,3,4,5] E [0] E ?_
  rintro ⟨p,b,c,f,g⟩ h
  obtain ⟨p,rfl,h⟩:=bC h
  rw [lB] at h
  refine JS.seq (aC aA 4 [(32,.v (.bool (decide (b<e.2))))] ev1 E E ?_)
  refine aH E h (fun h=>?_) (fun h=>?_)
  ·
   refine JS.skip (JS.seq ?_)
   obtain ⟨K,L,h⟩:=aN h
   refine aX (ι:=List Int×Option Addr×Nat) ⟨fun z=>K z.1=some r,fun z=>[(2,.bp 7 0),(4,.bp 8 0),(7,.bp 35 0),(8,.v (I b))],fun z=>(.new 7 46 (aG a d) (.new 8 46 bA (.new 35 38 [sL z.2.1 z.1 z.2.2,I e.2] .nil))),fun z=>(bP a d []),fun z=>[fI z.2.1 z.2.2 z.1],fun z=>0⟩ ?_ ?_
   ·
    refine JS.seq (JS.region (bJ 6 E fun j=>?_))
    obtain ⟨s,h⟩:=aK h
    refine aB aA 4 [] [] [(38,.ep ⟨f,c.length,g⟩ (Int.toNat b*1))] _ E ⟨j.ix s,ev2,E⟩ (JO.load aA E E E E E E E 6 E E (Int.toNat b) 0 (at' c b) ⟨bD s,E⟩ E E (aB aA 1 [] [] [(9,.v (I (at' c b)))] _ E ev1 (aD E (JS.seq (JS.region (aB aA 1 [] [] [(40,.v (I (at' c b)))] _ E ev1 ?_))))))
    refine bnw h fun Z M h=>JO.call E E E E (tR (at' c b) _ M) E [] E E fun _ _=>aD E ?_
    refine aH E h (fun h=>?_) (fun h=>?_)
    ·
     obtain ⟨t,N,h⟩:=aE h
     obtain ⟨u,h⟩:=aK h
     refine bF E (.new 35 38 [sL f c g,I e.2] .nil) [] [5,6] ev4 E (fun a0=>?_)
     refine bX aA aJ true 3 [0,1,2,3] E (by kernel_rfl) [] [(43,.v (sL f c g)),(44,.v (I b)),(45,.v (I (at' c b)))] ev4 [] E E (Es E) (JA.one 4 (by kernel_rfl) (JK.call E E E E (aOw (at' c b) _ N) E [] E E fun _ _=>aU ev4 [] E (aT aA aJ 1 [5] E (by kernel_rfl) [] [(47,.ep ⟨f,c.length,g⟩ (Int.toNat b*1))] E ⟨j.ix u,ev2⟩ (JA.one 6 (by kernel_rfl) (aDz aA E E E E E E E E E [0] (fs:=[]) E (Int.toNat b) 0 (at' c b) t ⟨bD u,E⟩ ev8 (aR E (bM (by kernel_rfl) (bE (B':=(.new 7 46 (aG a d) (.new 8 46 bA (.new 35 38 [sL f c g,I e.2] .nil)))) (Bs E E) (aV (aQ ((List.set c (Int.toNat b) t),f,g) h (Es E) ⟨E,E,E,E,E,E,E,E,E,(congrArg (fun n=>([.slice f n g,I e.2]:List Value)) (List.length_set.trans E)),E,E,V⟩ [0,1,2,3,4,5] E [0] (by simp only [List.length_set,List.length_replicate,cF,eU,sL,fI,rM,rL];rfl)))))))))))
    obtain ⟨w,O,h⟩:=aE h
    obtain ⟨x,h⟩:=aK h
    refine bF E (.new 35 38 [sL f c g,I e.2] .nil) [] [5,6] ev4 E (fun a1=>?_)
    refine bX aA aJ true 3 [0,1,2,3] E (by kernel_rfl) [] [(49,.v (sL f c g)),(50,.v (I b)),(51,.v (I (at' c b)))] ev4 [] E E (Es E) (JA.one 4 (by kernel_rfl) (JK.call E E E E (aOy (at' c b) _ O) E [] E E fun _ _=>aU ev4 [] E (aT aA aJ 1 [5] E (by kernel_rfl) [] [(53,.ep ⟨f,c.length,g⟩ (Int.toNat b*1))] E ⟨j.ix x,ev2⟩ (JA.one 6 (by kernel_rfl) (aDz aA E E E E E E E E E [0] (fs:=[]) E (Int.toNat b) 0 (at' c b) w ⟨bD x,E⟩ ev8 (aR E (bM (by kernel_rfl) (bE (B':=(.new 7 46 (aG a d) (.new 8 46 bA (.new 35 38 [sL f c g,I e.2] .nil)))) (Bs E E) (aV (aQ ((List.set c (Int.toNat b) w),f,g) h (Es E) ⟨E,E,E,E,E,E,E,E,E,(congrArg (fun n=>([.slice f n g,I e.2]:List Value)) (List.length_set.trans E)),E,E,V⟩ [0,1,2,3,4,5] E [0] (by simp only [List.length_set,List.length_replicate,cF,eU,sL,fI,rM,rL];rfl)))))))))))
   rintro ⟨P,Q,R⟩ h
   subst L
   refine bY aA 3 [(W (b+1))] [] [(8,.v (I (W (b+1))))] _ ev3 E E (bR (p,(W (b+1)),P,Q,R) h (Nat.lt_succ_self _) (Es E) (Bs E E) [0,1,2,3,4,5] E [0] E)
  refine JS.exit E (aQ (c,f,g) h (Es E) (Bs E E) [0,1,2,3,4,5] E [0] E)
 rintro ⟨y,A,B⟩ h
 subst J
 refine JS.seq (JS.region (aB aA 2 [] [] [(54,.v (.agg (aG a d).toArray)),(55,.v (.agg #[sL A y B,I e.2]))] _ E ⟨(Es E),E⟩ ?_))
 obtain ⟨⟨S,U⟩,X,h⟩:=aE h
 refine JO.call E E E E (nU a (y,e.2) d A B _ X) E [0,1,2,3,4,5,6] E E fun C _=>aL aA 4 [] [] [(5,.v (I U))] (.new 8 46 (aG S C) .nil) E ⟨ev2,(Bs E E)⟩ (aD E ?_)
 cases h
 exact JS.ret aA C V E E [0,0,0,0,0,0] E

def tI (a:List (List Int)):Option (List Int):= (aF (pT a) fun b=>(bif (bif (!b) then true else (decide ((a.length:Int)=0))) then some ([]) else (aP (0≤(0:Int)∧0<(a.length:Int)) <|(aF (cQ (at' a 0)) fun c=> some c))))

theorem aKi (a:List (List Int)) (b:Option Addr) (c:Nat) (r:List Int) (h:tI a=some r):
 FC Tryz.prog 257 [.agg #[sL b a c]] [⟨(.sl iT),⟨b,a.length,c⟩,a⟩] (fun _:Option Addr×Nat=>True) (fun q=>sL q.1 r q.2) (fun q=>[fI q.1 q.2 r]):= by
 refine FC.of (T:=TTx) Tryz.call257 Tryz.func257 E E fun p=>?_
 unfold tI at h
 refine aM aA 2 [] [2] [(1,.bp 2 0)] (.new 2 41 [sL b a c] .nil) ⟨ev2,(Bs E E)⟩ E E (JS.seq (JS.seq (JS.region (aB aA 1 [] [] [(3,.v (.agg #[sL b a c]))] _ E ev1 ?_))))
 refine bnw h fun k l h=>JO.call E E E E (aAb a b c _ l) E [0] E E fun _ _=>aB aA 7 [] [] [(11,.v (.bool (bif (!k) then true else (decide ((a.length:Int)=0)))))] _ E ev1 (aD E ?_)
 refine aH E h (fun h=>?_) (fun h=>?_)
 ·
  refine aC aA 1 [(2,.v (.slice none 0 0))] ev1 E E ?_
  cases h
  refine aZ iT Sl.nil E E (JS.ret aA (none,0) V E E [0] E)
 refine JS.skip (JS.seq (JS.region (bJ 0 E fun e=>?_)))
 obtain ⟨d,h⟩:=aK h
 refine aB aA 4 [] [] [(15,.ep ⟨b,a.length,c⟩ (Int.toNat 0*1))] _ E ⟨e.ix d,e.fa d,ev2,E⟩ (fS 0 E (Int.toNat 0) (at' a 0) E fun f g s t m=>cN aA E E E E E E 0 E E (Int.toNat 0) 0 (Sl.v ⟨f,(at' a 0).length,g⟩) ⟨m (lR d),E⟩ E E E ?_)
 refine bnw h fun n o h=>JO.call E E E E (dH (at' a 0) f g _ o) E [1] E E ?_
 rintro ⟨i,j⟩ -
 refine aB aA 1 [] [] [(2,.v (sL i n j))] _ E ev1 (aD E ?_)
 cases h
 exact JS.ret aA (i,j) V E E [0] E

def uH (a:EdQ) (d:Int) (e:Int):Option (EdQ×Int):= (aF (tI a.2.2.2.2.2.2.2.2.2.2.1) fun f=>(aF (nP f e) fun b=>(aF (eE a.2.2.1 d) fun g=>(aF (mZ g b) fun (c,h)=>(bif (bif decide ((b.length:Int)=0) then true else (!h)) then (aF (cZ a) fun (i,j)=> some (i,j)) else (aF (eE c (W (c.2 - 1))) fun k=>(aF (iH a k) fun (l,m)=> some (l,m))))))))

theorem aGg (b:EdQ) (d:Int) (e:Int) (a:P6) (r:EdQ×Int) (h:uH b d e=some r):
 FC Tryz.prog 223 [.agg (cD b a).toArray,I d,I e] (bP b a []) (fun _:P6=>True) (fun q=>.tuple #[.agg (aG r.1 q).toArray,I r.2]) (fun q=>(bP r.1 q [])):= by
 refine FC.of (T:=TTx) Tryz.call223 Tryz.func223 E E fun N=>?_
 unfold uH at h
 refine aM aA 3 [] [7,8] [(3,.bp 7 0),(6,.bp 8 0)] (.new 7 46 (aG b a) (.new 8 46 bA .nil)) ⟨(Es E),(Bs E E)⟩ E E (JS.seq (JS.region (aB aA 2 [] [] [(12,.v (.agg #[sL a.2.2.1 (Q8 b).2.2.1 a.2.2.2.1]))] _ E ev1 ?_)))
 refine bnw h fun s t h=>JO.call E E E E (aKi (Q8 b).2.2.1 a.2.2.1 a.2.2.2.1 _ t) E [1] E E ?_
 rintro ⟨u,w⟩ -
 refine aB aA 1 [] [] [(14,.v (I e))] _ E ev1 ?_
 refine bnw h fun f x h=>JO.call E E E E (aBx s e u w _ x) E [6] E E ?_
 rintro ⟨j,k⟩ -
 refine aB aA 1 [] [] [(8,.v (sL j f k))] _ E ev1 (aD E (JS.seq (JS.region (aB aA 3 [] [] [(18,.v (.agg #[sL a.1 b.2.2.1.1 a.2.1,I b.2.2.1.2])),(19,.v (I d))] _ E ⟨(Es E),E⟩ ?_))))
 refine bnw h fun y z h=>JO.call E E E E (gI b.2.2.1 d a.1 a.2.1 _ z) E [0] E E ?_
 rintro ⟨A,B⟩ -
 refine aB aA 1 [] [] [(21,.v (sL j f k))] _ E ev1 ?_
 obtain ⟨⟨c,m⟩,C,h⟩:=aE h
 refine JO.call E E E E (aCr y f A B j k _ C) E [6,7] E E ?_
 rintro ⟨g,i⟩ -
 refine aL aA 6 [] [30] [(9,.bp 30 0),(10,.v (.bool m))] (.new 7 46 (aG b a) (.new 8 46 bA (.new 30 38 [sL g c.1 i,I c.2] .nil))) E ⟨(Es E),(Bs E E)⟩ (aD E (JS.seq (aC aA 7 [(31,.v (.bool (bif (decide ((f.length:Int)=0)) then true else (!m))))] ev1 E E ?_)))
 refine aH E h (fun h=>?_) (fun h=>?_)
 ·
  refine JS.seq (JS.region (aB aA 1 [] [] [(32,.v (.agg (aG b a).toArray))] _ E ev1 ?_))
  obtain ⟨⟨D,F⟩,G,h⟩:=aE h
  refine JO.call E E E E (dR b a _ G) E [0,1,2,3,4,5] E E fun n _=>aL aA 4 [] [] [(7,.v (I F))] (.new 8 46 (aG D n) .nil) E ⟨ev2,(Bs E E)⟩ (aD E ?_)
  cases h
  exact JS.ret aA n V E E [0,0,0,0,0,0] E
 refine JS.skip (JS.seq ?_)
 obtain ⟨H,J,h⟩:=aE h
 obtain ⟨⟨o,p⟩,K,h⟩:=aE h
 refine bF E (.new 7 46 (aG b a) (.new 30 38 [sL g c.1 i,I c.2] .nil)) [] [6,7,8,9,10] ev6 E (fun O=>?_)
 refine bX aA aJ true 6 [0,1,2,3,4] E (by kernel_rfl) [(W (c.2 - 1))] [(36,.v (.agg (aG b a).toArray)),(37,.v (.agg #[sL g c.1 i,I c.2])),(40,.v (I (W (c.2 - 1))))] ev6 [] E E ⟨ev5,(Es E)⟩ (JA.one 5 (by kernel_rfl) (JK.call E E E E (gI c (W (c.2 - 1)) g i _ J) E [6] E E ?_))
 rintro ⟨L,M⟩ -
 refine aU ev6 [] E (JA.one 6 (by kernel_rfl) (JK.call E E E E (nU b H a L M _ K) E [0,1,2,3,4,5,6] E E ?_))
 rintro l -
 refine aR E (aT aA aJ 2 [7,8] E (by kernel_rfl) [] [(43,.v (.agg (aG o l).toArray)),(44,.v (I p))] E (Es E) (JA.one 9 (by kernel_rfl) (bH aA E E E E E E E E (aR E (aT aA aJ 0 [10] E (by kernel_rfl) [] [(7,.v (I p))] E ev2 (bM (by kernel_rfl) (bE (B':=(.new 8 46 (aG o l) .nil)) (Bs E E) ?_)))))))
 cases h
 exact JS.ret aA l V E E [0,0,0,0,0,0] E

def xT (b:EdQ) (d:Int):Option (EdQ×Int):= (aS (fun (f:Int)=>(aF (eE b.2.2.1 f) fun g=>(aF (oW b g 0) fun c=>(aF (pP c f) fun a=> some ((a.1,a.2.1,(c.2.2.1.1,a.2.2.1.2),a.2.2.2.1,a.2.2.2.2.1,a.2.2.2.2.2.1,a.2.2.2.2.2.2.1,a.2.2.2.2.2.2.2.1,a.2.2.2.2.2.2.2.2.1,a.2.2.2.2.2.2.2.2.2.1,c.2.2.2.2.2.2.2.2.2.2.1,c.2.2.2.2.2.2.2.2.2.2.2.1,a.2.2.2.2.2.2.2.2.2.2.2.2.1,(c.2.2.2.2.2.2.2.2.2.2.2.2.2.1.1,a.2.2.2.2.2.2.2.2.2.2.2.2.2.1.2),c.2.2.2.2.2.2.2.2.2.2.2.2.2.2.1,a.2.2.2.2.2.2.2.2.2.2.2.2.2.2.2.1,(c.2.2.2.2.2.2.2.2.2.2.2.2.2.2.2.2.1,a.2.2.2.2.2.2.2.2.2.2.2.2.2.2.2.2.2)),0))))) fun e=>(bif decide (d=105) then e b.2.2.1.2 else (bif decide (d=73) then (aF (kJ b.2.2.1.1 b.2.2.1.2 94 1) fun (h,k,l)=> e h) else (bif decide (d=97) then e (min (W (b.2.2.1.2+1)) (b.2.2.1.1.length:Int)) else (bif decide (d=65) then e (b.2.2.1.1.length:Int) else (aF (cZ b) fun (i,j)=> some (i,j)))))))

theorem aO0 (a:EdQ) (d:Int) (b:P6) (r:EdQ×Int) (h:xT a d=some r):
 FC Tryz.prog 225 [.agg (cD a b).toArray,I d] (bP a b []) (fun _:P6=>True) (fun q=>.tuple #[.agg (aG r.1 q).toArray,I r.2]) (fun q=>(bP r.1 q [])):= by
 refine FC.of (T:=TTx) Tryz.call225 Tryz.func225 E E fun A=>?_
 unfold xT at h
 refine aM aA 3 [] [7,8] [(2,.bp 7 0),(4,.bp 8 0)] (.new 7 46 (aG a b) (.new 8 46 bA .nil)) ⟨(Es E),(Bs E E)⟩ E E (JS.seq (dF E (by kernel_rfl) (cX aA 8 [] [(6,.v (sL b.1 a.2.2.1.1 b.2.1)),(7,.v (I a.2.2.1.2))] E (Es E) (iN E (JS.seq (aC aA 1 [(14,.v (I d))] ev1 E E ?_))))))
 obtain ⟨k,l,h⟩:=aN h
 refine aX (ι:=Int) ⟨fun z=>k z=some r,fun z=>[(2,.bp 7 0),(4,.bp 8 0),(7,.v (I z))],fun z=>(.new 7 46 (aG a b) (.new 8 46 bA .nil)),fun z=>(bP a b []),fun z=>[],fun z=>0⟩ ?_ ?_
 ·
  refine aC aA 2 [(19,.v (.bool (decide (d=105))))] ev1 E E ?_
  refine aH E h (fun h=>?_) (fun h=>?_)
  ·
   refine JS.skip (aV (aQ a.2.2.1.2 h (Es E) (Bs E E) [0,1,2,3,4,5] E [] E))
  refine aC aA 2 [(21,.v (.bool (decide (d=73))))] ev1 E E ?_
  refine aH E h (fun h=>?_) (fun h=>?_)
  ·
   refine JS.region (aB aA 2 [] [] [(24,.v (sL b.1 a.2.2.1.1 b.2.1)),(25,.v (I a.2.2.1.2))] _ E ⟨(Es E),E⟩ ?_)
   obtain ⟨⟨i,B,C⟩,m,h⟩:=aE h
   refine JO.call E E E E (wL a.2.2.1.1 a.2.2.1.2 94 1 b.1 b.2.1 _ m) E [0] E E fun _ _=>aB aA 5 [] [] [(7,.v (I i))] _ E ev1 (aD E (aV (aQ i h (Es E) (Bs E E) [0,1,2,3,4,5] E [] E)))
  refine aC aA 2 [(30,.v (.bool (decide (d=97))))] ev1 E E ?_
  refine aH E h (fun h=>?_) (fun h=>?_)
  ·
   refine bY aA 6 [(W (a.2.2.1.2+1))] [] [(7,.v (I (min (W (a.2.2.1.2+1)) (a.2.2.1.1.length:Int))))] _ ev3 E E (aV (aQ (min (W (a.2.2.1.2+1)) (a.2.2.1.1.length:Int)) h (Es E) (Bs E E) [0,1,2,3,4,5] E [] E))
  refine aC aA 2 [(37,.v (.bool (decide (d=65))))] ev1 E E ?_
  refine aH E h (fun h=>?_) (fun h=>?_)
  ·
   refine eR aA 3 [(7,.v (I (a.2.2.1.1.length:Int)))] ev1 E E (aV (aQ (a.2.2.1.1.length:Int) h (Es E) (Bs E E) [0,1,2,3,4,5] E [] E))
  refine JS.seq (JS.region (aB aA 1 [] [] [(15,.v (.agg (aG a b).toArray))] _ E ev1 ?_))
  obtain ⟨⟨n,o⟩,p,h⟩:=aE h
  refine JO.call E E E E (dR a b _ p) E [0,1,2,3,4,5] E E fun j _=>aL aA 4 [] [] [(5,.v (I o))] (.new 8 46 (aG n j) .nil) E ⟨ev2,(Bs E E)⟩ (aD E ?_)
  cases h
  exact JS.ret aA j V E E [0,0,0,0,0,0] E
 rintro f h
 subst l
 refine JS.seq ?_
 obtain ⟨s,t,h⟩:=aE h
 obtain ⟨e,u,h⟩:=aE h
 refine bnw h fun c w h=>bF E (.new 7 46 (aG a b) .nil) [] [5,7,8,9] ev4 E (fun D=>?_)
 refine bX aA aJ true 6 [0,1,2,3] E (by kernel_rfl) [] [(41,.v (.agg (aG a b).toArray)),(43,.v (.agg #[sL b.1 a.2.2.1.1 b.2.1,I a.2.2.1.2])),(44,.v (I f))] ev4 [] E E (Es E) (aT aA aJ 5 [6] E (by kernel_rfl) [] [(47,.v (I f))] E ev2 (JA.one 4 (by kernel_rfl) (JK.call E E E E (gI a.2.2.1 f b.1 b.2.1 _ t) E [0] E E ?_)))
 rintro ⟨x,y⟩ -
 refine aU ev4 [] E (JA.one 5 (by kernel_rfl) (JK.call E E E E (wY a s 0 b x y _ u) E [0,1,2,3,4,5,6] E E ?_))
 rintro g -
 refine aR E (JA.one 7 (by kernel_rfl) (JK.call E E E E (zY e f g _ w) E [6,7,8,9,10,11] E E fun _ _=>aR E (JA.one 8 (by kernel_rfl) (bH aA E E E E E E E E (aR E (aT aA aJ 0 [9] E (by kernel_rfl) [] [(5,.v (I 0))] E ev2 (bM (by kernel_rfl) (bE (B':=(.new 8 46 (aG (c.1,c.2.1,(e.2.2.1.1,c.2.2.1.2),c.2.2.2.1,(Q4 c).1,(Q4 c).2.1,(Q4 c).2.2.1,(Q4 c).2.2.2.1,(Q8 c).1,(Q8 c).2.1,(Q8 e).2.2.1,(Q8 e).2.2.2.1,(Q12 c).1,((Q12 e).2.1.1,(Q12 c).2.1.2),(Q12 e).2.2.1,(Q12 c).2.2.2.1,((Q16 e).1,(Q16 c).2)) g) .nil)) (Bs E E) ?_))))))))
 cases h
 exact JS.ret aA g V E E [0,0,0,0,0,0] E

def tF (a:EdQ) (f:Int×List (List UInt8)) (b:Int) (e:Int):Option (EdQ×Int):= (aF (xS a b e) fun (i,j,k)=>(bif k then some (i,j) else (bif (bif (!(decide (a.2.2.2.2.1=0))) then (decide (b=a.2.2.2.2.1)) else false) then (aF (eA a b 0 (a.2.2.1.1.length:Int)) fun (l,m)=> some (l,m)) else (aF (kJ a.2.2.1.1 a.2.2.1.2 b e) fun (n,o,p)=>(bif p then (aF (tE a n o) fun (q,r)=> some (q,r)) else (bif (!(decide (a.2.2.2.2.1=0))) then (aF (cZ a) fun (s,t)=> some (s,t)) else (bif decide (b=120) then (aF (eA a 100 a.2.2.1.2 (min (W (a.2.2.1.2+e)) (a.2.2.1.1.length:Int))) fun (u,v)=> some (u,v)) else (bif decide (b=88) then (aF (eA a 100 (max (W (a.2.2.1.2 - e)) 0) a.2.2.1.2) fun (w,x)=> some (w,x)) else (bif decide (b=68) then (aF (eA a 100 a.2.2.1.2 (a.2.2.1.1.length:Int)) fun (y,z)=> some (y,z)) else (bif decide (b=67) then (aF (eA a 99 a.2.2.1.2 (a.2.2.1.1.length:Int)) fun (A,B)=> some (A,B)) else (bif decide (b=115) then (aF (eA a 99 a.2.2.1.2 (min (W (a.2.2.1.2+e)) (a.2.2.1.1.length:Int))) fun (C,D)=> some (C,D)) else (bif decide (b=83) then (aF (eA a 99 0 (a.2.2.1.1.length:Int)) fun (F,G)=> some (F,G)) else (bif decide (b=114) then (aF (dZ a) fun c=> some ((c.1,c.2.1,c.2.2.1,c.2.2.2.1,c.2.2.2.2.1,c.2.2.2.2.2.1,114,c.2.2.2.2.2.2.2.1,c.2.2.2.2.2.2.2.2.1,c.2.2.2.2.2.2.2.2.2.1,c.2.2.2.2.2.2.2.2.2.2.1,c.2.2.2.2.2.2.2.2.2.2.2.1,c.2.2.2.2.2.2.2.2.2.2.2.2.1,c.2.2.2.2.2.2.2.2.2.2.2.2.2.1,c.2.2.2.2.2.2.2.2.2.2.2.2.2.2.1,c.2.2.2.2.2.2.2.2.2.2.2.2.2.2.2.1,c.2.2.2.2.2.2.2.2.2.2.2.2.2.2.2.2),0)) else (bif decide (b=112) then (aF (uH a (min (W (a.2.2.1.2+1)) (a.2.2.1.1.length:Int)) e) fun (H,J)=> some (H,J)) else (bif decide (b=80) then (aF (uH a a.2.2.1.2 e) fun (K,L)=> some (K,L)) else (bif decide (b=126) then (aF (rG a e) fun (M,N)=> some (M,N)) else (bif decide (b=117) then (aF (aAw a) fun (O,P)=> some (O,P)) else (aS (fun (Q:Bool)=>(bif Q then (aF (oN a f (-1)) fun (R,S)=> some (R,S)) else (aS (fun (T:Bool)=>(bif T then (aF (oN a f 1) fun (U,X)=> some (U,X)) else (bif decide (b=47) then (aF (xO a) fun (d,Y)=> some ((d.1,d.2.1,d.2.2.1,d.2.2.2.1,d.2.2.2.2.1,d.2.2.2.2.2.1,d.2.2.2.2.2.2.1,d.2.2.2.2.2.2.2.1,d.2.2.2.2.2.2.2.2.1,d.2.2.2.2.2.2.2.2.2.1,d.2.2.2.2.2.2.2.2.2.2.1,d.2.2.2.2.2.2.2.2.2.2.2.1,d.2.2.2.2.2.2.2.2.2.2.2.2.1,d.2.2.2.2.2.2.2.2.2.2.2.2.2.1,[],d.2.2.2.2.2.2.2.2.2.2.2.2.2.2.2.1,d.2.2.2.2.2.2.2.2.2.2.2.2.2.2.2.2),Y)) else (aF (xT a b) fun (Z,a0)=> some (Z,a0))))) fun g=>(bif decide (b=106) then g (decide (b=106)) else g (decide (b=43)))))) fun h=>(bif decide (b=107) then h (decide (b=107)) else h (decide (b=45)))))))))))))))))))))

theorem aKf (a:EdQ) (d:Int×List (List UInt8)) (c:Int) (e:Int) (b:P6) (f:Option Addr) (g:Nat) (r:EdQ×Int) (h:tF a d c e=some r):
 FC Tryz.prog 125 [.agg (cD a b).toArray,.agg #[I d.1,sL f d.2 g],I c,I e] (bP a b [⟨.str,⟨f,d.2.length,g⟩,d.2⟩]) (fun _:P6=>True) (fun q=>.tuple #[.agg (aG r.1 q).toArray,I r.2]) (fun q=>(bP r.1 q [])):= by
 refine FC.of (T:=TTx) Tryz.call125 Tryz.func125 E E fun w0=>?_
 unfold tF at h
 refine aM aA 4 [] [8,9,10] [(4,.bp 8 0),(5,.bp 9 0),(8,.bp 10 0)] (.new 8 46 (aG a b) (.new 9 50 [I d.1,sL f d.2 g] (.new 10 46 bA .nil))) ⟨(Es E),(Bs E E)⟩ E E (JS.seq (dF E (by kernel_rfl) (cX aA 13 [] [(10,.v (sL b.1 a.2.2.1.1 b.2.1)),(11,.v (I a.2.2.1.2)),(12,.v (I (a.2.2.1.1.length:Int)))] E (Es E) (iN E (JS.seq (JS.seq (JS.region (aB aA 3 [] [] [(31,.v (.agg (aG a b).toArray)),(32,.v (I c)),(33,.v (I e))] _ E ⟨(Es E),E⟩ ?_))))))))
 obtain ⟨⟨n,o,p⟩,a0,h⟩:=aE h
 refine JO.call E E E E (aOz a c e b _ a0) E [0,1,2,3,4,5] E E fun k _=>aL aA 8 [] [33] [(13,.bp 33 0),(14,.v (I o)),(15,.v (.bool p))] (.new 8 46 (aG a b) (.new 9 50 [I d.1,sL f d.2 g] (.new 10 46 bA (.new 33 46 (aG n k) .nil)))) E ⟨(Es E),(Bs E E)⟩ (aD E (aC aA 1 [(38,.v (.bool p))] ev1 E E ?_))
 refine aH E h (fun h=>?_) (fun h=>?_)
 ·
  refine aM aA 4 [] [] [(9,.v (I o))] (.new 10 46 (aG n k) .nil) ⟨ev2,(Bs E E)⟩ E E ?_
  cases h
  exact JS.ret aA k V E E [0,0,0,0,0,0] E
 refine JS.skip (JS.seq (aC aA 9 [(49,.v (.bool (bif (!(decide ((Q4 a).1=0))) then (decide (c=(Q4 a).1)) else false)))] ev1 E E ?_))
 refine aH E h (fun h=>?_) (fun h=>?_)
 ·
  refine JS.seq (JS.region (aB aA 3 [] [] [(50,.v (.agg (aG a b).toArray)),(51,.v (I c)),(52,.v (I (a.2.2.1.1.length:Int)))] _ E ⟨(Es E),E⟩ ?_))
  obtain ⟨⟨a1,a2⟩,a3,h⟩:=aE h
  refine JO.call E E E E (hU a c 0 (a.2.2.1.1.length:Int) b _ a3) E [0,1,2,3,4,5] E E fun s _=>aL aA 4 [] [] [(9,.v (I a2))] (.new 10 46 (aG a1 s) .nil) E ⟨ev2,(Bs E E)⟩ (aD E ?_)
  cases h
  exact JS.ret aA s V E E [0,0,0,0,0,0] E
 refine JS.skip (JS.seq (JS.seq (JS.region (aB aA 4 [] [] [(57,.v (sL b.1 a.2.2.1.1 b.2.1)),(58,.v (I a.2.2.1.2)),(59,.v (I c)),(60,.v (I e))] _ E ⟨(Es E),E⟩ ?_))))
 obtain ⟨⟨l,m,t⟩,a4,h⟩:=aE h
 refine JO.call E E E E (wL a.2.2.1.1 a.2.2.1.2 c e b.1 b.2.1 _ a4) E [0] E E fun _ _=>aB aA 7 [] [] [(16,.v (I l)),(17,.v (.bool m)),(18,.v (.bool t))] _ E ⟨(Es E),E⟩ (aD E (aC aA 1 [(65,.v (.bool t))] ev1 E E ?_))
 refine aH E h (fun h=>?_) (fun h=>?_)
 ·
  refine JS.seq (JS.region (aB aA 3 [] [] [(66,.v (.agg (aG a b).toArray)),(67,.v (I l)),(68,.v (.bool m))] _ E ⟨(Es E),E⟩ ?_))
  obtain ⟨⟨a5,a6⟩,a7,h⟩:=aE h
  refine JO.call E E E E (aDi a l m b _ a7) E [0,1,2,3,4,5] E E fun u _=>aL aA 4 [] [] [(9,.v (I a6))] (.new 10 46 (aG a5 u) .nil) E ⟨ev2,(Bs E E)⟩ (aD E ?_)
  cases h
  exact JS.ret aA u V E E [0,0,0,0,0,0] E
 refine JS.skip (JS.seq (aC aA 3 [(74,.v (.bool (!(decide ((Q4 a).1=0)))))] ev1 E E ?_))
 refine aH E h (fun h=>?_) (fun h=>?_)
 ·
  refine JS.seq (JS.region (aB aA 1 [] [] [(75,.v (.agg (aG a b).toArray))] _ E ev1 ?_))
  obtain ⟨⟨a8,a9⟩,b0,h⟩:=aE h
  refine JO.call E E E E (dR a b _ b0) E [0,1,2,3,4,5] E E fun w _=>aL aA 4 [] [] [(9,.v (I a9))] (.new 10 46 (aG a8 w) .nil) E ⟨ev2,(Bs E E)⟩ (aD E ?_)
  cases h
  exact JS.ret aA w V E E [0,0,0,0,0,0] E
 refine JS.skip (JS.seq (aC aA 1 [(79,.v (I c))] ev1 E E (JS.block (aC aA 2 [(80,.v (.bool (decide (c=120))))] ev1 E E ?_))))
 refine aH E h (fun h=>?_) (fun h=>?_)
 ·
  refine JS.seq (JS.region (aB aA 7 [(W (a.2.2.1.2+e))] [] [(82,.v (.agg (aG a b).toArray)),(83,.v (I a.2.2.1.2)),(88,.v (I (min (W (a.2.2.1.2+e)) (a.2.2.1.1.length:Int))))] _ E ⟨ev5,(Es E),E⟩ ?_))
  obtain ⟨⟨b1,b2⟩,b3,h⟩:=aE h
  refine JO.call E E E E (hU a 100 a.2.2.1.2 (min (W (a.2.2.1.2+e)) (a.2.2.1.1.length:Int)) b _ b3) E [0,1,2,3,4,5] E E fun x _=>aL aA 4 [] [] [(9,.v (I b2))] (.new 10 46 (aG b1 x) .nil) E ⟨ev2,(Bs E E)⟩ (aD E ?_)
  cases h
  exact JS.ret aA x V E E [0,0,0,0,0,0] E
 refine aC aA 2 [(92,.v (.bool (decide (c=88))))] ev1 E E ?_
 refine aH E h (fun h=>?_) (fun h=>?_)
 ·
  refine JS.seq (JS.region (aB aA 6 [(W (a.2.2.1.2 - e))] [] [(94,.v (.agg (aG a b).toArray)),(98,.v (I (max (W (a.2.2.1.2 - e)) 0))),(99,.v (I a.2.2.1.2))] _ E ⟨ev5,(Es E),E⟩ ?_))
  obtain ⟨⟨b4,b5⟩,b6,h⟩:=aE h
  refine JO.call E E E E (hU a 100 (max (W (a.2.2.1.2 - e)) 0) a.2.2.1.2 b _ b6) E [0,1,2,3,4,5] E E fun y _=>aL aA 4 [] [] [(9,.v (I b5))] (.new 10 46 (aG b4 y) .nil) E ⟨ev2,(Bs E E)⟩ (aD E ?_)
  cases h
  exact JS.ret aA y V E E [0,0,0,0,0,0] E
 refine aC aA 2 [(103,.v (.bool (decide (c=68))))] ev1 E E ?_
 refine aH E h (fun h=>?_) (fun h=>?_)
 ·
  refine JS.seq (JS.region (aB aA 3 [] [] [(105,.v (.agg (aG a b).toArray)),(106,.v (I a.2.2.1.2)),(107,.v (I (a.2.2.1.1.length:Int)))] _ E ⟨(Es E),E⟩ ?_))
  obtain ⟨⟨b7,b8⟩,b9,h⟩:=aE h
  refine JO.call E E E E (hU a 100 a.2.2.1.2 (a.2.2.1.1.length:Int) b _ b9) E [0,1,2,3,4,5] E E fun A _=>aL aA 4 [] [] [(9,.v (I b8))] (.new 10 46 (aG b7 A) .nil) E ⟨ev2,(Bs E E)⟩ (aD E ?_)
  cases h
  exact JS.ret aA A V E E [0,0,0,0,0,0] E
 refine aC aA 2 [(111,.v (.bool (decide (c=67))))] ev1 E E ?_
 refine aH E h (fun h=>?_) (fun h=>?_)
 ·
  refine JS.seq (JS.region (aB aA 3 [] [] [(113,.v (.agg (aG a b).toArray)),(114,.v (I a.2.2.1.2)),(115,.v (I (a.2.2.1.1.length:Int)))] _ E ⟨(Es E),E⟩ ?_))
  obtain ⟨⟨c0,c1⟩,c2,h⟩:=aE h
  refine JO.call E E E E (hU a 99 a.2.2.1.2 (a.2.2.1.1.length:Int) b _ c2) E [0,1,2,3,4,5] E E fun B _=>aL aA 4 [] [] [(9,.v (I c1))] (.new 10 46 (aG c0 B) .nil) E ⟨ev2,(Bs E E)⟩ (aD E ?_)
  cases h
  exact JS.ret aA B V E E [0,0,0,0,0,0] E
 refine aC aA 2 [(119,.v (.bool (decide (c=115))))] ev1 E E ?_
 refine aH E h (fun h=>?_) (fun h=>?_)
 ·
  refine JS.seq (JS.region (aB aA 7 [(W (a.2.2.1.2+e))] [] [(121,.v (.agg (aG a b).toArray)),(122,.v (I a.2.2.1.2)),(127,.v (I (min (W (a.2.2.1.2+e)) (a.2.2.1.1.length:Int))))] _ E ⟨ev5,(Es E),E⟩ ?_))
  obtain ⟨⟨c3,c4⟩,c5,h⟩:=aE h
  refine JO.call E E E E (hU a 99 a.2.2.1.2 (min (W (a.2.2.1.2+e)) (a.2.2.1.1.length:Int)) b _ c5) E [0,1,2,3,4,5] E E fun C _=>aL aA 4 [] [] [(9,.v (I c4))] (.new 10 46 (aG c3 C) .nil) E ⟨ev2,(Bs E E)⟩ (aD E ?_)
  cases h
  exact JS.ret aA C V E E [0,0,0,0,0,0] E
 refine aC aA 2 [(131,.v (.bool (decide (c=83))))] ev1 E E ?_
 refine aH E h (fun h=>?_) (fun h=>?_)
 ·
  refine JS.seq (JS.region (aB aA 2 [] [] [(133,.v (.agg (aG a b).toArray)),(134,.v (I (a.2.2.1.1.length:Int)))] _ E ⟨(Es E),E⟩ ?_))
  obtain ⟨⟨c6,c7⟩,c8,h⟩:=aE h
  refine JO.call E E E E (hU a 99 0 (a.2.2.1.1.length:Int) b _ c8) E [0,1,2,3,4,5] E E fun D _=>aL aA 4 [] [] [(9,.v (I c7))] (.new 10 46 (aG c6 D) .nil) E ⟨ev2,(Bs E E)⟩ (aD E ?_)
  cases h
  exact JS.ret aA D V E E [0,0,0,0,0,0] E
 refine aC aA 2 [(138,.v (.bool (decide (c=114))))] ev1 E E ?_
 refine aH E h (fun h=>?_) (fun h=>?_)
 ·
  refine JS.seq (JS.region (aB aA 1 [] [] [(140,.v (.agg (aG a b).toArray))] _ E ev1 ?_))
  refine bnw h fun j c9 h=>JO.call E E E E (hD a b _ c9) E [0,1,2,3,4,5] E E fun i _=>aL aA 2 [] [247] [(19,.bp 247 0)] (.new 10 46 bA (.new 247 46 (aG j i) .nil)) E ⟨ev2,(Bs E E)⟩ (aD E (JS.seq (wE [true,true,true,true,true,true,false,false,false,false,false,false] (bP a b [⟨.str,⟨f,d.2.length,g⟩,d.2⟩]) (bP j i []) E E (wP aA 2 [] [] [] (.new 10 46 bA (.new 247 46 (aG (U6 j 114) i) .nil)) ⟨V,(Bs E E)⟩ E E (aM aA 3 [] [] [(9,.v (I 0))] (.new 10 46 (aG (U6 j 114) i) .nil) ⟨ev2,(Bs E E)⟩ E E ?_)))))
  cases h
  exact JS.ret aA i V E E [0,0,0,0,0,0] E
 refine aC aA 2 [(144,.v (.bool (decide (c=112))))] ev1 E E ?_
 refine aH E h (fun h=>?_) (fun h=>?_)
 ·
  refine JS.seq (JS.region (aB aA 6 [(W (a.2.2.1.2+1))] [] [(146,.v (.agg (aG a b).toArray)),(150,.v (I (min (W (a.2.2.1.2+1)) (a.2.2.1.1.length:Int)))),(151,.v (I e))] _ E ⟨ev5,(Es E),E⟩ ?_))
  obtain ⟨⟨d0,d1⟩,d2,h⟩:=aE h
  refine JO.call E E E E (aGg a (min (W (a.2.2.1.2+1)) (a.2.2.1.1.length:Int)) e b _ d2) E [0,1,2,3,4,5] E E fun F _=>aL aA 4 [] [] [(9,.v (I d1))] (.new 10 46 (aG d0 F) .nil) E ⟨ev2,(Bs E E)⟩ (aD E ?_)
  cases h
  exact JS.ret aA F V E E [0,0,0,0,0,0] E
 refine aC aA 2 [(155,.v (.bool (decide (c=80))))] ev1 E E ?_
 refine aH E h (fun h=>?_) (fun h=>?_)
 ·
  refine JS.seq (JS.region (aB aA 3 [] [] [(157,.v (.agg (aG a b).toArray)),(158,.v (I a.2.2.1.2)),(159,.v (I e))] _ E ⟨(Es E),E⟩ ?_))
  obtain ⟨⟨d3,d4⟩,d5,h⟩:=aE h
  refine JO.call E E E E (aGg a a.2.2.1.2 e b _ d5) E [0,1,2,3,4,5] E E fun G _=>aL aA 4 [] [] [(9,.v (I d4))] (.new 10 46 (aG d3 G) .nil) E ⟨ev2,(Bs E E)⟩ (aD E ?_)
  cases h
  exact JS.ret aA G V E E [0,0,0,0,0,0] E
 refine aC aA 2 [(163,.v (.bool (decide (c=126))))] ev1 E E ?_
 refine aH E h (fun h=>?_) (fun h=>?_)
 ·
  refine JS.seq (JS.region (aB aA 2 [] [] [(165,.v (.agg (aG a b).toArray)),(166,.v (I e))] _ E ⟨(Es E),E⟩ ?_))
  obtain ⟨⟨d6,d7⟩,d8,h⟩:=aE h
  refine JO.call E E E E (aIa a e b _ d8) E [0,1,2,3,4,5] E E fun H _=>aL aA 4 [] [] [(9,.v (I d7))] (.new 10 46 (aG d6 H) .nil) E ⟨ev2,(Bs E E)⟩ (aD E ?_)
  cases h
  exact JS.ret aA H V E E [0,0,0,0,0,0] E
 refine aC aA 2 [(170,.v (.bool (decide (c=117))))] ev1 E E ?_
 refine aH E h (fun h=>?_) (fun h=>?_)
 ·
  refine JS.seq (JS.region (aB aA 1 [] [] [(172,.v (.agg (aG a b).toArray))] _ E ev1 ?_))
  obtain ⟨⟨d9,e0⟩,e1,h⟩:=aE h
  refine JO.call E E E E (aRe a b _ e1) E [0,1,2,3,4,5] E E fun J _=>aL aA 4 [] [] [(9,.v (I e0))] (.new 10 46 (aG d9 J) .nil) E ⟨ev2,(Bs E E)⟩ (aD E ?_)
  cases h
  exact JS.ret aA J V E E [0,0,0,0,0,0] E
 obtain ⟨e2,e3,h⟩:=aN h
 refine bZ (ι:=Bool) ⟨fun z=>e2 z=some r,fun z=>[(2,.v (I c)),(4,.bp 8 0),(5,.bp 9 0),(8,.bp 10 0),(79,.v (I c)),(176,.v (.bool z))],fun z=>(.new 8 46 (aG a b) (.new 9 50 [I d.1,sL f d.2 g] (.new 10 46 bA .nil))),fun z=>(bP a b [⟨.str,⟨f,d.2.length,g⟩,d.2⟩]),fun z=>[],fun z=>0⟩ ?_ ?_
 ·
  refine aC aA 2 [(176,.v (.bool (decide (c=107))))] ev1 E E ?_
  refine aH E h (fun h=>?_) (fun h=>?_)
  ·
   refine JS.skip (aQ (decide (c=107)) h (Es E) (Bs E E) [0,1,2,3,4,5,6] E [] E)
  refine eR aA 2 [(176,.v (.bool (decide (c=45))))] ev1 E E (aQ (decide (c=45)) h (Es E) (Bs E E) [0,1,2,3,4,5,6] E [] E)
 rintro f9 h
 subst e3
 refine aH E h (fun h=>?_) (fun h=>?_)
 ·
  refine JS.seq (JS.region (aB aA 2 [] [] [(179,.v (.agg (aG a b).toArray)),(180,.v (.agg #[I d.1,sL f d.2 g]))] _ E ⟨(Es E),E⟩ ?_))
  obtain ⟨⟨e4,e5⟩,e6,h⟩:=aE h
  refine JO.call E E E E (uD a d (-1) b f g _ e6) E [0,1,2,3,4,5,6] E E fun K _=>aL aA 4 [] [] [(9,.v (I e5))] (.new 10 46 (aG e4 K) .nil) E ⟨ev2,(Bs E E)⟩ (aD E ?_)
  cases h
  exact JS.ret aA K V E E [0,0,0,0,0,0] E
 obtain ⟨e7,e8,h⟩:=aN h
 refine bZ (ι:=Bool) ⟨fun z=>e7 z=some r,fun z=>[(2,.v (I c)),(4,.bp 8 0),(5,.bp 9 0),(8,.bp 10 0),(79,.v (I c)),(184,.v (.bool z))],fun z=>(.new 8 46 (aG a b) (.new 9 50 [I d.1,sL f d.2 g] (.new 10 46 bA .nil))),fun z=>(bP a b [⟨.str,⟨f,d.2.length,g⟩,d.2⟩]),fun z=>[],fun z=>0⟩ ?_ ?_
 ·
  refine aC aA 2 [(184,.v (.bool (decide (c=106))))] ev1 E E ?_
  refine aH E h (fun h=>?_) (fun h=>?_)
  ·
   refine JS.skip (aQ (decide (c=106)) h (Es E) (Bs E E) [0,1,2,3,4,5,6] E [] E)
  refine eR aA 2 [(184,.v (.bool (decide (c=43))))] ev1 E E (aQ (decide (c=43)) h (Es E) (Bs E E) [0,1,2,3,4,5,6] E [] E)
 rintro g0 h
 subst e8
 refine aH E h (fun h=>?_) (fun h=>?_)
 ·
  refine JS.seq (JS.region (aB aA 2 [] [] [(187,.v (.agg (aG a b).toArray)),(188,.v (.agg #[I d.1,sL f d.2 g]))] _ E ⟨(Es E),E⟩ ?_))
  obtain ⟨⟨e9,f0⟩,f1,h⟩:=aE h
  refine JO.call E E E E (uD a d 1 b f g _ f1) E [0,1,2,3,4,5,6] E E fun L _=>aL aA 4 [] [] [(9,.v (I f0))] (.new 10 46 (aG e9 L) .nil) E ⟨ev2,(Bs E E)⟩ (aD E ?_)
  cases h
  exact JS.ret aA L V E E [0,0,0,0,0,0] E
 refine aC aA 2 [(192,.v (.bool (decide (c=47))))] ev1 E E ?_
 refine aH E h (fun h=>?_) (fun h=>?_)
 ·
  refine JS.seq (JS.region (aB aA 1 [] [] [(194,.v (.agg (aG a b).toArray))] _ E ev1 ?_))
  obtain ⟨⟨f2,f3⟩,f4,h⟩:=aE h
  refine JO.call E E E E (aIy a b _ f4) E [0,1,2,3,4,5] E E ?_
  rintro ⟨M,N,O,P,Q,R,S,U,X,Y⟩ -
  refine aL aA 4 [] [] [(9,.v (I f3))] (.new 10 46 (aG (U14 f2 []) (M,N,O,P,Q,R,S,U,none,0,X,Y)) .nil) E ⟨ev2,(Bs E E)⟩ (aD E ?_)
  cases h
  refine aZ iT Sl.nil E E (JS.ret aA (M,N,O,P,Q,R,S,U,none,0,X,Y) V E E [1,1,1,1,0,0] E)
 refine JS.skip (aV (JS.seq (JS.region (aB aA 2 [] [] [(198,.v (.agg (aG a b).toArray)),(199,.v (I c))] _ E ⟨(Es E),E⟩ ?_))))
 obtain ⟨⟨f5,f6⟩,f7,h⟩:=aE h
 refine JO.call E E E E (aO0 a c b _ f7) E [0,1,2,3,4,5] E E fun Z _=>aL aA 4 [] [] [(9,.v (I f6))] (.new 10 46 (aG f5 Z) .nil) E ⟨ev2,(Bs E E)⟩ (aD E ?_)
 cases h
 exact JS.ret aA Z V E E [0,0,0,0,0,0] E

def uI (a:EdQ) (d:Int×List (List UInt8)) (c:Int×Int):Option (EdQ×Int):= (aF (vJ a d c) fun e=>(bif (bif (!e) then true else (bif (!(decide (a.2.1=1))) then (!(decide (a.2.1=2))) else false)) then some ((false,0,([],0),0,0,0,0,0,0,0,[],[],0,([],0),[],0,([],0)),0) else (bif decide (a.2.1=1) then (aF (xP a d c) fun (f,g,h)=>(bif h then some (f,g) else (bif (!(decide (c.1=7))) then (aF (cZ a) fun (i,j)=> some (i,j)) else (aF (dZ a) fun b=> some ((b.1,2,(b.2.2.1.1,(max (W (b.2.2.1.2 - 1)) 0)),0,b.2.2.2.2.1,b.2.2.2.2.2.1,b.2.2.2.2.2.2.1,b.2.2.2.2.2.2.2.1,b.2.2.2.2.2.2.2.2.1,0,b.2.2.2.2.2.2.2.2.2.2.1,b.2.2.2.2.2.2.2.2.2.2.2.1,b.2.2.2.2.2.2.2.2.2.2.2.2.1,b.2.2.2.2.2.2.2.2.2.2.2.2.2.1,b.2.2.2.2.2.2.2.2.2.2.2.2.2.2.1,b.2.2.2.2.2.2.2.2.2.2.2.2.2.2.2.1,b.2.2.2.2.2.2.2.2.2.2.2.2.2.2.2.2),0))))) else (bif (!(decide (a.2.2.2.2.2.2.1=0))) then (aF (vG a c (min (W ((max a.2.2.2.1 1)*(max a.2.2.2.2.2.1 1))) 999)) fun (k,l)=> some (k,l)) else (bif (!(decide (c.1=1))) then (aF (tD a d c (min (W ((max a.2.2.2.1 1)*(max a.2.2.2.2.2.1 1))) 999)) fun (m,n)=> some (m,n)) else (aF (tF a d c.2 (min (W ((max a.2.2.2.1 1)*(max a.2.2.2.2.2.1 1))) 999)) fun (o,p)=> some (o,p)))))))

theorem mA (a:EdQ) (c:Int×List (List UInt8)) (b:Int×Int) (d:P6) (e:Option Addr) (f:Nat) (r:EdQ×Int) (h:uI a c b=some r):
 FC Tryz.prog 40 [.agg (cD a d).toArray,.agg #[I c.1,sL e c.2 f],.agg #[I b.1,I b.2]] (bP a d [⟨.str,⟨e,c.2.length,f⟩,c.2⟩]) (fun _:P6=>True) (fun q=>.tuple #[.agg (aG r.1 q).toArray,I r.2]) (fun q=>(bP r.1 q [])):= by
 refine FC.of (T:=TTx) Tryz.call40 Tryz.func40 E E fun M=>?_
 unfold uI at h
 refine aM aA 5 [] [8,9,10,11] [(3,.bp 8 0),(4,.bp 9 0),(5,.bp 10 0),(6,.bp 11 0)] (.new 8 46 (aG a d) (.new 9 50 [I c.1,sL e c.2 f] (.new 10 64 [I b.1,I b.2] (.new 11 46 bA .nil)))) ⟨(Es E),(Bs E E)⟩ E E (JS.seq (JS.seq (JS.region (aB aA 3 [] [] [(13,.v (.agg (aG a d).toArray)),(14,.v (.agg #[I c.1,sL e c.2 f])),(15,.v (.agg #[I b.1,I b.2]))] _ E ⟨(Es E),E⟩ ?_))))
 refine bnw h fun t u h=>JO.call E E E E (aMm a c b d e f _ u) E [0,1,2,3,4,5,6] E E fun _ _=>aB aA 11 [] [] [(27,.v (.bool (bif (!t) then true else (bif (!(decide (a.2.1=1))) then (!(decide (a.2.1=2))) else false))))] _ E ev1 (aD E ?_)
 refine aH E h (fun h=>?_) (fun h=>?_)
 ·
  refine aM aA 3 [] [] [(7,.v (I 0))] (.new 11 46 bA .nil) ⟨ev2,(Bs E E)⟩ E E ?_
  cases h
  refine aZ iT Sl.nil E E (aZ (.sl iT) Sl.nil E E (aZ (.pair (.sl iT) iT) Sl.nil E E (aZ iT Sl.nil E E (aZ iT Sl.nil E E (aZ iT Sl.nil E E (JS.ret aA (none,0,none,0,none,0,none,0,none,0,none,0) V E E [5,4,3,2,1,0] E))))))
 refine JS.skip (JS.seq (aC aA 3 [(31,.v (.bool (decide (a.2.1=1))))] ev1 E E ?_))
 refine aH E h (fun h=>?_) (fun h=>?_)
 ·
  refine JS.seq (JS.seq (JS.region (aB aA 3 [] [] [(33,.v (.agg (aG a d).toArray)),(34,.v (.agg #[I c.1,sL e c.2 f])),(35,.v (.agg #[I b.1,I b.2]))] _ E ⟨(Es E),E⟩ ?_)))
  obtain ⟨⟨k,l,m⟩,w,h⟩:=aE h
  refine JO.call E E E E (aOx a c b d e f _ w) E [0,1,2,3,4,5,6] E E fun j _=>aL aA 8 [] [36] [(8,.bp 36 0),(9,.v (I l)),(10,.v (.bool m))] (.new 8 46 (aG a d) (.new 10 64 [I b.1,I b.2] (.new 11 46 bA (.new 36 46 (aG k j) .nil)))) E ⟨(Es E),(Bs E E)⟩ (aD E (aC aA 1 [(40,.v (.bool m))] ev1 E E ?_))
  refine aH E h (fun h=>?_) (fun h=>?_)
  ·
   refine aM aA 4 [] [] [(7,.v (I l))] (.new 11 46 (aG k j) .nil) ⟨ev2,(Bs E E)⟩ E E ?_
   cases h
   exact JS.ret aA j V E E [0,0,0,0,0,0] E
  refine JS.skip (JS.seq (aC aA 3 [(45,.v (.bool (!(decide (b.1=7)))))] ev1 E E ?_))
  refine aH E h (fun h=>?_) (fun h=>?_)
  ·
   refine JS.seq (JS.region (aB aA 1 [] [] [(46,.v (.agg (aG a d).toArray))] _ E ev1 ?_))
   obtain ⟨⟨x,y⟩,z,h⟩:=aE h
   refine JO.call E E E E (dR a d _ z) E [0,1,2,3,4,5] E E fun n _=>aL aA 4 [] [] [(7,.v (I y))] (.new 11 46 (aG x n) .nil) E ⟨ev2,(Bs E E)⟩ (aD E ?_)
   cases h
   exact JS.ret aA n V E E [0,0,0,0,0,0] E
  refine JS.skip (JS.seq (JS.region (aB aA 1 [] [] [(50,.v (.agg (aG a d).toArray))] _ E ev1 ?_)))
  refine bnw h fun g A h=>JO.call E E E E (hD a d _ A) E [0,1,2,3,4,5] E E fun i _=>aL aA 2 [] [78] [(11,.bp 78 0)] (.new 11 46 bA (.new 78 46 (aG g i) .nil)) E ⟨ev2,(Bs E E)⟩ (aD E (JS.seq (wE [true,true,true,true,true,true,false,false,false,false,false,false] (bP a d [⟨.str,⟨e,c.2.length,f⟩,c.2⟩]) (bP g i []) E E (wP aA 6 [] [] [] (.new 11 46 bA (.new 78 46 (aG (U9 (U3 (U1 g 2) 0) 0) i) .nil)) ⟨V,(Bs E E)⟩ E E (aM aA 8 [(W (g.2.2.1.2 - 1))] [] [] (.new 11 46 bA (.new 78 46 (aG (U9 (U3 (U2 (U1 g 2) (g.2.2.1.1,(max (W (g.2.2.1.2 - 1)) 0))) 0) 0) i) .nil)) ⟨ev5,V,(Bs E E)⟩ E E (aM aA 3 [] [] [(7,.v (I 0))] (.new 11 46 (aG (U9 (U3 (U2 (U1 g 2) (g.2.2.1.1,(max (W (g.2.2.1.2 - 1)) 0))) 0) 0) i) .nil) ⟨ev2,(Bs E E)⟩ E E ?_))))))
  cases h
  exact JS.ret aA i V E E [0,0,0,0,0,0] E
 refine JS.skip (gH aA 9 [(W ((max a.2.2.2.1 1)*(max (Q4 a).2.1 1)))] [] [(12,.v (I (min (W ((max a.2.2.2.1 1)*(max (Q4 a).2.1 1))) 999)))] _ ev3 E E (JS.seq (JS.block (aC aA 4 [(71,.v (.bool (!(decide ((Q4 a).2.2.1=0)))))] ev1 E E ?_))))
 refine aH E h (fun h=>?_) (fun h=>?_)
 ·
  refine JS.seq (JS.region (aB aA 3 [] [] [(75,.v (.agg (aG a d).toArray)),(76,.v (.agg #[I b.1,I b.2])),(77,.v (I (min (W ((max a.2.2.2.1 1)*(max (Q4 a).2.1 1))) 999)))] _ E ⟨(Es E),E⟩ ?_))
  obtain ⟨⟨B,C⟩,D,h⟩:=aE h
  refine JO.call E E E E (aMj a b (min (W ((max a.2.2.2.1 1)*(max (Q4 a).2.1 1))) 999) d _ D) E [0,1,2,3,4,5] E E fun o _=>aL aA 4 [] [] [(7,.v (I C))] (.new 11 46 (aG B o) .nil) E ⟨ev2,(Bs E E)⟩ (aD E ?_)
  cases h
  exact JS.ret aA o V E E [0,0,0,0,0,0] E
 refine aC aA 4 [(81,.v (.bool (!(decide (b.1=1)))))] ev1 E E ?_
 refine aH E h (fun h=>?_) (fun h=>?_)
 ·
  refine JS.seq (JS.region (aB aA 4 [] [] [(85,.v (.agg (aG a d).toArray)),(86,.v (.agg #[I c.1,sL e c.2 f])),(87,.v (.agg #[I b.1,I b.2])),(88,.v (I (min (W ((max a.2.2.2.1 1)*(max (Q4 a).2.1 1))) 999)))] _ E ⟨(Es E),E⟩ ?_))
  obtain ⟨⟨F,G⟩,H,h⟩:=aE h
  refine JO.call E E E E (aKd a c b (min (W ((max a.2.2.2.1 1)*(max (Q4 a).2.1 1))) 999) d e f _ H) E [0,1,2,3,4,5,6] E E fun p _=>aL aA 4 [] [] [(7,.v (I G))] (.new 11 46 (aG F p) .nil) E ⟨ev2,(Bs E E)⟩ (aD E ?_)
  cases h
  exact JS.ret aA p V E E [0,0,0,0,0,0] E
 refine JS.skip (aV (JS.seq (JS.region (aB aA 5 [] [] [(92,.v (.agg (aG a d).toArray)),(93,.v (.agg #[I c.1,sL e c.2 f])),(95,.v (I b.2)),(96,.v (I (min (W ((max a.2.2.2.1 1)*(max (Q4 a).2.1 1))) 999)))] _ E ⟨(Es E),E⟩ ?_))))
 obtain ⟨⟨J,K⟩,L,h⟩:=aE h
 refine JO.call E E E E (aKf a c b.2 (min (W ((max a.2.2.2.1 1)*(max (Q4 a).2.1 1))) 999) d e f _ L) E [0,1,2,3,4,5,6] E E fun s _=>aL aA 4 [] [] [(7,.v (I K))] (.new 11 46 (aG J s) .nil) E ⟨ev2,(Bs E E)⟩ (aD E ?_)
 cases h
 exact JS.ret aA s V E E [0,0,0,0,0,0] E

def oK (b:List Int) (c:List Int) (d:Unit→Option Bool) (e:Int→Option Bool):Int→Option Bool:=fun a=>(bif decide (a<(b.length:Int)) then (aP (0≤a∧a<(b.length:Int)) <|(aP (0≤a∧a<(c.length:Int)) <|(bif (!(decide ((at' b a)=(at' c a)))) then some false else e (W (a+1))))) else d ())

def pN (a:List Int) (b:List Int):Option Bool:= (bif (!(decide ((a.length:Int)=(b.length:Int)))) then some false else (aS (fun (_:Unit)=> some true) fun c=>(aW (oK a b c) bG 0)))

theorem zX (b:List Int) (c:List Int) (d:Option Addr) (e:Nat) (f:Option Addr) (g:Nat) (r:Bool) (h:pN b c=some r):
 FC Tryz.prog 19 [sL d b e,sL f c g] [fI d e b,fI f g c] (fun _:Unit=>True) (fun _=>.bool r) (fun _=>[]):= by
 refine FC.of (T:=TTx) Tryz.call19 Tryz.func19 E E fun p=>?_
 unfold pN at h
 refine aC aA 1 [] ev5 E E (JS.seq (aC aA 5 [(10,.v (.bool (!(decide ((b.length:Int)=(c.length:Int))))))] ev1 E E ?_))
 refine aH E h (fun h=>?_) (fun h=>?_)
 ·
  refine aC aA 1 [(4,.v (.bool false))] ev1 E E ?_
  cases h
  exact JS.ret aA () V E E [] E
 refine JS.skip (JS.seq (aC aA 1 [(5,.v (I 0))] ev1 E E ?_))
 obtain ⟨i,m,h⟩:=aN h
 refine aX (ι:=Unit) ⟨fun _=>i ()=some r,fun _=>[],fun _=>.nil,fun _=>[],fun _=>[],fun _=>0⟩ ?_ ?_
 ·
  refine JS.loop (ι:=Nat×Int) ⟨fun z=>aW (oK b c i) z.1 z.2=some r,fun z=>[(0,.v (sL d b e)),(1,.v (sL f c g)),(5,.v (I z.2))],fun z=>.nil,fun z=>[fI d e b,fI f g c],fun z=>[],fun z=>z.1⟩ (bG,0) h (Es E) V [0,1] E [] E ?_
  rintro ⟨j,a⟩ h
  obtain ⟨j,rfl,h⟩:=bC h
  rw [oK] at h
  refine JS.seq (aC aA 4 [(14,.v (.bool (decide (a<(b.length:Int)))))] ev1 E E ?_)
  refine aH E h (fun h=>?_) (fun h=>?_)
  ·
   refine JS.skip (JS.seq (JS.block (JS.seq ?_)))
   obtain ⟨k,h⟩:=aK h
   obtain ⟨l,h⟩:=aK h
   refine cV 0 E fun n=>cV 1 E fun o=>dF E (by kernel_rfl) (cX aA 3 [] [(19,.ep ⟨d,b.length,e⟩ (Int.toNat a*1))] E ⟨n.ix k,ev2⟩ (JQ.load aA E E E E E E E 0 E E (Int.toNat a) 0 (at' b a) ⟨bD k,E⟩ E E (cX aA 3 [] [(23,.ep ⟨f,c.length,g⟩ (Int.toNat a*1))] E ⟨o.ix l,ev2⟩ (JQ.load aA E E E E E E E 1 E E (Int.toNat a) 0 (at' c a) ⟨bD l,E⟩ E E (cX aA 1 [] [(25,.v (.bool (!(decide ((at' b a)=(at' c a))))))] E ev2 (iN E ?_))))))
   refine aH E h (fun h=>?_) (fun h=>?_)
   ·
    refine aC aA 1 [(4,.v (.bool false))] ev1 E E ?_
    cases h
    exact JS.ret aA () V E E [] E
   refine JS.skip (aV (bY aA 3 [(W (a+1))] [] [(5,.v (I (W (a+1))))] _ ev3 E E (bR (j,(W (a+1))) h (Nat.lt_succ_self _) (Es E) V [0,1] E [] E)))
  refine JS.exit E (aQ () h V V [] E [] E)
 rintro _ h
 subst m
 refine aC aA 1 [(4,.v (.bool true))] ev1 E E ?_
 cases h
 exact JS.ret aA () V E E [] E

def mU (a:List Int×Int) (b:List Int×Int):Option Bool:= (aF (pN a.1 b.1) fun c=>(bif (!c) then some false else (bif (!(decide (a.2=b.2))) then some false else some true)))

theorem vT (a:List Int×Int) (b:List Int×Int) (c:Option Addr) (d:Nat) (e:Option Addr) (f:Nat) (r:Bool) (h:mU a b=some r):
 FC Tryz.prog 66 [.agg #[sL c a.1 d,I a.2],.agg #[sL e b.1 f,I b.2]] [fI c d a.1,fI e f b.1] (fun _:Unit=>True) (fun _=>.bool r) (fun _=>[]):= by
 refine FC.of (T:=TTx) Tryz.call66 Tryz.func66 E E fun j=>?_
 unfold mU at h
 refine aM aA 3 [] [3,4] [(2,.bp 3 0),(3,.bp 4 0)] (.new 3 38 [sL c a.1 d,I a.2] (.new 4 38 [sL e b.1 f,I b.2] .nil)) ⟨(Es E),(Bs E E)⟩ E E (JS.seq (JS.seq (JS.region (aB aA 4 [] [] [(6,.v (sL c a.1 d)),(8,.v (sL e b.1 f))] _ E ⟨(Es E),E⟩ ?_))))
 refine bnw h fun g i h=>JO.call E E E E (zX a.1 b.1 c d e f _ i) E [0,1] E E fun _ _=>aB aA 1 [] [] [(10,.v (.bool (!g)))] _ E ev1 (aD E ?_)
 refine aH E h (fun h=>?_) (fun h=>?_)
 ·
  refine aC aA 1 [(4,.v (.bool false))] ev1 E E ?_
  cases h
  exact JS.ret aA () V E E [] E
 refine JS.skip (JS.seq (aC aA 5 [(15,.v (.bool (!(decide (a.2=b.2)))))] ev1 E E ?_))
 refine aH E h (fun h=>?_) (fun h=>?_)
 ·
  refine aC aA 1 [(4,.v (.bool false))] ev1 E E ?_
  cases h
  exact JS.ret aA () V E E [] E
 refine JS.skip (aC aA 1 [(4,.v (.bool true))] ev1 E E ?_)
 cases h
 exact JS.ret aA () V E E [] E

def tC (a:List Int) (b:List Int):Option Bool:= (aF (pN a b) fun c=>(bif (!c) then some false else some true))

theorem aKb (a:List Int) (b:List Int) (c:Option Addr) (d:Nat) (e:Option Addr) (f:Nat) (r:Bool) (h:tC a b=some r):
 FC Tryz.prog 237 [.agg #[sL c a d],.agg #[sL e b f]] [fI c d a,fI e f b] (fun _:Unit=>True) (fun _=>.bool r) (fun _=>[]):= by
 refine FC.of (T:=TTx) Tryz.call237 Tryz.func237 E E fun j=>?_
 unfold tC at h
 refine aM aA 3 [] [3,4] [(2,.bp 3 0),(3,.bp 4 0)] (.new 3 174 [sL c a d] (.new 4 174 [sL e b f] .nil)) ⟨(Es E),(Bs E E)⟩ E E (JS.seq (JS.seq (JS.region (aB aA 4 [] [] [(6,.v (sL c a d)),(8,.v (sL e b f))] _ E ⟨(Es E),E⟩ ?_))))
 refine bnw h fun g i h=>JO.call E E E E (zX a b c d e f _ i) E [0,1] E E fun _ _=>aB aA 1 [] [] [(10,.v (.bool (!g)))] _ E ev1 (aD E ?_)
 refine aH E h (fun h=>?_) (fun h=>?_)
 ·
  refine aC aA 1 [(4,.v (.bool false))] ev1 E E ?_
  cases h
  exact JS.ret aA () V E E [] E
 refine JS.skip (aC aA 1 [(4,.v (.bool true))] ev1 E E ?_)
 cases h
 exact JS.ret aA () V E E [] E

def lA (b:List (List Int)) (c:List (List Int)) (d:Unit→Option Bool) (e:Int→Option Bool):Int→Option Bool:=fun a=>(bif decide (a<(b.length:Int)) then (aP (0≤a∧a<(b.length:Int)) <|(aP (0≤a∧a<(c.length:Int)) <|(aF (tC (at' b a) (at' c a)) fun f=>(bif (!f) then some false else e (W (a+1)))))) else d ())

def uA (a:List (List Int)) (b:List (List Int)):Option Bool:= (bif (!(decide ((a.length:Int)=(b.length:Int)))) then some false else (aS (fun (_:Unit)=> some true) fun c=>(aW (lA a b c) bG 0)))

theorem aH9 (b:List (List Int)) (c:List (List Int)) (d:Option Addr) (e:Nat) (f:Option Addr) (g:Nat) (r:Bool) (h:uA b c=some r):
 FC Tryz.prog 147 [sL d b e,sL f c g] [⟨(.sl iT),⟨d,b.length,e⟩,b⟩,⟨(.sl iT),⟨f,c.length,g⟩,c⟩] (fun _:Unit=>True) (fun _=>.bool r) (fun _=>[]):= by
 refine FC.of (T:=TTx) Tryz.call147 Tryz.func147 E E fun A=>?_
 unfold uA at h
 refine aC aA 1 [] ev5 E E (JS.seq (aC aA 5 [(10,.v (.bool (!(decide ((b.length:Int)=(c.length:Int))))))] ev1 E E ?_))
 refine aH E h (fun h=>?_) (fun h=>?_)
 ·
  refine aC aA 1 [(4,.v (.bool false))] ev1 E E ?_
  cases h
  exact JS.ret aA () V E E [] E
 refine JS.skip (JS.seq (aC aA 1 [(5,.v (I 0))] ev1 E E ?_))
 obtain ⟨i,q,h⟩:=aN h
 refine aX (ι:=Unit) ⟨fun _=>i ()=some r,fun _=>[],fun _=>.nil,fun _=>[],fun _=>[],fun _=>0⟩ ?_ ?_
 ·
  refine JS.loop (ι:=Nat×Int) ⟨fun z=>aW (lA b c i) z.1 z.2=some r,fun z=>[(0,.v (sL d b e)),(1,.v (sL f c g)),(5,.v (I z.2))],fun z=>.nil,fun z=>[⟨(.sl iT),⟨d,b.length,e⟩,b⟩,⟨(.sl iT),⟨f,c.length,g⟩,c⟩],fun z=>[],fun z=>z.1⟩ (bG,0) h (Es E) V [0,1] E [] E ?_
  rintro ⟨j,a⟩ h
  obtain ⟨j,rfl,h⟩:=bC h
  rw [lA] at h
  refine JS.seq (aC aA 4 [(14,.v (.bool (decide (a<(b.length:Int)))))] ev1 E E ?_)
  refine aH E h (fun h=>?_) (fun h=>?_)
  ·
   refine JS.skip (JS.seq (JS.block (JS.seq ?_)))
   obtain ⟨k,h⟩:=aK h
   obtain ⟨l,h⟩:=aK h
   refine bnw h fun s t h=>aAy 0 E (Int.toNat a) (at' b a) E fun m n B C u=>aAy 3 E (Int.toNat a) (at' c a) E fun o p D F w=>cV 4 E fun x=>cV 5 E fun y=>dF E (by kernel_rfl) (cX aA 3 [] [(19,.ep ⟨d,b.length,e⟩ (Int.toNat a*1))] E ⟨x.ix k,ev2⟩ (xV aA E E E E E E 2 E E (Int.toNat a) 0 (Sl.v ⟨m,(at' b a).length,n⟩) ⟨u (lR k),E⟩ E E E (cX aA 3 [] [(23,.ep ⟨f,c.length,g⟩ (Int.toNat a*1))] E ⟨y.ix l,ev2⟩ (xV aA E E E E E E 0 E E (Int.toNat a) 0 (Sl.v ⟨o,(at' c a).length,p⟩) ⟨w (lR l),E⟩ E E E (JQ.call E E E E (aKb (at' b a) (at' c a) m n o p _ t) E [3,1] E E (cX aA 1 [] [(26,.v (.bool (!s)))] E ev2 (iN E ?_)))))))
   refine aH E h (fun h=>?_) (fun h=>?_)
   ·
    refine aC aA 1 [(4,.v (.bool false))] ev1 E E ?_
    cases h
    exact JS.ret aA () V E E [] E
   refine JS.skip (aV (bY aA 3 [(W (a+1))] [] [(5,.v (I (W (a+1))))] _ ev3 E E (bR (j,(W (a+1))) h (Nat.lt_succ_self _) (Es E) V [4,5] E [] E)))
  refine JS.exit E (aQ () h V V [] E [] E)
 rintro _ h
 subst q
 refine aC aA 1 [(4,.v (.bool true))] ev1 E E ?_
 cases h
 exact JS.ret aA () V E E [] E

def vE (a:List (List Int)) (b:List (List Int)):Option Bool:= (aF (uA a b) fun c=>(bif (!c) then some false else some true))

theorem aMh (a:List (List Int)) (b:List (List Int)) (c:Option Addr) (d:Nat) (e:Option Addr) (f:Nat) (r:Bool) (h:vE a b=some r):
 FC Tryz.prog 67 [.agg #[sL c a d],.agg #[sL e b f]] [⟨(.sl iT),⟨c,a.length,d⟩,a⟩,⟨(.sl iT),⟨e,b.length,f⟩,b⟩] (fun _:Unit=>True) (fun _=>.bool r) (fun _=>[]):= by
 refine FC.of (T:=TTx) Tryz.call67 Tryz.func67 E E fun j=>?_
 unfold vE at h
 refine aM aA 3 [] [3,4] [(2,.bp 3 0),(3,.bp 4 0)] (.new 3 41 [sL c a d] (.new 4 41 [sL e b f] .nil)) ⟨(Es E),(Bs E E)⟩ E E (JS.seq (JS.seq (JS.region (aB aA 4 [] [] [(6,.v (sL c a d)),(8,.v (sL e b f))] _ E ⟨(Es E),E⟩ ?_))))
 refine bnw h fun g i h=>JO.call E E E E (aH9 a b c d e f _ i) E [0,1] E E fun _ _=>aB aA 1 [] [] [(10,.v (.bool (!g)))] _ E ev1 (aD E ?_)
 refine aH E h (fun h=>?_) (fun h=>?_)
 ·
  refine aC aA 1 [(4,.v (.bool false))] ev1 E E ?_
  cases h
  exact JS.ret aA () V E E [] E
 refine JS.skip (aC aA 1 [(4,.v (.bool true))] ev1 E E ?_)
 cases h
 exact JS.ret aA () V E E [] E

def mT (b:List (List Int×Int)) (c:List (List Int×Int)) (d:Unit→Option Bool) (e:Int→Option Bool):Int→Option Bool:=fun a=>(bif decide (a<(b.length:Int)) then (aP (0≤a∧a<(b.length:Int)) <|(aP (0≤a∧a<(c.length:Int)) <|(aF (mU ((at' b a).1,(at' b a).2) ((at' c a).1,(at' c a).2)) fun f=>(bif (!f) then some false else e (W (a+1)))))) else d ())

def wC (a:List (List Int×Int)) (b:List (List Int×Int)):Option Bool:= (bif (!(decide ((a.length:Int)=(b.length:Int)))) then some false else (aS (fun (_:Unit)=> some true) fun c=>(aW (mT a b c) bG 0)))

theorem aKc (b:List (List Int×Int)) (c:List (List Int×Int)) (d:Option Addr) (e:Nat) (f:Option Addr) (g:Nat) (r:Bool) (h:wC b c=some r):
 FC Tryz.prog 148 [sL d b e,sL f c g] [⟨(.pair (.sl iT) iT),⟨d,b.length,e⟩,b⟩,⟨(.pair (.sl iT) iT),⟨f,c.length,g⟩,c⟩] (fun _:Unit=>True) (fun _=>.bool r) (fun _=>[]):= by
 refine FC.of (T:=TTx) Tryz.call148 Tryz.func148 E E fun A=>?_
 unfold wC at h
 refine aC aA 1 [] ev5 E E (JS.seq (aC aA 5 [(10,.v (.bool (!(decide ((b.length:Int)=(c.length:Int))))))] ev1 E E ?_))
 refine aH E h (fun h=>?_) (fun h=>?_)
 ·
  refine aC aA 1 [(4,.v (.bool false))] ev1 E E ?_
  cases h
  exact JS.ret aA () V E E [] E
 refine JS.skip (JS.seq (aC aA 1 [(5,.v (I 0))] ev1 E E ?_))
 obtain ⟨i,q,h⟩:=aN h
 refine aX (ι:=Unit) ⟨fun _=>i ()=some r,fun _=>[],fun _=>.nil,fun _=>[],fun _=>[],fun _=>0⟩ ?_ ?_
 ·
  refine JS.loop (ι:=Nat×Int) ⟨fun z=>aW (mT b c i) z.1 z.2=some r,fun z=>[(0,.v (sL d b e)),(1,.v (sL f c g)),(5,.v (I z.2))],fun z=>.nil,fun z=>[⟨(.pair (.sl iT) iT),⟨d,b.length,e⟩,b⟩,⟨(.pair (.sl iT) iT),⟨f,c.length,g⟩,c⟩],fun z=>[],fun z=>z.1⟩ (bG,0) h (Es E) V [0,1] E [] E ?_
  rintro ⟨j,a⟩ h
  obtain ⟨j,rfl,h⟩:=bC h
  rw [mT] at h
  refine JS.seq (aC aA 4 [(14,.v (.bool (decide (a<(b.length:Int)))))] ev1 E E ?_)
  refine aH E h (fun h=>?_) (fun h=>?_)
  ·
   refine JS.skip (JS.seq (JS.block (JS.seq ?_)))
   obtain ⟨k,h⟩:=aK h
   obtain ⟨l,h⟩:=aK h
   refine bnw h fun s t h=>aAy 0 E (Int.toNat a) (at' b a) E fun m n B C u=>aAy 3 E (Int.toNat a) (at' c a) E fun o p D F w=>cV 4 E fun x=>cV 5 E fun y=>dF E (by kernel_rfl) (cX aA 3 [] [(19,.ep ⟨d,b.length,e⟩ (Int.toNat a*2))] E ⟨x.ix k,ev2⟩ (xV aA E E E E E E 2 E E (Int.toNat a) 0 ((Sl.v ⟨m,((at' b a).1).length,n⟩),(at' b a).2) ⟨u (lR k),E⟩ E E E (cX aA 3 [] [(23,.ep ⟨f,c.length,g⟩ (Int.toNat a*2))] E ⟨y.ix l,ev2⟩ (xV aA E E E E E E 0 E E (Int.toNat a) 0 ((Sl.v ⟨o,((at' c a).1).length,p⟩),(at' c a).2) ⟨w (lR l),E⟩ E E E (JQ.call E E E E (vT ((at' b a).1,(at' b a).2) ((at' c a).1,(at' c a).2) m n o p _ t) E [3,1] E E (cX aA 1 [] [(26,.v (.bool (!s)))] E ev2 (iN E ?_)))))))
   refine aH E h (fun h=>?_) (fun h=>?_)
   ·
    refine aC aA 1 [(4,.v (.bool false))] ev1 E E ?_
    cases h
    exact JS.ret aA () V E E [] E
   refine JS.skip (aV (bY aA 3 [(W (a+1))] [] [(5,.v (I (W (a+1))))] _ ev3 E E (bR (j,(W (a+1))) h (Nat.lt_succ_self _) (Es E) V [4,5] E [] E)))
  refine JS.exit E (aQ () h V V [] E [] E)
 rintro _ h
 subst q
 refine aC aA 1 [(4,.v (.bool true))] ev1 E E ?_
 cases h
 exact JS.ret aA () V E E [] E

def vD (a:List (List Int×Int)) (b:List (List Int×Int)):Option Bool:= (aF (wC a b) fun c=>(bif (!c) then some false else some true))

theorem aMg (a:List (List Int×Int)) (b:List (List Int×Int)) (c:Option Addr) (d:Nat) (e:Option Addr) (f:Nat) (r:Bool) (h:vD a b=some r):
 FC Tryz.prog 68 [.agg #[sL c a d],.agg #[sL e b f]] [⟨(.pair (.sl iT) iT),⟨c,a.length,d⟩,a⟩,⟨(.pair (.sl iT) iT),⟨e,b.length,f⟩,b⟩] (fun _:Unit=>True) (fun _=>.bool r) (fun _=>[]):= by
 refine FC.of (T:=TTx) Tryz.call68 Tryz.func68 E E fun j=>?_
 unfold vD at h
 refine aM aA 3 [] [3,4] [(2,.bp 3 0),(3,.bp 4 0)] (.new 3 44 [sL c a d] (.new 4 44 [sL e b f] .nil)) ⟨(Es E),(Bs E E)⟩ E E (JS.seq (JS.seq (JS.region (aB aA 4 [] [] [(6,.v (sL c a d)),(8,.v (sL e b f))] _ E ⟨(Es E),E⟩ ?_))))
 refine bnw h fun g i h=>JO.call E E E E (aKc a b c d e f _ i) E [0,1] E E fun _ _=>aB aA 1 [] [] [(10,.v (.bool (!g)))] _ E ev1 (aD E ?_)
 refine aH E h (fun h=>?_) (fun h=>?_)
 ·
  refine aC aA 1 [(4,.v (.bool false))] ev1 E E ?_
  cases h
  exact JS.ret aA () V E E [] E
 refine JS.skip (aC aA 1 [(4,.v (.bool true))] ev1 E E ?_)
 cases h
 exact JS.ret aA () V E E [] E

def oL (a:EdQ) (b:EdQ):Option Bool:= (bif (!(a.1 == b.1)) then some false else (bif (!(decide (a.2.1=b.2.1))) then some false else (aF (mU a.2.2.1 b.2.2.1) fun c=>(bif (!c) then some false else (bif (!(decide (a.2.2.2.1=b.2.2.2.1))) then some false else (bif (!(decide (a.2.2.2.2.1=b.2.2.2.2.1))) then some false else (bif (!(decide (a.2.2.2.2.2.1=b.2.2.2.2.2.1))) then some false else (bif (!(decide (a.2.2.2.2.2.2.1=b.2.2.2.2.2.2.1))) then some false else (bif (!(decide (a.2.2.2.2.2.2.2.1=b.2.2.2.2.2.2.2.1))) then some false else (bif (!(decide (a.2.2.2.2.2.2.2.2.1=b.2.2.2.2.2.2.2.2.1))) then some false else (bif (!(decide (a.2.2.2.2.2.2.2.2.2.1=b.2.2.2.2.2.2.2.2.2.1))) then some false else (aF (vE a.2.2.2.2.2.2.2.2.2.2.1 b.2.2.2.2.2.2.2.2.2.2.1) fun d=>(bif (!d) then some false else (aF (vD a.2.2.2.2.2.2.2.2.2.2.2.1 b.2.2.2.2.2.2.2.2.2.2.2.1) fun e=>(bif (!e) then some false else (bif (!(decide (a.2.2.2.2.2.2.2.2.2.2.2.2.1=b.2.2.2.2.2.2.2.2.2.2.2.2.1))) then some false else (aF (mU a.2.2.2.2.2.2.2.2.2.2.2.2.2.1 b.2.2.2.2.2.2.2.2.2.2.2.2.2.1) fun f=>(bif (!f) then some false else (aF (pN a.2.2.2.2.2.2.2.2.2.2.2.2.2.2.1 b.2.2.2.2.2.2.2.2.2.2.2.2.2.2.1) fun g=>(bif (!g) then some false else (bif (!(decide (a.2.2.2.2.2.2.2.2.2.2.2.2.2.2.2.1=b.2.2.2.2.2.2.2.2.2.2.2.2.2.2.2.1))) then some false else (aF (mU a.2.2.2.2.2.2.2.2.2.2.2.2.2.2.2.2 b.2.2.2.2.2.2.2.2.2.2.2.2.2.2.2.2) fun h=>(bif (!h) then some false else some true)))))))))))))))))))))))

theorem aA8 (a:EdQ) (b:EdQ) (c:P6) (d:P6) (r:Bool) (h:oL a b=some r):
 FC Tryz.prog 17 [.agg (cD a c).toArray,.agg (cD b d).toArray] (bP a c (bP b d [])) (fun _:Unit=>True) (fun _=>.bool r) (fun _=>[]):= by
 refine FC.of (T:=TTx) Tryz.call17 Tryz.func17 E E fun s=>?_
 unfold oL at h
 refine aM aA 3 [] [13,14] [(2,.bp 13 0),(3,.bp 14 0)] (.new 13 46 (aG a c) (.new 14 46 (aG b d) .nil)) ⟨(Es E),(Bs E E)⟩ E E (JS.seq (aC aA 5 [(9,.v (.bool (!(a.1 == b.1))))] ev1 E E ?_))
 refine aH E h (fun h=>?_) (fun h=>?_)
 ·
  refine aC aA 1 [(4,.v (.bool false))] ev1 E E ?_
  cases h
  exact JS.ret aA () V E E [] E
 refine JS.skip (JS.seq (aC aA 5 [(14,.v (.bool (!(decide (a.2.1=b.2.1)))))] ev1 E E ?_))
 refine aH E h (fun h=>?_) (fun h=>?_)
 ·
  refine aC aA 1 [(4,.v (.bool false))] ev1 E E ?_
  cases h
  exact JS.ret aA () V E E [] E
 refine JS.skip (JS.seq (JS.seq (JS.region (aB aA 4 [] [] [(16,.v (.agg #[sL c.1 a.2.2.1.1 c.2.1,I a.2.2.1.2])),(18,.v (.agg #[sL d.1 b.2.2.1.1 d.2.1,I b.2.2.1.2]))] _ E ⟨(Es E),E⟩ ?_))))
 refine bnw h fun e f h=>JO.call E E E E (vT a.2.2.1 b.2.2.1 c.1 c.2.1 d.1 d.2.1 _ f) E [0,6] E E fun _ _=>aB aA 1 [] [] [(20,.v (.bool (!e)))] _ E ev1 (aD E ?_)
 refine aH E h (fun h=>?_) (fun h=>?_)
 ·
  refine aC aA 1 [(4,.v (.bool false))] ev1 E E ?_
  cases h
  exact JS.ret aA () V E E [] E
 refine JS.skip (JS.seq (aC aA 5 [(25,.v (.bool (!(decide (a.2.2.2.1=b.2.2.2.1)))))] ev1 E E ?_))
 refine aH E h (fun h=>?_) (fun h=>?_)
 ·
  refine aC aA 1 [(4,.v (.bool false))] ev1 E E ?_
  cases h
  exact JS.ret aA () V E E [] E
 refine JS.skip (JS.seq (aC aA 5 [(30,.v (.bool (!(decide ((Q4 a).1=(Q4 b).1)))))] ev1 E E ?_))
 refine aH E h (fun h=>?_) (fun h=>?_)
 ·
  refine aC aA 1 [(4,.v (.bool false))] ev1 E E ?_
  cases h
  exact JS.ret aA () V E E [] E
 refine JS.skip (JS.seq (aC aA 5 [(35,.v (.bool (!(decide ((Q4 a).2.1=(Q4 b).2.1)))))] ev1 E E ?_))
 refine aH E h (fun h=>?_) (fun h=>?_)
 ·
  refine aC aA 1 [(4,.v (.bool false))] ev1 E E ?_
  cases h
  exact JS.ret aA () V E E [] E
 refine JS.skip (JS.seq (aC aA 5 [(40,.v (.bool (!(decide ((Q4 a).2.2.1=(Q4 b).2.2.1)))))] ev1 E E ?_))
 refine aH E h (fun h=>?_) (fun h=>?_)
 ·
  refine aC aA 1 [(4,.v (.bool false))] ev1 E E ?_
  cases h
  exact JS.ret aA () V E E [] E
 refine JS.skip (JS.seq (aC aA 5 [(45,.v (.bool (!(decide ((Q4 a).2.2.2.1=(Q4 b).2.2.2.1)))))] ev1 E E ?_))
 refine aH E h (fun h=>?_) (fun h=>?_)
 ·
  refine aC aA 1 [(4,.v (.bool false))] ev1 E E ?_
  cases h
  exact JS.ret aA () V E E [] E
 refine JS.skip (JS.seq (aC aA 5 [(50,.v (.bool (!(decide ((Q8 a).1=(Q8 b).1)))))] ev1 E E ?_))
 refine aH E h (fun h=>?_) (fun h=>?_)
 ·
  refine aC aA 1 [(4,.v (.bool false))] ev1 E E ?_
  cases h
  exact JS.ret aA () V E E [] E
 refine JS.skip (JS.seq (aC aA 5 [(55,.v (.bool (!(decide ((Q8 a).2.1=(Q8 b).2.1)))))] ev1 E E ?_))
 refine aH E h (fun h=>?_) (fun h=>?_)
 ·
  refine aC aA 1 [(4,.v (.bool false))] ev1 E E ?_
  cases h
  exact JS.ret aA () V E E [] E
 refine JS.skip (JS.seq (JS.seq (JS.region (aB aA 4 [] [] [(57,.v (.agg #[sL c.2.2.1 (Q8 a).2.2.1 c.2.2.2.1])),(59,.v (.agg #[sL d.2.2.1 (Q8 b).2.2.1 d.2.2.2.1]))] _ E ⟨(Es E),E⟩ ?_))))
 refine bnw h fun g i h=>JO.call E E E E (aMh (Q8 a).2.2.1 (Q8 b).2.2.1 c.2.2.1 c.2.2.2.1 d.2.2.1 d.2.2.2.1 _ i) E [1,7] E E fun _ _=>aB aA 1 [] [] [(61,.v (.bool (!g)))] _ E ev1 (aD E ?_)
 refine aH E h (fun h=>?_) (fun h=>?_)
 ·
  refine aC aA 1 [(4,.v (.bool false))] ev1 E E ?_
  cases h
  exact JS.ret aA () V E E [] E
 refine JS.skip (JS.seq (JS.seq (JS.region (aB aA 4 [] [] [(63,.v (.agg #[sL (Q4 c).1 (Q8 a).2.2.2.1 (Q4 c).2.1])),(65,.v (.agg #[sL (Q4 d).1 (Q8 b).2.2.2.1 (Q4 d).2.1]))] _ E ⟨(Es E),E⟩ ?_))))
 refine bnw h fun j k h=>JO.call E E E E (aMg (Q8 a).2.2.2.1 (Q8 b).2.2.2.1 (Q4 c).1 (Q4 c).2.1 (Q4 d).1 (Q4 d).2.1 _ k) E [2,8] E E fun _ _=>aB aA 1 [] [] [(67,.v (.bool (!j)))] _ E ev1 (aD E ?_)
 refine aH E h (fun h=>?_) (fun h=>?_)
 ·
  refine aC aA 1 [(4,.v (.bool false))] ev1 E E ?_
  cases h
  exact JS.ret aA () V E E [] E
 refine JS.skip (JS.seq (aC aA 5 [(72,.v (.bool (!(decide ((Q12 a).1=(Q12 b).1)))))] ev1 E E ?_))
 refine aH E h (fun h=>?_) (fun h=>?_)
 ·
  refine aC aA 1 [(4,.v (.bool false))] ev1 E E ?_
  cases h
  exact JS.ret aA () V E E [] E
 refine JS.skip (JS.seq (JS.seq (JS.region (aB aA 4 [] [] [(74,.v (.agg #[sL (Q4 c).2.2.1 (Q12 a).2.1.1 (Q4 c).2.2.2.1,I (Q12 a).2.1.2])),(76,.v (.agg #[sL (Q4 d).2.2.1 (Q12 b).2.1.1 (Q4 d).2.2.2.1,I (Q12 b).2.1.2]))] _ E ⟨(Es E),E⟩ ?_))))
 refine bnw h fun l m h=>JO.call E E E E (vT (Q12 a).2.1 (Q12 b).2.1 (Q4 c).2.2.1 (Q4 c).2.2.2.1 (Q4 d).2.2.1 (Q4 d).2.2.2.1 _ m) E [3,9] E E fun _ _=>aB aA 1 [] [] [(78,.v (.bool (!l)))] _ E ev1 (aD E ?_)
 refine aH E h (fun h=>?_) (fun h=>?_)
 ·
  refine aC aA 1 [(4,.v (.bool false))] ev1 E E ?_
  cases h
  exact JS.ret aA () V E E [] E
 refine JS.skip (JS.seq (JS.seq (JS.region (aB aA 4 [] [] [(80,.v (sL (Q8 c).1 (Q12 a).2.2.1 (Q8 c).2.1)),(82,.v (sL (Q8 d).1 (Q12 b).2.2.1 (Q8 d).2.1))] _ E ⟨(Es E),E⟩ ?_))))
 refine bnw h fun n o h=>JO.call E E E E (zX (Q12 a).2.2.1 (Q12 b).2.2.1 (Q8 c).1 (Q8 c).2.1 (Q8 d).1 (Q8 d).2.1 _ o) E [4,10] E E fun _ _=>aB aA 1 [] [] [(84,.v (.bool (!n)))] _ E ev1 (aD E ?_)
 refine aH E h (fun h=>?_) (fun h=>?_)
 ·
  refine aC aA 1 [(4,.v (.bool false))] ev1 E E ?_
  cases h
  exact JS.ret aA () V E E [] E
 refine JS.skip (JS.seq (aC aA 5 [(89,.v (.bool (!(decide ((Q12 a).2.2.2.1=(Q12 b).2.2.2.1)))))] ev1 E E ?_))
 refine aH E h (fun h=>?_) (fun h=>?_)
 ·
  refine aC aA 1 [(4,.v (.bool false))] ev1 E E ?_
  cases h
  exact JS.ret aA () V E E [] E
 refine JS.skip (JS.seq (JS.seq (JS.region (aB aA 4 [] [] [(91,.v (.agg #[sL (Q8 c).2.2.1 (Q16 a).1 (Q8 c).2.2.2,I (Q16 a).2])),(93,.v (.agg #[sL (Q8 d).2.2.1 (Q16 b).1 (Q8 d).2.2.2,I (Q16 b).2]))] _ E ⟨(Es E),E⟩ ?_))))
 refine bnw h fun p q h=>JO.call E E E E (vT (Q16 a) (Q16 b) (Q8 c).2.2.1 (Q8 c).2.2.2 (Q8 d).2.2.1 (Q8 d).2.2.2 _ q) E [5,11] E E fun _ _=>aB aA 1 [] [] [(95,.v (.bool (!p)))] _ E ev1 (aD E ?_)
 refine aH E h (fun h=>?_) (fun h=>?_)
 ·
  refine aC aA 1 [(4,.v (.bool false))] ev1 E E ?_
  cases h
  exact JS.ret aA () V E E [] E
 refine JS.skip (aC aA 1 [(4,.v (.bool true))] ev1 E E ?_)
 cases h
 exact JS.ret aA () V E E [] E

def jL (b:List (List UInt8)) (c:List (List UInt8)) (d:Unit→Option Bool) (e:Int→Option Bool):Int→Option Bool:=fun a=>(bif decide (a<(b.length:Int)) then (aP (0≤a∧a<(b.length:Int)) <|(aP (0≤a∧a<(c.length:Int)) <|(bif (!(decide ((at' b a)=(at' c a)))) then some false else e (W (a+1))))) else d ())

def oJ (a:List (List UInt8)) (b:List (List UInt8)):Option Bool:= (bif (!(decide ((a.length:Int)=(b.length:Int)))) then some false else (aS (fun (_:Unit)=> some true) fun c=>(aW (jL a b c) bG 0)))

theorem aGe (a:List (List UInt8)) (b:List (List UInt8)) (d:Option Addr) (e:Nat) (f:Option Addr) (g:Nat) (r:Bool) (h:oJ a b=some r):
 FC Tryz.prog 69 [sL d a e,sL f b g] [⟨.str,⟨d,a.length,e⟩,a⟩,⟨.str,⟨f,b.length,g⟩,b⟩] (fun _:Unit=>True) (fun _=>.bool r) (fun _=>[]):= by
 refine FC.of (T:=TTx) Tryz.call69 Tryz.func69 E E fun p=>?_
 unfold oJ at h
 refine aC aA 1 [] ev5 E E (JS.seq (aC aA 5 [(10,.v (.bool (!(decide ((a.length:Int)=(b.length:Int))))))] ev1 E E ?_))
 refine aH E h (fun h=>?_) (fun h=>?_)
 ·
  refine aC aA 1 [(4,.v (.bool false))] ev1 E E ?_
  cases h
  exact JS.ret aA () V E E [] E
 refine JS.skip (JS.seq (aC aA 1 [(5,.v (I 0))] ev1 E E ?_))
 obtain ⟨i,m,h⟩:=aN h
 refine aX (ι:=Unit) ⟨fun _=>i ()=some r,fun _=>[],fun _=>.nil,fun _=>[],fun _=>[],fun _=>0⟩ ?_ ?_
 ·
  refine JS.loop (ι:=Nat×Int) ⟨fun z=>aW (jL a b i) z.1 z.2=some r,fun z=>[(0,.v (sL d a e)),(1,.v (sL f b g)),(5,.v (I z.2))],fun z=>.nil,fun z=>[⟨.str,⟨d,a.length,e⟩,a⟩,⟨.str,⟨f,b.length,g⟩,b⟩],fun z=>[],fun z=>z.1⟩ (bG,0) h (Es E) V [0,1] E [] E ?_
  rintro ⟨j,c⟩ h
  obtain ⟨j,rfl,h⟩:=bC h
  rw [jL] at h
  refine JS.seq (aC aA 4 [(14,.v (.bool (decide (c<(a.length:Int)))))] ev1 E E ?_)
  refine aH E h (fun h=>?_) (fun h=>?_)
  ·
   refine JS.skip (JS.seq (JS.block (JS.seq ?_)))
   obtain ⟨k,h⟩:=aK h
   obtain ⟨l,h⟩:=aK h
   refine cV 0 E fun n=>cV 1 E fun o=>dF E (by kernel_rfl) (cX aA 3 [] [(19,.ep ⟨d,a.length,e⟩ (Int.toNat c*1))] E ⟨n.ix k,ev2⟩ (JQ.load aA E E E E E E E 0 E E (Int.toNat c) 0 (at' a c) ⟨bD k,E⟩ E E (cX aA 3 [] [(23,.ep ⟨f,b.length,g⟩ (Int.toNat c*1))] E ⟨o.ix l,ev2⟩ (JQ.load aA E E E E E E E 1 E E (Int.toNat c) 0 (at' b c) ⟨bD l,E⟩ E E (cX aA 1 [] [(25,.v (.bool (!(decide ((at' a c)=(at' b c))))))] E ev2 (iN E ?_))))))
   refine aH E h (fun h=>?_) (fun h=>?_)
   ·
    refine aC aA 1 [(4,.v (.bool false))] ev1 E E ?_
    cases h
    exact JS.ret aA () V E E [] E
   refine JS.skip (aV (bY aA 3 [(W (c+1))] [] [(5,.v (I (W (c+1))))] _ ev3 E E (bR (j,(W (c+1))) h (Nat.lt_succ_self _) (Es E) V [0,1] E [] E)))
  refine JS.exit E (aQ () h V V [] E [] E)
 rintro _ h
 subst m
 refine aC aA 1 [(4,.v (.bool true))] ev1 E E ?_
 cases h
 exact JS.ret aA () V E E [] E

def vF (a:Int×List (List UInt8)) (b:Int×List (List UInt8)):Option Bool:= (bif (!(decide (a.1=b.1))) then some false else (aF (oJ a.2 b.2) fun c=>(bif (!c) then some false else some true)))

theorem aMi (a:Int×List (List UInt8)) (b:Int×List (List UInt8)) (c:Option Addr) (d:Nat) (e:Option Addr) (f:Nat) (r:Bool) (h:vF a b=some r):
 FC Tryz.prog 18 [.agg #[I a.1,sL c a.2 d],.agg #[I b.1,sL e b.2 f]] [⟨.str,⟨c,a.2.length,d⟩,a.2⟩,⟨.str,⟨e,b.2.length,f⟩,b.2⟩] (fun _:Unit=>True) (fun _=>.bool r) (fun _=>[]):= by
 refine FC.of (T:=TTx) Tryz.call18 Tryz.func18 E E fun j=>?_
 unfold vF at h
 refine aM aA 3 [] [3,4] [(2,.bp 3 0),(3,.bp 4 0)] (.new 3 50 [I a.1,sL c a.2 d] (.new 4 50 [I b.1,sL e b.2 f] .nil)) ⟨(Es E),(Bs E E)⟩ E E (JS.seq (aC aA 5 [(9,.v (.bool (!(decide (a.1=b.1)))))] ev1 E E ?_))
 refine aH E h (fun h=>?_) (fun h=>?_)
 ·
  refine aC aA 1 [(4,.v (.bool false))] ev1 E E ?_
  cases h
  exact JS.ret aA () V E E [] E
 refine JS.skip (JS.seq (JS.seq (JS.region (aB aA 4 [] [] [(11,.v (sL c a.2 d)),(13,.v (sL e b.2 f))] _ E ⟨(Es E),E⟩ ?_))))
 refine bnw h fun g i h=>JO.call E E E E (aGe a.2 b.2 c d e f _ i) E [0,1] E E fun _ _=>aB aA 1 [] [] [(15,.v (.bool (!g)))] _ E ev1 (aD E ?_)
 refine aH E h (fun h=>?_) (fun h=>?_)
 ·
  refine aC aA 1 [(4,.v (.bool false))] ev1 E E ?_
  cases h
  exact JS.ret aA () V E E [] E
 refine JS.skip (aC aA 1 [(4,.v (.bool true))] ev1 E E ?_)
 cases h
 exact JS.ret aA () V E E [] E

def kY (c:List Int) (e:(List Int×Int)→Option (Int×List Int)) (f:(List Int×Int×Int)→Option (Int×List Int)):(List Int×Int×Int)→Option (Int×List Int):=fun (d,b,a)=>(bif decide (a<(c.length:Int)) then (aP (0≤a∧a<(c.length:Int)) <|f ((List.set d (Int.toNat a) b),(W (b+1)),(W (a+1)))) else e (d,b))

def iE (a:List Int) (b:Int):Option (Int×List Int):= (aS (fun ((c,d):List Int×Int)=> some (d,c)) fun e=>(aW (kY a e) bG (a,b,0)))

theorem sA (a:List Int) (f:Int) (c:Option Addr) (d:Nat) (r:Int×List Int) (h:iE a f=some r):
 FX Tryz.prog 22 [sL c a d,I f] [] [fI c d a] (fun _:Unit=>True) (fun _=>I r.1) (fun _=>[⟨iT,⟨c,a.length,d⟩,r.2⟩]):= by
 refine FX.of (T:=TTx) Tryz.call22 Tryz.func22 E E fun o L0=>?_
 unfold iE at h
 refine aC aA 1 [] ev5 E E (JS.seq (aC aA 1 [(5,.v (I 0))] ev1 E E ?_))
 obtain ⟨j,m,h⟩:=aN h
 refine aX (ι:=List Int×Int) ⟨fun z=>j z=some r,fun z=>[(1,.v (I z.2))],fun z=>.nil,fun z=>[],fun z=>[⟨iT,⟨c,a.length,d⟩,z.1⟩],fun z=>0⟩ ?_ ?_
 ·
  refine JS.loop (ι:=Nat×List Int×Int×Int) ⟨fun z=>aW (kY a j) z.1 z.2=some r,fun z=>[(0,.v (sL c a d)),(1,.v (I z.2.2.1)),(5,.v (I z.2.2.2))],fun z=>.nil,fun z=>[],fun z=>[⟨iT,⟨c,a.length,d⟩,z.2.1⟩],fun z=>z.1⟩ (bG,a,f,0) h (Es E) V [] E [0] E ?_
  rintro ⟨k,g,e,b⟩ h
  obtain ⟨k,rfl,h⟩:=bC h
  rw [kY] at h
  refine cV 0 E fun i=>JS.seq (aC aA 4 [(9,.v (.bool (decide (b<(a.length:Int)))))] ev1 E E ?_)
  refine aH E h (fun h=>?_) (fun h=>?_)
  ·
   refine JS.skip (JS.seq (JS.block (JS.seq (JS.region ?_))))
   obtain ⟨l,h⟩:=aK h
   refine aB aA 4 [] [] [(14,.v (I e)),(15,.ep ⟨c,a.length,d⟩ (Int.toNat b*1))] _ E ⟨(i.cast i.len.symm).ix l,(Es E),E⟩ (gY aA E E E E E E E E E [0] (fs:=[]) E (Int.toNat b) 0 (at' g b) e ⟨aAq i.len.symm l,E⟩ ev8 (aD E (bY aA 3 [(W (e+1))] [] [(1,.v (I (W (e+1))))] _ ev3 E E (aV (bY aA 3 [(W (b+1))] [] [(5,.v (I (W (b+1))))] _ ev3 E E (bR (k,(List.set g (Int.toNat b) e),(W (e+1)),(W (b+1))) h (Nat.lt_succ_self _) (Es E) V [] E [0] E))))))
  refine JS.exit E (aQ (g,e) h ev2 V [] E [0] E)
 rintro ⟨p,n⟩ h
 subst m
 refine cV 0 E fun q=>aC aA 2 [(4,.v (I n))] ev1 E E ?_
 cases h
 exact iM aA () V E E [0] E

def kF (a:List Int×Int) (b:Int):Option (Int×List Int):= (aF (iE a.1 b) fun (c,d)=> some (c,d))

theorem wI (a:List Int×Int) (d:Int) (b:Option Addr) (c:Nat) (r:Int×List Int) (h:kF a d=some r):
 FX Tryz.prog 70 [.agg #[sL b a.1 c,I a.2],I d] [] [fI b c a.1] (fun _:Unit=>True) (fun _=>I r.1) (fun _=>[⟨iT,⟨b,a.1.length,c⟩,r.2⟩]):= by
 refine FX.of (T:=TTx) Tryz.call70 Tryz.func70 E E fun g L0=>?_
 unfold kF at h
 refine aM aA 2 [] [2] [(2,.bp 2 0)] (.new 2 38 [sL b a.1 c,I a.2] .nil) ⟨ev2,(Bs E E)⟩ E E (JS.seq (JS.region (aB aA 3 [] [] [(6,.v (sL b a.1 c)),(7,.v (I d))] _ E ⟨(Es E),E⟩ ?_)))
 obtain ⟨⟨e,i⟩,f,h⟩:=aE h
 refine eS E E E E (sA a.1 d b c _ f) E [0] E [] E E fun _ _=>bJ 0 E fun j=>aB aA 1 [] [] [(1,.v (I e))] _ E ev1 (aD E (aC aA 2 [(4,.v (I e))] ev1 E E ?_))
 cases h
 exact iM aA () V E E [0] E

def fY (c:List (List Int)) (e:(List (List Int)×Int)→Option (Int×List (List Int))) (f:(List (List Int)×Int×Int)→Option (Int×List (List Int))):(List (List Int)×Int×Int)→Option (Int×List (List Int)):=fun (b,d,a)=>(bif decide (a<(c.length:Int)) then (aP (0≤a∧a<(c.length:Int)) <|(aF (iE (at' b a) d) fun (g,h)=> f ((List.set b (Int.toNat a) h),g,(W (a+1))))) else e (b,d))

def rB (a:List (List Int)) (b:Int):Option (Int×List (List Int)):= (aS (fun ((c,d):List (List Int)×Int)=> some (d,c)) fun e=>(aW (fY a e) bG (a,b,0)))

theorem aEw (a:List (List Int)) (g:Int) (c:Option Addr) (d:Nat) (r:Int×List (List Int)) (h:rB a g=some r):
 FX Tryz.prog 149 [sL c a d,I g] [] [⟨(.sl iT),⟨c,a.length,d⟩,a⟩] (fun _:Unit=>True) (fun _=>I r.1) (fun _=>[⟨(.sl iT),⟨c,a.length,d⟩,r.2⟩]):= by
 refine FX.of (T:=TTx) Tryz.call149 Tryz.func149 E E fun x L0=>?_
 unfold rB at h
 refine aC aA 1 [] ev5 E E (JS.seq (aC aA 1 [(5,.v (I 0))] ev1 E E ?_))
 obtain ⟨m,q,h⟩:=aN h
 refine aX (ι:=List (List Int)×Int) ⟨fun z=>m z=some r,fun z=>[(1,.v (I z.2))],fun z=>.nil,fun z=>[],fun z=>[⟨(.sl iT),⟨c,a.length,d⟩,z.1⟩],fun z=>0⟩ ?_ ?_
 ·
  refine JS.loop (ι:=Nat×List (List Int)×Int×Int) ⟨fun z=>aW (fY a m) z.1 z.2=some r,fun z=>[(0,.v (sL c a d)),(1,.v (I z.2.2.1)),(5,.v (I z.2.2.2))],fun z=>.nil,fun z=>[],fun z=>[⟨(.sl iT),⟨c,a.length,d⟩,z.2.1⟩],fun z=>z.1⟩ (bG,a,g,0) h (Es E) V [] E [0] E ?_
  rintro ⟨n,e,i,b⟩ h
  obtain ⟨n,rfl,h⟩:=bC h
  rw [fY] at h
  refine cV 0 E fun f=>JS.seq (aC aA 4 [(9,.v (.bool (decide (b<(a.length:Int)))))] ev1 E E ?_)
  refine aH E h (fun h=>?_) (fun h=>?_)
  ·
   refine JS.skip (JS.seq (JS.block (JS.region ?_)))
   obtain ⟨j,h⟩:=aK h
   refine aB aA 4 [] [] [(15,.ep ⟨c,a.length,d⟩ (Int.toNat b*1))] _ E ⟨(f.cast f.len.symm).ix j,(f.cast f.len.symm).fa j,ev2,E⟩ (wF [0] E (Int.toNat b) (at' e b) E fun k l s t=>?_)
   obtain rfl:([sL k (at' e b) l]:List Value)=s:=Option.some.inj t
   refine cN aA E E E E E E 0 E E (Int.toNat b) 0 (Sum.inr [sL k (at' e b) l]) ⟨nW (aAq f.len.symm j),E⟩ E E E (aB aA 1 [] [] [(17,.v (I i))] _ E ev1 ?_)
   obtain ⟨⟨o,p⟩,u,h⟩:=aE h
   refine eS E E E E (sA (at' e b) i k l _ u) E [1] E [] E E fun _ _=>bJ 0 E fun y=>aB aA 1 [] [] [(1,.v (I o))] _ E ev1 (xW [1,0] E p ev8 (aD E (aV (bY aA 3 [(W (b+1))] [] [(5,.v (I (W (b+1))))] _ ev3 E E (bR (n,(List.set e (Int.toNat b) p),o,(W (b+1))) h (Nat.lt_succ_self _) (Es E) V [] E [0] E)))))
  refine JS.exit E (aQ (e,i) h ev2 V [] E [0] E)
 rintro ⟨A,w⟩ h
 subst q
 refine cV 0 E fun B=>aC aA 2 [(4,.v (I w))] ev1 E E ?_
 cases h
 exact iM aA () V E E [0] E

def rA (a:List (List Int)) (b:Int):Option (Int×List (List Int)):= (aF (rB a b) fun (c,d)=> some (c,d))

theorem aH5 (a:List (List Int)) (d:Int) (b:Option Addr) (c:Nat) (r:Int×List (List Int)) (h:rA a d=some r):
 FX Tryz.prog 71 [.agg #[sL b a c],I d] [] [⟨(.sl iT),⟨b,a.length,c⟩,a⟩] (fun _:Unit=>True) (fun _=>I r.1) (fun _=>[⟨(.sl iT),⟨b,a.length,c⟩,r.2⟩]):= by
 refine FX.of (T:=TTx) Tryz.call71 Tryz.func71 E E fun g L0=>?_
 unfold rA at h
 refine aM aA 2 [] [2] [(2,.bp 2 0)] (.new 2 41 [sL b a c] .nil) ⟨ev2,(Bs E E)⟩ E E (JS.seq (JS.region (aB aA 3 [] [] [(6,.v (sL b a c)),(7,.v (I d))] _ E ⟨(Es E),E⟩ ?_)))
 obtain ⟨⟨e,i⟩,f,h⟩:=aE h
 refine eS E E E E (aEw a d b c _ f) E [0] E [] E E fun _ _=>bJ 0 E fun j=>aB aA 1 [] [] [(1,.v (I e))] _ E ev1 (aD E (aC aA 2 [(4,.v (I e))] ev1 E E ?_))
 cases h
 exact iM aA () V E E [0] E

def gL (c:List (List Int×Int)) (g:((List (List Int×Int))×Int)→Option (Int×List (List Int×Int))) (h:((List (List Int×Int))×Int×Int)→Option (Int×List (List Int×Int))):((List (List Int×Int))×Int×Int)→Option (Int×List (List Int×Int)):=fun (b,d,a)=>(bif decide (a<(c.length:Int)) then (aP (0≤a∧a<(c.length:Int)) <|(aF (iE ((at' b a).1) d) fun (e,f)=>(aP (0≤a∧a<(c.length:Int)) <|h ((List.set (List.set b (Int.toNat a) (f,(at' b a).2)) (Int.toNat a) ((at' (List.set b (Int.toNat a) (f,(at' b a).2)) a).1,e)),(W (e+1)),(W (a+1)))))) else g (b,d))

def sE (a:List (List Int×Int)) (b:Int):Option (Int×List (List Int×Int)):= (aS (fun ((c,d):(List (List Int×Int))×Int)=> some (d,c)) fun e=>(aW (gL a e) bG (a,b,0)))

theorem aGc (c:List (List Int×Int)) (j:Int) (e:Option Addr) (f:Nat) (r:Int×List (List Int×Int)) (h:sE c j=some r):
 FX Tryz.prog 150 [sL e c f,I j] [] [⟨(.pair (.sl iT) iT),⟨e,c.length,f⟩,c⟩] (fun _:Unit=>True) (fun _=>I r.1) (fun _=>[⟨(.pair (.sl iT) iT),⟨e,c.length,f⟩,r.2⟩]):= by
 refine FX.of (T:=TTx) Tryz.call150 Tryz.func150 E E fun y L0=>?_
 unfold sE at h
 refine aC aA 1 [] ev5 E E (JS.seq (aC aA 1 [(5,.v (I 0))] ev1 E E ?_))
 obtain ⟨p,s,h⟩:=aN h
 refine aX (ι:=(List (List Int×Int))×Int) ⟨fun z=>p z=some r,fun z=>[(1,.v (I z.2))],fun z=>.nil,fun z=>[],fun z=>[⟨(.pair (.sl iT) iT),⟨e,c.length,f⟩,z.1⟩],fun z=>0⟩ ?_ ?_
 ·
  refine JS.loop (ι:=Nat×(List (List Int×Int))×Int×Int) ⟨fun z=>aW (gL c p) z.1 z.2=some r,fun z=>[(0,.v (sL e c f)),(1,.v (I z.2.2.1)),(5,.v (I z.2.2.2))],fun z=>.nil,fun z=>[],fun z=>[⟨(.pair (.sl iT) iT),⟨e,c.length,f⟩,z.2.1⟩],fun z=>z.1⟩ (bG,c,j,0) h (Es E) V [] E [0] E ?_
  rintro ⟨q,b,k,a⟩ h
  obtain ⟨q,rfl,h⟩:=bC h
  rw [gL] at h
  refine cV 0 E fun d=>JS.seq (aC aA 4 [(9,.v (.bool (decide (a<(c.length:Int)))))] ev1 E E ?_)
  refine aH E h (fun h=>?_) (fun h=>?_)
  ·
   refine JS.skip (JS.seq (JS.block (JS.seq (JS.region ?_))))
   obtain ⟨l,h⟩:=aK h
   refine aB aA 4 [] [] [(15,.ep ⟨e,c.length,f⟩ (Int.toNat a*2))] _ E ⟨(d.cast d.len.symm).ix l,(d.cast d.len.symm).fa l,ev2,E⟩ (wF [0] E (Int.toNat a) (at' b a) E fun m n t u=>?_)
   obtain rfl:([sL m ((at' b a).1) n,I (at' b a).2]:List Value)=t:=Option.some.inj u
   refine cN aA E E E E E E 0 E E (Int.toNat a) 0 (Sum.inr [sL m ((at' b a).1) n,I (at' b a).2]) ⟨nW (aAq d.len.symm l),E⟩ E E E (aB aA 1 [] [] [(17,.v (I k))] _ E ev1 ?_)
   obtain ⟨⟨g,i⟩,w,h⟩:=aE h
   refine eS E E E E (sA ((at' b a).1) k m n _ w) E [1] E [] E E fun _ _=>bJ 0 E fun A=>aB aA 1 [] [] [(1,.v (I g))] _ E ev1 (xW [1,0] E (i,(at' b a).2) ev8 (aD E (JS.seq (JS.region ?_))))
   obtain ⟨o,h⟩:=aK h
   refine aB aA 5 [] [] [(21,.v (I g)),(23,.ep ⟨e,c.length,f⟩ (Int.toNat a*2+1))] _ E ⟨(d.cast d.len.symm).ix o,(d.cast d.len.symm).fa o,(Es E),E⟩ (gY aA E E E E E E E E E [0] (fs:=[]) E (Int.toNat a) 1 (at' (List.set b (Int.toNat a) (i,(at' b a).2)) a) ((at' (List.set b (Int.toNat a) (i,(at' b a).2)) a).1,g) ⟨aAq (List.length_set.trans d.len.symm) o,E⟩ ⟨⟨E,E,E⟩,E⟩ (aD E (bY aA 3 [(W (g+1))] [] [(1,.v (I (W (g+1))))] _ ev3 E E (aV (bY aA 3 [(W (a+1))] [] [(5,.v (I (W (a+1))))] _ ev3 E E (bR (q,(List.set (List.set b (Int.toNat a) (i,(at' b a).2)) (Int.toNat a) ((at' (List.set b (Int.toNat a) (i,(at' b a).2)) a).1,g)),(W (g+1)),(W (a+1))) h (Nat.lt_succ_self _) (Es E) V [] E [0] E))))))
  refine JS.exit E (aQ (b,k) h ev2 V [] E [0] E)
 rintro ⟨B,x⟩ h
 subst s
 refine cV 0 E fun C=>aC aA 2 [(4,.v (I x))] ev1 E E ?_
 cases h
 exact iM aA () V E E [0] E

def qY (a:List (List Int×Int)) (b:Int):Option (Int×List (List Int×Int)):= (aF (sE a b) fun (c,d)=> some (c,d))

theorem aH3 (a:List (List Int×Int)) (d:Int) (b:Option Addr) (c:Nat) (r:Int×List (List Int×Int)) (h:qY a d=some r):
 FX Tryz.prog 72 [.agg #[sL b a c],I d] [] [⟨(.pair (.sl iT) iT),⟨b,a.length,c⟩,a⟩] (fun _:Unit=>True) (fun _=>I r.1) (fun _=>[⟨(.pair (.sl iT) iT),⟨b,a.length,c⟩,r.2⟩]):= by
 refine FX.of (T:=TTx) Tryz.call72 Tryz.func72 E E fun g L0=>?_
 unfold qY at h
 refine aM aA 2 [] [2] [(2,.bp 2 0)] (.new 2 44 [sL b a c] .nil) ⟨ev2,(Bs E E)⟩ E E (JS.seq (JS.region (aB aA 3 [] [] [(6,.v (sL b a c)),(7,.v (I d))] _ E ⟨(Es E),E⟩ ?_)))
 obtain ⟨⟨e,i⟩,f,h⟩:=aE h
 refine eS E E E E (aGc a d b c _ f) E [0] E [] E E fun _ _=>bJ 0 E fun j=>aB aA 1 [] [] [(1,.v (I e))] _ E ev1 (aD E (aC aA 2 [(4,.v (I e))] ev1 E E ?_))
 cases h
 exact iM aA () V E E [0] E

def mS (a:EdQ) (b:Int):Option (Int×List Int×List (List Int)×(List (List Int×Int))×List Int×List Int×List Int):= (aF (kF a.2.2.1 b) fun (c,d)=>(aF (rA a.2.2.2.2.2.2.2.2.2.2.1 c) fun (e,f)=>(aF (qY a.2.2.2.2.2.2.2.2.2.2.2.1 e) fun (g,h)=>(aF (kF a.2.2.2.2.2.2.2.2.2.2.2.2.2.1 g) fun (i,j)=>(aF (iE a.2.2.2.2.2.2.2.2.2.2.2.2.2.2.1 i) fun (k,l)=>(aF (kF a.2.2.2.2.2.2.2.2.2.2.2.2.2.2.2.2 k) fun (m,n)=> some (m,d,f,h,j,l,n)))))))

theorem aEb (b:EdQ) (c:Int) (a:P6) (r:Int×List Int×List (List Int)×(List (List Int×Int))×List Int×List Int×List Int) (h:mS b c=some r):
 FX Tryz.prog 20 [.agg (cD b a).toArray,I c] [] (bP b a []) (fun _:Unit=>True) (fun _=>I r.1) (fun _=>[⟨iT,⟨a.1,b.2.2.1.1.length,a.2.1⟩,r.2.1⟩,⟨(.sl iT),⟨a.2.2.1,(Q8 b).2.2.1.length,a.2.2.2.1⟩,r.2.2.1⟩,⟨(.pair (.sl iT) iT),⟨(Q4 a).1,(Q8 b).2.2.2.1.length,(Q4 a).2.1⟩,r.2.2.2.1⟩,⟨iT,⟨(Q4 a).2.2.1,(Q12 b).2.1.1.length,(Q4 a).2.2.2.1⟩,(Q4 r).1⟩,⟨iT,⟨(Q8 a).1,(Q12 b).2.2.1.length,(Q8 a).2.1⟩,(Q4 r).2.1⟩,⟨iT,⟨(Q8 a).2.2.1,(Q16 b).1.length,(Q8 a).2.2.2⟩,(Q4 r).2.2⟩]):= by
 refine FX.of (T:=TTx) Tryz.call20 Tryz.func20 E E fun q L0=>?_
 unfold mS at h
 refine aM aA 2 [] [7] [(2,.bp 7 0)] (.new 7 46 (aG b a) .nil) ⟨ev2,(Bs E E)⟩ E E (JS.seq (JS.region (aB aA 3 [] [] [(6,.v (.agg #[sL a.1 b.2.2.1.1 a.2.1,I b.2.2.1.2])),(7,.v (I c))] _ E ⟨(Es E),E⟩ ?_)))
 obtain ⟨⟨d,s⟩,k,h⟩:=aE h
 refine eS E E E E (wI b.2.2.1 c a.1 a.2.1 _ k) E [0] E [] E E fun _ _=>bJ 0 E fun t=>aB aA 1 [] [] [(1,.v (I d))] _ E ev1 (aD E (JS.seq (JS.region (aB aA 3 [] [] [(10,.v (.agg #[sL a.2.2.1 (Q8 b).2.2.1 a.2.2.2.1])),(11,.v (I d))] _ E ⟨(Es E),E⟩ ?_))))
 obtain ⟨⟨e,u⟩,l,h⟩:=aE h
 refine eS E E E E (aH5 (Q8 b).2.2.1 d a.2.2.1 a.2.2.2.1 _ l) E [1] E [] E E fun _ _=>bJ 0 E fun w=>aB aA 1 [] [] [(1,.v (I e))] _ E ev1 (aD E (JS.seq (JS.region (aB aA 3 [] [] [(14,.v (.agg #[sL (Q4 a).1 (Q8 b).2.2.2.1 (Q4 a).2.1])),(15,.v (I e))] _ E ⟨(Es E),E⟩ ?_))))
 obtain ⟨⟨f,x⟩,m,h⟩:=aE h
 refine eS E E E E (aH3 (Q8 b).2.2.2.1 e (Q4 a).1 (Q4 a).2.1 _ m) E [2] E [] E E fun _ _=>bJ 0 E fun y=>aB aA 1 [] [] [(1,.v (I f))] _ E ev1 (aD E (JS.seq (JS.region (aB aA 3 [] [] [(18,.v (.agg #[sL (Q4 a).2.2.1 (Q12 b).2.1.1 (Q4 a).2.2.2.1,I (Q12 b).2.1.2])),(19,.v (I f))] _ E ⟨(Es E),E⟩ ?_))))
 obtain ⟨⟨g,z⟩,n,h⟩:=aE h
 refine eS E E E E (wI (Q12 b).2.1 f (Q4 a).2.2.1 (Q4 a).2.2.2.1 _ n) E [3] E [] E E fun _ _=>bJ 0 E fun A=>aB aA 1 [] [] [(1,.v (I g))] _ E ev1 (aD E (JS.seq (JS.region (aB aA 3 [] [] [(22,.v (sL (Q8 a).1 (Q12 b).2.2.1 (Q8 a).2.1)),(23,.v (I g))] _ E ⟨(Es E),E⟩ ?_))))
 obtain ⟨⟨i,B⟩,o,h⟩:=aE h
 refine eS E E E E (sA (Q12 b).2.2.1 g (Q8 a).1 (Q8 a).2.1 _ o) E [4] E [] E E fun _ _=>bJ 0 E fun C=>aB aA 1 [] [] [(1,.v (I i))] _ E ev1 (aD E (JS.seq (JS.region (aB aA 3 [] [] [(26,.v (.agg #[sL (Q8 a).2.2.1 (Q16 b).1 (Q8 a).2.2.2,I (Q16 b).2])),(27,.v (I i))] _ E ⟨(Es E),E⟩ ?_))))
 obtain ⟨⟨j,D⟩,p,h⟩:=aE h
 refine eS E E E E (wI (Q16 b) i (Q8 a).2.2.1 (Q8 a).2.2.2 _ p) E [5] E [] E E fun _ _=>bJ 0 E fun F=>aB aA 1 [] [] [(1,.v (I j))] _ E ev1 (aD E (aC aA 2 [(4,.v (I j))] ev1 E E ?_))
 cases h
 exact iM aA () V E E [5,4,3,2,1,0] E

def kW (c:(List UInt8)→Option (List UInt8)) (d:(Int×List UInt8)→Option (List UInt8)):(Int×List UInt8)→Option (List UInt8):=fun (a,b)=>(bif decide (0<a) then (aP (((([(u8 ((W (48+(Int.tmod a 10)))))]:List UInt8).length+b.length:Nat):Int)≤9223372036854775807) <|d ((W (Int.tdiv a 10)),(([(u8 ((W (48+(Int.tmod a 10)))))]:List UInt8) ++ b))) else c b)

def qZ (a:Int):Option (List UInt8):= (bif decide (a≤0) then some ([109,48]:List UInt8) else (aS (fun (b:List UInt8)=>(aP (((([109]:List UInt8).length+b.length:Nat):Int)≤9223372036854775807) <|some (([109]:List UInt8) ++ b))) fun c=>(aW (kW c) bG (a,[]))))

theorem aH4 (b:Int) (r:List UInt8) (h:qZ b=some r) :
 FC Tryz.prog 151 [I b] [] (fun _:Unit=>True) (fun _=>.string (bs r)) (fun _=>[]):= by
 refine FC.of (T:=TTx) Tryz.call151 Tryz.func151 E E fun m=>?_
 unfold qZ at h
 refine aC aA 1 [] ev5 E E (JS.seq (aC aA 2 [(5,.v (.bool (decide (b≤0))))] ev1 E E ?_))
 refine aH E h (fun h=>?_) (fun h=>?_)
 ·
  refine aC aA 1 [(2,.v (.string (bs ([109,48]:List UInt8))))] ev1 E E ?_
  cases h
  exact JS.ret aA () V E E [] E
 refine JS.skip (aC aA 1 [(3,.v (.string (bs [])))] ev1 E E (JS.seq ?_))
 obtain ⟨d,f,h⟩:=aN h
 refine aX (ι:=List UInt8) ⟨fun z=>d z=some r,fun z=>[(3,.v (.string (bs z)))],fun z=>.nil,fun z=>[],fun z=>[],fun z=>0⟩ ?_ ?_
 ·
  refine JS.loop (ι:=Nat×Int×List UInt8) ⟨fun z=>aW (kW d) z.1 z.2=some r,fun z=>[(0,.v (I z.2.1)),(3,.v (.string (bs z.2.2)))],fun z=>.nil,fun z=>[],fun z=>[],fun z=>z.1⟩ (bG,b,[]) h (Es E) V [] E [] E ?_
  rintro ⟨e,a,c⟩ h
  obtain ⟨e,rfl,h⟩:=bC h
  rw [kW] at h
  refine JS.seq (aC aA 2 [(7,.v (.bool (decide (0<a))))] ev1 E E ?_)
  refine aH E h (fun h=>?_) (fun h=>?_)
  ·
   refine JS.skip (JS.block (JS.seq (JS.region ?_)))
   have g:(10:Int)≠0:=by decide
   refine aB aA 4 [(W (48+(Int.tmod a 10))),((u8 ((W (48+(Int.tmod a 10))))).toNat:Int)] [] [(11,.v (.int .u8 ((u8 ((W (48+(Int.tmod a 10))))).toNat:Int)))] _ E ⟨g,ev5,⟨V,fJ _⟩,ev2,E⟩ ?_
   refine iY E (JK.buildSlice aA E E E E E E E E E E E [] E .byte [(u8 ((W (48+(Int.tmod a 10)))))] ev9 E E fun n=>iX ?_)
   refine aTx aA E E E E E E E E 0 E E ?_
   obtain ⟨i,h⟩:=aK h
   refine aB aA 3 [] [] [(3,.v (.string (bs (([(u8 ((W (48+(Int.tmod a 10)))))]:List UInt8) ++ c))))] _ E ⟨i,ev2,E⟩ (aD E (JS.region ?_))
   have j:(10:Int)≠0:=by decide
   refine aB aA 3 [(W (Int.tdiv a 10))] [] [(0,.v (I (W (Int.tdiv a 10))))] _ E ⟨⟨j,E⟩,ev2,E⟩ (aD E (aV (bR (e,(W (Int.tdiv a 10)),(([(u8 ((W (48+(Int.tmod a 10)))))]:List UInt8) ++ c)) h (Nat.lt_succ_self _) (Es E) V [] E [] E)))
  refine JS.exit E (aQ c h ev2 V [] E [] E)
 rintro k h
 subst f
 refine JS.seq (JS.region ?_)
 obtain ⟨l,h⟩:=aK h
 refine aB aA 3 [] [] [(2,.v (.string (bs (([109]:List UInt8) ++ k))))] _ E ⟨l,ev2,E⟩ (aD E ?_)
 cases h
 exact JS.ret aA () V E E [] E

def gS (c:List (List UInt8)) (e:(List (List UInt8)×Int)→Option (Int×List (List UInt8))) (f:(List (List UInt8)×Int×Int)→Option (Int×List (List UInt8))):(List (List UInt8)×Int×Int)→Option (Int×List (List UInt8)):=fun (d,b,a)=>(bif decide (a<(c.length:Int)) then (aF (qZ b) fun g=>(aP (0≤a∧a<(c.length:Int)) <|f ((List.set d (Int.toNat a) g),(W (b+1)),(W (a+1))))) else e (d,b))

def kX (a:List (List UInt8)) (b:Int):Option (Int×List (List UInt8)):= (aS (fun ((c,d):List (List UInt8)×Int)=> some (d,c)) fun e=>(aW (gS a e) bG (a,b,0)))

theorem aDh (a:List (List UInt8)) (f:Int) (c:Option Addr) (d:Nat) (r:Int×List (List UInt8)) (h:kX a f=some r):
 FX Tryz.prog 73 [sL c a d,I f] [] [⟨.str,⟨c,a.length,d⟩,a⟩] (fun _:Unit=>True) (fun _=>I r.1) (fun _=>[⟨.str,⟨c,a.length,d⟩,r.2⟩]):= by
 refine FX.of (T:=TTx) Tryz.call73 Tryz.func73 E E fun q L0=>?_
 unfold kX at h
 refine aC aA 1 [] ev5 E E (JS.seq (aC aA 1 [(5,.v (I 0))] ev1 E E ?_))
 obtain ⟨j,n,h⟩:=aN h
 refine aX (ι:=List (List UInt8)×Int) ⟨fun z=>j z=some r,fun z=>[(1,.v (I z.2))],fun z=>.nil,fun z=>[],fun z=>[⟨.str,⟨c,a.length,d⟩,z.1⟩],fun z=>0⟩ ?_ ?_
 ·
  refine JS.loop (ι:=Nat×List (List UInt8)×Int×Int) ⟨fun z=>aW (gS a j) z.1 z.2=some r,fun z=>[(0,.v (sL c a d)),(1,.v (I z.2.2.1)),(5,.v (I z.2.2.2))],fun z=>.nil,fun z=>[],fun z=>[⟨.str,⟨c,a.length,d⟩,z.2.1⟩],fun z=>z.1⟩ (bG,a,f,0) h (Es E) V [] E [0] E ?_
  rintro ⟨k,g,e,b⟩ h
  obtain ⟨k,rfl,h⟩:=bC h
  rw [gS] at h
  refine cV 0 E fun i=>JS.seq (aC aA 4 [(9,.v (.bool (decide (b<(a.length:Int)))))] ev1 E E ?_)
  refine aH E h (fun h=>?_) (fun h=>?_)
  ·
   refine JS.skip (JS.seq (JS.block (JS.seq (JS.region (aB aA 3 [] [] [(12,.v (sL c a d)),(13,.v (I b)),(14,.v (I e))] _ E ⟨(Es E),E⟩ ?_)))))
   refine bnw h fun l o h=>JO.call E E E E (aH4 e _ o) E [] E E fun _ _=>?_
   obtain ⟨m,h⟩:=aK h
   refine aB aA 1 [] [] [(16,.ep ⟨c,a.length,d⟩ (Int.toNat b*1))] _ E ⟨(i.cast i.len.symm).ix m,ev2,E⟩ (gY aA E E E E E E E E E [0] (fs:=[]) E (Int.toNat b) 0 (at' g b) l ⟨aAq i.len.symm m,E⟩ ev8 (aD E (bY aA 3 [(W (e+1))] [] [(1,.v (I (W (e+1))))] _ ev3 E E (aV (bY aA 3 [(W (b+1))] [] [(5,.v (I (W (b+1))))] _ ev3 E E (bR (k,(List.set g (Int.toNat b) l),(W (e+1)),(W (b+1))) h (Nat.lt_succ_self _) (Es E) V [] E [0] E))))))
  refine JS.exit E (aQ (g,e) h ev2 V [] E [0] E)
 rintro ⟨s,p⟩ h
 subst n
 refine cV 0 E fun t=>aC aA 2 [(4,.v (I p))] ev1 E E ?_
 cases h
 exact iM aA () V E E [0] E

def rC (a:Int×List (List UInt8)) (b:Int):Option (Int×List (List UInt8)):= (aF (kX a.2 b) fun (c,d)=> some (c,d))

theorem aH6 (a:Int×List (List UInt8)) (d:Int) (b:Option Addr) (c:Nat) (r:Int×List (List UInt8)) (h:rC a d=some r):
 FX Tryz.prog 21 [.agg #[I a.1,sL b a.2 c],I d] [] [⟨.str,⟨b,a.2.length,c⟩,a.2⟩] (fun _:Unit=>True) (fun _=>I r.1) (fun _=>[⟨.str,⟨b,a.2.length,c⟩,r.2⟩]):= by
 refine FX.of (T:=TTx) Tryz.call21 Tryz.func21 E E fun g L0=>?_
 unfold rC at h
 refine aM aA 2 [] [2] [(2,.bp 2 0)] (.new 2 50 [I a.1,sL b a.2 c] .nil) ⟨ev2,(Bs E E)⟩ E E (JS.seq (JS.region (aB aA 3 [] [] [(6,.v (sL b a.2 c)),(7,.v (I d))] _ E ⟨(Es E),E⟩ ?_)))
 obtain ⟨⟨e,i⟩,f,h⟩:=aE h
 refine eS E E E E (aDh a.2 d b c _ f) E [0] E [] E E fun _ _=>bJ 0 E fun j=>aB aA 1 [] [] [(1,.v (I e))] _ E ev1 (aD E (aC aA 2 [(4,.v (I e))] ev1 E E ?_))
 cases h
 exact iM aA () V E E [0] E

def kZ (b:List Int) (d:Int→Option Int) (e:(Int×Int)→Option Int):(Int×Int)→Option Int:=fun (c,a)=>(bif decide (a<(b.length:Int)) then (aP (0≤a∧a<(b.length:Int)) <|(bif (!(decide ((at' b a)=c))) then some (-1) else e ((W (c+1)),(W (a+1))))) else d c)

def iG (a:List Int) (b:Int):Option Int:= (aS (fun (c:Int)=> some c) fun d=>(aW (kZ a d) bG (b,0)))

theorem sB (a:List Int) (f:Int) (c:Option Addr) (d:Nat) (r:Int) (h:iG a f=some r):
 FC Tryz.prog 77 [sL c a d,I f] [fI c d a] (fun _:Unit=>True) (fun _=>I r) (fun _=>[]):= by
 refine FC.of (T:=TTx) Tryz.call77 Tryz.func77 E E fun n=>?_
 unfold iG at h
 refine aC aA 1 [] ev5 E E (JS.seq (aC aA 1 [(5,.v (I 0))] ev1 E E ?_))
 obtain ⟨g,k,h⟩:=aN h
 refine aX (ι:=Int) ⟨fun z=>g z=some r,fun z=>[(1,.v (I z))],fun z=>.nil,fun z=>[],fun z=>[],fun z=>0⟩ ?_ ?_
 ·
  refine JS.loop (ι:=Nat×Int×Int) ⟨fun z=>aW (kZ a g) z.1 z.2=some r,fun z=>[(0,.v (sL c a d)),(1,.v (I z.2.1)),(5,.v (I z.2.2))],fun z=>.nil,fun z=>[fI c d a],fun z=>[],fun z=>z.1⟩ (bG,f,0) h (Es E) V [0] E [] E ?_
  rintro ⟨i,e,b⟩ h
  obtain ⟨i,rfl,h⟩:=bC h
  rw [kZ] at h
  refine JS.seq (aC aA 4 [(9,.v (.bool (decide (b<(a.length:Int)))))] ev1 E E ?_)
  refine aH E h (fun h=>?_) (fun h=>?_)
  ·
   refine JS.skip (JS.seq (JS.block (JS.seq (JS.seq (JS.region (bJ 0 E fun l=>?_))))))
   obtain ⟨j,h⟩:=aK h
   refine aB aA 3 [] [] [(14,.ep ⟨c,a.length,d⟩ (Int.toNat b*1))] _ E ⟨l.ix j,ev2,E⟩ (JO.load aA E E E E E E E 0 E E (Int.toNat b) 0 (at' a b) ⟨bD j,E⟩ E E (aB aA 2 [] [] [(17,.v (.bool (!(decide ((at' a b)=e)))))] _ E ev1 (aD E ?_)))
   refine aH E h (fun h=>?_) (fun h=>?_)
   ·
    refine aC aA 1 [(4,.v (I (-1)))] ev1 E E ?_
    cases h
    exact JS.ret aA () V E E [] E
   refine JS.skip (bY aA 3 [(W (e+1))] [] [(1,.v (I (W (e+1))))] _ ev3 E E (aV (bY aA 3 [(W (b+1))] [] [(5,.v (I (W (b+1))))] _ ev3 E E (bR (i,(W (e+1)),(W (b+1))) h (Nat.lt_succ_self _) (Es E) V [0] E [] E))))
  refine JS.exit E (aQ e h ev2 V [] E [] E)
 rintro m h
 subst k
 refine aC aA 2 [(4,.v (I m))] ev1 E E ?_
 cases h
 exact JS.ret aA () V E E [] E

def kG (b:List Int×Int) (c:Int):Option Int:= (aF (iG b.1 c) fun a=>(bif decide (a<0) then some (-1) else some a))

theorem wJ (a:List Int×Int) (d:Int) (b:Option Addr) (c:Nat) (r:Int) (h:kG a d=some r):
 FC Tryz.prog 74 [.agg #[sL b a.1 c,I a.2],I d] [fI b c a.1] (fun _:Unit=>True) (fun _=>I r) (fun _=>[]):= by
 refine FC.of (T:=TTx) Tryz.call74 Tryz.func74 E E fun g=>?_
 unfold kG at h
 refine aM aA 2 [] [2] [(2,.bp 2 0)] (.new 2 38 [sL b a.1 c,I a.2] .nil) ⟨ev2,(Bs E E)⟩ E E (JS.seq (JS.region (aB aA 3 [] [] [(6,.v (sL b a.1 c)),(7,.v (I d))] _ E ⟨(Es E),E⟩ ?_)))
 refine bnw h fun e f h=>JO.call E E E E (sB a.1 d b c _ f) E [0] E E fun _ _=>aB aA 1 [] [] [(1,.v (I e))] _ E ev1 (aD E (JS.seq (aC aA 2 [(10,.v (.bool (decide (e<0))))] ev1 E E ?_)))
 refine aH E h (fun h=>?_) (fun h=>?_)
 ·
  refine aC aA 1 [(4,.v (I (-1)))] ev1 E E ?_
  cases h
  exact JS.ret aA () V E E [] E
 refine JS.skip (aC aA 2 [(4,.v (I e))] ev1 E E ?_)
 cases h
 exact JS.ret aA () V E E [] E

def iF (b:List (List Int)) (e:Int→Option Int) (f:(Int×Int)→Option Int):(Int×Int)→Option Int:=fun (c,a)=>(bif decide (a<(b.length:Int)) then (aP (0≤a∧a<(b.length:Int)) <|(aF (iG (at' b a) c) fun d=>(bif decide (d<0) then some (-1) else f (d,(W (a+1)))))) else e c)

def rF (a:List (List Int)) (b:Int):Option Int:= (aS (fun (c:Int)=> some c) fun d=>(aW (iF a d) bG (b,0)))

theorem aEx (a:List (List Int)) (e:Int) (c:Option Addr) (d:Nat) (r:Int) (h:rF a e=some r):
 FC Tryz.prog 152 [sL c a d,I e] [⟨(.sl iT),⟨c,a.length,d⟩,a⟩] (fun _:Unit=>True) (fun _=>I r) (fun _=>[]):= by
 refine FC.of (T:=TTx) Tryz.call152 Tryz.func152 E E fun t=>?_
 unfold rF at h
 refine aC aA 1 [] ev5 E E (JS.seq (aC aA 1 [(5,.v (I 0))] ev1 E E ?_))
 obtain ⟨j,o,h⟩:=aN h
 refine aX (ι:=Int) ⟨fun z=>j z=some r,fun z=>[(1,.v (I z))],fun z=>.nil,fun z=>[],fun z=>[],fun z=>0⟩ ?_ ?_
 ·
  refine JS.loop (ι:=Nat×Int×Int) ⟨fun z=>aW (iF a j) z.1 z.2=some r,fun z=>[(0,.v (sL c a d)),(1,.v (I z.2.1)),(5,.v (I z.2.2))],fun z=>.nil,fun z=>[⟨(.sl iT),⟨c,a.length,d⟩,a⟩],fun z=>[],fun z=>z.1⟩ (bG,e,0) h (Es E) V [0] E [] E ?_
  rintro ⟨k,f,b⟩ h
  obtain ⟨k,rfl,h⟩:=bC h
  rw [iF] at h
  refine JS.seq (aC aA 4 [(9,.v (.bool (decide (b<(a.length:Int)))))] ev1 E E ?_)
  refine aH E h (fun h=>?_) (fun h=>?_)
  ·
   refine JS.skip (JS.seq (JS.block (JS.seq (JS.region (bJ 0 E fun l=>?_)))))
   obtain ⟨g,h⟩:=aK h
   refine aB aA 4 [] [] [(15,.ep ⟨c,a.length,d⟩ (Int.toNat b*1))] _ E ⟨l.ix g,l.fa g,ev2,E⟩ (fS 0 E (Int.toNat b) (at' a b) E fun m n u w p=>cN aA E E E E E E 0 E E (Int.toNat b) 0 (Sl.v ⟨m,(at' a b).length,n⟩) ⟨p (lR g),E⟩ E E E (aB aA 1 [] [] [(17,.v (I f))] _ E ev1 ?_))
   refine bnw h fun i q h=>JO.call E E E E (sB (at' a b) f m n _ q) E [1] E E fun _ _=>aB aA 1 [] [] [(1,.v (I i))] _ E ev1 (aD E (aC aA 2 [(20,.v (.bool (decide (i<0))))] ev1 E E ?_))
   refine aH E h (fun h=>?_) (fun h=>?_)
   ·
    refine aC aA 1 [(4,.v (I (-1)))] ev1 E E ?_
    cases h
    exact JS.ret aA () V E E [] E
   refine JS.skip (aV (bY aA 3 [(W (b+1))] [] [(5,.v (I (W (b+1))))] _ ev3 E E (bR (k,i,(W (b+1))) h (Nat.lt_succ_self _) (Es E) V [2] E [] E)))
  refine JS.exit E (aQ f h ev2 V [] E [] E)
 rintro s h
 subst o
 refine aC aA 2 [(4,.v (I s))] ev1 E E ?_
 cases h
 exact JS.ret aA () V E E [] E

def rE (b:List (List Int)) (c:Int):Option Int:= (aF (rF b c) fun a=>(bif decide (a<0) then some (-1) else some a))

theorem aH8 (a:List (List Int)) (d:Int) (b:Option Addr) (c:Nat) (r:Int) (h:rE a d=some r):
 FC Tryz.prog 75 [.agg #[sL b a c],I d] [⟨(.sl iT),⟨b,a.length,c⟩,a⟩] (fun _:Unit=>True) (fun _=>I r) (fun _=>[]):= by
 refine FC.of (T:=TTx) Tryz.call75 Tryz.func75 E E fun g=>?_
 unfold rE at h
 refine aM aA 2 [] [2] [(2,.bp 2 0)] (.new 2 41 [sL b a c] .nil) ⟨ev2,(Bs E E)⟩ E E (JS.seq (JS.region (aB aA 3 [] [] [(6,.v (sL b a c)),(7,.v (I d))] _ E ⟨(Es E),E⟩ ?_)))
 refine bnw h fun e f h=>JO.call E E E E (aEx a d b c _ f) E [0] E E fun _ _=>aB aA 1 [] [] [(1,.v (I e))] _ E ev1 (aD E (JS.seq (aC aA 2 [(10,.v (.bool (decide (e<0))))] ev1 E E ?_)))
 refine aH E h (fun h=>?_) (fun h=>?_)
 ·
  refine aC aA 1 [(4,.v (I (-1)))] ev1 E E ?_
  cases h
  exact JS.ret aA () V E E [] E
 refine JS.skip (aC aA 2 [(4,.v (I e))] ev1 E E ?_)
 cases h
 exact JS.ret aA () V E E [] E

def jK (b:List (List Int×Int)) (e:Int→Option Int) (f:(Int×Int)→Option Int):(Int×Int)→Option Int:=fun (d,a)=>(bif decide (a<(b.length:Int)) then (aP (0≤a∧a<(b.length:Int)) <|(aF (iG ((at' b a).1) d) fun c=>(bif decide (c<0) then some (-1) else (aP (0≤a∧a<(b.length:Int)) <|(bif (!(decide ((at' b a).2=c))) then some (-1) else f ((W (c+1)),(W (a+1)))))))) else e d)

def sF (a:List (List Int×Int)) (b:Int):Option Int:= (aS (fun (c:Int)=> some c) fun d=>(aW (jK a d) bG (b,0)))

theorem aGd (a:List (List Int×Int)) (g:Int) (c:Option Addr) (d:Nat) (r:Int) (h:sF a g=some r):
 FC Tryz.prog 153 [sL c a d,I g] [⟨(.pair (.sl iT) iT),⟨c,a.length,d⟩,a⟩] (fun _:Unit=>True) (fun _=>I r) (fun _=>[]):= by
 refine FC.of (T:=TTx) Tryz.call153 Tryz.func153 E E fun u=>?_
 unfold sF at h
 refine aC aA 1 [] ev5 E E (JS.seq (aC aA 1 [(5,.v (I 0))] ev1 E E ?_))
 obtain ⟨l,p,h⟩:=aN h
 refine aX (ι:=Int) ⟨fun z=>l z=some r,fun z=>[(1,.v (I z))],fun z=>.nil,fun z=>[],fun z=>[],fun z=>0⟩ ?_ ?_
 ·
  refine JS.loop (ι:=Nat×Int×Int) ⟨fun z=>aW (jK a l) z.1 z.2=some r,fun z=>[(0,.v (sL c a d)),(1,.v (I z.2.1)),(5,.v (I z.2.2))],fun z=>.nil,fun z=>[⟨(.pair (.sl iT) iT),⟨c,a.length,d⟩,a⟩],fun z=>[],fun z=>z.1⟩ (bG,g,0) h (Es E) V [0] E [] E ?_
  rintro ⟨m,i,b⟩ h
  obtain ⟨m,rfl,h⟩:=bC h
  rw [jK] at h
  refine JS.seq (aC aA 4 [(9,.v (.bool (decide (b<(a.length:Int)))))] ev1 E E ?_)
  refine aH E h (fun h=>?_) (fun h=>?_)
  ·
   refine JS.skip (JS.seq (JS.block (JS.seq (JS.region (bJ 0 E fun f=>?_)))))
   obtain ⟨j,h⟩:=aK h
   refine aB aA 4 [] [] [(15,.ep ⟨c,a.length,d⟩ (Int.toNat b*2))] _ E ⟨f.ix j,f.fa j,ev2,E⟩ (fS 0 E (Int.toNat b) (at' a b) E fun n o w x q=>cN aA E E E E E E 0 E E (Int.toNat b) 0 ((Sl.v ⟨n,((at' a b).1).length,o⟩),(at' a b).2) ⟨q (lR j),E⟩ E E E (aB aA 1 [] [] [(17,.v (I i))] _ E ev1 ?_))
   refine bnw h fun e s h=>JO.call E E E E (sB ((at' a b).1) i n o _ s) E [1] E E fun _ _=>aB aA 1 [] [] [(1,.v (I e))] _ E ev1 (aD E (JS.seq (aC aA 2 [(20,.v (.bool (decide (e<0))))] ev1 E E ?_)))
   refine aH E h (fun h=>?_) (fun h=>?_)
   ·
    refine aC aA 1 [(4,.v (I (-1)))] ev1 E E ?_
    cases h
    exact JS.ret aA () V E E [] E
   refine JS.skip (JS.seq (JS.seq (JS.region ?_)))
   obtain ⟨k,h⟩:=aK h
   refine aB aA 4 [] [] [(24,.ep ⟨c,a.length,d⟩ (Int.toNat b*2+1))] _ E ⟨f.ix k,f.fa k,ev2,E⟩ (JO.load aA E E E E E E E 2 E E (Int.toNat b) 1 (at' a b) ⟨bD k,E⟩ E E (aB aA 2 [] [] [(27,.v (.bool (!(decide ((at' a b).2=e)))))] _ E ev1 (aD E ?_)))
   refine aH E h (fun h=>?_) (fun h=>?_)
   ·
    refine aC aA 1 [(4,.v (I (-1)))] ev1 E E ?_
    cases h
    exact JS.ret aA () V E E [] E
   refine JS.skip (bY aA 3 [(W (e+1))] [] [(1,.v (I (W (e+1))))] _ ev3 E E (aV (bY aA 3 [(W (b+1))] [] [(5,.v (I (W (b+1))))] _ ev3 E E (bR (m,(W (e+1)),(W (b+1))) h (Nat.lt_succ_self _) (Es E) V [2] E [] E))))
  refine JS.exit E (aQ i h ev2 V [] E [] E)
 rintro t h
 subst p
 refine aC aA 2 [(4,.v (I t))] ev1 E E ?_
 cases h
 exact JS.ret aA () V E E [] E

def rD (b:List (List Int×Int)) (c:Int):Option Int:= (aF (sF b c) fun a=>(bif decide (a<0) then some (-1) else some a))

theorem aH7 (a:List (List Int×Int)) (d:Int) (b:Option Addr) (c:Nat) (r:Int) (h:rD a d=some r):
 FC Tryz.prog 76 [.agg #[sL b a c],I d] [⟨(.pair (.sl iT) iT),⟨b,a.length,c⟩,a⟩] (fun _:Unit=>True) (fun _=>I r) (fun _=>[]):= by
 refine FC.of (T:=TTx) Tryz.call76 Tryz.func76 E E fun g=>?_
 unfold rD at h
 refine aM aA 2 [] [2] [(2,.bp 2 0)] (.new 2 44 [sL b a c] .nil) ⟨ev2,(Bs E E)⟩ E E (JS.seq (JS.region (aB aA 3 [] [] [(6,.v (sL b a c)),(7,.v (I d))] _ E ⟨(Es E),E⟩ ?_)))
 refine bnw h fun e f h=>JO.call E E E E (aGd a d b c _ f) E [0] E E fun _ _=>aB aA 1 [] [] [(1,.v (I e))] _ E ev1 (aD E (JS.seq (aC aA 2 [(10,.v (.bool (decide (e<0))))] ev1 E E ?_)))
 refine aH E h (fun h=>?_) (fun h=>?_)
 ·
  refine aC aA 1 [(4,.v (I (-1)))] ev1 E E ?_
  cases h
  exact JS.ret aA () V E E [] E
 refine JS.skip (aC aA 2 [(4,.v (I e))] ev1 E E ?_)
 cases h
 exact JS.ret aA () V E E [] E

def pM (a:EdQ) (h:Int):Option Int:= (aF (kG a.2.2.1 h) fun b=>(bif decide (b<0) then some (-1) else (aF (rE a.2.2.2.2.2.2.2.2.2.2.1 b) fun c=>(bif decide (c<0) then some (-1) else (aF (rD a.2.2.2.2.2.2.2.2.2.2.2.1 c) fun d=>(bif decide (d<0) then some (-1) else (aF (kG a.2.2.2.2.2.2.2.2.2.2.2.2.2.1 d) fun e=>(bif decide (e<0) then some (-1) else (aF (iG a.2.2.2.2.2.2.2.2.2.2.2.2.2.2.1 e) fun f=>(bif decide (f<0) then some (-1) else (aF (kG a.2.2.2.2.2.2.2.2.2.2.2.2.2.2.2.2 f) fun g=>(bif decide (g<0) then some (-1) else some g))))))))))))

theorem aEc (a:EdQ) (o:Int) (b:Option Addr) (c:Nat) (w:Nat) (D:a.2.2.1.1.length=w) (d:Option Addr) (e:Nat) (x:Nat) (F:(Q8 a).2.2.1.length=x) (f:Option Addr) (g:Nat) (y:Nat) (G:(Q8 a).2.2.2.1.length=y) (i:Option Addr) (j:Nat) (z:Nat) (H:(Q12 a).2.1.1.length=z) (k:Option Addr) (l:Nat) (A:Nat) (J:(Q12 a).2.2.1.length=A) (m:Option Addr) (n:Nat) (B:Nat) (K:(Q16 a).1.length=B) (r:Int) (h:pM a o=some r) :
 FC Tryz.prog 23 [.agg #[.bool a.1,I a.2.1,.slice b w c,I a.2.2.1.2,I a.2.2.2.1,I (Q4 a).1,I (Q4 a).2.1,I (Q4 a).2.2.1,I (Q4 a).2.2.2.1,I (Q8 a).1,I (Q8 a).2.1,.slice d x e,.slice f y g,I (Q12 a).1,.slice i z j,I (Q12 a).2.1.2,.slice k A l,I (Q12 a).2.2.2.1,.slice m B n,I (Q16 a).2],I o] [⟨iT,⟨b,w,c⟩,a.2.2.1.1⟩,⟨(.sl iT),⟨d,x,e⟩,(Q8 a).2.2.1⟩,⟨(.pair (.sl iT) iT),⟨f,y,g⟩,(Q8 a).2.2.2.1⟩,⟨iT,⟨i,z,j⟩,(Q12 a).2.1.1⟩,⟨iT,⟨k,A,l⟩,(Q12 a).2.2.1⟩,⟨iT,⟨m,B,n⟩,(Q16 a).1⟩] (fun _:Unit=>True) (fun _=>I r) (fun _=>[]):= by
 subst D
 subst F
 subst G
 subst H
 subst J
 subst K
 refine FC.of (T:=TTx) Tryz.call23 Tryz.func23 E E fun R=>?_
 unfold pM at h
 refine aM aA 2 [] [7] [(2,.bp 7 0)] (.new 7 46 (aG a (b,c,d,e,f,g,i,j,k,l,m,n)) .nil) ⟨ev2,(Bs E E)⟩ E E (JS.seq (JS.region (aB aA 3 [] [] [(6,.v (.agg #[sL b a.2.2.1.1 c,I a.2.2.1.2])),(7,.v (I o))] _ E ⟨(Es E),E⟩ ?_)))
 refine bnw h fun p L h=>JO.call E E E E (wJ a.2.2.1 o b c _ L) E [0] E E fun _ _=>aB aA 1 [] [] [(1,.v (I p))] _ E ev1 (aD E (JS.seq (aC aA 2 [(10,.v (.bool (decide (p<0))))] ev1 E E ?_)))
 refine aH E h (fun h=>?_) (fun h=>?_)
 ·
  refine aC aA 1 [(4,.v (I (-1)))] ev1 E E ?_
  cases h
  exact JS.ret aA () V E E [] E
 refine JS.skip (JS.seq (JS.region (aB aA 3 [] [] [(12,.v (.agg #[sL d (Q8 a).2.2.1 e])),(13,.v (I p))] _ E ⟨(Es E),E⟩ ?_)))
 refine bnw h fun q M h=>JO.call E E E E (aH8 (Q8 a).2.2.1 p d e _ M) E [1] E E fun _ _=>aB aA 1 [] [] [(1,.v (I q))] _ E ev1 (aD E (JS.seq (aC aA 2 [(16,.v (.bool (decide (q<0))))] ev1 E E ?_)))
 refine aH E h (fun h=>?_) (fun h=>?_)
 ·
  refine aC aA 1 [(4,.v (I (-1)))] ev1 E E ?_
  cases h
  exact JS.ret aA () V E E [] E
 refine JS.skip (JS.seq (JS.region (aB aA 3 [] [] [(18,.v (.agg #[sL f (Q8 a).2.2.2.1 g])),(19,.v (I q))] _ E ⟨(Es E),E⟩ ?_)))
 refine bnw h fun s N h=>JO.call E E E E (aH7 (Q8 a).2.2.2.1 q f g _ N) E [2] E E fun _ _=>aB aA 1 [] [] [(1,.v (I s))] _ E ev1 (aD E (JS.seq (aC aA 2 [(22,.v (.bool (decide (s<0))))] ev1 E E ?_)))
 refine aH E h (fun h=>?_) (fun h=>?_)
 ·
  refine aC aA 1 [(4,.v (I (-1)))] ev1 E E ?_
  cases h
  exact JS.ret aA () V E E [] E
 refine JS.skip (JS.seq (JS.region (aB aA 3 [] [] [(24,.v (.agg #[sL i (Q12 a).2.1.1 j,I (Q12 a).2.1.2])),(25,.v (I s))] _ E ⟨(Es E),E⟩ ?_)))
 refine bnw h fun t O h=>JO.call E E E E (wJ (Q12 a).2.1 s i j _ O) E [3] E E fun _ _=>aB aA 1 [] [] [(1,.v (I t))] _ E ev1 (aD E (JS.seq (aC aA 2 [(28,.v (.bool (decide (t<0))))] ev1 E E ?_)))
 refine aH E h (fun h=>?_) (fun h=>?_)
 ·
  refine aC aA 1 [(4,.v (I (-1)))] ev1 E E ?_
  cases h
  exact JS.ret aA () V E E [] E
 refine JS.skip (JS.seq (JS.region (aB aA 3 [] [] [(30,.v (sL k (Q12 a).2.2.1 l)),(31,.v (I t))] _ E ⟨(Es E),E⟩ ?_)))
 refine bnw h fun u P h=>JO.call E E E E (sB (Q12 a).2.2.1 t k l _ P) E [4] E E fun _ _=>aB aA 1 [] [] [(1,.v (I u))] _ E ev1 (aD E (JS.seq (aC aA 2 [(34,.v (.bool (decide (u<0))))] ev1 E E ?_)))
 refine aH E h (fun h=>?_) (fun h=>?_)
 ·
  refine aC aA 1 [(4,.v (I (-1)))] ev1 E E ?_
  cases h
  exact JS.ret aA () V E E [] E
 refine JS.skip (JS.seq (JS.region (aB aA 3 [] [] [(36,.v (.agg #[sL m (Q16 a).1 n,I (Q16 a).2])),(37,.v (I u))] _ E ⟨(Es E),E⟩ ?_)))
 refine bnw h fun C Q h=>JO.call E E E E (wJ (Q16 a) u m n _ Q) E [5] E E fun _ _=>aB aA 1 [] [] [(1,.v (I C))] _ E ev1 (aD E (JS.seq (aC aA 2 [(40,.v (.bool (decide (C<0))))] ev1 E E ?_)))
 refine aH E h (fun h=>?_) (fun h=>?_)
 ·
  refine aC aA 1 [(4,.v (I (-1)))] ev1 E E ?_
  cases h
  exact JS.ret aA () V E E [] E
 refine JS.skip (aC aA 2 [(4,.v (I C))] ev1 E E ?_)
 cases h
 exact JS.ret aA () V E E [] E

def nO (b:EdQ) (c:Int×List (List UInt8)) (d:Int×Int):Option Bool:= (aF (xM b 1048576) fun i=>(bif decide (i<0) then some true else (aF (vC c i) fun u=>(bif decide (u<0) then some true else (aS (fun ((e,f):Int×EdQ)=>(aF (qW b) fun g=>(aF (mP c) fun h=>(aS (fun ((j,a):Int×EdQ)=>(aF (oL a f) fun v=>(bif (bif (!v) then true else (!(decide (j=e)))) then some false else (aF (qW b) fun w=>(aF (oL g w) fun x=>(bif (!x) then some false else (aF (mP c) fun y=>(aF (vF h y) fun z=>(bif (!z) then some false else (aF (mS g 1) fun (A,Y,Z,a0,a1,a2,a3)=>(aF (rC h A) fun (k,a4)=>(bW ((decide (k<0))=false) (oL a f) false fun B=>(bif (bif (bif decide (k<0) then true else (!B)) then true else (!(decide (j=e)))) then some false else (aF (mS a 1) fun (l,m,n,o,p,q,r)=>(aF (pM (a.1,a.2.1,(m,a.2.2.1.2),a.2.2.2.1,a.2.2.2.2.1,a.2.2.2.2.2.1,a.2.2.2.2.2.2.1,a.2.2.2.2.2.2.2.1,a.2.2.2.2.2.2.2.2.1,a.2.2.2.2.2.2.2.2.2.1,n,o,a.2.2.2.2.2.2.2.2.2.2.2.2.1,(p,a.2.2.2.2.2.2.2.2.2.2.2.2.2.1.2),q,a.2.2.2.2.2.2.2.2.2.2.2.2.2.2.2.1,(r,a.2.2.2.2.2.2.2.2.2.2.2.2.2.2.2.2.2)) 1) fun s=>(bif decide (s<0) then some false else (bif (!(decide (s=l))) then some false else (aS (fun ((C,D):Int×EdQ)=>(aF (oL D f) fun F=>(bif (bif (!F) then true else (!(decide (C=e)))) then some false else (aF (pM (a.1,a.2.1,(m,a.2.2.1.2),a.2.2.2.1,a.2.2.2.2.1,a.2.2.2.2.2.1,a.2.2.2.2.2.2.1,a.2.2.2.2.2.2.2.1,a.2.2.2.2.2.2.2.2.1,a.2.2.2.2.2.2.2.2.2.1,n,o,a.2.2.2.2.2.2.2.2.2.2.2.2.1,(p,a.2.2.2.2.2.2.2.2.2.2.2.2.2.1.2),q,a.2.2.2.2.2.2.2.2.2.2.2.2.2.2.2.1,(r,a.2.2.2.2.2.2.2.2.2.2.2.2.2.2.2.2.2)) 1) fun t=>(bif decide (t<0) then some false else (bif (!(decide (t=l))) then some false else some true)))))) fun G=>(aF (qW b) fun H=>(aF (mP c) fun J=>(aF (xL d) fun K=>(aF (uI H J K) fun (L,M)=> G (M,L))))))))))))))))))))))) fun N=>(aF (xL d) fun O=>(aF (uI g h O) fun (P,Q)=> N (Q,P))))))) fun R=>(aF (qW b) fun S=>(aF (mP c) fun T=>(aF (xL d) fun U=>(aF (xJ S T U) fun (W,X)=> R (X,W))))))))))

set_option maxHeartbeats 4000000 in
theorem ok_l_FnExactViKey (c:EdQ) (a:Int×List (List UInt8)) (d:Int×Int) (i:Option Addr) (j:Nat) (l6:Nat) (e8:c.2.2.1.1.length=l6) (k:Option Addr) (l:Nat) (b3:Nat) (e9:(Q8 c).2.2.1.length=b3) (m:Option Addr) (n:Nat) (b4:Nat) (f0:(Q8 c).2.2.2.1.length=b4) (o:Option Addr) (p:Nat) (b5:Nat) (f1:(Q12 c).2.1.1.length=b5) (q:Option Addr) (s:Nat) (b6:Nat) (f2:(Q12 c).2.2.1.length=b6) (t:Option Addr) (u:Nat) (b7:Nat) (f3:(Q16 c).1.length=b7) (f:Option Addr) (g:Nat) (b8:Nat) (f4:a.2.length=b8) (r:Bool) (h:nO c a d=some r) :
 FC Tryz.prog 9 [.agg #[.bool c.1,I c.2.1,.slice i l6 j,I c.2.2.1.2,I c.2.2.2.1,I (Q4 c).1,I (Q4 c).2.1,I (Q4 c).2.2.1,I (Q4 c).2.2.2.1,I (Q8 c).1,I (Q8 c).2.1,.slice k b3 l,.slice m b4 n,I (Q12 c).1,.slice o b5 p,I (Q12 c).2.1.2,.slice q b6 s,I (Q12 c).2.2.2.1,.slice t b7 u,I (Q16 c).2],.agg #[I a.1,.slice f b8 g],.agg #[I d.1,I d.2]] [⟨iT,⟨i,l6,j⟩,c.2.2.1.1⟩,⟨(.sl iT),⟨k,b3,l⟩,(Q8 c).2.2.1⟩,⟨(.pair (.sl iT) iT),⟨m,b4,n⟩,(Q8 c).2.2.2.1⟩,⟨iT,⟨o,b5,p⟩,(Q12 c).2.1.1⟩,⟨iT,⟨q,b6,s⟩,(Q12 c).2.2.1⟩,⟨iT,⟨t,b7,u⟩,(Q16 c).1⟩,⟨.str,⟨f,b8,g⟩,a.2⟩] (fun _:Unit=>True) (fun _=>.bool r) (fun _=>[]):= by
 subst e8
 subst e9
 subst f0
 subst f1
 subst f2
 subst f3
 subst f4
 refine FC.of (T:=TTx) Tryz.call9 Tryz.func9 E E fun w0=>?_
 unfold nO at h
 refine aM aA 4 [] [8,9,10] [(3,.bp 8 0),(4,.bp 9 0),(5,.bp 10 0)] (.new 8 32 (cD c (i,j,k,l,m,n,o,p,q,s,t,u)) (.new 9 35 [I a.1,sL f a.2 g] (.new 10 61 [I d.1,I d.2] .nil))) ⟨(Es E),(Bs E E)⟩ E E (aC aA 1 [(7,.v (I 1048576))] ev1 E E (JS.seq (JS.region (aB aA 2 [] [] [(19,.v (.agg (cD c (i,j,k,l,m,n,o,p,q,s,t,u)).toArray)),(20,.v (I 1048576))] _ E ⟨(Es E),E⟩ ?_))))
 refine bnw h fun a7 f5 h=>JO.call E E E E (aRd c 1048576 (i,j,k,l,m,n,o,p,q,s,t,u) _ f5) E [0,1,2,3,4,5] E E fun _ _=>aB aA 1 [] [] [(7,.v (I a7))] _ E ev1 (aD E (JS.seq (aC aA 2 [(23,.v (.bool (decide (a7<0))))] ev1 E E ?_)))
 refine aH E h (fun h=>?_) (fun h=>?_)
 ·
  refine aC aA 1 [(6,.v (.bool true))] ev1 E E ?_
  cases h
  exact JS.ret aA () V E E [] E
 refine JS.skip (JS.seq (JS.region (aB aA 2 [] [] [(24,.v (.agg #[I a.1,sL f a.2 g])),(25,.v (I a7))] _ E ⟨(Es E),E⟩ ?_)))
 refine bnw h fun d5 f6 h=>JO.call E E E E (aMf a a7 f g _ f6) E [6] E E fun _ _=>aB aA 1 [] [] [(7,.v (I d5))] _ E ev1 (aD E (JS.seq (aC aA 2 [(28,.v (.bool (decide (d5<0))))] ev1 E E ?_)))
 refine aH E h (fun h=>?_) (fun h=>?_)
 ·
  refine aC aA 1 [(6,.v (.bool true))] ev1 E E ?_
  cases h
  exact JS.ret aA () V E E [] E
 refine JS.skip (JS.seq ?_)
 obtain ⟨f7,f8,h⟩:=aN h
 refine yR (ι:=Int×EdQ×P6) ⟨fun z=>f7 (z.1,z.2.1)=some r,fun z=>[(3,.bp 8 0),(4,.bp 9 0),(5,.bp 10 0),(8,.bp 63 0),(9,.v (I z.1))],fun z=>(.new 8 32 (cD c (i,j,k,l,m,n,o,p,q,s,t,u)) (.new 9 35 [I a.1,sL f a.2 g] (.new 10 61 [I d.1,I d.2] (.new 63 46 (aG z.2.1 z.2.2) .nil)))),fun z=>(bP c (i,j,k,l,m,n,o,p,q,s,t,u) [⟨.str,⟨f,a.2.length,g⟩,a.2⟩]),fun z=>(bP z.2.1 z.2.2 []),fun z=>0⟩ ?_ ?_
 ·
  obtain ⟨X,d6,h⟩:=aE h
  obtain ⟨Y,b9,h⟩:=aE h
  obtain ⟨Z,a9,h⟩:=aE h
  obtain ⟨⟨H,J⟩,a0,h⟩:=aE h
  refine bF E (.new 8 32 (cD c (i,j,k,l,m,n,o,p,q,s,t,u)) (.new 9 35 [I a.1,sL f a.2 g] (.new 10 61 [I d.1,I d.2] .nil))) [] [5,6,7,8,9,11,12] ev7 E (fun j0=>?_)
  refine bX aA aJ true 10 [0,2,4] E (by kernel_rfl) [] [(30,.v (.agg (cD c (i,j,k,l,m,n,o,p,q,s,t,u)).toArray)),(32,.v (.agg #[I a.1,sL f a.2 g])),(34,.v (.agg #[I d.1,I d.2]))] ev7 [] E E (Es E) ?_
  refine JA.all (rs:=[1,10]) (by kernel_rfl) E (List.forall_mem_cons.2 ⟨?_,List.forall_mem_cons.2 ⟨?_,(fun _ hx=>absurd hx List.not_mem_nil)⟩⟩)
  ·
   refine JK.call E E E E (uC c (i,j,k,l,m,n,o,p,q,s,t,u) _ d6) E [0,1,2,3,4,5] E E fun U _=>aU ev7 [] E ?_
   refine JA.all (rs:=[3,10]) (by kernel_rfl) E (List.forall_mem_cons.2 ⟨?_,List.forall_mem_cons.2 ⟨?_,(fun _ hx=>absurd hx List.not_mem_nil)⟩⟩)
   ·
    refine JK.call E E E E (jQ a f g _ b9) E [6] E E ?_
    rintro ⟨P,Q⟩ -
    refine aU ev7 [] E ?_
    refine JA.all (rs:=[5,10]) (by kernel_rfl) E (List.forall_mem_cons.2 ⟨?_,List.forall_mem_cons.2 ⟨?_,(fun _ hx=>absurd hx List.not_mem_nil)⟩⟩)
    ·
     refine JK.call E E E E (iR d _ a9) E [] E E fun _ _=>aR E ?_
     refine JA.all (rs:=[6,10]) (by kernel_rfl) E (List.forall_mem_cons.2 ⟨?_,List.forall_mem_cons.2 ⟨?_,(fun _ hx=>absurd hx List.not_mem_nil)⟩⟩)
     ·
      refine JK.call E E E E (uQ X Y Z U P Q _ a0) E [8,9,10,11,12,13,7] E E fun F _=>aR E (aT aA aJ 3 [7,8,9] E (by kernel_rfl) [] [(37,.v (.agg (aG H F).toArray)),(38,.v (I J))] E (Es E) (JA.one 10 (by kernel_rfl) (JK.alloc aA E E E E E 63 E (eZ _ E) (aU ev7 [] E (JA.one 11 (by kernel_rfl) (bH aA E E E E E E E E (aR E (aT aA aJ 0 [12] E (by kernel_rfl) [] [(9,.v (I J))] E ev2 (bM (by kernel_rfl) (bE (B':=(.new 8 32 (cD c (i,j,k,l,m,n,o,p,q,s,t,u)) (.new 9 35 [I a.1,sL f a.2 g] (.new 10 61 [I d.1,I d.2] (.new 63 46 (aG H F) .nil))))) (Bs E E) (bT (J,H,F) h (Es E) (Bs E E) [0,1,2,3,4,5,6] E [0,1,2,3,4,5] E E)))))))))))
     refine JK.alloc aA E E E E E 63 E (eZ _ E) (aU ev7 [] E (JA.one 6 (by kernel_rfl) (JK.call E E E E (uQ X Y Z U P Q _ a0) E [8,9,10,11,12,13,7] E E ?_)))
     rintro F -
     refine aR E (aT aA aJ 2 [7,8,9] E (by kernel_rfl) [] [(37,.v (.agg (aG H F).toArray)),(38,.v (I J))] E (Es E) (JA.one 11 (by kernel_rfl) (bH aA E E E E E E E E (aR E (aT aA aJ 0 [12] E (by kernel_rfl) [] [(9,.v (I J))] E ev2 (bM (by kernel_rfl) (bE (B':=(.new 8 32 (cD c (i,j,k,l,m,n,o,p,q,s,t,u)) (.new 9 35 [I a.1,sL f a.2 g] (.new 10 61 [I d.1,I d.2] (.new 63 46 (aG H F) .nil))))) (Bs E E) (bT (J,H,F) h (Es E) (Bs E E) [0,1,2,3,4,5,6] E [0,1,2,3,4,5] E E))))))))
    refine JK.alloc aA E E E E E 63 E (eZ _ E) (aU ev7 [] E (JA.one 5 (by kernel_rfl) (JK.call E E E E (iR d _ a9) E [] E E fun _ _=>aR E (JA.one 6 (by kernel_rfl) (JK.call E E E E (uQ X Y Z U P Q _ a0) E [8,9,10,11,12,13,7] E E ?_)))))
    rintro F -
    refine aR E (aT aA aJ 2 [7,8,9] E (by kernel_rfl) [] [(37,.v (.agg (aG H F).toArray)),(38,.v (I J))] E (Es E) (JA.one 11 (by kernel_rfl) (bH aA E E E E E E E E (aR E (aT aA aJ 0 [12] E (by kernel_rfl) [] [(9,.v (I J))] E ev2 (bM (by kernel_rfl) (bE (B':=(.new 8 32 (cD c (i,j,k,l,m,n,o,p,q,s,t,u)) (.new 9 35 [I a.1,sL f a.2 g] (.new 10 61 [I d.1,I d.2] (.new 63 46 (aG H F) .nil))))) (Bs E E) (bT (J,H,F) h (Es E) (Bs E E) [0,1,2,3,4,5,6] E [0,1,2,3,4,5] E E))))))))
   refine JK.alloc aA E E E E E 63 E (eZ _ E) (aU ev7 [] E (JA.one 3 (by kernel_rfl) (JK.call E E E E (jQ a f g _ b9) E [6] E E ?_)))
   rintro ⟨P,Q⟩ -
   refine aU ev7 [] E (JA.one 5 (by kernel_rfl) (JK.call E E E E (iR d _ a9) E [] E E fun _ _=>aR E (JA.one 6 (by kernel_rfl) (JK.call E E E E (uQ X Y Z U P Q _ a0) E [8,9,10,11,12,13,7] E E ?_))))
   rintro F -
   refine aR E (aT aA aJ 2 [7,8,9] E (by kernel_rfl) [] [(37,.v (.agg (aG H F).toArray)),(38,.v (I J))] E (Es E) (JA.one 11 (by kernel_rfl) (bH aA E E E E E E E E (aR E (aT aA aJ 0 [12] E (by kernel_rfl) [] [(9,.v (I J))] E ev2 (bM (by kernel_rfl) (bE (B':=(.new 8 32 (cD c (i,j,k,l,m,n,o,p,q,s,t,u)) (.new 9 35 [I a.1,sL f a.2 g] (.new 10 61 [I d.1,I d.2] (.new 63 46 (aG H F) .nil))))) (Bs E E) (bT (J,H,F) h (Es E) (Bs E E) [0,1,2,3,4,5,6] E [0,1,2,3,4,5] E E))))))))
  refine JK.alloc aA E E E E E 63 E (eZ _ E) (aU ev7 [] E (JA.one 1 (by kernel_rfl) (JK.call E E E E (uC c (i,j,k,l,m,n,o,p,q,s,t,u) _ d6) E [0,1,2,3,4,5] E E ?_)))
  rintro U -
  refine aU ev7 [] E (JA.one 3 (by kernel_rfl) (JK.call E E E E (jQ a f g _ b9) E [6] E E ?_))
  rintro ⟨P,Q⟩ -
  refine aU ev7 [] E (JA.one 5 (by kernel_rfl) (JK.call E E E E (iR d _ a9) E [] E E fun _ _=>aR E (JA.one 6 (by kernel_rfl) (JK.call E E E E (uQ X Y Z U P Q _ a0) E [8,9,10,11,12,13,7] E E ?_))))
  rintro F -
  refine aR E (aT aA aJ 2 [7,8,9] E (by kernel_rfl) [] [(37,.v (.agg (aG H F).toArray)),(38,.v (I J))] E (Es E) (JA.one 11 (by kernel_rfl) (bH aA E E E E E E E E (aR E (aT aA aJ 0 [12] E (by kernel_rfl) [] [(9,.v (I J))] E ev2 (bM (by kernel_rfl) (bE (B':=(.new 8 32 (cD c (i,j,k,l,m,n,o,p,q,s,t,u)) (.new 9 35 [I a.1,sL f a.2 g] (.new 10 61 [I d.1,I d.2] (.new 63 46 (aG H F) .nil))))) (Bs E E) (bT (J,H,F) h (Es E) (Bs E E) [0,1,2,3,4,5,6] E [0,1,2,3,4,5] E E))))))))
 rintro ⟨a1,x,y⟩ h
 subst f8
 refine JS.seq (JS.region (aB aA 1 [] [] [(39,.v (.agg (cD c (i,j,k,l,m,n,o,p,q,s,t,u)).toArray))] _ E ev1 ?_))
 refine bnw h fun A f9 h=>JO.call E E E E (uC c (i,j,k,l,m,n,o,p,q,s,t,u) _ f9) E [0,1,2,3,4,5] E E fun B _=>aL aA 2 [] [106] [(10,.bp 106 0)] (.new 8 32 (cD c (i,j,k,l,m,n,o,p,q,s,t,u)) (.new 9 35 [I a.1,sL f a.2 g] (.new 10 61 [I d.1,I d.2] (.new 63 46 (aG x y) (.new 106 46 (aG A B) .nil))))) E ⟨ev2,(Bs E E)⟩ (aD E (JS.seq (JS.region (aB aA 1 [] [] [(41,.v (.agg #[I a.1,sL f a.2 g]))] _ E ev1 ?_))))
 refine bnw h fun w g0 h=>JO.call E E E E (jQ a f g _ g0) E [6] E E ?_
 rintro ⟨C,D⟩ -
 refine aL aA 2 [] [112] [(11,.bp 112 0)] (.new 8 32 (cD c (i,j,k,l,m,n,o,p,q,s,t,u)) (.new 9 35 [I a.1,sL f a.2 g] (.new 10 61 [I d.1,I d.2] (.new 63 46 (aG x y) (.new 106 46 (aG A B) (.new 112 50 [I w.1,sL C w.2 D] .nil)))))) E ⟨ev2,(Bs E E)⟩ (aD E (JS.seq ?_))
 obtain ⟨g1,g2,h⟩:=aN h
 refine yR (ι:=Int×EdQ×P6) ⟨fun z=>g1 (z.1,z.2.1)=some r,fun z=>[(3,.bp 8 0),(4,.bp 9 0),(5,.bp 10 0),(8,.bp 63 0),(9,.v (I a1)),(10,.bp 106 0),(11,.bp 112 0),(12,.bp 136 0),(13,.v (I z.1))],fun z=>(.new 8 32 (cD c (i,j,k,l,m,n,o,p,q,s,t,u)) (.new 9 35 [I a.1,sL f a.2 g] (.new 10 61 [I d.1,I d.2] (.new 63 46 (aG x y) (.new 106 46 (aG A B) (.new 112 50 [I w.1,sL C w.2 D] (.new 136 46 (aG z.2.1 z.2.2) .nil))))))),fun z=>(bP c (i,j,k,l,m,n,o,p,q,s,t,u) [⟨.str,⟨f,a.2.length,g⟩,a.2⟩]),fun z=>(bP z.2.1 z.2.2 (bP x y (bP A B [⟨.str,⟨C,w.2.length,D⟩,w.2⟩]))),fun z=>0⟩ ?_ ?_
 ·
  obtain ⟨c0,d7,h⟩:=aE h
  obtain ⟨⟨N,O⟩,c1,h⟩:=aE h
  refine bF E (.new 10 61 [I d.1,I d.2] (.new 106 46 (aG A B) (.new 112 50 [I w.1,sL C w.2 D] .nil))) [] [4,5,6,7,9,10] ev7 E (fun j1=>?_)
  refine bX aA aJ true 8 [0,1,2] E (by kernel_rfl) [] [(44,.v (.agg (aG A B).toArray)),(45,.v (.agg #[I w.1,sL C w.2 D])),(46,.v (.agg #[I d.1,I d.2]))] ev7 [] E E (Es E) ?_
  refine JA.all (rs:=[3,8]) (by kernel_rfl) E (List.forall_mem_cons.2 ⟨?_,List.forall_mem_cons.2 ⟨?_,(fun _ hx=>absurd hx List.not_mem_nil)⟩⟩)
  ·
   refine JK.call E E E E (iR d _ d7) E [] E E fun _ _=>aU ev7 [] E ?_
   refine JA.all (rs:=[4,8]) (by kernel_rfl) E (List.forall_mem_cons.2 ⟨?_,List.forall_mem_cons.2 ⟨?_,(fun _ hx=>absurd hx List.not_mem_nil)⟩⟩)
   ·
    refine JK.call E E E E (mA A w c0 B C D _ c1) E [8,9,10,11,12,13,7] E E fun M _=>aR E (aT aA aJ 3 [5,6,7] E (by kernel_rfl) [] [(49,.v (.agg (aG N M).toArray)),(50,.v (I O))] E (Es E) (JA.one 8 (by kernel_rfl) (JK.alloc aA E E E E E 136 E (eZ _ E) (aU ev7 [] E (JA.one 9 (by kernel_rfl) (bH aA E E E E E E E E (aR E (aT aA aJ 0 [10] E (by kernel_rfl) [] [(13,.v (I O))] E ev2 (bM (by kernel_rfl) (bE (B':=(.new 8 32 (cD c (i,j,k,l,m,n,o,p,q,s,t,u)) (.new 9 35 [I a.1,sL f a.2 g] (.new 10 61 [I d.1,I d.2] (.new 63 46 (aG x y) (.new 106 46 (aG A B) (.new 112 50 [I w.1,sL C w.2 D] (.new 136 46 (aG N M) .nil)))))))) (Bs E E) (bT (O,N,M) h (Es E) (Bs E E) [0,1,2,3,4,5,6] E [0,1,2,3,4,5,13,14,15,16,17,18,7,8,9,10,11,12,6] E E)))))))))))
   refine JK.alloc aA E E E E E 136 E (eZ _ E) (aU ev7 [] E (JA.one 4 (by kernel_rfl) (JK.call E E E E (mA A w c0 B C D _ c1) E [8,9,10,11,12,13,7] E E ?_)))
   rintro M -
   refine aR E (aT aA aJ 2 [5,6,7] E (by kernel_rfl) [] [(49,.v (.agg (aG N M).toArray)),(50,.v (I O))] E (Es E) (JA.one 9 (by kernel_rfl) (bH aA E E E E E E E E (aR E (aT aA aJ 0 [10] E (by kernel_rfl) [] [(13,.v (I O))] E ev2 (bM (by kernel_rfl) (bE (B':=(.new 8 32 (cD c (i,j,k,l,m,n,o,p,q,s,t,u)) (.new 9 35 [I a.1,sL f a.2 g] (.new 10 61 [I d.1,I d.2] (.new 63 46 (aG x y) (.new 106 46 (aG A B) (.new 112 50 [I w.1,sL C w.2 D] (.new 136 46 (aG N M) .nil)))))))) (Bs E E) (bT (O,N,M) h (Es E) (Bs E E) [0,1,2,3,4,5,6] E [0,1,2,3,4,5,13,14,15,16,17,18,7,8,9,10,11,12,6] E E))))))))
  refine JK.alloc aA E E E E E 136 E (eZ _ E) (aU ev7 [] E (JA.one 3 (by kernel_rfl) (JK.call E E E E (iR d _ d7) E [] E E fun _ _=>aU ev7 [] E (JA.one 4 (by kernel_rfl) (JK.call E E E E (mA A w c0 B C D _ c1) E [8,9,10,11,12,13,7] E E ?_)))))
  rintro M -
  refine aR E (aT aA aJ 2 [5,6,7] E (by kernel_rfl) [] [(49,.v (.agg (aG N M).toArray)),(50,.v (I O))] E (Es E) (JA.one 9 (by kernel_rfl) (bH aA E E E E E E E E (aR E (aT aA aJ 0 [10] E (by kernel_rfl) [] [(13,.v (I O))] E ev2 (bM (by kernel_rfl) (bE (B':=(.new 8 32 (cD c (i,j,k,l,m,n,o,p,q,s,t,u)) (.new 9 35 [I a.1,sL f a.2 g] (.new 10 61 [I d.1,I d.2] (.new 63 46 (aG x y) (.new 106 46 (aG A B) (.new 112 50 [I w.1,sL C w.2 D] (.new 136 46 (aG N M) .nil)))))))) (Bs E E) (bT (O,N,M) h (Es E) (Bs E E) [0,1,2,3,4,5,6] E [0,1,2,3,4,5,13,14,15,16,17,18,7,8,9,10,11,12,6] E E))))))))
 rintro ⟨d8,b,e⟩ h
 subst g2
 refine JS.seq (JS.seq (JS.region (aB aA 2 [] [] [(51,.v (.agg (aG b e).toArray)),(52,.v (.agg (aG x y).toArray))] _ E ⟨(Es E),E⟩ ?_)))
 refine bnw h fun g3 g4 h=>JO.call E E E E (aA8 b x e y _ g4) E [7,8,9,10,11,12,13,14,15,16,17,18] E E fun _ _=>aB aA 6 [] [] [(59,.v (.bool (bif (!g3) then true else (!(decide (d8=a1))))))] _ E ev1 (aD E ?_)
 refine aH E h (fun h=>?_) (fun h=>?_)
 ·
  refine aC aA 1 [(6,.v (.bool false))] ev1 E E ?_
  cases h
  exact JS.ret aA () V E E [] E
 refine JS.skip (JS.seq (JS.seq ?_))
 obtain ⟨g5,g6,h⟩:=aE h
 refine bnw h fun g7 g8 h=>bF E (.new 8 32 (cD c (i,j,k,l,m,n,o,p,q,s,t,u)) (.new 106 46 (aG A B) .nil)) [] [3,4] ev6 E (fun j2=>?_)
 refine bX aA aJ true 3 [0,1] E (by kernel_rfl) [] [(60,.v (.agg (aG A B).toArray)),(61,.v (.agg (cD c (i,j,k,l,m,n,o,p,q,s,t,u)).toArray))] ev6 [] E E (Es E) (JA.one 2 (by kernel_rfl) (JK.call E E E E (uC c (i,j,k,l,m,n,o,p,q,s,t,u) _ g6) E [0,1,2,3,4,5] E E ?_))
 rintro g9 -
 refine aU ev6 [] E (JA.one 3 (by kernel_rfl) (JK.call E E E E (aA8 A g5 B g9 _ g8) E [25,26,27,28,29,30,7,8,9,10,11,12] E E fun _ _=>aR E (aT aA aJ 0 [4] E (by kernel_rfl) [] [(64,.v (.bool (!g7)))] E ev2 (bM (by kernel_rfl) (bE (B':=(.new 8 32 (cD c (i,j,k,l,m,n,o,p,q,s,t,u)) (.new 9 35 [I a.1,sL f a.2 g] (.new 10 61 [I d.1,I d.2] (.new 63 46 (aG x y) (.new 106 46 (aG A B) (.new 112 50 [I w.1,sL C w.2 D] (.new 136 46 (aG b e) .nil)))))))) (Bs E E) ?_)))))
 refine aH E h (fun h=>?_) (fun h=>?_)
 ·
  refine JS.seq (wE [false,false,false,false,false,false,true,true,true,true,true,true,true,true,true,true,true,true,true,true,true,true,true,true,true] (bP c (i,j,k,l,m,n,o,p,q,s,t,u) [⟨.str,⟨f,a.2.length,g⟩,a.2⟩]) (bP b e (bP x y (bP A B [⟨.str,⟨C,w.2.length,D⟩,w.2⟩]))) E E (eR aA 1 [(6,.v (.bool false))] ev1 E E ?_))
  cases h
  exact JS.ret aA () V E E [] E
 refine JS.skip (JS.seq (JS.seq ?_))
 obtain ⟨h0,h1,h⟩:=aE h
 refine bnw h fun h2 h3 h=>bF E (.new 9 35 [I a.1,sL f a.2 g] (.new 112 50 [I w.1,sL C w.2 D] .nil)) [] [3,4] ev6 E (fun j3=>?_)
 refine bX aA aJ true 3 [0,1] E (by kernel_rfl) [] [(65,.v (.agg #[I w.1,sL C w.2 D])),(66,.v (.agg #[I a.1,sL f a.2 g]))] ev6 [] E E (Es E) (JA.one 2 (by kernel_rfl) (JK.call E E E E (jQ a f g _ h1) E [6] E E ?_))
 rintro ⟨h4,h5⟩ -
 refine aU ev6 [] E (JA.one 3 (by kernel_rfl) (JK.call E E E E (aMi w h0 C D h4 h5 _ h3) E [32,7] E E fun _ _=>aR E (aT aA aJ 0 [4] E (by kernel_rfl) [] [(69,.v (.bool (!h2)))] E ev2 (bM (by kernel_rfl) (bE (B':=(.new 8 32 (cD c (i,j,k,l,m,n,o,p,q,s,t,u)) (.new 9 35 [I a.1,sL f a.2 g] (.new 10 61 [I d.1,I d.2] (.new 63 46 (aG x y) (.new 106 46 (aG A B) (.new 112 50 [I w.1,sL C w.2 D] (.new 136 46 (aG b e) .nil)))))))) (Bs E E) ?_)))))
 refine aH E h (fun h=>?_) (fun h=>?_)
 ·
  refine JS.seq (wE [false,false,false,false,false,false,false,true,true,true,true,true,true,true,true,true,true,true,true,true,true,true,true,true,true,true] (bP c (i,j,k,l,m,n,o,p,q,s,t,u) [⟨.str,⟨f,a.2.length,g⟩,a.2⟩]) (bP b e (bP x y (bP A B [⟨.str,⟨C,w.2.length,D⟩,w.2⟩]))) E E (eR aA 1 [(6,.v (.bool false))] ev1 E E ?_))
  cases h
  exact JS.ret aA () V E E [] E
 refine JS.skip (JS.seq (wE [false,false,false,false,false,false,false,true,true,true,true,true,true,true,true,true,true,true,true,true,true,true,true,true,true,true] (bP c (i,j,k,l,m,n,o,p,q,s,t,u) [⟨.str,⟨f,a.2.length,g⟩,a.2⟩]) (bP b e (bP x y (bP A B [⟨.str,⟨C,w.2.length,D⟩,w.2⟩]))) E E (eR aA 1 [(14,.v (I 1))] ev1 E E (JS.seq (JS.region (aB aA 2 [] [] [(70,.v (.agg (aG A B).toArray)),(71,.v (I 1))] _ E ⟨(Es E),E⟩ ?_))))))
 obtain ⟨⟨c2,j4,j5,j6,j7,j8,j9⟩,h6,h⟩:=aE h
 refine eS E E E E (aEb A 1 B _ h6) E [12,12,12,12,12,12] E [] E E fun _ _=>bJ 7 E fun k0=>bJ 8 E fun k1=>bJ 9 E fun k2=>bJ 10 E fun k3=>bJ 11 E fun k4=>bJ 12 E fun k5=>aB aA 1 [] [] [(14,.v (I c2))] _ E ev1 (aD E (JS.seq (JS.region (aB aA 2 [] [] [(73,.v (.agg #[I w.1,sL C w.2 D])),(74,.v (I c2))] _ E ⟨(Es E),E⟩ ?_))))
 obtain ⟨⟨c3,k6⟩,h7,h⟩:=aE h
 refine eS E E E E (aH6 w c2 C D _ h7) E [18] E [] E E fun _ _=>bJ 7 E fun k7=>aB aA 1 [] [] [(14,.v (I c3))] _ E ev1 (aD E (JS.seq (JS.seq (JS.region (aB aA 5 [] [] [(78,.v (.bool (decide (c3<0)))),(79,.cd [(78,false)] (.v (.agg (aG b e).toArray))),(80,.cd [(78,false)] (.v (.agg (aG x y).toArray)))] _ E ⟨(Es E),E⟩ ?_)))))
 obtain ⟨h8,h9,-,h⟩:=aY h
 refine bL E E E E (fun i0=>aA8 b x e y _ (h9 i0)) E [14,15,16,17,18,19,20,21,22,23,24,25] E E (aB aA 7 [] [] [(88,.v (.bool (bif (bif (decide (c3<0)) then true else (!h8)) then true else (!(decide (d8=a1))))))] _ E ev1 (aD E ?_))
 refine aH E h (fun h=>?_) (fun h=>?_)
 ·
  refine aC aA 1 [(6,.v (.bool false))] ev1 E E ?_
  cases h
  exact JS.ret aA () V E E [] E
 refine JS.skip (aC aA 1 [(15,.v (I 1))] ev1 E E (JS.seq (JS.region (aB aA 2 [] [] [(89,.v (.agg (aG b e).toArray)),(90,.v (I 1))] _ E ⟨(Es E),E⟩ ?_))))
 obtain ⟨⟨b0,c4,c6,c7,c8,d0,d1⟩,i1,h⟩:=aE h
 refine eS E E E E (aEb b 1 e _ i1) E [7,7,7,7,7,7] E [] E E fun _ _=>bJ 7 E fun d9=>bJ 8 E fun e0=>bJ 9 E fun e1=>bJ 10 E fun e2=>bJ 11 E fun e3=>bJ 12 E fun e4=>aB aA 1 [] [] [(15,.v (I b0))] _ E ev1 (aD E (aC aA 1 [(16,.v (I 1))] ev1 E E (JS.seq (JS.region (aB aA 2 [] [] [(92,.v (.agg (aG b e).toArray)),(93,.v (I 1))] _ E ⟨(Es E),E⟩ ?_)))))
 refine bnw h fun d2 i2 h=>JO.call E E E E (aEc (b.1,b.2.1,(c4,b.2.2.1.2),b.2.2.2.1,(Q4 b).1,(Q4 b).2.1,(Q4 b).2.2.1,(Q4 b).2.2.2.1,(Q8 b).1,(Q8 b).2.1,c6,c7,(Q12 b).1,(c8,(Q12 b).2.1.2),d0,(Q12 b).2.2.2.1,(d1,(Q16 b).2)) 1 e.1 e.2.1 b.2.2.1.1.length d9.len.symm e.2.2.1 e.2.2.2.1 (Q8 b).2.2.1.length e0.len.symm (Q4 e).1 (Q4 e).2.1 (Q8 b).2.2.2.1.length e1.len.symm (Q4 e).2.2.1 (Q4 e).2.2.2.1 (Q12 b).2.1.1.length e2.len.symm (Q8 e).1 (Q8 e).2.1 (Q12 b).2.2.1.length e3.len.symm (Q8 e).2.2.1 (Q8 e).2.2.2 (Q16 b).1.length e4.len.symm _ i2) E [7,8,9,10,11,12] E E fun _ _=>aB aA 1 [] [] [(16,.v (I d2))] _ E ev1 (aD E (JS.seq (aC aA 2 [(96,.v (.bool (decide (d2<0))))] ev1 E E ?_)))
 refine aH E h (fun h=>?_) (fun h=>?_)
 ·
  refine aC aA 1 [(6,.v (.bool false))] ev1 E E ?_
  cases h
  exact JS.ret aA () V E E [] E
 refine JS.skip (JS.seq (aC aA 3 [(99,.v (.bool (!(decide (d2=b0)))))] ev1 E E ?_))
 refine aH E h (fun h=>?_) (fun h=>?_)
 ·
  refine aC aA 1 [(6,.v (.bool false))] ev1 E E ?_
  cases h
  exact JS.ret aA () V E E [] E
 refine JS.skip (JS.seq ?_)
 obtain ⟨i3,i4,h⟩:=aN h
 refine yR (ι:=Int×EdQ×P6) ⟨fun z=>i3 (z.1,z.2.1)=some r,fun z=>[(8,.bp 63 0),(9,.v (I a1)),(12,.bp 136 0),(15,.v (I b0)),(17,.bp 276 0),(18,.v (I z.1))],fun z=>(.new 63 46 (aG x y) (.new 136 46 (aG b e) (.new 276 46 (aG z.2.1 z.2.2) .nil))),fun z=>[],fun z=>(bP z.2.1 z.2.2 (bP x y [⟨iT,⟨e.1,b.2.2.1.1.length,e.2.1⟩,c4⟩,⟨(.sl iT),⟨e.2.2.1,(Q8 b).2.2.1.length,e.2.2.2.1⟩,c6⟩,⟨(.pair (.sl iT) iT),⟨(Q4 e).1,(Q8 b).2.2.2.1.length,(Q4 e).2.1⟩,c7⟩,⟨iT,⟨(Q4 e).2.2.1,(Q12 b).2.1.1.length,(Q4 e).2.2.2.1⟩,c8⟩,⟨iT,⟨(Q8 e).1,(Q12 b).2.2.1.length,(Q8 e).2.1⟩,d0⟩,⟨iT,⟨(Q8 e).2.2.1,(Q16 b).1.length,(Q8 e).2.2.2⟩,d1⟩])),fun z=>0⟩ ?_ ?_
 ·
  obtain ⟨a2,e5,h⟩:=aE h
  obtain ⟨a3,d3,h⟩:=aE h
  obtain ⟨a5,b1,h⟩:=aE h
  obtain ⟨⟨K,L⟩,a6,h⟩:=aE h
  refine bF E (.new 8 32 (cD c (i,j,k,l,m,n,o,p,q,s,t,u)) (.new 9 35 [I a.1,sL f a.2 g] (.new 10 61 [I d.1,I d.2] .nil))) [] [5,6,7,8,9,11,12] ev7 E (fun k8=>?_)
  refine bX aA aJ true 10 [0,2,4] E (by kernel_rfl) [] [(101,.v (.agg (cD c (i,j,k,l,m,n,o,p,q,s,t,u)).toArray)),(103,.v (.agg #[I a.1,sL f a.2 g])),(105,.v (.agg #[I d.1,I d.2]))] ev7 [] E E (Es E) ?_
  refine JA.all (rs:=[1,10]) (by kernel_rfl) E (List.forall_mem_cons.2 ⟨?_,List.forall_mem_cons.2 ⟨?_,(fun _ hx=>absurd hx List.not_mem_nil)⟩⟩)
  ·
   refine JK.call E E E E (uC c (i,j,k,l,m,n,o,p,q,s,t,u) _ e5) E [0,1,2,3,4,5] E E fun W _=>aU ev7 [] E ?_
   refine JA.all (rs:=[3,10]) (by kernel_rfl) E (List.forall_mem_cons.2 ⟨?_,List.forall_mem_cons.2 ⟨?_,(fun _ hx=>absurd hx List.not_mem_nil)⟩⟩)
   ·
    refine JK.call E E E E (jQ a f g _ d3) E [6] E E ?_
    rintro ⟨R,S⟩ -
    refine aU ev7 [] E ?_
    refine JA.all (rs:=[5,10]) (by kernel_rfl) E (List.forall_mem_cons.2 ⟨?_,List.forall_mem_cons.2 ⟨?_,(fun _ hx=>absurd hx List.not_mem_nil)⟩⟩)
    ·
     refine JK.call E E E E (iR d _ b1) E [] E E fun _ _=>aR E ?_
     refine JA.all (rs:=[6,10]) (by kernel_rfl) E (List.forall_mem_cons.2 ⟨?_,List.forall_mem_cons.2 ⟨?_,(fun _ hx=>absurd hx List.not_mem_nil)⟩⟩)
     ·
      refine JK.call E E E E (mA a2 a3 a5 W R S _ a6) E [8,9,10,11,12,13,7] E E fun G _=>aR E (aT aA aJ 3 [7,8,9] E (by kernel_rfl) [] [(108,.v (.agg (aG K G).toArray)),(109,.v (I L))] E (Es E) (JA.one 10 (by kernel_rfl) (JK.alloc aA E E E E E 276 E (eZ _ E) (aU ev7 [] E (JA.one 11 (by kernel_rfl) (bH aA E E E E E E E E (aR E (aT aA aJ 0 [12] E (by kernel_rfl) [] [(18,.v (I L))] E ev2 (bM (by kernel_rfl) (bE (B':=(.new 63 46 (aG x y) (.new 136 46 (aG b e) (.new 276 46 (aG K G) .nil)))) (Bs E E) (bT (L,K,G) h (Es E) (Bs E E) [] E [0,1,2,3,4,5,26,27,28,29,30,31,13,14,15,16,17,18] E E)))))))))))
     refine JK.alloc aA E E E E E 276 E (eZ _ E) (aU ev7 [] E (JA.one 6 (by kernel_rfl) (JK.call E E E E (mA a2 a3 a5 W R S _ a6) E [8,9,10,11,12,13,7] E E ?_)))
     rintro G -
     refine aR E (aT aA aJ 2 [7,8,9] E (by kernel_rfl) [] [(108,.v (.agg (aG K G).toArray)),(109,.v (I L))] E (Es E) (JA.one 11 (by kernel_rfl) (bH aA E E E E E E E E (aR E (aT aA aJ 0 [12] E (by kernel_rfl) [] [(18,.v (I L))] E ev2 (bM (by kernel_rfl) (bE (B':=(.new 63 46 (aG x y) (.new 136 46 (aG b e) (.new 276 46 (aG K G) .nil)))) (Bs E E) (bT (L,K,G) h (Es E) (Bs E E) [] E [0,1,2,3,4,5,26,27,28,29,30,31,13,14,15,16,17,18] E E))))))))
    refine JK.alloc aA E E E E E 276 E (eZ _ E) (aU ev7 [] E (JA.one 5 (by kernel_rfl) (JK.call E E E E (iR d _ b1) E [] E E fun _ _=>aR E (JA.one 6 (by kernel_rfl) (JK.call E E E E (mA a2 a3 a5 W R S _ a6) E [8,9,10,11,12,13,7] E E ?_)))))
    rintro G -
    refine aR E (aT aA aJ 2 [7,8,9] E (by kernel_rfl) [] [(108,.v (.agg (aG K G).toArray)),(109,.v (I L))] E (Es E) (JA.one 11 (by kernel_rfl) (bH aA E E E E E E E E (aR E (aT aA aJ 0 [12] E (by kernel_rfl) [] [(18,.v (I L))] E ev2 (bM (by kernel_rfl) (bE (B':=(.new 63 46 (aG x y) (.new 136 46 (aG b e) (.new 276 46 (aG K G) .nil)))) (Bs E E) (bT (L,K,G) h (Es E) (Bs E E) [] E [0,1,2,3,4,5,26,27,28,29,30,31,13,14,15,16,17,18] E E))))))))
   refine JK.alloc aA E E E E E 276 E (eZ _ E) (aU ev7 [] E (JA.one 3 (by kernel_rfl) (JK.call E E E E (jQ a f g _ d3) E [6] E E ?_)))
   rintro ⟨R,S⟩ -
   refine aU ev7 [] E (JA.one 5 (by kernel_rfl) (JK.call E E E E (iR d _ b1) E [] E E fun _ _=>aR E (JA.one 6 (by kernel_rfl) (JK.call E E E E (mA a2 a3 a5 W R S _ a6) E [8,9,10,11,12,13,7] E E ?_))))
   rintro G -
   refine aR E (aT aA aJ 2 [7,8,9] E (by kernel_rfl) [] [(108,.v (.agg (aG K G).toArray)),(109,.v (I L))] E (Es E) (JA.one 11 (by kernel_rfl) (bH aA E E E E E E E E (aR E (aT aA aJ 0 [12] E (by kernel_rfl) [] [(18,.v (I L))] E ev2 (bM (by kernel_rfl) (bE (B':=(.new 63 46 (aG x y) (.new 136 46 (aG b e) (.new 276 46 (aG K G) .nil)))) (Bs E E) (bT (L,K,G) h (Es E) (Bs E E) [] E [0,1,2,3,4,5,26,27,28,29,30,31,13,14,15,16,17,18] E E))))))))
  refine JK.alloc aA E E E E E 276 E (eZ _ E) (aU ev7 [] E (JA.one 1 (by kernel_rfl) (JK.call E E E E (uC c (i,j,k,l,m,n,o,p,q,s,t,u) _ e5) E [0,1,2,3,4,5] E E ?_)))
  rintro W -
  refine aU ev7 [] E (JA.one 3 (by kernel_rfl) (JK.call E E E E (jQ a f g _ d3) E [6] E E ?_))
  rintro ⟨R,S⟩ -
  refine aU ev7 [] E (JA.one 5 (by kernel_rfl) (JK.call E E E E (iR d _ b1) E [] E E fun _ _=>aR E (JA.one 6 (by kernel_rfl) (JK.call E E E E (mA a2 a3 a5 W R S _ a6) E [8,9,10,11,12,13,7] E E ?_))))
  rintro G -
  refine aR E (aT aA aJ 2 [7,8,9] E (by kernel_rfl) [] [(108,.v (.agg (aG K G).toArray)),(109,.v (I L))] E (Es E) (JA.one 11 (by kernel_rfl) (bH aA E E E E E E E E (aR E (aT aA aJ 0 [12] E (by kernel_rfl) [] [(18,.v (I L))] E ev2 (bM (by kernel_rfl) (bE (B':=(.new 63 46 (aG x y) (.new 136 46 (aG b e) (.new 276 46 (aG K G) .nil)))) (Bs E E) (bT (L,K,G) h (Es E) (Bs E E) [] E [0,1,2,3,4,5,26,27,28,29,30,31,13,14,15,16,17,18] E E))))))))
 rintro ⟨i5,e6,e7⟩ h
 subst i4
 refine JS.seq (JS.seq (JS.region (aB aA 2 [] [] [(110,.v (.agg (aG e6 e7).toArray)),(111,.v (.agg (aG x y).toArray))] _ E ⟨(Es E),E⟩ ?_)))
 refine bnw h fun i6 i7 h=>JO.call E E E E (aA8 e6 x e7 y _ i7) E [0,1,2,3,4,5,6,7,8,9,10,11] E E fun _ _=>aB aA 6 [] [] [(118,.v (.bool (bif (!i6) then true else (!(decide (i5=a1))))))] _ E ev1 (aD E ?_)
 refine aH E h (fun h=>?_) (fun h=>?_)
 ·
  refine aC aA 1 [(6,.v (.bool false))] ev1 E E ?_
  cases h
  exact JS.ret aA () V E E [] E
 refine JS.skip (aC aA 1 [(16,.v (I 1))] ev1 E E (JS.seq (JS.region (aB aA 2 [] [] [(119,.v (.agg (aG b e).toArray)),(120,.v (I 1))] _ E ⟨(Es E),E⟩ ?_))))
 refine bnw h fun d4 i8 h=>JO.call E E E E (aEc (b.1,b.2.1,(c4,b.2.2.1.2),b.2.2.2.1,(Q4 b).1,(Q4 b).2.1,(Q4 b).2.2.1,(Q4 b).2.2.2.1,(Q8 b).1,(Q8 b).2.1,c6,c7,(Q12 b).1,(c8,(Q12 b).2.1.2),d0,(Q12 b).2.2.2.1,(d1,(Q16 b).2)) 1 e.1 e.2.1 b.2.2.1.1.length d9.len.symm e.2.2.1 e.2.2.2.1 (Q8 b).2.2.1.length e0.len.symm (Q4 e).1 (Q4 e).2.1 (Q8 b).2.2.2.1.length e1.len.symm (Q4 e).2.2.1 (Q4 e).2.2.2.1 (Q12 b).2.1.1.length e2.len.symm (Q8 e).1 (Q8 e).2.1 (Q12 b).2.2.1.length e3.len.symm (Q8 e).2.2.1 (Q8 e).2.2.2 (Q16 b).1.length e4.len.symm _ i8) E [12,13,14,15,16,17] E E fun _ _=>aB aA 1 [] [] [(16,.v (I d4))] _ E ev1 (aD E (JS.seq (aC aA 2 [(123,.v (.bool (decide (d4<0))))] ev1 E E ?_)))
 refine aH E h (fun h=>?_) (fun h=>?_)
 ·
  refine aC aA 1 [(6,.v (.bool false))] ev1 E E ?_
  cases h
  exact JS.ret aA () V E E [] E
 refine JS.skip (JS.seq (aC aA 3 [(126,.v (.bool (!(decide (d4=b0)))))] ev1 E E ?_))
 refine aH E h (fun h=>?_) (fun h=>?_)
 ·
  refine aC aA 1 [(6,.v (.bool false))] ev1 E E ?_
  cases h
  exact JS.ret aA () V E E [] E
 refine JS.skip (aC aA 1 [(6,.v (.bool true))] ev1 E E ?_)
 cases h
 exact JS.ret aA () V E E [] E

end
end Go.Eng
