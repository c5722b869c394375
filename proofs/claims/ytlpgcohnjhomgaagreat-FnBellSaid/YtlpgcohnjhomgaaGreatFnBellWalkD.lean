/- The walks of the functions that FnBell reaches: what each computes, as a plain function (M_..), and that the model computes it (ok_..). Condition of each: that the plain function answers. -/
import Derived.Test.YtlpgcohnjhomgaaGreatFnBellWalkC
set_option linter.unusedVariables false
set_option linter.unusedSimpArgs false
namespace Go.Eng
open Go Go.Proofs
noncomputable section

def qW (a:EdQ) (f:Int×List (List UInt8)) (b:Int) (e:Int):Option (EdQ×Int):= (aF (uM a b e) fun (i,j,k)=>(bif k then some (i,j) else (bif (bif (!(decide (a.2.2.2.2.1=0))) then (decide (b=a.2.2.2.2.1)) else false) then (aF (eI a b 0 (a.2.2.1.1.length:Int)) fun (l,m)=> some (l,m)) else (aF (jS a.2.2.1.1 a.2.2.1.2 b e) fun (n,o,p)=>(bif p then (aF (qV a n o) fun (q,r)=> some (q,r)) else (bif (!(decide (a.2.2.2.2.1=0))) then (aF (cR a) fun (s,t)=> some (s,t)) else (bif decide (b=120) then (aF (eI a 100 a.2.2.1.2 (min (W (a.2.2.1.2+e)) (a.2.2.1.1.length:Int))) fun (u,v)=> some (u,v)) else (bif decide (b=88) then (aF (eI a 100 (max (W (a.2.2.1.2 - e)) 0) a.2.2.1.2) fun (w,x)=> some (w,x)) else (bif decide (b=68) then (aF (eI a 100 a.2.2.1.2 (a.2.2.1.1.length:Int)) fun (y,z)=> some (y,z)) else (bif decide (b=67) then (aF (eI a 99 a.2.2.1.2 (a.2.2.1.1.length:Int)) fun (A,B)=> some (A,B)) else (bif decide (b=115) then (aF (eI a 99 a.2.2.1.2 (min (W (a.2.2.1.2+e)) (a.2.2.1.1.length:Int))) fun (C,D)=> some (C,D)) else (bif decide (b=83) then (aF (eI a 99 0 (a.2.2.1.1.length:Int)) fun (F,G)=> some (F,G)) else (bif decide (b=114) then (aF (cK a) fun c=> some ((c.1,c.2.1,c.2.2.1,c.2.2.2.1,c.2.2.2.2.1,c.2.2.2.2.2.1,114,c.2.2.2.2.2.2.2.1,c.2.2.2.2.2.2.2.2.1,c.2.2.2.2.2.2.2.2.2.1,c.2.2.2.2.2.2.2.2.2.2.1,c.2.2.2.2.2.2.2.2.2.2.2.1,c.2.2.2.2.2.2.2.2.2.2.2.2.1,c.2.2.2.2.2.2.2.2.2.2.2.2.2.1,c.2.2.2.2.2.2.2.2.2.2.2.2.2.2.1,c.2.2.2.2.2.2.2.2.2.2.2.2.2.2.2.1,c.2.2.2.2.2.2.2.2.2.2.2.2.2.2.2.2),0)) else (bif decide (b=112) then (aF (rU a (min (W (a.2.2.1.2+1)) (a.2.2.1.1.length:Int)) e) fun (H,J)=> some (H,J)) else (bif decide (b=80) then (aF (rU a a.2.2.1.2 e) fun (K,L)=> some (K,L)) else (bif decide (b=126) then (aF (pB a e) fun (M,N)=> some (M,N)) else (bif decide (b=117) then (aF (uK a) fun (O,P)=> some (O,P)) else (aT (fun (Q:Bool)=>(bif Q then (aF (mU a f (-1)) fun (R,S)=> some (R,S)) else (aT (fun (T:Bool)=>(bif T then (aF (mU a f 1) fun (U,X)=> some (U,X)) else (bif decide (b=47) then (aF (sQ a) fun (d,Y)=> some ((d.1,d.2.1,d.2.2.1,d.2.2.2.1,d.2.2.2.2.1,d.2.2.2.2.2.1,d.2.2.2.2.2.2.1,d.2.2.2.2.2.2.2.1,d.2.2.2.2.2.2.2.2.1,d.2.2.2.2.2.2.2.2.2.1,d.2.2.2.2.2.2.2.2.2.2.1,d.2.2.2.2.2.2.2.2.2.2.2.1,d.2.2.2.2.2.2.2.2.2.2.2.2.1,d.2.2.2.2.2.2.2.2.2.2.2.2.2.1,[],d.2.2.2.2.2.2.2.2.2.2.2.2.2.2.2.1,d.2.2.2.2.2.2.2.2.2.2.2.2.2.2.2.2),Y)) else (aF (uN a b) fun (Z,a0)=> some (Z,a0))))) fun g=>(bif decide (b=106) then g (decide (b=106)) else g (decide (b=43)))))) fun h=>(bif decide (b=107) then h (decide (b=107)) else h (decide (b=45)))))))))))))))))))))

theorem aGg (a:EdQ) (d:Int×List (List UInt8)) (c:Int) (e:Int) (b:P6) (f:Option Addr) (g:Nat) (r:EdQ×Int) (h:qW a d c e=some r):
 FC Tryz.prog 125 [.agg (aG a b).toArray,.agg #[I d.1,sL f d.2 g],I c,I e] (cH a b [⟨.str,⟨f,d.2.length,g⟩,d.2⟩]) (fun _:P6=>True) (fun q=>.tuple #[.agg (aG r.1 q).toArray,I r.2]) (fun q=>(cH r.1 q [])):= by
 refine FC.of (T:=TTx) Tryz.call125 Tryz.func125 E E fun w0=>?_
 unfold qW at h
 refine aS aA 4 [] [8,9,10] [(4,.bp 8 0),(5,.bp 9 0),(8,.bp 10 0)] (.new 8 46 (aG a b) (.new 9 50 [I d.1,sL f d.2 g] (.new 10 46 bG .nil))) ⟨(Es E),(Bs E E)⟩ E E (JS.seq (eZ E (by kernel_rfl) (eC aA 13 [] [(10,.v (sL b.1 a.2.2.1.1 b.2.1)),(11,.v (I a.2.2.1.2)),(12,.v (I (a.2.2.1.1.length:Int)))] E (Es E) (kW E (JS.seq (JS.seq (JS.region (aB aA 3 [] [] [(31,.v (.agg (aG a b).toArray)),(32,.v (I c)),(33,.v (I e))] _ E ⟨(Es E),E⟩ ?_))))))))
 obtain ⟨⟨n,o,p⟩,a0,h⟩:=aD h
 refine JO.call E E E E (aKv a c e b _ a0) E [0,1,2,3,4,5] E E fun k _=>aL aA 8 [] [33] [(13,.bp 33 0),(14,.v (I o)),(15,.v (.bool p))] (.new 8 46 (aG a b) (.new 9 50 [I d.1,sL f d.2 g] (.new 10 46 bG (.new 33 46 (aG n k) .nil)))) E ⟨(Es E),(Bs E E)⟩ (aC E (aE aA 1 [(38,.v (.bool p))] ev1 E E ?_))
 refine aJ E h (fun h=>?_) (fun h=>?_)
 ·
  refine aS aA 4 [] [] [(9,.v (I o))] (.new 10 46 (aG n k) .nil) ⟨ev2,(Bs E E)⟩ E E ?_
  cases h
  exact JS.ret aA k V E E [0,0,0,0,0,0] E
 refine JS.skip (JS.seq (aE aA 9 [(49,.v (.bool (bif (!(decide ((Q4 a).1=0))) then (decide (c=(Q4 a).1)) else false)))] ev1 E E ?_))
 refine aJ E h (fun h=>?_) (fun h=>?_)
 ·
  refine JS.seq (JS.region (aB aA 3 [] [] [(50,.v (.agg (aG a b).toArray)),(51,.v (I c)),(52,.v (I (a.2.2.1.1.length:Int)))] _ E ⟨(Es E),E⟩ ?_))
  obtain ⟨⟨a1,a2⟩,a3,h⟩:=aD h
  refine JO.call E E E E (hX a c 0 (a.2.2.1.1.length:Int) b _ a3) E [0,1,2,3,4,5] E E fun s _=>aL aA 4 [] [] [(9,.v (I a2))] (.new 10 46 (aG a1 s) .nil) E ⟨ev2,(Bs E E)⟩ (aC E ?_)
  cases h
  exact JS.ret aA s V E E [0,0,0,0,0,0] E
 refine JS.skip (JS.seq (JS.seq (JS.region (aB aA 4 [] [] [(57,.v (sL b.1 a.2.2.1.1 b.2.1)),(58,.v (I a.2.2.1.2)),(59,.v (I c)),(60,.v (I e))] _ E ⟨(Es E),E⟩ ?_))))
 obtain ⟨⟨l,m,t⟩,a4,h⟩:=aD h
 refine JO.call E E E E (tG a.2.2.1.1 a.2.2.1.2 c e b.1 b.2.1 _ a4) E [0] E E fun _ _=>aB aA 7 [] [] [(16,.v (I l)),(17,.v (.bool m)),(18,.v (.bool t))] _ E ⟨(Es E),E⟩ (aC E (aE aA 1 [(65,.v (.bool t))] ev1 E E ?_))
 refine aJ E h (fun h=>?_) (fun h=>?_)
 ·
  refine JS.seq (JS.region (aB aA 3 [] [] [(66,.v (.agg (aG a b).toArray)),(67,.v (I l)),(68,.v (.bool m))] _ E ⟨(Es E),E⟩ ?_))
  obtain ⟨⟨a5,a6⟩,a7,h⟩:=aD h
  refine JO.call E E E E (aA3 a l m b _ a7) E [0,1,2,3,4,5] E E fun u _=>aL aA 4 [] [] [(9,.v (I a6))] (.new 10 46 (aG a5 u) .nil) E ⟨ev2,(Bs E E)⟩ (aC E ?_)
  cases h
  exact JS.ret aA u V E E [0,0,0,0,0,0] E
 refine JS.skip (JS.seq (aE aA 3 [(74,.v (.bool (!(decide ((Q4 a).1=0)))))] ev1 E E ?_))
 refine aJ E h (fun h=>?_) (fun h=>?_)
 ·
  refine JS.seq (JS.region (aB aA 1 [] [] [(75,.v (.agg (aG a b).toArray))] _ E ev1 ?_))
  obtain ⟨⟨a8,a9⟩,b0,h⟩:=aD h
  refine JO.call E E E E (cX a b _ b0) E [0,1,2,3,4,5] E E fun w _=>aL aA 4 [] [] [(9,.v (I a9))] (.new 10 46 (aG a8 w) .nil) E ⟨ev2,(Bs E E)⟩ (aC E ?_)
  cases h
  exact JS.ret aA w V E E [0,0,0,0,0,0] E
 refine JS.skip (JS.seq (aE aA 1 [(79,.v (I c))] ev1 E E (JS.block (aE aA 2 [(80,.v (.bool (decide (c=120))))] ev1 E E ?_))))
 refine aJ E h (fun h=>?_) (fun h=>?_)
 ·
  refine JS.seq (JS.region (aB aA 7 [(W (a.2.2.1.2+e))] [] [(82,.v (.agg (aG a b).toArray)),(83,.v (I a.2.2.1.2)),(88,.v (I (min (W (a.2.2.1.2+e)) (a.2.2.1.1.length:Int))))] _ E ⟨ev5,(Es E),E⟩ ?_))
  obtain ⟨⟨b1,b2⟩,b3,h⟩:=aD h
  refine JO.call E E E E (hX a 100 a.2.2.1.2 (min (W (a.2.2.1.2+e)) (a.2.2.1.1.length:Int)) b _ b3) E [0,1,2,3,4,5] E E fun x _=>aL aA 4 [] [] [(9,.v (I b2))] (.new 10 46 (aG b1 x) .nil) E ⟨ev2,(Bs E E)⟩ (aC E ?_)
  cases h
  exact JS.ret aA x V E E [0,0,0,0,0,0] E
 refine aE aA 2 [(92,.v (.bool (decide (c=88))))] ev1 E E ?_
 refine aJ E h (fun h=>?_) (fun h=>?_)
 ·
  refine JS.seq (JS.region (aB aA 6 [(W (a.2.2.1.2 - e))] [] [(94,.v (.agg (aG a b).toArray)),(98,.v (I (max (W (a.2.2.1.2 - e)) 0))),(99,.v (I a.2.2.1.2))] _ E ⟨ev5,(Es E),E⟩ ?_))
  obtain ⟨⟨b4,b5⟩,b6,h⟩:=aD h
  refine JO.call E E E E (hX a 100 (max (W (a.2.2.1.2 - e)) 0) a.2.2.1.2 b _ b6) E [0,1,2,3,4,5] E E fun y _=>aL aA 4 [] [] [(9,.v (I b5))] (.new 10 46 (aG b4 y) .nil) E ⟨ev2,(Bs E E)⟩ (aC E ?_)
  cases h
  exact JS.ret aA y V E E [0,0,0,0,0,0] E
 refine aE aA 2 [(103,.v (.bool (decide (c=68))))] ev1 E E ?_
 refine aJ E h (fun h=>?_) (fun h=>?_)
 ·
  refine JS.seq (JS.region (aB aA 3 [] [] [(105,.v (.agg (aG a b).toArray)),(106,.v (I a.2.2.1.2)),(107,.v (I (a.2.2.1.1.length:Int)))] _ E ⟨(Es E),E⟩ ?_))
  obtain ⟨⟨b7,b8⟩,b9,h⟩:=aD h
  refine JO.call E E E E (hX a 100 a.2.2.1.2 (a.2.2.1.1.length:Int) b _ b9) E [0,1,2,3,4,5] E E fun A _=>aL aA 4 [] [] [(9,.v (I b8))] (.new 10 46 (aG b7 A) .nil) E ⟨ev2,(Bs E E)⟩ (aC E ?_)
  cases h
  exact JS.ret aA A V E E [0,0,0,0,0,0] E
 refine aE aA 2 [(111,.v (.bool (decide (c=67))))] ev1 E E ?_
 refine aJ E h (fun h=>?_) (fun h=>?_)
 ·
  refine JS.seq (JS.region (aB aA 3 [] [] [(113,.v (.agg (aG a b).toArray)),(114,.v (I a.2.2.1.2)),(115,.v (I (a.2.2.1.1.length:Int)))] _ E ⟨(Es E),E⟩ ?_))
  obtain ⟨⟨c0,c1⟩,c2,h⟩:=aD h
  refine JO.call E E E E (hX a 99 a.2.2.1.2 (a.2.2.1.1.length:Int) b _ c2) E [0,1,2,3,4,5] E E fun B _=>aL aA 4 [] [] [(9,.v (I c1))] (.new 10 46 (aG c0 B) .nil) E ⟨ev2,(Bs E E)⟩ (aC E ?_)
  cases h
  exact JS.ret aA B V E E [0,0,0,0,0,0] E
 refine aE aA 2 [(119,.v (.bool (decide (c=115))))] ev1 E E ?_
 refine aJ E h (fun h=>?_) (fun h=>?_)
 ·
  refine JS.seq (JS.region (aB aA 7 [(W (a.2.2.1.2+e))] [] [(121,.v (.agg (aG a b).toArray)),(122,.v (I a.2.2.1.2)),(127,.v (I (min (W (a.2.2.1.2+e)) (a.2.2.1.1.length:Int))))] _ E ⟨ev5,(Es E),E⟩ ?_))
  obtain ⟨⟨c3,c4⟩,c5,h⟩:=aD h
  refine JO.call E E E E (hX a 99 a.2.2.1.2 (min (W (a.2.2.1.2+e)) (a.2.2.1.1.length:Int)) b _ c5) E [0,1,2,3,4,5] E E fun C _=>aL aA 4 [] [] [(9,.v (I c4))] (.new 10 46 (aG c3 C) .nil) E ⟨ev2,(Bs E E)⟩ (aC E ?_)
  cases h
  exact JS.ret aA C V E E [0,0,0,0,0,0] E
 refine aE aA 2 [(131,.v (.bool (decide (c=83))))] ev1 E E ?_
 refine aJ E h (fun h=>?_) (fun h=>?_)
 ·
  refine JS.seq (JS.region (aB aA 2 [] [] [(133,.v (.agg (aG a b).toArray)),(134,.v (I (a.2.2.1.1.length:Int)))] _ E ⟨(Es E),E⟩ ?_))
  obtain ⟨⟨c6,c7⟩,c8,h⟩:=aD h
  refine JO.call E E E E (hX a 99 0 (a.2.2.1.1.length:Int) b _ c8) E [0,1,2,3,4,5] E E fun D _=>aL aA 4 [] [] [(9,.v (I c7))] (.new 10 46 (aG c6 D) .nil) E ⟨ev2,(Bs E E)⟩ (aC E ?_)
  cases h
  exact JS.ret aA D V E E [0,0,0,0,0,0] E
 refine aE aA 2 [(138,.v (.bool (decide (c=114))))] ev1 E E ?_
 refine aJ E h (fun h=>?_) (fun h=>?_)
 ·
  refine JS.seq (JS.region (aB aA 1 [] [] [(140,.v (.agg (aG a b).toArray))] _ E ev1 ?_))
  refine bnw h fun j c9 h=>JO.call E E E E (dK a b _ c9) E [0,1,2,3,4,5] E E fun i _=>aL aA 2 [] [247] [(19,.bp 247 0)] (.new 10 46 bG (.new 247 46 (aG j i) .nil)) E ⟨ev2,(Bs E E)⟩ (aC E (JS.seq (aCl [true,true,true,true,true,true,false,false,false,false,false,false] (cH a b [⟨.str,⟨f,d.2.length,g⟩,d.2⟩]) (cH j i []) E E (tK aA 2 [] [] [] (.new 10 46 bG (.new 247 46 (aG (U6 j 114) i) .nil)) ⟨V,(Bs E E)⟩ E E (aS aA 3 [] [] [(9,.v (I 0))] (.new 10 46 (aG (U6 j 114) i) .nil) ⟨ev2,(Bs E E)⟩ E E ?_)))))
  cases h
  exact JS.ret aA i V E E [0,0,0,0,0,0] E
 refine aE aA 2 [(144,.v (.bool (decide (c=112))))] ev1 E E ?_
 refine aJ E h (fun h=>?_) (fun h=>?_)
 ·
  refine JS.seq (JS.region (aB aA 6 [(W (a.2.2.1.2+1))] [] [(146,.v (.agg (aG a b).toArray)),(150,.v (I (min (W (a.2.2.1.2+1)) (a.2.2.1.1.length:Int)))),(151,.v (I e))] _ E ⟨ev5,(Es E),E⟩ ?_))
  obtain ⟨⟨d0,d1⟩,d2,h⟩:=aD h
  refine JO.call E E E E (aDc a (min (W (a.2.2.1.2+1)) (a.2.2.1.1.length:Int)) e b _ d2) E [0,1,2,3,4,5] E E fun F _=>aL aA 4 [] [] [(9,.v (I d1))] (.new 10 46 (aG d0 F) .nil) E ⟨ev2,(Bs E E)⟩ (aC E ?_)
  cases h
  exact JS.ret aA F V E E [0,0,0,0,0,0] E
 refine aE aA 2 [(155,.v (.bool (decide (c=80))))] ev1 E E ?_
 refine aJ E h (fun h=>?_) (fun h=>?_)
 ·
  refine JS.seq (JS.region (aB aA 3 [] [] [(157,.v (.agg (aG a b).toArray)),(158,.v (I a.2.2.1.2)),(159,.v (I e))] _ E ⟨(Es E),E⟩ ?_))
  obtain ⟨⟨d3,d4⟩,d5,h⟩:=aD h
  refine JO.call E E E E (aDc a a.2.2.1.2 e b _ d5) E [0,1,2,3,4,5] E E fun G _=>aL aA 4 [] [] [(9,.v (I d4))] (.new 10 46 (aG d3 G) .nil) E ⟨ev2,(Bs E E)⟩ (aC E ?_)
  cases h
  exact JS.ret aA G V E E [0,0,0,0,0,0] E
 refine aE aA 2 [(163,.v (.bool (decide (c=126))))] ev1 E E ?_
 refine aJ E h (fun h=>?_) (fun h=>?_)
 ·
  refine JS.seq (JS.region (aB aA 2 [] [] [(165,.v (.agg (aG a b).toArray)),(166,.v (I e))] _ E ⟨(Es E),E⟩ ?_))
  obtain ⟨⟨d6,d7⟩,d8,h⟩:=aD h
  refine JO.call E E E E (aEp a e b _ d8) E [0,1,2,3,4,5] E E fun H _=>aL aA 4 [] [] [(9,.v (I d7))] (.new 10 46 (aG d6 H) .nil) E ⟨ev2,(Bs E E)⟩ (aC E ?_)
  cases h
  exact JS.ret aA H V E E [0,0,0,0,0,0] E
 refine aE aA 2 [(170,.v (.bool (decide (c=117))))] ev1 E E ?_
 refine aJ E h (fun h=>?_) (fun h=>?_)
 ·
  refine JS.seq (JS.region (aB aA 1 [] [] [(172,.v (.agg (aG a b).toArray))] _ E ev1 ?_))
  obtain ⟨⟨d9,e0⟩,e1,h⟩:=aD h
  refine JO.call E E E E (aFb a b _ e1) E [0,1,2,3,4,5] E E fun J _=>aL aA 4 [] [] [(9,.v (I e0))] (.new 10 46 (aG d9 J) .nil) E ⟨ev2,(Bs E E)⟩ (aC E ?_)
  cases h
  exact JS.ret aA J V E E [0,0,0,0,0,0] E
 obtain ⟨e2,e3,h⟩:=aM h
 refine cJ (ι:=Bool) ⟨fun z=>e2 z=some r,fun z=>[(2,.v (I c)),(4,.bp 8 0),(5,.bp 9 0),(8,.bp 10 0),(79,.v (I c)),(176,.v (.bool z))],fun z=>(.new 8 46 (aG a b) (.new 9 50 [I d.1,sL f d.2 g] (.new 10 46 bG .nil))),fun z=>(cH a b [⟨.str,⟨f,d.2.length,g⟩,d.2⟩]),fun z=>[],fun z=>0⟩ ?_ ?_
 ·
  refine aE aA 2 [(176,.v (.bool (decide (c=107))))] ev1 E E ?_
  refine aJ E h (fun h=>?_) (fun h=>?_)
  ·
   refine JS.skip (aO (decide (c=107)) h (Es E) (Bs E E) [0,1,2,3,4,5,6] E [] E)
  refine lT aA 2 [(176,.v (.bool (decide (c=45))))] ev1 E E (aO (decide (c=45)) h (Es E) (Bs E E) [0,1,2,3,4,5,6] E [] E)
 rintro f9 h
 subst e3
 refine aJ E h (fun h=>?_) (fun h=>?_)
 ·
  refine JS.seq (JS.region (aB aA 2 [] [] [(179,.v (.agg (aG a b).toArray)),(180,.v (.agg #[I d.1,sL f d.2 g]))] _ E ⟨(Es E),E⟩ ?_))
  obtain ⟨⟨e4,e5⟩,e6,h⟩:=aD h
  refine JO.call E E E E (rR a d (-1) b f g _ e6) E [0,1,2,3,4,5,6] E E fun K _=>aL aA 4 [] [] [(9,.v (I e5))] (.new 10 46 (aG e4 K) .nil) E ⟨ev2,(Bs E E)⟩ (aC E ?_)
  cases h
  exact JS.ret aA K V E E [0,0,0,0,0,0] E
 obtain ⟨e7,e8,h⟩:=aM h
 refine cJ (ι:=Bool) ⟨fun z=>e7 z=some r,fun z=>[(2,.v (I c)),(4,.bp 8 0),(5,.bp 9 0),(8,.bp 10 0),(79,.v (I c)),(184,.v (.bool z))],fun z=>(.new 8 46 (aG a b) (.new 9 50 [I d.1,sL f d.2 g] (.new 10 46 bG .nil))),fun z=>(cH a b [⟨.str,⟨f,d.2.length,g⟩,d.2⟩]),fun z=>[],fun z=>0⟩ ?_ ?_
 ·
  refine aE aA 2 [(184,.v (.bool (decide (c=106))))] ev1 E E ?_
  refine aJ E h (fun h=>?_) (fun h=>?_)
  ·
   refine JS.skip (aO (decide (c=106)) h (Es E) (Bs E E) [0,1,2,3,4,5,6] E [] E)
  refine lT aA 2 [(184,.v (.bool (decide (c=43))))] ev1 E E (aO (decide (c=43)) h (Es E) (Bs E E) [0,1,2,3,4,5,6] E [] E)
 rintro g0 h
 subst e8
 refine aJ E h (fun h=>?_) (fun h=>?_)
 ·
  refine JS.seq (JS.region (aB aA 2 [] [] [(187,.v (.agg (aG a b).toArray)),(188,.v (.agg #[I d.1,sL f d.2 g]))] _ E ⟨(Es E),E⟩ ?_))
  obtain ⟨⟨e9,f0⟩,f1,h⟩:=aD h
  refine JO.call E E E E (rR a d 1 b f g _ f1) E [0,1,2,3,4,5,6] E E fun L _=>aL aA 4 [] [] [(9,.v (I f0))] (.new 10 46 (aG e9 L) .nil) E ⟨ev2,(Bs E E)⟩ (aC E ?_)
  cases h
  exact JS.ret aA L V E E [0,0,0,0,0,0] E
 refine aE aA 2 [(192,.v (.bool (decide (c=47))))] ev1 E E ?_
 refine aJ E h (fun h=>?_) (fun h=>?_)
 ·
  refine JS.seq (JS.region (aB aA 1 [] [] [(194,.v (.agg (aG a b).toArray))] _ E ev1 ?_))
  obtain ⟨⟨f2,f3⟩,f4,h⟩:=aD h
  refine JO.call E E E E (aA2 a b _ f4) E [0,1,2,3,4,5] E E ?_
  rintro ⟨M,N,O,P,Q,R,S,U,X,Y⟩ -
  refine aL aA 4 [] [] [(9,.v (I f3))] (.new 10 46 (aG (U14 f2 []) (M,N,O,P,Q,R,S,U,none,0,X,Y)) .nil) E ⟨ev2,(Bs E E)⟩ (aC E ?_)
  cases h
  refine aX iT Sl.nil E E (JS.ret aA (M,N,O,P,Q,R,S,U,none,0,X,Y) V E E [1,1,1,1,0,0] E)
 refine JS.skip (aV (JS.seq (JS.region (aB aA 2 [] [] [(198,.v (.agg (aG a b).toArray)),(199,.v (I c))] _ E ⟨(Es E),E⟩ ?_))))
 obtain ⟨⟨f5,f6⟩,f7,h⟩:=aD h
 refine JO.call E E E E (aKw a c b _ f7) E [0,1,2,3,4,5] E E fun Z _=>aL aA 4 [] [] [(9,.v (I f6))] (.new 10 46 (aG f5 Z) .nil) E ⟨ev2,(Bs E E)⟩ (aC E ?_)
 cases h
 exact JS.ret aA Z V E E [0,0,0,0,0,0] E

def uO (a:EdQ) (d:Int×List (List UInt8)) (c:Int×Int):Option (EdQ×Int):= (aF (nW a d c) fun e=>(bif (bif (!e) then true else (bif (!(decide (a.2.1=1))) then (!(decide (a.2.1=2))) else false)) then some ((false,0,([],0),0,0,0,0,0,0,0,[],[],0,([],0),[],0,([],0)),0) else (bif decide (a.2.1=1) then (aF (mC a d c) fun (f,g,h)=>(bif h then some (f,g) else (bif (!(decide (c.1=7))) then (aF (cR a) fun (i,j)=> some (i,j)) else (aF (cK a) fun b=> some ((b.1,2,(b.2.2.1.1,(max (W (b.2.2.1.2 - 1)) 0)),0,b.2.2.2.2.1,b.2.2.2.2.2.1,b.2.2.2.2.2.2.1,b.2.2.2.2.2.2.2.1,b.2.2.2.2.2.2.2.2.1,0,b.2.2.2.2.2.2.2.2.2.2.1,b.2.2.2.2.2.2.2.2.2.2.2.1,b.2.2.2.2.2.2.2.2.2.2.2.2.1,b.2.2.2.2.2.2.2.2.2.2.2.2.2.1,b.2.2.2.2.2.2.2.2.2.2.2.2.2.2.1,b.2.2.2.2.2.2.2.2.2.2.2.2.2.2.2.1,b.2.2.2.2.2.2.2.2.2.2.2.2.2.2.2.2),0))))) else (bif (!(decide (a.2.2.2.2.2.2.1=0))) then (aF (sP a c (min (W ((max a.2.2.2.1 1)*(max a.2.2.2.2.2.1 1))) 999)) fun (k,l)=> some (k,l)) else (bif (!(decide (c.1=1))) then (aF (qU a d c (min (W ((max a.2.2.2.1 1)*(max a.2.2.2.2.2.1 1))) 999)) fun (m,n)=> some (m,n)) else (aF (qW a d c.2 (min (W ((max a.2.2.2.1 1)*(max a.2.2.2.2.2.1 1))) 999)) fun (o,p)=> some (o,p)))))))

theorem aKx (a:EdQ) (c:Int×List (List UInt8)) (b:Int×Int) (d:P6) (e:Option Addr) (f:Nat) (r:EdQ×Int) (h:uO a c b=some r):
 FC Tryz.prog 40 [.agg (aG a d).toArray,.agg #[I c.1,sL e c.2 f],.agg #[I b.1,I b.2]] (cH a d [⟨.str,⟨e,c.2.length,f⟩,c.2⟩]) (fun _:P6=>True) (fun q=>.tuple #[.agg (aG r.1 q).toArray,I r.2]) (fun q=>(cH r.1 q [])):= by
 refine FC.of (T:=TTx) Tryz.call40 Tryz.func40 E E fun M=>?_
 unfold uO at h
 refine aS aA 5 [] [8,9,10,11] [(3,.bp 8 0),(4,.bp 9 0),(5,.bp 10 0),(6,.bp 11 0)] (.new 8 46 (aG a d) (.new 9 50 [I c.1,sL e c.2 f] (.new 10 64 [I b.1,I b.2] (.new 11 46 bG .nil)))) ⟨(Es E),(Bs E E)⟩ E E (JS.seq (JS.seq (JS.region (aB aA 3 [] [] [(13,.v (.agg (aG a d).toArray)),(14,.v (.agg #[I c.1,sL e c.2 f])),(15,.v (.agg #[I b.1,I b.2]))] _ E ⟨(Es E),E⟩ ?_))))
 refine bnw h fun t u h=>JO.call E E E E (wJ a c b d e f _ u) E [0,1,2,3,4,5,6] E E fun _ _=>aB aA 11 [] [] [(27,.v (.bool (bif (!t) then true else (bif (!(decide (a.2.1=1))) then (!(decide (a.2.1=2))) else false))))] _ E ev1 (aC E ?_)
 refine aJ E h (fun h=>?_) (fun h=>?_)
 ·
  refine aS aA 3 [] [] [(7,.v (I 0))] (.new 11 46 bG .nil) ⟨ev2,(Bs E E)⟩ E E ?_
  cases h
  refine aX iT Sl.nil E E (aX (.sl iT) Sl.nil E E (aX (.pair (.sl iT) iT) Sl.nil E E (aX iT Sl.nil E E (aX iT Sl.nil E E (aX iT Sl.nil E E (JS.ret aA (none,0,none,0,none,0,none,0,none,0,none,0) V E E [5,4,3,2,1,0] E))))))
 refine JS.skip (JS.seq (aE aA 3 [(31,.v (.bool (decide (a.2.1=1))))] ev1 E E ?_))
 refine aJ E h (fun h=>?_) (fun h=>?_)
 ·
  refine JS.seq (JS.seq (JS.region (aB aA 3 [] [] [(33,.v (.agg (aG a d).toArray)),(34,.v (.agg #[I c.1,sL e c.2 f])),(35,.v (.agg #[I b.1,I b.2]))] _ E ⟨(Es E),E⟩ ?_)))
  obtain ⟨⟨k,l,m⟩,w,h⟩:=aD h
  refine JO.call E E E E (yS a c b d e f _ w) E [0,1,2,3,4,5,6] E E fun j _=>aL aA 8 [] [36] [(8,.bp 36 0),(9,.v (I l)),(10,.v (.bool m))] (.new 8 46 (aG a d) (.new 10 64 [I b.1,I b.2] (.new 11 46 bG (.new 36 46 (aG k j) .nil)))) E ⟨(Es E),(Bs E E)⟩ (aC E (aE aA 1 [(40,.v (.bool m))] ev1 E E ?_))
  refine aJ E h (fun h=>?_) (fun h=>?_)
  ·
   refine aS aA 4 [] [] [(7,.v (I l))] (.new 11 46 (aG k j) .nil) ⟨ev2,(Bs E E)⟩ E E ?_
   cases h
   exact JS.ret aA j V E E [0,0,0,0,0,0] E
  refine JS.skip (JS.seq (aE aA 3 [(45,.v (.bool (!(decide (b.1=7)))))] ev1 E E ?_))
  refine aJ E h (fun h=>?_) (fun h=>?_)
  ·
   refine JS.seq (JS.region (aB aA 1 [] [] [(46,.v (.agg (aG a d).toArray))] _ E ev1 ?_))
   obtain ⟨⟨x,y⟩,z,h⟩:=aD h
   refine JO.call E E E E (cX a d _ z) E [0,1,2,3,4,5] E E fun n _=>aL aA 4 [] [] [(7,.v (I y))] (.new 11 46 (aG x n) .nil) E ⟨ev2,(Bs E E)⟩ (aC E ?_)
   cases h
   exact JS.ret aA n V E E [0,0,0,0,0,0] E
  refine JS.skip (JS.seq (JS.region (aB aA 1 [] [] [(50,.v (.agg (aG a d).toArray))] _ E ev1 ?_)))
  refine bnw h fun g A h=>JO.call E E E E (dK a d _ A) E [0,1,2,3,4,5] E E fun i _=>aL aA 2 [] [78] [(11,.bp 78 0)] (.new 11 46 bG (.new 78 46 (aG g i) .nil)) E ⟨ev2,(Bs E E)⟩ (aC E (JS.seq (aCl [true,true,true,true,true,true,false,false,false,false,false,false] (cH a d [⟨.str,⟨e,c.2.length,f⟩,c.2⟩]) (cH g i []) E E (tK aA 6 [] [] [] (.new 11 46 bG (.new 78 46 (aG (U9 (U3 (U1 g 2) 0) 0) i) .nil)) ⟨V,(Bs E E)⟩ E E (aS aA 8 [(W (g.2.2.1.2 - 1))] [] [] (.new 11 46 bG (.new 78 46 (aG (U9 (U3 (U2 (U1 g 2) (g.2.2.1.1,(max (W (g.2.2.1.2 - 1)) 0))) 0) 0) i) .nil)) ⟨ev5,V,(Bs E E)⟩ E E (aS aA 3 [] [] [(7,.v (I 0))] (.new 11 46 (aG (U9 (U3 (U2 (U1 g 2) (g.2.2.1.1,(max (W (g.2.2.1.2 - 1)) 0))) 0) 0) i) .nil) ⟨ev2,(Bs E E)⟩ E E ?_))))))
  cases h
  exact JS.ret aA i V E E [0,0,0,0,0,0] E
 refine JS.skip (gI aA 9 [(W ((max a.2.2.2.1 1)*(max (Q4 a).2.1 1)))] [] [(12,.v (I (min (W ((max a.2.2.2.1 1)*(max (Q4 a).2.1 1))) 999)))] _ ev4 E E (JS.seq (JS.block (aE aA 4 [(71,.v (.bool (!(decide ((Q4 a).2.2.1=0)))))] ev1 E E ?_))))
 refine aJ E h (fun h=>?_) (fun h=>?_)
 ·
  refine JS.seq (JS.region (aB aA 3 [] [] [(75,.v (.agg (aG a d).toArray)),(76,.v (.agg #[I b.1,I b.2])),(77,.v (I (min (W ((max a.2.2.2.1 1)*(max (Q4 a).2.1 1))) 999)))] _ E ⟨(Es E),E⟩ ?_))
  obtain ⟨⟨B,C⟩,D,h⟩:=aD h
  refine JO.call E E E E (aIc a b (min (W ((max a.2.2.2.1 1)*(max (Q4 a).2.1 1))) 999) d _ D) E [0,1,2,3,4,5] E E fun o _=>aL aA 4 [] [] [(7,.v (I C))] (.new 11 46 (aG B o) .nil) E ⟨ev2,(Bs E E)⟩ (aC E ?_)
  cases h
  exact JS.ret aA o V E E [0,0,0,0,0,0] E
 refine aE aA 4 [(81,.v (.bool (!(decide (b.1=1)))))] ev1 E E ?_
 refine aJ E h (fun h=>?_) (fun h=>?_)
 ·
  refine JS.seq (JS.region (aB aA 4 [] [] [(85,.v (.agg (aG a d).toArray)),(86,.v (.agg #[I c.1,sL e c.2 f])),(87,.v (.agg #[I b.1,I b.2])),(88,.v (I (min (W ((max a.2.2.2.1 1)*(max (Q4 a).2.1 1))) 999)))] _ E ⟨(Es E),E⟩ ?_))
  obtain ⟨⟨F,G⟩,H,h⟩:=aD h
  refine JO.call E E E E (aGf a c b (min (W ((max a.2.2.2.1 1)*(max (Q4 a).2.1 1))) 999) d e f _ H) E [0,1,2,3,4,5,6] E E fun p _=>aL aA 4 [] [] [(7,.v (I G))] (.new 11 46 (aG F p) .nil) E ⟨ev2,(Bs E E)⟩ (aC E ?_)
  cases h
  exact JS.ret aA p V E E [0,0,0,0,0,0] E
 refine JS.skip (aV (JS.seq (JS.region (aB aA 5 [] [] [(92,.v (.agg (aG a d).toArray)),(93,.v (.agg #[I c.1,sL e c.2 f])),(95,.v (I b.2)),(96,.v (I (min (W ((max a.2.2.2.1 1)*(max (Q4 a).2.1 1))) 999)))] _ E ⟨(Es E),E⟩ ?_))))
 obtain ⟨⟨J,K⟩,L,h⟩:=aD h
 refine JO.call E E E E (aGg a c b.2 (min (W ((max a.2.2.2.1 1)*(max (Q4 a).2.1 1))) 999) d e f _ L) E [0,1,2,3,4,5,6] E E fun s _=>aL aA 4 [] [] [(7,.v (I K))] (.new 11 46 (aG J s) .nil) E ⟨ev2,(Bs E E)⟩ (aC E ?_)
 cases h
 exact JS.ret aA s V E E [0,0,0,0,0,0] E

def uQ (a:EdQ) (b:Int×List (List UInt8)) (c:Int×Int):Option (EdQ×Int):= (bif decide (a.2.1=0) then (aF (pI a b c) fun (d,e)=> some (d,e)) else (bif decide (a.2.1=3) then (aF (nD a b c) fun (f,g)=> some (f,g)) else (aF (uO a b c) fun (h,i)=> some (h,i))))

theorem aKz (c:EdQ) (a:Int×List (List UInt8)) (b:Int×Int) (d:P6) (e:Option Addr) (f:Nat) (g:Int) (r:EdQ×Int) (h:uQ c a b=some r):
 FC Tryz.prog 36 [.agg (aG c d).toArray,.agg #[I a.1,sL e a.2 f],.agg #[I b.1,I b.2]] (cH c d [⟨.str,⟨e,a.2.length,f⟩,a.2⟩,⟨iT,⟨(some ⟨0,0,none⟩),1,1⟩,[g]⟩]) (fun _:P6=>True) (fun q=>.tuple #[.agg (aG r.1 q).toArray,I r.2]) (fun q=>(cH r.1 q [])):= by
 refine FC.of (T:=TTx) Tryz.call36 Tryz.func36 E E fun x=>?_
 unfold uQ at h
 refine aS aA 5 [] [9,10,11,12] [(3,.bp 9 0),(4,.bp 10 0),(5,.bp 11 0),(6,.bp 12 0)] (.new 9 46 (aG c d) (.new 10 50 [I a.1,sL e a.2 f] (.new 11 64 [I b.1,I b.2] (.new 12 46 bG .nil)))) ⟨(Es E),(Bs E E)⟩ E E (JS.seq (aE aA 2 [(9,.v (I c.2.1))] ev1 E E (JS.block (aE aA 2 [(10,.v (.bool (decide (c.2.1=0))))] ev1 E E ?_))))
 refine aJ E h (fun h=>?_) (fun h=>?_)
 ·
  refine JS.seq (JS.region (aB aA 3 [] [] [(12,.v (.agg (aG c d).toArray)),(13,.v (.agg #[I a.1,sL e a.2 f])),(14,.v (.agg #[I b.1,I b.2]))] _ E ⟨(Es E),E⟩ ?_))
  obtain ⟨⟨l,m⟩,n,h⟩:=aD h
  refine JO.call E E E E (aEx c a b d e f _ n) E [0,1,2,3,4,5,6] E E fun i _=>aL aA 4 [] [] [(7,.v (I m))] (.new 12 46 (aG l i) .nil) E ⟨ev2,(Bs E E)⟩ (aC E ?_)
  cases h
  exact JS.ret aA i V E E [0,0,0,0,0,0] E
 refine aE aA 2 [(18,.v (.bool (decide (c.2.1=3))))] ev1 E E ?_
 refine aJ E h (fun h=>?_) (fun h=>?_)
 ·
  refine JS.seq (JS.region (aB aA 3 [] [] [(20,.v (.agg (aG c d).toArray)),(21,.v (.agg #[I a.1,sL e a.2 f])),(22,.v (.agg #[I b.1,I b.2]))] _ E ⟨(Es E),E⟩ ?_))
  obtain ⟨⟨o,p⟩,s,h⟩:=aD h
  refine JO.call E E E E (aDi c a b d e f g _ s) E [0,1,2,3,4,5,6,7] E E fun j _=>aL aA 4 [] [] [(7,.v (I p))] (.new 12 46 (aG o j) .nil) E ⟨ev2,(Bs E E)⟩ (aC E ?_)
  cases h
  exact JS.ret aA j V E E [0,0,0,0,0,0] E
 refine JS.skip (aV (JS.seq (JS.region (aB aA 3 [] [] [(26,.v (.agg (aG c d).toArray)),(27,.v (.agg #[I a.1,sL e a.2 f])),(28,.v (.agg #[I b.1,I b.2]))] _ E ⟨(Es E),E⟩ ?_))))
 obtain ⟨⟨t,u⟩,w,h⟩:=aD h
 refine JO.call E E E E (aKx c a b d e f _ w) E [0,1,2,3,4,5,6] E E fun k _=>aL aA 4 [] [] [(7,.v (I u))] (.new 12 46 (aG t k) .nil) E ⟨ev2,(Bs E E)⟩ (aC E ?_)
 cases h
 exact JS.ret aA k V E E [0,0,0,0,0,0] E

def jZ (b:List Int) (c:List Int) (d:Unit→Option Bool) (e:Int→Option Bool):Int→Option Bool:=fun a=>(bif decide (a<(b.length:Int)) then (aN (0≤a∧a<(b.length:Int)) <|(aN (0≤a∧a<(c.length:Int)) <|(bif (!(decide ((at' b a)=(at' c a)))) then some false else e (W (a+1))))) else d ())

def oZ (a:List Int) (b:List Int):Option Bool:= (bif (!(decide ((a.length:Int)=(b.length:Int)))) then some false else (aT (fun (_:Unit)=> some true) fun c=>(aZ (jZ a b c) bO 0)))

theorem aEn (a:List Int) (c:List Int) (d:Option Addr) (e:Nat) (f:Option Addr) (g:Nat) (r:Bool) (h:oZ a c=some r):
 FC Tryz.prog 33 [sL d a e,sL f c g] [fI d e a,fI f g c] (fun _:Unit=>True) (fun _=>.bool r) (fun _=>[]):= by
 refine FC.of (T:=TTx) Tryz.call33 Tryz.func33 E E fun p=>?_
 unfold oZ at h
 refine aE aA 1 [] ev5 E E (JS.seq (aE aA 5 [(10,.v (.bool (!(decide ((a.length:Int)=(c.length:Int))))))] ev1 E E ?_))
 refine aJ E h (fun h=>?_) (fun h=>?_)
 ·
  refine aE aA 1 [(4,.v (.bool false))] ev1 E E ?_
  cases h
  exact JS.ret aA () V E E [] E
 refine JS.skip (JS.seq (aE aA 3 [(12,.v (I (a.length:Int))),(13,.v (I 0))] ⟨(Es E),E⟩ E E ?_))
 obtain ⟨i,m,h⟩:=aM h
 refine bA (ι:=Unit) ⟨fun _=>i ()=some r,fun _=>[],fun _=>.nil,fun _=>[],fun _=>[],fun _=>0⟩ ?_ ?_
 ·
  refine JS.loop (ι:=Nat×Int) ⟨fun z=>aZ (jZ a c i) z.1 z.2=some r,fun z=>[(0,.v (sL d a e)),(1,.v (sL f c g)),(12,.v (I (a.length:Int))),(13,.v (I z.2))],fun z=>.nil,fun z=>[fI d e a,fI f g c],fun z=>[],fun z=>z.1⟩ (bO,0) h (Es E) V [0,1] E [] E ?_
  rintro ⟨j,b⟩ h
  obtain ⟨j,rfl,h⟩:=bK h
  rw [jZ] at h
  refine aE aA 1 [(14,.v (.bool (decide (b<(a.length:Int)))))] ev1 E E (JS.seq ?_)
  refine aJ E h (fun h=>?_) (fun h=>?_)
  ·
   refine JS.skip (JS.seq (JS.block (aE aA 2 [(5,.v (I b))] ev1 E E (JS.seq ?_))))
   obtain ⟨k,h⟩:=aH h
   obtain ⟨l,h⟩:=aH h
   refine iK 0 E fun n=>iK 1 E fun o=>eZ E (by kernel_rfl) (eC aA 3 [] [(18,.ep ⟨d,a.length,e⟩ (Int.toNat b*1))] E ⟨n.ix k,ev2⟩ (JQ.load aA E E E E E E E 0 E E (Int.toNat b) 0 (at' a b) ⟨bH k,E⟩ E E (eC aA 3 [] [(22,.ep ⟨f,c.length,g⟩ (Int.toNat b*1))] E ⟨o.ix l,ev2⟩ (JQ.load aA E E E E E E E 1 E E (Int.toNat b) 0 (at' c b) ⟨bH l,E⟩ E E (eC aA 1 [] [(24,.v (.bool (!(decide ((at' a b)=(at' c b))))))] E ev2 (kW E ?_))))))
   refine aJ E h (fun h=>?_) (fun h=>?_)
   ·
    refine aE aA 1 [(4,.v (.bool false))] ev1 E E ?_
    cases h
    exact JS.ret aA () V E E [] E
   refine JS.skip (aV (cS aA 2 [(W (b+1))] [] [(13,.v (I (W (b+1))))] _ ev4 E E (bZ (j,(W (b+1))) h (Nat.lt_succ_self _) (Es E) V [0,1] E [] E)))
  refine JS.exit E (aO () h V V [] E [] E)
 rintro _ h
 subst m
 refine aE aA 1 [(4,.v (.bool true))] ev1 E E ?_
 cases h
 exact JS.ret aA () V E E [] E

def vH (c:List UInt8):Option Bool:= (bif decide (1048576<(c.length:Int)) then some true else (aF (mR c) fun (a,e,f)=>(aF (uQ a e f) fun (b,g)=>(bif (bif (!(decide (g=1))) then true else (decide (a.2.1=3))) then (aF (lS b) fun h=> some h) else (aF (lS b) fun d=>(cA (d=true) (oZ b.2.2.1.1 a.2.2.1.1) false fun i=> some (bif (bif (bif (bif (bif (bif d then i else false) then (decide (b.2.2.1.2=a.2.2.1.2)) else false) then (decide ((b.2.2.2.2.2.2.2.2.2.2.1.length:Int)=(a.2.2.2.2.2.2.2.2.2.2.1.length:Int))) else false) then (decide ((b.2.2.2.2.2.2.2.2.2.2.2.1.length:Int)=(a.2.2.2.2.2.2.2.2.2.2.2.1.length:Int))) else false) then (decide (b.2.2.2.2.2.2.2.2.2.2.2.2.1=a.2.2.2.2.2.2.2.2.2.2.2.2.1)) else false) then (decide (b.2.1=a.2.1)) else false)))))))

theorem ok_l_FnBell (d:List UInt8) (g:Option Addr) (i:Nat) (x:Nat) (D:d.length=x) (y:Int) (r:Bool) (h:vH d=some r) :
 FC Tryz.prog 7 [.slice g x i] [⟨.byte,⟨g,x,i⟩,d⟩,⟨iT,⟨(some ⟨0,0,none⟩),1,1⟩,[y]⟩] (fun _:Unit=>True) (fun _=>.bool r) (fun _=>[]):= by
 subst D
 refine FC.of (T:=TTx) Tryz.call7 Tryz.func7 E E fun O=>?_
 unfold vH at h
 refine aE aA 1 [] ev5 E E (JS.seq (aE aA 3 [(10,.v (.bool (decide (1048576<(d.length:Int)))))] ev1 E E ?_))
 refine aJ E h (fun h=>?_) (fun h=>?_)
 ·
  refine aE aA 1 [(2,.v (.bool true))] ev1 E E ?_
  cases h
  exact JS.ret aA () V E E [] E
 refine JS.skip (JS.seq (JS.region (aB aA 1 [] [] [(12,.v (sL g d i))] _ E ev1 ?_)))
 obtain ⟨⟨a,j,k⟩,F,h⟩:=aD h
 refine JO.call E E E E (aC9 d g i _ F) E [0] E E ?_
 rintro ⟨e,f,l,m,n,o,p,q,s,t,u,w,z,A⟩ -
 refine aL aA 10 [] [28,29,30] [(3,.bp 28 0),(4,.bp 29 0),(5,.bp 30 0)] (.new 28 46 (aG a (e,f,l,m,n,o,p,q,s,t,u,w)) (.new 29 50 [I j.1,sL z j.2 A] (.new 30 64 [I k.1,I k.2] .nil))) E ⟨(Es E),(Bs E E)⟩ (aC E (JS.seq (JS.region (aB aA 3 [] [] [(18,.v (.agg (aG a (e,f,l,m,n,o,p,q,s,t,u,w)).toArray)),(19,.v (.agg #[I j.1,sL z j.2 A])),(20,.v (.agg #[I k.1,I k.2]))] _ E ⟨(Es E),E⟩ ?_))))
 obtain ⟨⟨b,B⟩,G,h⟩:=aD h
 refine JO.call E E E E (aKz a j k (e,f,l,m,n,o,p,q,s,t,u,w) z A y _ G) E [2,3,4,5,6,7,8,1] E E fun c _=>aL aA 6 [] [52] [(6,.bp 52 0),(7,.v (I B))] (.new 28 46 (aG a (e,f,l,m,n,o,p,q,s,t,u,w)) (.new 52 46 (aG b c) .nil)) E ⟨(Es E),(Bs E E)⟩ (aC E (JS.seq (JS.seq (aCl [true,true,true,true,true,true,true,true,true,true,true,true,false] [⟨.byte,⟨g,d.length,i⟩,d⟩,⟨iT,⟨(some ⟨0,0,none⟩),1,1⟩,[y]⟩] (cH b c (cH a (e,f,l,m,n,o,p,q,s,t,u,w) [])) E E (lT aA 7 [(30,.v (.bool (bif (!(decide (B=1))) then true else (decide (a.2.1=3)))))] ev1 E E ?_)))))
 refine aJ E h (fun h=>?_) (fun h=>?_)
 ·
  refine JS.seq (JS.region (aB aA 1 [] [] [(31,.v (.agg (aG b c).toArray))] _ E ev1 ?_))
  refine bnw h fun H J h=>JO.call E E E E (tX b c _ J) E [2,3,4,5,6,7] E E fun _ _=>aB aA 1 [] [] [(2,.v (.bool H))] _ E ev1 (aC E ?_)
  cases h
  exact JS.ret aA () V E E [] E
 refine JS.skip (JS.seq (JS.region (aB aA 1 [] [] [(33,.v (.agg (aG b c).toArray))] _ E ev1 ?_)))
 refine bnw h fun C K h=>JO.call E E E E (tX b c _ K) E [2,3,4,5,6,7] E E fun _ _=>aB aA 7 [] [] [(35,.v (.bool C)),(38,.cd [(35,true)] (.v (sL c.1 b.2.2.1.1 c.2.1))),(41,.cd [(35,true)] (.v (sL e a.2.2.1.1 f)))] _ E ⟨(Es E),E⟩ ?_
 obtain ⟨L,M,-,h⟩:=bB h
 refine bR E E E E (fun N=>aEn b.2.2.1.1 a.2.2.1.1 c.1 c.2.1 e f _ (M N)) E [2,8] E E (aB aA 47 [] [] [(2,.v (.bool (bif (bif (bif (bif (bif (bif C then L else false) then (decide (b.2.2.1.2=a.2.2.1.2)) else false) then (decide (((Q8 b).2.2.1.length:Int)=((Q8 a).2.2.1.length:Int))) else false) then (decide (((Q8 b).2.2.2.1.length:Int)=((Q8 a).2.2.2.1.length:Int))) else false) then (decide ((Q12 b).1=(Q12 a).1)) else false) then (decide (b.2.1=a.2.1)) else false)))] _ E ev1 (aC E ?_))
 cases h
 exact JS.ret aA () V E E [] E

end
end Go.Eng
