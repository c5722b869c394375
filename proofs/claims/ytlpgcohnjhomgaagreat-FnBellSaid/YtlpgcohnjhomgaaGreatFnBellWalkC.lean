/- The walks of the functions that FnBell reaches: what each computes, as a plain function (M_..), and that the model computes it (ok_..). Condition of each: that the plain function answers. -/
import Derived.Test.YtlpgcohnjhomgaaGreatFnBellWalkB
set_option linter.unusedVariables false
set_option linter.unusedSimpArgs false
namespace Go.Eng
open Go Go.Proofs
noncomputable section

def mC (a:EdQ) (d:Int×List (List UInt8)) (b:Int×Int):Option (EdQ×Int×Bool):= (aT (fun ((e,f):Int×EdQ)=> some (f,e,true)) fun c=>(bif decide (b.1=1) then (aF (mA ([b.2]:List Int) (max a.2.2.2.1 1)) fun g=>(aF (nT a g 1) fun (h,i)=> c (i,h))) else (bif decide (b.1=6) then (aF (mA ([9]:List Int) (max a.2.2.2.1 1)) fun j=>(aF (nT a j 1) fun (k,l)=> c (l,k))) else (bif decide (b.1=4) then (aF (cK a) fun m=> c (2,m)) else (bif decide (b.1=2) then (aF (mW a b.2) fun (n,o,p)=> some (n,o,p)) else (bif decide (b.1=5) then (aF (vI a (max (W (a.2.2.1.2 - (max a.2.2.2.1 1))) 0) a.2.2.1.2) fun (q,r)=> c (r,q)) else (bif decide (b.1=14) then (aF (vI a a.2.2.1.2 (min (W (a.2.2.1.2+(max a.2.2.2.1 1))) (a.2.2.1.1.length:Int))) fun (s,t)=> c (t,s)) else (bif decide (b.1=11) then (aF (dP a.2.2.1 (W (a.2.2.1.2 - (max a.2.2.2.1 1)))) fun u=>(aF (eX a u) fun (v,w)=> c (w,v))) else (bif decide (b.1=10) then (aF (dP a.2.2.1 (W (a.2.2.1.2+(max a.2.2.2.1 1)))) fun x=>(aF (eX a x) fun (y,z)=> c (z,y))) else (bif decide (b.1=12) then (aF (dP a.2.2.1 0) fun A=>(aF (eX a A) fun (B,C)=> c (C,B))) else (bif decide (b.1=13) then (aF (dP a.2.2.1 (a.2.2.1.1.length:Int)) fun D=>(aF (eX a D) fun (F,G)=> c (G,F))) else (bif decide (b.1=8) then (aF (mU a d (-1)) fun (H,J)=> c (J,H)) else (bif decide (b.1=9) then (aF (mU a d 1) fun (K,L)=> c (L,K)) else some ((false,0,([],0),0,0,0,0,0,0,0,[],[],0,([],0),[],0,([],0)),0,false))))))))))))))

theorem yS (a:EdQ) (d:Int×List (List UInt8)) (c:Int×Int) (b:P6) (e:Option Addr) (f:Nat) (r:EdQ×Int×Bool) (h:mC a d c=some r):
 FC Tryz.prog 88 [.agg (aG a b).toArray,.agg #[I d.1,sL e d.2 f],.agg #[I c.1,I c.2]] (cH a b [⟨.str,⟨e,d.2.length,f⟩,d.2⟩]) (fun _:P6=>True) (fun q=>.tuple #[.agg (aG r.1 q).toArray,I r.2.1,.bool r.2.2]) (fun q=>(cH r.1 q [])):= by
 refine FC.of (T:=TTx) Tryz.call88 Tryz.func88 E E fun w0=>?_
 unfold mC at h
 refine aS aA 6 [] [8,9,10,11] [(3,.bp 8 0),(4,.bp 9 0),(5,.bp 10 0),(6,.bp 11 0)] (.new 8 46 (aG a b) (.new 9 50 [I d.1,sL e d.2 f] (.new 10 64 [I c.1,I c.2] (.new 11 46 bG .nil)))) ⟨(Es E),(Bs E E)⟩ E E (JS.seq (eZ E (by kernel_rfl) (eC aA 13 [] [(9,.v (I a.2.2.1.2)),(10,.v (I (max a.2.2.2.1 1))),(11,.v (I (a.2.2.1.1.length:Int)))] E (Es E) (kW E (aS aA 1 [] [12] [(12,.bp 12 0)] (.new 8 46 (aG a b) (.new 9 50 [I d.1,sL e d.2 f] (.new 10 64 [I c.1,I c.2] (.new 11 46 bG (.new 12 46 bG .nil))))) ⟨ev2,(Bs E E)⟩ E E (aE aA 1 [] ev5 E E (JS.seq (aE aA 2 [(25,.v (I c.1))] ev1 E E ?_))))))))
 obtain ⟨Y,Z,h⟩:=aM h
 refine bA (ι:=Int×EdQ×P6) ⟨fun z=>Y (z.1,z.2.1)=some r,fun z=>[(6,.bp 11 0),(12,.bp 12 0),(13,.v (I z.1))],fun z=>(.new 11 46 bG (.new 12 46 (aG z.2.1 z.2.2) .nil)),fun z=>[],fun z=>(cH z.2.1 z.2.2 []),fun z=>0⟩ ?_ ?_
 ·
  refine aE aA 2 [(27,.v (.bool (decide (c.1=1))))] ev1 E E ?_
  refine aJ E h (fun h=>?_) (fun h=>?_)
  ·
   obtain ⟨a0,a1,h⟩:=aD h
   obtain ⟨⟨g,i⟩,a2,h⟩:=aD h
   refine bE E (.new 8 46 (aG a b) (.new 10 64 [I c.1,I c.2] .nil)) [] [6,7,8,9,10,11] ev6 E (fun e4=>?_)
   refine cD aA aI true 10 [0,4] E (by kernel_rfl) [] [(30,.v (.agg (aG a b).toArray)),(34,.v (I (max a.2.2.2.1 1)))] ⟨E,E,E,E,E,E,E,E,V⟩ [] E E (Es E) (aW aA aI 9 [1] E (by kernel_rfl) [] [(31,.bp 10 1)] E ⟨E,V⟩ (cD aA aI true 8 [2] E (by kernel_rfl) [] [(32,.v (I c.2))] ⟨E,E,E,E,E,E,E,E,V⟩ [] E E ⟨E,V⟩ (JA.one 3 (by kernel_rfl) (JK.buildSlice aA E E E E E E E E E E E [] E iT [c.2] ⟨E,E⟩ E E fun a3=>aQ ⟨E,E,E,E,E,E,E,E,V⟩ [] E (JA.one 5 (by kernel_rfl) (JK.call E E E E (yR ([c.2]:List Int) (max a.2.2.2.1 1) a3 (([c.2]:List Int).length) _ a1) E [7] E E ?_))))))
   rintro ⟨a4,a5⟩ -
   refine aQ ev6 [] E (JA.one 6 (by kernel_rfl) (JK.call E E E E (wH a a0 1 b a4 a5 _ a2) E [0,1,2,3,4,5,7] E E ?_))
   rintro j -
   refine aR E (aW aA aI 2 [7,8,9] E (by kernel_rfl) [] [(37,.v (.agg (aG g j).toArray)),(38,.v (I i))] E (Es E) (JA.one 10 (by kernel_rfl) (aY aA E E E E E E E E (aR E (aW aA aI 0 [11] E (by kernel_rfl) [] [(13,.v (I i))] E ev2 (bI (by kernel_rfl) (bC (B':=(.new 11 46 bG (.new 12 46 (aG g j) .nil))) (Bs E E) (aV (bT (i,g,j) h (Es E) (Bs E E) [] E [0,1,2,3,4,5] E E)))))))))
  refine aE aA 2 [(39,.v (.bool (decide (c.1=6))))] ev1 E E ?_
  refine aJ E h (fun h=>?_) (fun h=>?_)
  ·
   obtain ⟨a6,a7,h⟩:=aD h
   obtain ⟨⟨k,l⟩,a8,h⟩:=aD h
   refine bE E (.new 8 46 (aG a b) .nil) [] [4,5,6,7,8,9] ev3 E (fun e5=>?_)
   refine cD aA aI true 8 [0,2] E (by kernel_rfl) [] [(42,.v (.agg (aG a b).toArray)),(44,.v (I (max a.2.2.2.1 1)))] ⟨E,E,E,E,V⟩ [] E E (Es E) (JA.one 1 (by kernel_rfl) (JK.buildSlice aA E E E E E E E E E E E [] E iT [9] ⟨E,E⟩ E E fun a9=>aQ ⟨E,E,E,E,V⟩ [] E (JA.one 3 (by kernel_rfl) (JK.call E E E E (yR ([9]:List Int) (max a.2.2.2.1 1) a9 (([9]:List Int).length) _ a7) E [7] E E ?_))))
   rintro ⟨b0,b1⟩ -
   refine aQ ev3 [] E (JA.one 4 (by kernel_rfl) (JK.call E E E E (wH a a6 1 b b0 b1 _ a8) E [0,1,2,3,4,5,7] E E ?_))
   rintro m -
   refine aR E (aW aA aI 2 [5,6,7] E (by kernel_rfl) [] [(47,.v (.agg (aG k m).toArray)),(48,.v (I l))] E (Es E) (JA.one 8 (by kernel_rfl) (aY aA E E E E E E E E (aR E (aW aA aI 0 [9] E (by kernel_rfl) [] [(13,.v (I l))] E ev2 (bI (by kernel_rfl) (bC (B':=(.new 11 46 bG (.new 12 46 (aG k m) .nil))) (Bs E E) (aV (bT (l,k,m) h (Es E) (Bs E E) [] E [0,1,2,3,4,5] E E)))))))))
  refine aE aA 2 [(49,.v (.bool (decide (c.1=4))))] ev1 E E ?_
  refine aJ E h (fun h=>?_) (fun h=>?_)
  ·
   refine JS.region (aB aA 1 [] [] [(51,.v (.agg (aG a b).toArray))] _ E ev1 ?_)
   refine bnw h fun D b2 h=>JO.call E E E E (dK a b _ b2) E [0,1,2,3,4,5] E E fun F _=>aL aA 2 [] [] [(13,.v (I 2))] (.new 11 46 bG (.new 12 46 (aG D F) .nil)) E ⟨ev2,(Bs E E)⟩ (aC E (aV (bT (2,D,F) h (Es E) (Bs E E) [] E [0,1,2,3,4,5] E E)))
  refine aE aA 2 [(53,.v (.bool (decide (c.1=2))))] ev1 E E ?_
  refine aJ E h (fun h=>?_) (fun h=>?_)
  ·
   refine JS.seq (JS.region (aB aA 3 [] [] [(55,.v (.agg (aG a b).toArray)),(57,.v (I c.2))] _ E ⟨(Es E),E⟩ ?_))
   obtain ⟨⟨b3,b4,b5⟩,b6,h⟩:=aD h
   refine JO.call E E E E (aDb a c.2 b _ b6) E [0,1,2,3,4,5] E E fun G _=>aL aA 6 [] [] [(7,.v (I b4)),(8,.v (.bool b5))] (.new 11 46 (aG b3 G) .nil) E ⟨(Es E),(Bs E E)⟩ (aC E ?_)
   cases h
   exact JS.ret aA G V E E [0,0,0,0,0,0] E
  refine aE aA 2 [(62,.v (.bool (decide (c.1=5))))] ev1 E E ?_
  refine aJ E h (fun h=>?_) (fun h=>?_)
  ·
   refine JS.region (aB aA 6 [(W (a.2.2.1.2 - (max a.2.2.2.1 1)))] [] [(65,.v (.agg (aG a b).toArray)),(69,.v (I (max (W (a.2.2.1.2 - (max a.2.2.2.1 1))) 0))),(70,.v (I a.2.2.1.2))] _ E ⟨ev5,(Es E),E⟩ ?_)
   obtain ⟨⟨H,J⟩,b7,h⟩:=aD h
   refine JO.call E E E E (aDg a (max (W (a.2.2.1.2 - (max a.2.2.2.1 1))) 0) a.2.2.1.2 b _ b7) E [0,1,2,3,4,5] E E fun K _=>aL aA 5 [] [] [(13,.v (I J))] (.new 11 46 bG (.new 12 46 (aG H K) .nil)) E ⟨ev2,(Bs E E)⟩ (aC E (aV (bT (J,H,K) h (Es E) (Bs E E) [] E [0,1,2,3,4,5] E E)))
  refine aE aA 2 [(74,.v (.bool (decide (c.1=14))))] ev1 E E ?_
  refine aJ E h (fun h=>?_) (fun h=>?_)
  ·
   refine JS.region (aB aA 7 [(W (a.2.2.1.2+(max a.2.2.2.1 1)))] [] [(77,.v (.agg (aG a b).toArray)),(78,.v (I a.2.2.1.2)),(83,.v (I (min (W (a.2.2.1.2+(max a.2.2.2.1 1))) (a.2.2.1.1.length:Int))))] _ E ⟨ev5,(Es E),E⟩ ?_)
   obtain ⟨⟨L,M⟩,b8,h⟩:=aD h
   refine JO.call E E E E (aDg a a.2.2.1.2 (min (W (a.2.2.1.2+(max a.2.2.2.1 1))) (a.2.2.1.1.length:Int)) b _ b8) E [0,1,2,3,4,5] E E fun N _=>aL aA 5 [] [] [(13,.v (I M))] (.new 11 46 bG (.new 12 46 (aG L N) .nil)) E ⟨ev2,(Bs E E)⟩ (aC E (aV (bT (M,L,N) h (Es E) (Bs E E) [] E [0,1,2,3,4,5] E E)))
  refine aE aA 2 [(87,.v (.bool (decide (c.1=11))))] ev1 E E ?_
  refine aJ E h (fun h=>?_) (fun h=>?_)
  ·
   obtain ⟨b9,c0,h⟩:=aD h
   obtain ⟨⟨n,o⟩,c1,h⟩:=aD h
   refine bE E (.new 8 46 (aG a b) .nil) [] [7,8,9,10,11,12] ev3 E (fun e6=>?_)
   refine cD aA aI true 7 [0,1,2,3,4,5] E (by kernel_rfl) [(W (a.2.2.1.2 - (max a.2.2.2.1 1)))] [(90,.v (.agg (aG a b).toArray)),(92,.v (.agg #[sL b.1 a.2.2.1.1 b.2.1,I a.2.2.1.2])),(95,.v (I (W (a.2.2.1.2 - (max a.2.2.2.1 1)))))] ev3 [] E E ⟨ev5,(Es E)⟩ (JA.one 6 (by kernel_rfl) (JK.call E E E E (eK a.2.2.1 (W (a.2.2.1.2 - (max a.2.2.2.1 1))) b.1 b.2.1 _ c0) E [0] E E ?_))
   rintro ⟨c2,c3⟩ -
   refine aQ ev3 [] E (JA.one 7 (by kernel_rfl) (JK.call E E E E (gY a b9 b c2 c3 _ c1) E [0,1,2,3,4,5,7] E E ?_))
   rintro p -
   refine aR E (aW aA aI 2 [8,9,10] E (by kernel_rfl) [] [(98,.v (.agg (aG n p).toArray)),(99,.v (I o))] E (Es E) (JA.one 11 (by kernel_rfl) (aY aA E E E E E E E E (aR E (aW aA aI 0 [12] E (by kernel_rfl) [] [(13,.v (I o))] E ev2 (bI (by kernel_rfl) (bC (B':=(.new 11 46 bG (.new 12 46 (aG n p) .nil))) (Bs E E) (aV (bT (o,n,p) h (Es E) (Bs E E) [] E [0,1,2,3,4,5] E E)))))))))
  refine aE aA 2 [(100,.v (.bool (decide (c.1=10))))] ev1 E E ?_
  refine aJ E h (fun h=>?_) (fun h=>?_)
  ·
   obtain ⟨c4,c5,h⟩:=aD h
   obtain ⟨⟨s,t⟩,c6,h⟩:=aD h
   refine bE E (.new 8 46 (aG a b) .nil) [] [7,8,9,10,11,12] ev3 E (fun e7=>?_)
   refine cD aA aI true 7 [0,1,2,3,4,5] E (by kernel_rfl) [(W (a.2.2.1.2+(max a.2.2.2.1 1)))] [(103,.v (.agg (aG a b).toArray)),(105,.v (.agg #[sL b.1 a.2.2.1.1 b.2.1,I a.2.2.1.2])),(108,.v (I (W (a.2.2.1.2+(max a.2.2.2.1 1)))))] ev3 [] E E ⟨ev5,(Es E)⟩ (JA.one 6 (by kernel_rfl) (JK.call E E E E (eK a.2.2.1 (W (a.2.2.1.2+(max a.2.2.2.1 1))) b.1 b.2.1 _ c5) E [0] E E ?_))
   rintro ⟨c7,c8⟩ -
   refine aQ ev3 [] E (JA.one 7 (by kernel_rfl) (JK.call E E E E (gY a c4 b c7 c8 _ c6) E [0,1,2,3,4,5,7] E E ?_))
   rintro u -
   refine aR E (aW aA aI 2 [8,9,10] E (by kernel_rfl) [] [(111,.v (.agg (aG s u).toArray)),(112,.v (I t))] E (Es E) (JA.one 11 (by kernel_rfl) (aY aA E E E E E E E E (aR E (aW aA aI 0 [12] E (by kernel_rfl) [] [(13,.v (I t))] E ev2 (bI (by kernel_rfl) (bC (B':=(.new 11 46 bG (.new 12 46 (aG s u) .nil))) (Bs E E) (aV (bT (t,s,u) h (Es E) (Bs E E) [] E [0,1,2,3,4,5] E E)))))))))
  refine aE aA 2 [(113,.v (.bool (decide (c.1=12))))] ev1 E E ?_
  refine aJ E h (fun h=>?_) (fun h=>?_)
  ·
   obtain ⟨c9,d0,h⟩:=aD h
   obtain ⟨⟨w,x⟩,d1,h⟩:=aD h
   refine bE E (.new 8 46 (aG a b) .nil) [] [4,5,6,7,8,9] ev3 E (fun e8=>?_)
   refine cD aA aI true 7 [0,1,2] E (by kernel_rfl) [] [(116,.v (.agg (aG a b).toArray)),(118,.v (.agg #[sL b.1 a.2.2.1.1 b.2.1,I a.2.2.1.2]))] ev3 [] E E (Es E) (JA.one 3 (by kernel_rfl) (JK.call E E E E (eK a.2.2.1 0 b.1 b.2.1 _ d0) E [0] E E ?_))
   rintro ⟨d2,d3⟩ -
   refine aQ ev3 [] E (JA.one 4 (by kernel_rfl) (JK.call E E E E (gY a c9 b d2 d3 _ d1) E [0,1,2,3,4,5,7] E E ?_))
   rintro y -
   refine aR E (aW aA aI 2 [5,6,7] E (by kernel_rfl) [] [(121,.v (.agg (aG w y).toArray)),(122,.v (I x))] E (Es E) (JA.one 8 (by kernel_rfl) (aY aA E E E E E E E E (aR E (aW aA aI 0 [9] E (by kernel_rfl) [] [(13,.v (I x))] E ev2 (bI (by kernel_rfl) (bC (B':=(.new 11 46 bG (.new 12 46 (aG w y) .nil))) (Bs E E) (aV (bT (x,w,y) h (Es E) (Bs E E) [] E [0,1,2,3,4,5] E E)))))))))
  refine aE aA 2 [(123,.v (.bool (decide (c.1=13))))] ev1 E E ?_
  refine aJ E h (fun h=>?_) (fun h=>?_)
  ·
   obtain ⟨d4,d5,h⟩:=aD h
   obtain ⟨⟨A,B⟩,d6,h⟩:=aD h
   refine bE E (.new 8 46 (aG a b) .nil) [] [5,6,7,8,9,10] ev3 E (fun e9=>?_)
   refine cD aA aI true 7 [0,1,2,3] E (by kernel_rfl) [] [(126,.v (.agg (aG a b).toArray)),(128,.v (.agg #[sL b.1 a.2.2.1.1 b.2.1,I a.2.2.1.2])),(129,.v (I (a.2.2.1.1.length:Int)))] ev3 [] E E (Es E) (JA.one 4 (by kernel_rfl) (JK.call E E E E (eK a.2.2.1 (a.2.2.1.1.length:Int) b.1 b.2.1 _ d5) E [0] E E ?_))
   rintro ⟨d7,d8⟩ -
   refine aQ ev3 [] E (JA.one 5 (by kernel_rfl) (JK.call E E E E (gY a d4 b d7 d8 _ d6) E [0,1,2,3,4,5,7] E E ?_))
   rintro C -
   refine aR E (aW aA aI 2 [6,7,8] E (by kernel_rfl) [] [(132,.v (.agg (aG A C).toArray)),(133,.v (I B))] E (Es E) (JA.one 9 (by kernel_rfl) (aY aA E E E E E E E E (aR E (aW aA aI 0 [10] E (by kernel_rfl) [] [(13,.v (I B))] E ev2 (bI (by kernel_rfl) (bC (B':=(.new 11 46 bG (.new 12 46 (aG A C) .nil))) (Bs E E) (aV (bT (B,A,C) h (Es E) (Bs E E) [] E [0,1,2,3,4,5] E E)))))))))
  refine aE aA 2 [(134,.v (.bool (decide (c.1=8))))] ev1 E E ?_
  refine aJ E h (fun h=>?_) (fun h=>?_)
  ·
   refine JS.region (aB aA 2 [] [] [(137,.v (.agg (aG a b).toArray)),(138,.v (.agg #[I d.1,sL e d.2 f]))] _ E ⟨(Es E),E⟩ ?_)
   obtain ⟨⟨O,P⟩,d9,h⟩:=aD h
   refine JO.call E E E E (rR a d (-1) b e f _ d9) E [0,1,2,3,4,5,6] E E fun Q _=>aL aA 5 [] [] [(13,.v (I P))] (.new 11 46 bG (.new 12 46 (aG O Q) .nil)) E ⟨ev2,(Bs E E)⟩ (aC E (aV (bT (P,O,Q) h (Es E) (Bs E E) [] E [0,1,2,3,4,5] E E)))
  refine aE aA 2 [(142,.v (.bool (decide (c.1=9))))] ev1 E E ?_
  refine aJ E h (fun h=>?_) (fun h=>?_)
  ·
   refine JS.region (aB aA 2 [] [] [(145,.v (.agg (aG a b).toArray)),(146,.v (.agg #[I d.1,sL e d.2 f]))] _ E ⟨(Es E),E⟩ ?_)
   obtain ⟨⟨R,S⟩,e0,h⟩:=aD h
   refine JO.call E E E E (rR a d 1 b e f _ e0) E [0,1,2,3,4,5,6] E E fun U _=>aL aA 5 [] [] [(13,.v (I S))] (.new 11 46 bG (.new 12 46 (aG R U) .nil)) E ⟨ev2,(Bs E E)⟩ (aC E (aV (bT (S,R,U) h (Es E) (Bs E E) [] E [0,1,2,3,4,5] E E)))
  refine aS aA 4 [] [] [(7,.v (I 0)),(8,.v (.bool false))] (.new 11 46 bG .nil) ⟨(Es E),(Bs E E)⟩ E E ?_
  cases h
  refine aX iT Sl.nil E E (aX (.sl iT) Sl.nil E E (aX (.pair (.sl iT) iT) Sl.nil E E (aX iT Sl.nil E E (aX iT Sl.nil E E (aX iT Sl.nil E E (JS.ret aA (none,0,none,0,none,0,none,0,none,0,none,0) V E E [5,4,3,2,1,0] E))))))
 rintro ⟨e1,e2,X⟩ h
 subst Z
 refine aS aA 5 [] [] [(7,.v (I e1)),(8,.v (.bool true))] (.new 11 46 (aG e2 X) .nil) ⟨(Es E),(Bs E E)⟩ E E ?_
 cases h
 exact JS.ret aA X V E E [0,0,0,0,0,0] E

def sQ (b:EdQ):Option (EdQ×Int):= (aF (eE b 0) fun a=>(aF (dA b.2.2.1) fun c=> some ((a.1,3,a.2.2.1,a.2.2.2.1,a.2.2.2.2.1,a.2.2.2.2.2.1,a.2.2.2.2.2.2.1,a.2.2.2.2.2.2.2.1,a.2.2.2.2.2.2.2.2.1,a.2.2.2.2.2.2.2.2.2.1,a.2.2.2.2.2.2.2.2.2.2.1,a.2.2.2.2.2.2.2.2.2.2.2.1,a.2.2.2.2.2.2.2.2.2.2.2.2.1,a.2.2.2.2.2.2.2.2.2.2.2.2.2.1,[],0,c),0)))

theorem aA2 (c:EdQ) (d:P6) (r:EdQ×Int) (h:sQ c=some r):
 FC Tryz.prog 208 [.agg (aG c d).toArray] (cH c d []) (fun _:Option Addr×Nat×Option Addr×Nat×Option Addr×Nat×Option Addr×Nat×Option Addr×Nat=>True) (fun q=>.tuple #[.agg (aG (U14 r.1 []) (q.1,q.2.1,q.2.2.1,q.2.2.2.1,(Q4 q).1,(Q4 q).2.1,(Q4 q).2.2.1,(Q4 q).2.2.2.1,none,0,(Q8 q))).toArray,I r.2]) (fun q=>[fI q.1 q.2.1 r.1.2.2.1.1,⟨(.sl iT),⟨q.2.2.1,r.1.2.2.2.2.2.2.2.2.2.2.1.length,q.2.2.2.1⟩,r.1.2.2.2.2.2.2.2.2.2.2.1⟩,⟨(.pair (.sl iT) iT),⟨(Q4 q).1,r.1.2.2.2.2.2.2.2.2.2.2.2.1.length,(Q4 q).2.1⟩,r.1.2.2.2.2.2.2.2.2.2.2.2.1⟩,fI (Q4 q).2.2.1 (Q4 q).2.2.2.1 r.1.2.2.2.2.2.2.2.2.2.2.2.2.2.1.1,fI (Q8 q).1 (Q8 q).2 r.1.2.2.2.2.2.2.2.2.2.2.2.2.2.2.2.2.1]):= by
 refine FC.of (T:=TTx) Tryz.call208 Tryz.func208 E E fun k=>?_
 unfold sQ at h
 refine aS aA 3 [] [7,8] [(1,.bp 7 0),(2,.bp 8 0)] (.new 7 46 (aG c d) (.new 8 46 bG .nil)) ⟨(Es E),(Bs E E)⟩ E E (JS.seq (JS.region (aB aA 1 [] [] [(5,.v (.agg (aG c d).toArray))] _ E ev1 ?_)))
 refine bnw h fun a i h=>JO.call E E E E (lW c 0 d _ i) E [0,1,2,3,4,5] E E fun b _=>aL aA 2 [] [29] [(4,.bp 29 0)] (.new 7 46 (aG c d) (.new 8 46 bG (.new 29 46 (aG a b) .nil))) E ⟨ev2,(Bs E E)⟩ (aC E (JS.seq (JS.region (aB aA 2 [] [] [(8,.v (.agg #[sL d.1 c.2.2.1.1 d.2.1,I c.2.2.1.2]))] _ E ev1 ?_))))
 refine bnw h fun g j h=>JO.call E E E E (dW c.2.2.1 d.1 d.2.1 _ j) E [0] E E ?_
 rintro ⟨e,f⟩ -
 refine aL aA 8 [] [] [] (.new 8 46 bG (.new 29 46 (aG (a.1,3,a.2.2.1,a.2.2.2.1,(Q4 a).1,(Q4 a).2.1,(Q4 a).2.2.1,(Q4 a).2.2.2.1,(Q8 a).1,(Q8 a).2.1,(Q8 a).2.2.1,(Q8 a).2.2.2.1,(Q12 a).1,(Q12 a).2.1,[],0,g) (b.1,b.2.1,b.2.2.1,b.2.2.2.1,(Q4 b).1,(Q4 b).2.1,(Q4 b).2.2.1,(Q4 b).2.2.2.1,none,0,e,f)) .nil)) E ⟨V,(Bs E E)⟩ (aC E (aS aA 3 [] [] [(3,.v (I 0))] (.new 8 46 (aG (a.1,3,a.2.2.1,a.2.2.2.1,(Q4 a).1,(Q4 a).2.1,(Q4 a).2.2.1,(Q4 a).2.2.2.1,(Q8 a).1,(Q8 a).2.1,(Q8 a).2.2.1,(Q8 a).2.2.2.1,(Q12 a).1,(Q12 a).2.1,[],0,g) (b.1,b.2.1,b.2.2.1,b.2.2.2.1,(Q4 b).1,(Q4 b).2.1,(Q4 b).2.2.1,(Q4 b).2.2.2.1,none,0,e,f)) .nil) ⟨ev2,(Bs E E)⟩ E E ?_))
 cases h
 exact JS.ret aA (b.1,b.2.1,b.2.2.1,b.2.2.2.1,(Q4 b).1,(Q4 b).2.1,(Q4 b).2.2.1,(Q4 b).2.2.2.1,e,f) V E E [1,1,1,1,0] E

def pE (a:List (List Int×Int)):Option ((List (List Int×Int))×(List Int×Int)×Bool):= (aF (nY a) fun b=>(bif (bif (!b) then true else (decide ((a.length:Int)=0))) then some ([],([],0),false) else (aN (0≤(0:Int)∧(0:Int)≤(W ((a.length:Int) - 1))∧(W ((a.length:Int) - 1))≤(a.length:Int)) <|(aF (jP (bJ a 0 (W ((a.length:Int) - 1)))) fun c=>(aN (0≤(W ((a.length:Int) - 1))∧(W ((a.length:Int) - 1))<(a.length:Int)) <|(aF (dA ((at' a (W ((a.length:Int) - 1))).1,(at' a (W ((a.length:Int) - 1))).2)) fun d=> some (c,d,true)))))))

theorem aEr (a:List (List Int×Int)) (b:Option Addr) (c:Nat) (r:(List (List Int×Int))×(List Int×Int)×Bool) (h:pE a=some r):
 FC Tryz.prog 265 [.agg #[sL b a c]] [⟨(.pair (.sl iT) iT),⟨b,a.length,c⟩,a⟩] (fun _:Option Addr×Nat×Option Addr×Nat=>True) (fun q=>.tuple #[.agg #[sL q.1 r.1 q.2.1],.agg #[sL q.2.2.1 r.2.1.1 q.2.2.2,I r.2.1.2],.bool r.2.2]) (fun q=>[⟨(.pair (.sl iT) iT),⟨q.1,r.1.length,q.2.1⟩,r.1⟩,fI q.2.2.1 q.2.2.2 r.2.1.1]):= by
 refine FC.of (T:=TTx) Tryz.call265 Tryz.func265 E E fun z=>?_
 unfold pE at h
 refine aS aA 4 [] [2,3,4] [(1,.bp 2 0),(2,.bp 3 0),(3,.bp 4 0)] (.new 2 44 [sL b a c] (.new 3 44 [.slice none 0 0] (.new 4 38 [.slice none 0 0,I 0] .nil))) ⟨(Es E),(Bs E E)⟩ E E (aE aA 4 [(5,.v (I (a.length:Int)))] ev1 E E (JS.seq (JS.seq (JS.region (aB aA 1 [] [] [(10,.v (.agg #[sL b a c]))] _ E ev1 ?_)))))
 refine bnw h fun p s h=>JO.call E E E E (wL a b c _ s) E [0] E E fun _ _=>aB aA 5 [] [] [(16,.v (.bool (bif (!p) then true else (decide ((a.length:Int)=0)))))] _ E ev1 (aC E ?_)
 refine aJ E h (fun h=>?_) (fun h=>?_)
 ·
  refine aS aA 5 [] [] [(4,.v (.bool false))] (.new 3 44 [.slice none 0 0] (.new 4 38 [.slice none 0 0,I 0] .nil)) ⟨ev2,(Bs E E)⟩ E E ?_
  cases h
  refine aX (.pair (.sl iT) iT) Sl.nil E E (aX iT Sl.nil E E (JS.ret aA (none,0,none,0) V E E [1,0] E))
 refine JS.skip (JS.seq (JS.region (aB aA 4 [(W ((a.length:Int) - 1))] [] [(20,.v (sL b a c)),(22,.v (I (W ((a.length:Int) - 1))))] _ E ⟨ev5,(Es E),E⟩ ?_)))
 obtain ⟨t,h⟩:=aH h
 refine aD9 aA E E E E E E E E 0 E (0:Int) (W ((a.length:Int) - 1)) E E t E fun g i=>aB aA 1 [] [] [(24,.v (.agg #[sL g (bJ a 0 (W ((a.length:Int) - 1))) i]))] _ E ev1 ?_
 refine bnw h fun f u h=>JO.call E E E E (tE (bJ a 0 (W ((a.length:Int) - 1))) g i _ u) E [0] E E ?_
 rintro ⟨d,e⟩ -
 refine aL aA 2 [] [16] [(6,.bp 16 0)] (.new 2 44 [sL b a c] (.new 3 44 [.slice none 0 0] (.new 4 38 [.slice none 0 0,I 0] (.new 16 44 [sL d f e] .nil)))) E ⟨ev2,(Bs E E)⟩ (aC E (JS.seq ?_))
 obtain ⟨j,h⟩:=aH h
 refine bnw h fun k w h=>aQk 1 E (Int.toNat (W ((a.length:Int) - 1))) (at' a (W ((a.length:Int) - 1))) E fun l m A B x=>iK 3 E fun y=>?_
 refine bE E (.new 2 44 [sL b a c] (.new 16 44 [sL d f e] .nil)) [0] [8,9,10] ev6 E (fun C=>?_)
 refine cD aA aI true 5 [0,1,2,3,4,5] E (by kernel_rfl) [(W ((a.length:Int) - 1))] [(26,.v (.agg #[sL d f e])),(31,.ep ⟨b,a.length,c⟩ (Int.toNat (W ((a.length:Int) - 1))*2))] ev6 [0] E E ⟨ev5,y.ix j,(Es E)⟩ (xE aA aI 6 E (by kernel_rfl) E E E E E 0 E E (Int.toNat (W ((a.length:Int) - 1))) 0 ((Sl.v ⟨l,((at' a (W ((a.length:Int) - 1))).1).length,m⟩),(at' a (W ((a.length:Int) - 1))).2) ⟨x (tY j),E⟩ E E E ev6 [0] E (JA.one 7 (by kernel_rfl) (JK.call E E E E (dW ((at' a (W ((a.length:Int) - 1))).1,(at' a (W ((a.length:Int) - 1))).2) l m _ w) E [1] E E ?_)))
 rintro ⟨n,o⟩ -
 refine aQ ev6 [0] E (JA.one 8 (by kernel_rfl) (aY aA E E E E E E E E (aR E (JA.one 9 (by kernel_rfl) (aY aA E E E E E E E E (aR E (aW aA aI 0 [10] E (by kernel_rfl) [] [(4,.v (.bool true))] E ev2 (bI (by kernel_rfl) (bC (B':=(.new 3 44 [sL d f e] (.new 4 38 [sL n k.1 o,I k.2] .nil))) (Bs E E) ?_)))))))))
 cases h
 exact JS.ret aA (d,e,n,o) V E E [1,0] E

def uK (b:EdQ):Option (EdQ×Int):= (aF (pE b.2.2.2.2.2.2.2.2.2.2.2.1) fun (d,c,e)=>(bif (!e) then (aF (cR b) fun (f,g)=> some (f,g)) else (aF (eE b 0) fun a=>(aF (gF c b.2.1) fun h=> some ((a.1,a.2.1,(c.1,h.2),a.2.2.2.1,a.2.2.2.2.1,a.2.2.2.2.2.1,a.2.2.2.2.2.2.1,a.2.2.2.2.2.2.2.1,a.2.2.2.2.2.2.2.2.1,a.2.2.2.2.2.2.2.2.2.1,a.2.2.2.2.2.2.2.2.2.2.1,d,a.2.2.2.2.2.2.2.2.2.2.2.2.1,a.2.2.2.2.2.2.2.2.2.2.2.2.2.1,a.2.2.2.2.2.2.2.2.2.2.2.2.2.2.1,a.2.2.2.2.2.2.2.2.2.2.2.2.2.2.2.1,a.2.2.2.2.2.2.2.2.2.2.2.2.2.2.2.2),0)))))

theorem aFb (a:EdQ) (b:P6) (r:EdQ×Int) (h:uK a=some r):
 FC Tryz.prog 207 [.agg (aG a b).toArray] (cH a b []) (fun _:P6=>True) (fun q=>.tuple #[.agg (aG r.1 q).toArray,I r.2]) (fun q=>(cH r.1 q [])):= by
 refine FC.of (T:=TTx) Tryz.call207 Tryz.func207 E E fun x=>?_
 unfold uK at h
 refine aS aA 3 [] [7,8] [(1,.bp 7 0),(2,.bp 8 0)] (.new 7 46 (aG a b) (.new 8 46 bG .nil)) ⟨(Es E),(Bs E E)⟩ E E (JS.seq (JS.region (aB aA 2 [] [] [(10,.v (.agg #[sL (Q4 b).1 (Q8 a).2.2.2.1 (Q4 b).2.1]))] _ E ev1 ?_)))
 obtain ⟨⟨j,c,l⟩,o,h⟩:=aD h
 refine JO.call E E E E (aEr (Q8 a).2.2.2.1 (Q4 b).1 (Q4 b).2.1 _ o) E [2] E E ?_
 rintro ⟨g,i,e,f⟩ -
 refine aL aA 9 [] [19,20] [(4,.bp 19 0),(5,.bp 20 0),(6,.v (.bool l))] (.new 7 46 (aG a b) (.new 8 46 bG (.new 19 44 [sL g j i] (.new 20 38 [sL e c.1 f,I c.2] .nil)))) E ⟨(Es E),(Bs E E)⟩ (aC E (JS.seq (aE aA 2 [(16,.v (.bool (!l)))] ev1 E E ?_)))
 refine aJ E h (fun h=>?_) (fun h=>?_)
 ·
  refine JS.seq (JS.region (aB aA 1 [] [] [(17,.v (.agg (aG a b).toArray))] _ E ev1 ?_))
  obtain ⟨⟨p,s⟩,t,h⟩:=aD h
  refine JO.call E E E E (cX a b _ t) E [0,1,2,3,4,5] E E fun m _=>aL aA 4 [] [] [(3,.v (I s))] (.new 8 46 (aG p m) .nil) E ⟨ev2,(Bs E E)⟩ (aC E ?_)
  cases h
  exact JS.ret aA m V E E [0,0,0,0,0,0] E
 refine JS.skip (JS.seq (JS.region (aB aA 1 [] [] [(21,.v (.agg (aG a b).toArray))] _ E ev1 ?_)))
 refine bnw h fun k u h=>JO.call E E E E (lW a 0 b _ u) E [0,1,2,3,4,5] E E fun d _=>aL aA 2 [] [62] [(7,.bp 62 0)] (.new 7 46 (aG a b) (.new 8 46 bG (.new 19 44 [sL g j i] (.new 20 38 [sL e c.1 f,I c.2] (.new 62 46 (aG k d) .nil))))) E ⟨ev2,(Bs E E)⟩ (aC E (JS.seq ?_))
 refine bnw h fun n w h=>bE E (.new 7 46 (aG a b) (.new 19 44 [sL g j i] (.new 20 38 [sL e c.1 f,I c.2] .nil))) [] [7,8] ev8 E (fun y=>?_)
 refine cD aA aI true 5 [0,1,2,4] E (by kernel_rfl) [] [(23,.v (.agg #[sL e c.1 f,I c.2])),(25,.v (I a.2.1)),(27,.v (.agg #[sL g j i]))] ev8 [] E E (Es E) (JA.one 3 (by kernel_rfl) (JK.call E E E E (oO c a.2.1 e f _ w) E [13] E E fun _ _=>aQ ev8 [] E (cD aA aI true 3 [5] E (by kernel_rfl) [] [(28,.bp 62 2)] ev8 [] E E ev2 (JA.one 6 (by kernel_rfl) (aY aA E E E E E E E E (aQ ev8 [] E (aW aA aI 1 [7] E (by kernel_rfl) [] [(29,.bp 62 12)] E ev2 (JA.one 8 (by kernel_rfl) (aY aA E E E E E E E E (aR E (bI (by kernel_rfl) (bC (B':=(.new 8 46 bG (.new 62 46 (aG (U11 (U2 k (c.1,n.2)) j) (e,f,d.2.2.1,d.2.2.2.1,g,i,(Q4 d).2.2)) .nil))) (Bs E E) (aS aA 3 [] [] [(3,.v (I 0))] (.new 8 46 (aG (U11 (U2 k (c.1,n.2)) j) (e,f,d.2.2.1,d.2.2.2.1,g,i,(Q4 d).2.2)) .nil) ⟨ev2,(Bs E E)⟩ E E ?_)))))))))))))
 cases h
 exact JS.ret aA (e,f,d.2.2.1,d.2.2.2.1,g,i,(Q4 d).2.2) V E E [7,1,5,2,2,2] E

def pG (a:List Int×Int):Option ((List Int×Int)×Bool):= (aF (eJ a) fun c=>(bif (bif (bif (!c) then true else (decide ((a.1.length:Int)<2))) then true else (decide (a.2=0))) then some (([],0),false) else (aF (dP a (W ((min a.2 (W ((a.1.length:Int) - 1)))+1))) fun b=>(aN (0≤(min a.2 (W ((a.1.length:Int) - 1)))∧(min a.2 (W ((a.1.length:Int) - 1)))<(a.1.length:Int)) <|(aN (0≤(W ((min a.2 (W ((a.1.length:Int) - 1))) - 1))∧(W ((min a.2 (W ((a.1.length:Int) - 1))) - 1))<(a.1.length:Int)) <|(aN (0≤(W ((min a.2 (W ((a.1.length:Int) - 1))) - 1))∧(W ((min a.2 (W ((a.1.length:Int) - 1))) - 1))<(b.1.length:Int)) <|(aN (0≤(min a.2 (W ((a.1.length:Int) - 1)))∧(min a.2 (W ((a.1.length:Int) - 1)))<(b.1.length:Int)) <|some (((List.set (List.set b.1 (Int.toNat (W ((min a.2 (W ((a.1.length:Int) - 1))) - 1))) (at' a.1 (min a.2 (W ((a.1.length:Int) - 1))))) (Int.toNat (min a.2 (W ((a.1.length:Int) - 1)))) (at' a.1 (W ((min a.2 (W ((a.1.length:Int) - 1))) - 1)))),b.2),true))))))))

theorem aEu (a:List Int×Int) (c:Option Addr) (d:Nat) (r:(List Int×Int)×Bool) (h:pG a=some r):
 FC Tryz.prog 206 [.agg #[sL c a.1 d,I a.2]] [fI c d a.1] (fun _:Option Addr×Nat=>True) (fun q=>.tuple #[.agg #[sL q.1 r.1.1 q.2,I r.1.2],.bool r.2]) (fun q=>[fI q.1 q.2 r.1.1]):= by
 refine FC.of (T:=TTx) Tryz.call206 Tryz.func206 E E fun s=>?_
 unfold pG at h
 refine aS aA 3 [] [2,3] [(1,.bp 2 0),(2,.bp 3 0)] (.new 2 38 [sL c a.1 d,I a.2] (.new 3 38 [.slice none 0 0,I 0] .nil)) ⟨(Es E),(Bs E E)⟩ E E (aE aA 4 [(4,.v (I (a.1.length:Int)))] ev1 E E (JS.seq (JS.seq (JS.region (aB aA 1 [] [] [(10,.v (.agg #[sL c a.1 d,I a.2]))] _ E ev1 ?_)))))
 refine bnw h fun n o h=>JO.call E E E E (gE a c d _ o) E [0] E E fun _ _=>aB aA 10 [] [] [(21,.v (.bool (bif (bif (!n) then true else (decide ((a.1.length:Int)<2))) then true else (decide (a.2=0)))))] _ E ev1 (aC E ?_)
 refine aJ E h (fun h=>?_) (fun h=>?_)
 ·
  refine aS aA 3 [] [] [(3,.v (.bool false))] (.new 3 38 [.slice none 0 0,I 0] .nil) ⟨ev2,(Bs E E)⟩ E E ?_
  cases h
  refine aX iT Sl.nil E E (JS.ret aA (none,0) V E E [0] E)
 refine JS.skip (gI aA 6 [(W ((a.1.length:Int) - 1))] [] [(5,.v (I (min a.2 (W ((a.1.length:Int) - 1)))))] _ ev4 E E (JS.seq (JS.region (aB aA 3 [(W ((min a.2 (W ((a.1.length:Int) - 1)))+1))] [] [(28,.v (.agg #[sL c a.1 d,I a.2])),(30,.v (I (W ((min a.2 (W ((a.1.length:Int) - 1)))+1))))] _ E ⟨ev5,(Es E),E⟩ ?_))))
 refine bnw h fun b p h=>JO.call E E E E (eK a (W ((min a.2 (W ((a.1.length:Int) - 1)))+1)) c d _ p) E [0] E E ?_
 rintro ⟨e,f⟩ -
 refine aL aA 2 [] [11] [(6,.bp 11 0)] (.new 2 38 [sL c a.1 d,I a.2] (.new 3 38 [.slice none 0 0,I 0] (.new 11 38 [sL e b.1 f,I b.2] .nil))) E ⟨ev2,(Bs E E)⟩ (aC E (JS.seq ?_))
 obtain ⟨g,h⟩:=aH h
 obtain ⟨i,h⟩:=aH h
 obtain ⟨j,h⟩:=aH h
 obtain ⟨k,h⟩:=aH h
 refine iK 0 E fun l=>iK 1 E fun m=>?_
 refine bE E (.new 2 38 [sL c a.1 d,I a.2] (.new 11 38 [sL e b.1 f,I b.2] .nil)) [0] [20,21] ev6 E (fun t=>?_)
 refine cD aA aI true 6 [0,1,2,3,4,5,6,7,8,9,10,12,13,14,15,16] E (by kernel_rfl) [(W ((min a.2 (W ((a.1.length:Int) - 1))) - 1)),(W ((min a.2 (W ((a.1.length:Int) - 1))) - 1))] [(33,.v (sL e b.1 f)),(35,.v (I (W ((min a.2 (W ((a.1.length:Int) - 1))) - 1)))),(37,.v (sL e b.1 f)),(38,.v (I (min a.2 (W ((a.1.length:Int) - 1))))),(42,.ep ⟨c,a.1.length,d⟩ (Int.toNat (min a.2 (W ((a.1.length:Int) - 1)))*1)),(48,.ep ⟨c,a.1.length,d⟩ (Int.toNat (W ((min a.2 (W ((a.1.length:Int) - 1))) - 1))*1))] ev6 [0] E E ⟨ev5,l.ix g,ev5,l.ix i,(Es E)⟩ (JA.load aA aI 11 E (by kernel_rfl) E E E E E E 0 E E (Int.toNat (min a.2 (W ((a.1.length:Int) - 1)))) 0 (at' a.1 (min a.2 (W ((a.1.length:Int) - 1)))) ⟨bH g,E⟩ E E ev6 [0] E (JA.load aA aI 17 E (by kernel_rfl) E E E E E E 0 E E (Int.toNat (W ((min a.2 (W ((a.1.length:Int) - 1))) - 1))) 0 (at' a.1 (W ((min a.2 (W ((a.1.length:Int) - 1))) - 1))) ⟨bH i,E⟩ E E ev6 [0] E (cD aA aI true 3 [18] E (by kernel_rfl) [] [(50,.ep ⟨e,b.1.length,f⟩ (Int.toNat (W ((min a.2 (W ((a.1.length:Int) - 1))) - 1))*1))] ev6 [0] E E ⟨m.ix j,ev2⟩ (JA.one 19 (by kernel_rfl) (pY aA E E E E E E E E E [0] (fs:=[]) E (Int.toNat (W ((min a.2 (W ((a.1.length:Int) - 1))) - 1))) 0 (at' b.1 (W ((min a.2 (W ((a.1.length:Int) - 1))) - 1))) (at' a.1 (min a.2 (W ((a.1.length:Int) - 1)))) ⟨bH j,E⟩ ev9 (aQ ev6 [0] E (aW aA aI 1 [20] E (by kernel_rfl) [] [(51,.ep ⟨e,b.1.length,f⟩ (Int.toNat (min a.2 (W ((a.1.length:Int) - 1)))*1))] E ⟨m.ix k,ev2⟩ (JA.one 21 (by kernel_rfl) (pY aA E E E E E E E E E [0] (fs:=[]) E (Int.toNat (min a.2 (W ((a.1.length:Int) - 1)))) 0 (at' (List.set b.1 (Int.toNat (W ((min a.2 (W ((a.1.length:Int) - 1))) - 1))) (at' a.1 (min a.2 (W ((a.1.length:Int) - 1))))) (min a.2 (W ((a.1.length:Int) - 1)))) (at' a.1 (W ((min a.2 (W ((a.1.length:Int) - 1))) - 1))) ⟨aQd (List.length_set.trans E) k,E⟩ ev9 (aR E (bI (by kernel_rfl) (bC (B':=(.new 3 38 [.slice none 0 0,I 0] (.new 11 38 [sL e b.1 f,I b.2] .nil))) (Bs E E) (aS aA 3 [] [] [(3,.v (.bool true))] (.new 3 38 [sL e b.1 f,I b.2] .nil) ⟨ev2,(Bs E E)⟩ E E ?_)))))))))))))
 cases h
 exact JS.ret aA (e,f) V E (by simp only [List.length_set,List.length_replicate,cV,fU,sL,fI,vD];rfl) [0] (by simp only [List.length_set,List.length_replicate,cV,fU,sL,fI,vD];rfl)

def gG (a:List (List Int)):Option (List Int):= (aF (lP a) fun b=>(bif (bif (!b) then true else (decide ((a.length:Int)=0))) then some ([]) else (aN (0≤(0:Int)∧0<(a.length:Int)) <|(aF (cL (at' a 0)) fun c=> some c))))

theorem oP (a:List (List Int)) (b:Option Addr) (c:Nat) (r:List Int) (h:gG a=some r):
 FC Tryz.prog 257 [.agg #[sL b a c]] [⟨(.sl iT),⟨b,a.length,c⟩,a⟩] (fun _:Option Addr×Nat=>True) (fun q=>sL q.1 r q.2) (fun q=>[fI q.1 q.2 r]):= by
 refine FC.of (T:=TTx) Tryz.call257 Tryz.func257 E E fun p=>?_
 unfold gG at h
 refine aS aA 2 [] [2] [(1,.bp 2 0)] (.new 2 41 [sL b a c] .nil) ⟨ev2,(Bs E E)⟩ E E (JS.seq (JS.seq (JS.region (aB aA 1 [] [] [(3,.v (.agg #[sL b a c]))] _ E ev1 ?_))))
 refine bnw h fun k l h=>JO.call E E E E (sW a b c _ l) E [0] E E fun _ _=>aB aA 7 [] [] [(11,.v (.bool (bif (!k) then true else (decide ((a.length:Int)=0)))))] _ E ev1 (aC E ?_)
 refine aJ E h (fun h=>?_) (fun h=>?_)
 ·
  refine aE aA 1 [(2,.v (.slice none 0 0))] ev1 E E ?_
  cases h
  refine aX iT Sl.nil E E (JS.ret aA (none,0) V E E [0] E)
 refine JS.skip (JS.seq (JS.region (cC 0 E fun e=>?_)))
 obtain ⟨d,h⟩:=aH h
 refine aB aA 4 [] [] [(15,.ep ⟨b,a.length,c⟩ (Int.toNat 0*1))] _ E ⟨e.ix d,e.fa d,ev2,E⟩ (nH 0 E (Int.toNat 0) (at' a 0) E fun f g s t m=>dI aA E E E E E E 0 E E (Int.toNat 0) 0 (Sl.v ⟨f,(at' a 0).length,g⟩) ⟨m (tY d),E⟩ E E E ?_)
 refine bnw h fun n o h=>JO.call E E E E (dC (at' a 0) f g _ o) E [1] E E ?_
 rintro ⟨i,j⟩ -
 refine aB aA 1 [] [] [(2,.v (sL i n j))] _ E ev1 (aC E ?_)
 cases h
 exact JS.ret aA (i,j) V E E [0] E

def xC (a:EdQ):Option (EdQ×Int):= (aF (gG a.2.2.2.2.2.2.2.2.2.2.1) fun b=>(bif decide ((b.length:Int)=0) then (aF (cR a) fun (c,d)=> some (c,d)) else (aF (nT a b 3) fun (e,f)=> some (e,f))))

theorem aNe (b:EdQ) (a:P6) (r:EdQ×Int) (h:xC b=some r):
 FC Tryz.prog 205 [.agg (aG b a).toArray] (cH b a []) (fun _:P6=>True) (fun q=>.tuple #[.agg (aG r.1 q).toArray,I r.2]) (fun q=>(cH r.1 q [])):= by
 refine FC.of (T:=TTx) Tryz.call205 Tryz.func205 E E fun p=>?_
 unfold xC at h
 refine aS aA 3 [] [7,8] [(1,.bp 7 0),(2,.bp 8 0)] (.new 7 46 (aG b a) (.new 8 46 bG .nil)) ⟨(Es E),(Bs E E)⟩ E E (JS.seq (JS.region (aB aA 2 [] [] [(6,.v (.agg #[sL a.2.2.1 (Q8 b).2.2.1 a.2.2.2.1]))] _ E ev1 ?_)))
 refine bnw h fun c i h=>JO.call E E E E (oP (Q8 b).2.2.1 a.2.2.1 a.2.2.2.1 _ i) E [1] E E ?_
 rintro ⟨d,e⟩ -
 refine aB aA 1 [] [] [(4,.v (sL d c e))] _ E ev1 (aC E (JS.seq (aE aA 3 [(10,.v (.bool (decide ((c.length:Int)=0))))] ev1 E E ?_)))
 refine aJ E h (fun h=>?_) (fun h=>?_)
 ·
  refine JS.seq (JS.region (aB aA 1 [] [] [(11,.v (.agg (aG b a).toArray))] _ E ev1 ?_))
  obtain ⟨⟨j,k⟩,l,h⟩:=aD h
  refine JO.call E E E E (cX b a _ l) E [0,1,2,3,4,5] E E fun f _=>aL aA 4 [] [] [(3,.v (I k))] (.new 8 46 (aG j f) .nil) E ⟨ev2,(Bs E E)⟩ (aC E ?_)
  cases h
  exact JS.ret aA f V E E [0,0,0,0,0,0] E
 refine JS.skip (JS.seq (JS.region (aB aA 2 [] [] [(15,.v (.agg (aG b a).toArray)),(16,.v (sL d c e))] _ E ⟨(Es E),E⟩ ?_)))
 obtain ⟨⟨m,n⟩,o,h⟩:=aD h
 refine JO.call E E E E (wH b c 3 a d e _ o) E [0,1,2,3,4,5,6] E E fun g _=>aL aA 4 [] [] [(3,.v (I n))] (.new 8 46 (aG m g) .nil) E ⟨ev2,(Bs E E)⟩ (aC E ?_)
 cases h
 exact JS.ret aA g V E E [0,0,0,0,0,0] E

def kR (b:EdQ) (d:Int×List (List UInt8)) (c:Int):Option (EdQ×Int):= (bif (xT [(97,12),(101,13),(98,11),(102,10),(112,8),(110,9)] c) then (aF (mC b d ((xU [(97,12),(101,13),(98,11),(102,10),(112,8),(110,9)] c),0)) fun (e,f,v)=> some (e,f)) else (bif decide (c=107) then (aF (mX b b.2.2.1.2 (b.2.2.1.1.length:Int) 1) fun (g,h)=> some (g,h)) else (bif decide (c=121) then (aF (xC b) fun (i,j)=> some (i,j)) else (bif decide (c=116) then (aF (pG b.2.2.1) fun (k,l)=>(bif (!l) then (aF (cR b) fun (m,n)=> some (m,n)) else (aF (eX b k) fun (o,p)=> some (o,p)))) else (bif decide (c=95) then (aF (uK b) fun (q,r)=> some (q,r)) else (bif decide (c=114) then (aF (sQ b) fun (a,s)=> some ((a.1,a.2.1,a.2.2.1,a.2.2.2.1,a.2.2.2.2.1,a.2.2.2.2.2.1,a.2.2.2.2.2.2.1,a.2.2.2.2.2.2.2.1,a.2.2.2.2.2.2.2.2.1,a.2.2.2.2.2.2.2.2.2.1,a.2.2.2.2.2.2.2.2.2.2.1,a.2.2.2.2.2.2.2.2.2.2.2.1,a.2.2.2.2.2.2.2.2.2.2.2.2.1,a.2.2.2.2.2.2.2.2.2.2.2.2.2.1,[],a.2.2.2.2.2.2.2.2.2.2.2.2.2.2.2.1,a.2.2.2.2.2.2.2.2.2.2.2.2.2.2.2.2),s)) else (aF (cR b) fun (t,u)=> some (t,u))))))))

theorem aDf (a:EdQ) (d:Int×List (List UInt8)) (c:Int) (b:P6) (e:Option Addr) (f:Nat) (r:EdQ×Int) (h:kR a d c=some r):
 FC Tryz.prog 118 [.agg (aG a b).toArray,.agg #[I d.1,sL e d.2 f],I c] (cH a b [⟨.str,⟨e,d.2.length,f⟩,d.2⟩]) (fun _:P6=>True) (fun q=>.tuple #[.agg (aG r.1 q).toArray,I r.2]) (fun q=>(cH r.1 q [])):= by
 refine FC.of (T:=TTx) Tryz.call118 Tryz.func118 E E fun w0=>?_
 unfold kR at h
 refine aS aA 4 [] [8,9,10] [(3,.bp 8 0),(4,.bp 9 0),(6,.bp 10 0)] (.new 8 46 (aG a b) (.new 9 50 [I d.1,sL e d.2 f] (.new 10 46 bG .nil))) ⟨(Es E),(Bs E E)⟩ E E (JS.seq (JS.region (JO.makeMap E E E E E fun l b7 X34 K=>JO.insert K E E E E Tryz.underlying181 Tryz.underlying3 E E E E fun b8 X37 L=>JO.insert L E E E E Tryz.underlying181 Tryz.underlying3 E E E E fun b9 X40 M=>JO.insert M E E E E Tryz.underlying181 Tryz.underlying3 E E E E fun c0 X43 N=>JO.insert N E E E E Tryz.underlying181 Tryz.underlying3 E E E E fun c1 X46 O=>JO.insert O E E E E Tryz.underlying181 Tryz.underlying3 E E E E fun c2 X49 P=>JO.insert P E E E E Tryz.underlying181 Tryz.underlying3 E E E E fun c3 X52 Q=>aB aA 2 [] [] [(8,.v (.map (some l)))] _ E ev1 (aC E (JS.seq (JS.seq (JS.region (aB aA 2 [] [] [(19,.v (.map (some l))),(20,.v (I c))] _ E ⟨(Es E),E⟩ (aMq Q E E E E Tryz.underlying181 Tryz.underlying3 (fun _=>by kernel_rfl) E E E (aB aA 5 [] [] [(9,.v (I (xU [(97,12),(101,13),(98,11),(102,10),(112,8),(110,9)] c))),(10,.v (.bool (xT [(97,12),(101,13),(98,11),(102,10),(112,8),(110,9)] c)))] _ E ⟨(Es E),E⟩ (aC E (aE aA 1 [(24,.v (.bool (xT [(97,12),(101,13),(98,11),(102,10),(112,8),(110,9)] c)))] ev1 E E ?_))))))))))))
 refine aJ E h (fun h=>?_) (fun h=>?_)
 ·
  refine JS.seq (JS.region (aB aA 4 [] [] [(26,.v (.agg (aG a b).toArray)),(27,.v (.agg #[I d.1,sL e d.2 f])),(29,.v (.agg #[I (xU [(97,12),(101,13),(98,11),(102,10),(112,8),(110,9)] c),I 0]))] _ E ⟨(Es E),E⟩ ?_))
  obtain ⟨⟨m,n,c4⟩,R,h⟩:=aD h
  refine JO.call E E E E (yS a d ((xU [(97,12),(101,13),(98,11),(102,10),(112,8),(110,9)] c),0) b e f _ R) E [0,1,2,3,4,5,6] E E fun i _=>aL aA 8 [] [55] [(11,.bp 55 0),(12,.v (I n))] (.new 10 46 bG (.new 55 46 (aG m i) .nil)) E ⟨(Es E),(Bs E E)⟩ (aC E (aS aA 4 [] [] [(7,.v (I n))] (.new 10 46 (aG m i) .nil) ⟨ev2,(Bs E E)⟩ E E ?_))
  cases h
  exact JS.ret aA i V E E [0,0,0,0,0,0] E
 refine JS.skip (JS.seq (aE aA 1 [(36,.v (I c))] ev1 E E (JS.block (aE aA 2 [(37,.v (.bool (decide (c=107))))] ev1 E E ?_))))
 refine aJ E h (fun h=>?_) (fun h=>?_)
 ·
  refine JS.seq (JS.region (aB aA 8 [] [] [(39,.v (.agg (aG a b).toArray)),(42,.v (I a.2.2.1.2)),(46,.v (I (a.2.2.1.1.length:Int)))] _ E ⟨(Es E),E⟩ ?_))
  obtain ⟨⟨S,U⟩,W,h⟩:=aD h
  refine JO.call E E E E (tW a a.2.2.1.2 (a.2.2.1.1.length:Int) 1 b _ W) E [0,1,2,3,4,5] E E fun o _=>aL aA 4 [] [] [(7,.v (I U))] (.new 10 46 (aG S o) .nil) E ⟨ev2,(Bs E E)⟩ (aC E ?_)
  cases h
  exact JS.ret aA o V E E [0,0,0,0,0,0] E
 refine aE aA 2 [(50,.v (.bool (decide (c=121))))] ev1 E E ?_
 refine aJ E h (fun h=>?_) (fun h=>?_)
 ·
  refine JS.seq (JS.region (aB aA 1 [] [] [(52,.v (.agg (aG a b).toArray))] _ E ev1 ?_))
  obtain ⟨⟨X,Y⟩,Z,h⟩:=aD h
  refine JO.call E E E E (aNe a b _ Z) E [0,1,2,3,4,5] E E fun p _=>aL aA 4 [] [] [(7,.v (I Y))] (.new 10 46 (aG X p) .nil) E ⟨ev2,(Bs E E)⟩ (aC E ?_)
  cases h
  exact JS.ret aA p V E E [0,0,0,0,0,0] E
 refine aE aA 2 [(56,.v (.bool (decide (c=116))))] ev1 E E ?_
 refine aJ E h (fun h=>?_) (fun h=>?_)
 ·
  refine JS.seq (JS.region (aB aA 2 [] [] [(60,.v (.agg #[sL b.1 a.2.2.1.1 b.2.1,I a.2.2.1.2]))] _ E ev1 ?_))
  obtain ⟨⟨g,s⟩,a0,h⟩:=aD h
  refine JO.call E E E E (aEu a.2.2.1 b.1 b.2.1 _ a0) E [0] E E ?_
  rintro ⟨j,k⟩ -
  refine aL aA 6 [] [104] [(14,.bp 104 0),(15,.v (.bool s))] (.new 8 46 (aG a b) (.new 10 46 bG (.new 104 38 [sL j g.1 k,I g.2] .nil))) E ⟨(Es E),(Bs E E)⟩ (aC E (JS.seq (aE aA 2 [(65,.v (.bool (!s)))] ev1 E E ?_)))
  refine aJ E h (fun h=>?_) (fun h=>?_)
  ·
   refine JS.seq (JS.region (aB aA 1 [] [] [(66,.v (.agg (aG a b).toArray))] _ E ev1 ?_))
   obtain ⟨⟨a1,a2⟩,a3,h⟩:=aD h
   refine JO.call E E E E (cX a b _ a3) E [0,1,2,3,4,5] E E fun t _=>aL aA 4 [] [] [(7,.v (I a2))] (.new 10 46 (aG a1 t) .nil) E ⟨ev2,(Bs E E)⟩ (aC E ?_)
   cases h
   exact JS.ret aA t V E E [0,0,0,0,0,0] E
  refine JS.skip (JS.seq (JS.region (aB aA 2 [] [] [(70,.v (.agg (aG a b).toArray)),(71,.v (.agg #[sL j g.1 k,I g.2]))] _ E ⟨(Es E),E⟩ ?_)))
  obtain ⟨⟨a4,a5⟩,a6,h⟩:=aD h
  refine JO.call E E E E (gY a g b j k _ a6) E [0,1,2,3,4,5,7] E E fun u _=>aL aA 4 [] [] [(7,.v (I a5))] (.new 10 46 (aG a4 u) .nil) E ⟨ev2,(Bs E E)⟩ (aC E ?_)
  cases h
  exact JS.ret aA u V E E [0,0,0,0,0,0] E
 refine aE aA 2 [(75,.v (.bool (decide (c=95))))] ev1 E E ?_
 refine aJ E h (fun h=>?_) (fun h=>?_)
 ·
  refine JS.seq (JS.region (aB aA 1 [] [] [(77,.v (.agg (aG a b).toArray))] _ E ev1 ?_))
  obtain ⟨⟨a7,a8⟩,a9,h⟩:=aD h
  refine JO.call E E E E (aFb a b _ a9) E [0,1,2,3,4,5] E E fun w _=>aL aA 4 [] [] [(7,.v (I a8))] (.new 10 46 (aG a7 w) .nil) E ⟨ev2,(Bs E E)⟩ (aC E ?_)
  cases h
  exact JS.ret aA w V E E [0,0,0,0,0,0] E
 refine aE aA 2 [(81,.v (.bool (decide (c=114))))] ev1 E E ?_
 refine aJ E h (fun h=>?_) (fun h=>?_)
 ·
  refine JS.seq (JS.region (aB aA 1 [] [] [(83,.v (.agg (aG a b).toArray))] _ E ev1 ?_))
  obtain ⟨⟨b0,b1⟩,b2,h⟩:=aD h
  refine JO.call E E E E (aA2 a b _ b2) E [0,1,2,3,4,5] E E ?_
  rintro ⟨x,y,z,A,B,C,D,F,G,H⟩ -
  refine aL aA 4 [] [] [(7,.v (I b1))] (.new 10 46 (aG (U14 b0 []) (x,y,z,A,B,C,D,F,none,0,G,H)) .nil) E ⟨ev2,(Bs E E)⟩ (aC E ?_)
  cases h
  refine aX iT Sl.nil E E (JS.ret aA (x,y,z,A,B,C,D,F,none,0,G,H) V E E [1,1,1,1,0,0] E)
 refine JS.skip (aV (JS.seq (JS.region (aB aA 1 [] [] [(87,.v (.agg (aG a b).toArray))] _ E ev1 ?_))))
 obtain ⟨⟨b3,b4⟩,b5,h⟩:=aD h
 refine JO.call E E E E (cX a b _ b5) E [0,1,2,3,4,5] E E fun J _=>aL aA 4 [] [] [(7,.v (I b4))] (.new 10 46 (aG b3 J) .nil) E ⟨ev2,(Bs E E)⟩ (aC E ?_)
 cases h
 exact JS.ret aA J V E E [0,0,0,0,0,0] E

def kF (b:List Int) (c:Int→Option Int) (d:Int→Option Int):Int→Option Int:=fun a=>(aN (((decide (0<a))=true)→0≤(W (a - 1))∧(W (a - 1))<(b.length:Int)) <|(cA ((decide (0<a))=true) (gH (at' b (W (a - 1)))) (0:Int) fun e=>(bif (bif decide (0<a) then (!(decide (e=1))) else false) then d (W (a - 1)) else c a)))

def kE (b:List Int) (c:Int→Option Int) (d:Int→Option Int):Int→Option Int:=fun a=>(aN (((decide (0<a))=true)→0≤(W (a - 1))∧(W (a - 1))<(b.length:Int)) <|(cA ((decide (0<a))=true) (gH (at' b (W (a - 1)))) (0:Int) fun e=>(bif (bif decide (0<a) then (decide (e=1)) else false) then d (W (a - 1)) else c a)))

def mD (a:List Int) (b:Int):Option Int:= (aF (dE b (a.length:Int)) fun c=>(aT (fun (d:Int)=>(aT (fun (e:Int)=> some e) fun f=>(aZ (kE a f) bO d))) fun g=>(aZ (kF a g) bO c)))

theorem xZ (a:List Int) (f:Int) (d:Option Addr) (e:Nat) (r:Int) (h:mD a f=some r):
 FC Tryz.prog 116 [sL d a e,I f] [fI d e a] (fun _:Unit=>True) (fun _=>I r) (fun _=>[]):= by
 refine FC.of (T:=TTx) Tryz.call116 Tryz.func116 E E fun K=>?_
 unfold mD at h
 refine aE aA 1 [] ev5 E E (JS.seq (JS.region (aB aA 3 [] [] [(5,.v (I f)),(7,.v (I (a.length:Int)))] _ E ⟨(Es E),E⟩ ?_)))
 refine bnw h fun g o h=>JO.call E E E E (gD f (a.length:Int) _ o) E [] E E fun _ _=>aB aA 1 [] [] [(1,.v (I g))] _ E ev1 (aC E (JS.seq ?_))
 obtain ⟨i,p,h⟩:=aM h
 refine bA (ι:=Int) ⟨fun z=>i z=some r,fun z=>[(0,.v (sL d a e)),(1,.v (I z))],fun z=>.nil,fun z=>[fI d e a],fun z=>[],fun z=>0⟩ ?_ ?_
 ·
  refine JS.loop (ι:=Nat×Int) ⟨fun z=>aZ (kF a i) z.1 z.2=some r,fun z=>[(0,.v (sL d a e)),(1,.v (I z.2))],fun z=>.nil,fun z=>[fI d e a],fun z=>[],fun z=>z.1⟩ (bO,g) h (Es E) V [0] E [] E ?_
  rintro ⟨j,b⟩ h
  obtain ⟨j,rfl,h⟩:=bK h
  rw [kF] at h
  refine JS.seq (JS.seq (JS.region (cC 0 E fun q=>?_)))
  obtain ⟨k,h⟩:=aH h
  refine aB aA 7 [(W (b - 1))] [] [(11,.v (.bool (decide (0<b)))),(15,.cd [(11,true)] (.ep ⟨d,a.length,e⟩ (Int.toNat (W (b - 1))*1)))] _ E ⟨(fun L=>ev5),(fun s=>q.ix (k s)),(Es E),E⟩ (JO.load aA E E E E E E E 0 E E (Int.toNat (W (b - 1))) 0 (at' a (W (b - 1))) (fun t=>⟨bH (k t),E⟩) E E ?_)
  obtain ⟨u,w,-,h⟩:=bB h
  refine bR E E E E (fun x=>lX (at' a (W (b - 1))) _ (w x)) E [] E E (aB aA 2 [] [] [(19,.v (.bool (bif (decide (0<b)) then (!(decide (u=1))) else false)))] _ E ev1 (aC E ?_))
  refine aJ E h (fun h=>?_) (fun h=>?_)
  ·
   refine JS.skip (JS.block (cS aA 3 [(W (b - 1))] [] [(1,.v (I (W (b - 1))))] _ ev4 E E (aV (bZ (j,(W (b - 1))) h (Nat.lt_succ_self _) (Es E) V [0] E [] E))))
  refine JS.exit E (aO b h (Es E) V [0] E [] E)
 rintro y h
 subst p
 refine JS.seq ?_
 obtain ⟨l,A,h⟩:=aM h
 refine bA (ι:=Int) ⟨fun z=>l z=some r,fun z=>[(1,.v (I z))],fun z=>.nil,fun z=>[],fun z=>[],fun z=>0⟩ ?_ ?_
 ·
  refine JS.loop (ι:=Nat×Int) ⟨fun z=>aZ (kE a l) z.1 z.2=some r,fun z=>[(0,.v (sL d a e)),(1,.v (I z.2))],fun z=>.nil,fun z=>[fI d e a],fun z=>[],fun z=>z.1⟩ (bO,y) h (Es E) V [0] E [] E ?_
  rintro ⟨m,c⟩ h
  obtain ⟨m,rfl,h⟩:=bK h
  rw [kE] at h
  refine JS.seq (JS.seq (JS.region (cC 0 E fun B=>?_)))
  obtain ⟨n,h⟩:=aH h
  refine aB aA 7 [(W (c - 1))] [] [(24,.v (.bool (decide (0<c)))),(28,.cd [(24,true)] (.ep ⟨d,a.length,e⟩ (Int.toNat (W (c - 1))*1)))] _ E ⟨(fun M=>ev5),(fun C=>B.ix (n C)),(Es E),E⟩ (JO.load aA E E E E E E E 0 E E (Int.toNat (W (c - 1))) 0 (at' a (W (c - 1))) (fun D=>⟨bH (n D),E⟩) E E ?_)
  obtain ⟨F,G,-,h⟩:=bB h
  refine bR E E E E (fun H=>lX (at' a (W (c - 1))) _ (G H)) E [] E E (aB aA 2 [] [] [(32,.v (.bool (bif (decide (0<c)) then (decide (F=1)) else false)))] _ E ev1 (aC E ?_))
  refine aJ E h (fun h=>?_) (fun h=>?_)
  ·
   refine JS.skip (JS.block (cS aA 3 [(W (c - 1))] [] [(1,.v (I (W (c - 1))))] _ ev4 E E (aV (bZ (m,(W (c - 1))) h (Nat.lt_succ_self _) (Es E) V [0] E [] E))))
  refine JS.exit E (aO c h ev2 V [] E [] E)
 rintro J h
 subst A
 refine aE aA 2 [(4,.v (I J))] ev1 E E ?_
 cases h
 exact JS.ret aA () V E E [] E

def mZ (b:List Int) (c:Int→Option Int) (d:Int→Option Int):Int→Option Int:=fun a=>(aN (((decide (a<(b.length:Int)))=true)→0≤a∧a<(b.length:Int)) <|(cA ((decide (a<(b.length:Int)))=true) (gH (at' b a)) (0:Int) fun e=>(bif (bif decide (a<(b.length:Int)) then (!(decide (e=1))) else false) then d (W (a+1)) else c a)))

def mY (b:List Int) (c:Int→Option Int) (d:Int→Option Int):Int→Option Int:=fun a=>(aN (((decide (a<(b.length:Int)))=true)→0≤a∧a<(b.length:Int)) <|(cA ((decide (a<(b.length:Int)))=true) (gH (at' b a)) (0:Int) fun e=>(bif (bif decide (a<(b.length:Int)) then (decide (e=1)) else false) then d (W (a+1)) else c a)))

def nX (a:List Int) (b:Int):Option Int:= (aF (dE b (a.length:Int)) fun c=>(aT (fun (d:Int)=>(aT (fun (e:Int)=> some e) fun f=>(aZ (mY a f) bO d))) fun g=>(aZ (mZ a g) bO c)))

theorem wK (a:List Int) (f:Int) (b:Option Addr) (c:Nat) (r:Int) (h:nX a f=some r):
 FC Tryz.prog 196 [sL b a c,I f] [fI b c a] (fun _:Unit=>True) (fun _=>I r) (fun _=>[]):= by
 refine FC.of (T:=TTx) Tryz.call196 Tryz.func196 E E fun K=>?_
 unfold nX at h
 refine aE aA 1 [] ev5 E E (JS.seq (JS.region (aB aA 3 [] [] [(5,.v (I f)),(7,.v (I (a.length:Int)))] _ E ⟨(Es E),E⟩ ?_)))
 refine bnw h fun g o h=>JO.call E E E E (gD f (a.length:Int) _ o) E [] E E fun _ _=>aB aA 1 [] [] [(1,.v (I g))] _ E ev1 (aC E (JS.seq ?_))
 obtain ⟨i,p,h⟩:=aM h
 refine bA (ι:=Int) ⟨fun z=>i z=some r,fun z=>[(0,.v (sL b a c)),(1,.v (I z))],fun z=>.nil,fun z=>[fI b c a],fun z=>[],fun z=>0⟩ ?_ ?_
 ·
  refine JS.loop (ι:=Nat×Int) ⟨fun z=>aZ (mZ a i) z.1 z.2=some r,fun z=>[(0,.v (sL b a c)),(1,.v (I z.2))],fun z=>.nil,fun z=>[fI b c a],fun z=>[],fun z=>z.1⟩ (bO,g) h (Es E) V [0] E [] E ?_
  rintro ⟨j,d⟩ h
  obtain ⟨j,rfl,h⟩:=bK h
  rw [mZ] at h
  refine JS.seq (JS.seq (JS.region (cC 0 E fun q=>?_)))
  obtain ⟨k,h⟩:=aH h
  refine aB aA 8 [] [] [(13,.v (.bool (decide (d<(a.length:Int))))),(16,.cd [(13,true)] (.ep ⟨b,a.length,c⟩ (Int.toNat d*1)))] _ E ⟨(fun s=>q.ix (k s)),(Es E),E⟩ (JO.load aA E E E E E E E 0 E E (Int.toNat d) 0 (at' a d) (fun t=>⟨bH (k t),E⟩) E E ?_)
  obtain ⟨u,w,-,h⟩:=bB h
  refine bR E E E E (fun x=>lX (at' a d) _ (w x)) E [] E E (aB aA 2 [] [] [(20,.v (.bool (bif (decide (d<(a.length:Int))) then (!(decide (u=1))) else false)))] _ E ev1 (aC E ?_))
  refine aJ E h (fun h=>?_) (fun h=>?_)
  ·
   refine JS.skip (JS.block (cS aA 3 [(W (d+1))] [] [(1,.v (I (W (d+1))))] _ ev4 E E (aV (bZ (j,(W (d+1))) h (Nat.lt_succ_self _) (Es E) V [0] E [] E))))
  refine JS.exit E (aO d h (Es E) V [0] E [] E)
 rintro y h
 subst p
 refine JS.seq ?_
 obtain ⟨l,A,h⟩:=aM h
 refine bA (ι:=Int) ⟨fun z=>l z=some r,fun z=>[(1,.v (I z))],fun z=>.nil,fun z=>[],fun z=>[],fun z=>0⟩ ?_ ?_
 ·
  refine JS.loop (ι:=Nat×Int) ⟨fun z=>aZ (mY a l) z.1 z.2=some r,fun z=>[(0,.v (sL b a c)),(1,.v (I z.2))],fun z=>.nil,fun z=>[fI b c a],fun z=>[],fun z=>z.1⟩ (bO,y) h (Es E) V [0] E [] E ?_
  rintro ⟨m,e⟩ h
  obtain ⟨m,rfl,h⟩:=bK h
  rw [mY] at h
  refine JS.seq (JS.seq (JS.region (cC 0 E fun B=>?_)))
  obtain ⟨n,h⟩:=aH h
  refine aB aA 8 [] [] [(27,.v (.bool (decide (e<(a.length:Int))))),(30,.cd [(27,true)] (.ep ⟨b,a.length,c⟩ (Int.toNat e*1)))] _ E ⟨(fun C=>B.ix (n C)),(Es E),E⟩ (JO.load aA E E E E E E E 0 E E (Int.toNat e) 0 (at' a e) (fun D=>⟨bH (n D),E⟩) E E ?_)
  obtain ⟨F,G,-,h⟩:=bB h
  refine bR E E E E (fun H=>lX (at' a e) _ (G H)) E [] E E (aB aA 2 [] [] [(34,.v (.bool (bif (decide (e<(a.length:Int))) then (decide (F=1)) else false)))] _ E ev1 (aC E ?_))
  refine aJ E h (fun h=>?_) (fun h=>?_)
  ·
   refine JS.skip (JS.block (cS aA 3 [(W (e+1))] [] [(1,.v (I (W (e+1))))] _ ev4 E E (aV (bZ (m,(W (e+1))) h (Nat.lt_succ_self _) (Es E) V [0] E [] E))))
  refine JS.exit E (aO e h ev2 V [] E [] E)
 rintro J h
 subst A
 refine aE aA 2 [(4,.v (I J))] ev1 E E ?_
 cases h
 exact JS.ret aA () V E E [] E

def mE (b:List (List Int)):Option (List (List Int)):= (aF (lP b) fun d=>(bif (!d) then some ([]) else (aF (jQ b) fun a=>(aT (fun (e:List (List Int))=> some e) fun c=>(bif decide (0<(a.length:Int)) then (aT (fun (f:List (List Int))=> c f) fun g=>(aN (0≤(1:Int)∧(1:Int)≤(a.length:Int)∧(a.length:Int)≤(a.length:Int)) <|(aN (a.length≤536870912) <|(aN (0≤(0:Int)∧0<(a.length:Int)) <|(aN (a.length≤536870912) <|g (List.drop 1 a ++ [(at' a 0)])))))) else c a)))))

theorem aEt (c:List (List Int)) (d:Option Addr) (e:Nat) (r:List (List Int)) (h:mE c=some r):
 FC Tryz.prog 259 [.agg #[sL d c e]] [⟨(.sl iT),⟨d,c.length,e⟩,c⟩] (fun _:Option Addr×Nat=>True) (fun q=>.agg #[sL q.1 r q.2]) (fun q=>[⟨(.sl iT),⟨q.1,r.length,q.2⟩,r⟩]):= by
 refine FC.of (T:=TTx) Tryz.call259 Tryz.func259 E E fun O=>?_
 unfold mE at h
 refine aS aA 2 [] [2,3] [(1,.bp 2 0),(2,.bp 3 0)] (.new 2 41 [sL d c e] (.new 3 41 [.slice none 0 0] .nil)) ⟨(Es E),(Bs E E)⟩ E E (JS.seq (JS.seq (JS.region (aB aA 1 [] [] [(4,.v (.agg #[sL d c e]))] _ E ev1 ?_))))
 refine bnw h fun t u h=>JO.call E E E E (sW c d e _ u) E [0] E E fun _ _=>aB aA 1 [] [] [(6,.v (.bool (!t)))] _ E ev1 (aC E ?_)
 refine aJ E h (fun h=>?_) (fun h=>?_)
 ·
  refine aS aA 2 [] [] [] (.new 3 41 [.slice none 0 0] .nil) ⟨V,(Bs E E)⟩ E E ?_
  cases h
  refine aX (.sl iT) Sl.nil E E (JS.ret aA (none,0) V E E [0] E)
 refine JS.skip (JS.seq (JS.region (aB aA 1 [] [] [(8,.v (.agg #[sL d c e]))] _ E ev1 ?_)))
 refine bnw h fun a w h=>JO.call E E E E (tF c d e _ w) E [0] E E ?_
 rintro ⟨f,g⟩ -
 refine aL aA 2 [] [11] [(3,.bp 11 0)] (.new 3 41 [.slice none 0 0] (.new 11 41 [sL f a g] .nil)) E ⟨ev2,(Bs E E)⟩ (aC E ?_)
 obtain ⟨x,y,h⟩:=aM h
 refine cJ (ι:=List (List Int)×Option Addr×Nat) ⟨fun z=>x z.1=some r,fun z=>[(2,.bp 3 0),(3,.bp 11 0)],fun z=>(.new 3 41 [.slice none 0 0] (.new 11 41 [sL z.2.1 z.1 z.2.2] .nil)),fun z=>[],fun z=>[⟨(.sl iT),⟨z.2.1,z.1.length,z.2.2⟩,z.1⟩],fun z=>0⟩ ?_ ?_
 ·
  refine aE aA 4 [(13,.v (.bool (decide (0<(a.length:Int)))))] ev1 E E ?_
  refine aJ E h (fun h=>?_) (fun h=>?_)
  ·
   obtain ⟨A,B,h⟩:=aM h
   refine vK (ι:=List (List Int)×Option Addr×Nat) ⟨fun z=>A z.1=some r,fun z=>[(2,.bp 3 0),(3,.bp 11 0)],fun z=>(.new 3 41 [.slice none 0 0] (.new 11 41 [sL z.2.1 z.1 z.2.2] .nil)),fun z=>[],fun z=>[⟨(.sl iT),⟨z.2.1,z.1.length,z.2.2⟩,z.1⟩],fun z=>0⟩ ?_ ?_
   ·
    obtain ⟨m,h⟩:=aH h
    obtain ⟨P,h⟩:=aH h
    obtain ⟨C,h⟩:=aH h
    obtain ⟨Q,h⟩:=aH h
    refine aN6 0 E (Int.toNat 0) (at' a 0) E (by omega) fun k l D R F b n=>?_
    obtain rfl:([sL k (at' a 0) l]:List Value)=D:=Option.some.inj F
    refine iK 1 E fun o=>?_
    refine bE E (.new 11 41 [sL f a g] .nil) [1] [9,10,11] ev3 E (fun S=>?_)
    refine cD aA aI true 7 [0,1,4,5,6] E (by kernel_rfl) [] [(15,.v (sL f a g)),(20,.ep ⟨f,a.length,g⟩ (Int.toNat 0*1))] ev3 [1] E E ⟨(o.cast (aJi b)).ix C,(Es E)⟩ (xE aA aI 7 E (by kernel_rfl) E E E E E 0 E E (Int.toNat 0) 0 ((at' a 0),[sL k (at' a 0) l]) ⟨n,E⟩ E E E ev3 [1] E (pZ aA aI 2 E (by kernel_rfl) E E E E E E (1:Int) (a.length:Int) E E ⟨m.1,m.2.1,m.2.2,(o.cast (aJi b)).cap,(E:(aAu ⟨f,a.length,g⟩ 1 1 a.length)=(aAu ⟨f,a.length,g⟩ 1 1 a.length))⟩ E ?_))
    refine JA.all (rs:=[3,8]) (by kernel_rfl) E (List.forall_mem_cons.2 ⟨?_,List.forall_mem_cons.2 ⟨?_,(fun _ hx=>absurd hx List.not_mem_nil)⟩⟩)
    ·
     refine aMr (.alt (.sl iT)) Sl.nil E E (aEb aA E E E E ⟨E,E,E,E,V,E,E,E,E⟩ E 1 a.length E 0 E 2 E ⟨by omega,by rw [← b,List.length_map]⟩ (by simp only [List.length_nil];omega) E fun G H=>aQ ⟨E,E,E,E,V⟩ [2] E (JA.one 8 (by kernel_rfl) (JK.buildSlice aA E E E E E E E E E E E [] E (.alt (.sl iT)) [Sum.inr [sL k (at' a 0) l]] ⟨E,E,E⟩ E E fun J=>aQ ⟨E,E,E,E,V⟩ [3] E (JA.one 9 (by kernel_rfl) (aB6 aA E E E E ⟨E,E,E,E,V,E,E,E,E⟩ E E [1,0] E (by have:=congrArg List.length b;simp [aIo] at this ⊢;omega) E (List.drop 1 a ++ [(at' a 0)]).length (by rw [← b];simp [aIo]) fun i j=>aR E (aW aA aI 1 [10] E (by kernel_rfl) [] [(24,.bp 11 0)] E ⟨E,V⟩ (JA.one 11 (by kernel_rfl) (aY aA E E E E E E E E (aR E (bI (by kernel_rfl) (bC (B':=(.new 3 41 [.slice none 0 0] (.new 11 41 [sL i (List.drop 1 a ++ [(at' a 0)]) j] .nil))) (Bs E E) (aFp [0,0] E b n E (aO ((List.drop 1 a ++ [(at' a 0)]),i,j) h (Es E) (Bs E E) [] E [0] E)))))))))))))
    refine JK.buildSlice aA E E E E E E E E E E E [] E (.alt (.sl iT)) [Sum.inr [sL k (at' a 0) l]] ⟨E,E,E⟩ E E fun J=>aQ ⟨E,E,E,E,V⟩ [2] E (JA.one 3 (by kernel_rfl) (aMr (.alt (.sl iT)) Sl.nil E E (aEb aA E E E E ⟨E,E,E,E,V,E,E,E,E⟩ E 1 a.length E 0 E 3 E ⟨by omega,by rw [← b,List.length_map]⟩ (by simp only [List.length_nil];omega) E fun G H=>aQ ⟨E,E,E,E,V⟩ [3] E (JA.one 9 (by kernel_rfl) (aB6 aA E E E E ⟨E,E,E,E,V,E,E,E,E⟩ E E [0,0] E (by have:=congrArg List.length b;simp [aIo] at this ⊢;omega) E (List.drop 1 a ++ [(at' a 0)]).length (by rw [← b];simp [aIo]) fun i j=>aR E (aW aA aI 1 [10] E (by kernel_rfl) [] [(24,.bp 11 0)] E ⟨E,V⟩ (JA.one 11 (by kernel_rfl) (aY aA E E E E E E E E (aR E (bI (by kernel_rfl) (bC (B':=(.new 3 41 [.slice none 0 0] (.new 11 41 [sL i (List.drop 1 a ++ [(at' a 0)]) j] .nil))) (Bs E E) (aFp [0,0] E b n E (aO ((List.drop 1 a ++ [(at' a 0)]),i,j) h (Es E) (Bs E E) [] E [0] E)))))))))))))
   rintro ⟨K,L,M⟩ h
   subst B
   exact aO (K,L,M) h (Es E) (Bs E E) [] E [0] E
  refine JS.skip (aO (a,f,g) h (Es E) (Bs E E) [] E [0] E)
 rintro ⟨N,p,s⟩ h
 subst y
 refine aS aA 2 [] [] [] (.new 3 41 [sL p N s] .nil) ⟨V,(Bs E E)⟩ E E ?_
 cases h
 exact JS.ret aA (p,s) V E E [0] E

def pA (a:EdQ):Option (EdQ×Int):= (aF (gG a.2.2.2.2.2.2.2.2.2.2.1) fun c=>(aN (((bif (bif (!(decide (a.2.2.2.2.2.2.2.2.2.1=3))) then true else (decide ((c.length:Int)=0))) then true else (decide ((W (a.2.2.1.2 - (c.length:Int)))<0)))=false)→0≤(W (a.2.2.1.2 - (c.length:Int)))∧(W (a.2.2.1.2 - (c.length:Int)))≤a.2.2.1.2∧a.2.2.1.2≤(a.2.2.1.1.length:Int)) <|(cA ((bif (bif (!(decide (a.2.2.2.2.2.2.2.2.2.1=3))) then true else (decide ((c.length:Int)=0))) then true else (decide ((W (a.2.2.1.2 - (c.length:Int)))<0)))=false) (jO (bJ a.2.2.1.1 (W (a.2.2.1.2 - (c.length:Int))) a.2.2.1.2) c) false fun f=>(bif (bif (bif (bif (!(decide (a.2.2.2.2.2.2.2.2.2.1=3))) then true else (decide ((c.length:Int)=0))) then true else (decide ((W (a.2.2.1.2 - (c.length:Int)))<0))) then true else (!f)) then (aF (cR a) fun (g,h)=> some (g,h)) else (aF (iI a.2.2.1 (W (a.2.2.1.2 - (c.length:Int))) a.2.2.1.2) fun (i,s,t)=>(aF (mE a.2.2.2.2.2.2.2.2.2.2.1) fun d=>(aT (fun ((j,k,l):Bool×List Int×Int)=>(bif (!j) then (aF (cR a) fun (m,n)=> some (m,n)) else (aF (cK a) fun b=>(aF (mB (b.1,b.2.1,b.2.2.1,b.2.2.2.1,b.2.2.2.2.1,b.2.2.2.2.2.1,b.2.2.2.2.2.2.1,b.2.2.2.2.2.2.2.1,b.2.2.2.2.2.2.2.2.1,b.2.2.2.2.2.2.2.2.2.1,d,b.2.2.2.2.2.2.2.2.2.2.2.1,b.2.2.2.2.2.2.2.2.2.2.2.2.1,b.2.2.2.2.2.2.2.2.2.2.2.2.2.1,b.2.2.2.2.2.2.2.2.2.2.2.2.2.2.1,b.2.2.2.2.2.2.2.2.2.2.2.2.2.2.2.1,b.2.2.2.2.2.2.2.2.2.2.2.2.2.2.2.2) (k,l) 3) fun o=> some (o,0))))) fun p=>(aF (gG d) fun q=>(aF (jI i q) fun (e,r)=> p (r,e.1,e.2))))))))))

theorem aEo (a:EdQ) (b:P6) (r:EdQ×Int) (h:pA a=some r):
 FC Tryz.prog 198 [.agg (aG a b).toArray] (cH a b []) (fun _:P6=>True) (fun q=>.tuple #[.agg (aG r.1 q).toArray,I r.2]) (fun q=>(cH r.1 q [])):= by
 refine FC.of (T:=TTx) Tryz.call198 Tryz.func198 E E fun w0=>?_
 unfold pA at h
 refine aS aA 3 [] [7,8] [(1,.bp 7 0),(2,.bp 8 0)] (.new 7 46 (aG a b) (.new 8 46 bG .nil)) ⟨(Es E),(Bs E E)⟩ E E (JS.seq (JS.region (aB aA 2 [] [] [(14,.v (.agg #[sL b.2.2.1 (Q8 a).2.2.1 b.2.2.2.1]))] _ E ev1 ?_)))
 refine bnw h fun d M h=>JO.call E E E E (oP (Q8 a).2.2.1 b.2.2.1 b.2.2.2.1 _ M) E [1] E E ?_
 rintro ⟨C,D⟩ -
 refine aB aA 1 [] [] [(4,.v (sL C d D))] _ E ev1 (aC E (gI aA 7 [(W (a.2.2.1.2 - (d.length:Int)))] [] [(5,.v (I (W (a.2.2.1.2 - (d.length:Int)))))] _ ev4 E E (JS.seq (JS.seq (JS.region (aB aA 20 [] [] [(34,.v (.bool (bif (bif (!(decide ((Q8 a).2.1=3))) then true else (decide ((d.length:Int)=0))) then true else (decide ((W (a.2.2.1.2 - (d.length:Int)))<0))))),(37,.cd [(34,false)] (.v (sL b.1 a.2.2.1.1 b.2.1))),(38,.cd [(34,false)] (.v (I (W (a.2.2.1.2 - (d.length:Int)))))),(41,.cd [(34,false)] (.v (I a.2.2.1.2)))] _ E ⟨(Es E),E⟩ ?_))))))
 obtain ⟨p,h⟩:=aH h
 refine aR2 0 E (W (a.2.2.1.2 - (d.length:Int))) a.2.2.1.2 fun N O P=>cC 1 E fun Q=>aN8 aA E E E E E E E (W (a.2.2.1.2 - (d.length:Int))) a.2.2.1.2 E E (fun s=>⟨(p s).1,(p s).2.1,(p s).2.2,Q.cap,P (p s)⟩) E (aB aA 1 [] [] [(43,.cd [(34,false)] (.v (sL C d D)))] _ E ev1 ?_)
 obtain ⟨R,S,-,h⟩:=bB h
 refine bR E E E E (fun U=>tC (bJ a.2.2.1.1 (W (a.2.2.1.2 - (d.length:Int))) a.2.2.1.2) d N O C D _ (S U)) E [0,7] E E (aB aA 2 [] [] [(46,.v (.bool (bif (bif (bif (!(decide ((Q8 a).2.1=3))) then true else (decide ((d.length:Int)=0))) then true else (decide ((W (a.2.2.1.2 - (d.length:Int)))<0))) then true else (!R))))] _ E ev1 (aC E ?_))
 refine aJ E h (fun h=>?_) (fun h=>?_)
 ·
  refine JS.seq (JS.region (aB aA 1 [] [] [(47,.v (.agg (aG a b).toArray))] _ E ev1 ?_))
  obtain ⟨⟨X,Y⟩,Z,h⟩:=aD h
  refine JO.call E E E E (cX a b _ Z) E [1,2,3,4,5,6] E E fun H _=>aL aA 4 [] [] [(3,.v (I Y))] (.new 8 46 (aG X H) .nil) E ⟨ev2,(Bs E E)⟩ (aC E ?_)
  cases h
  exact JS.ret aA H V E E [0,0,0,0,0,0] E
 refine JS.skip (JS.seq (JS.region (aB aA 6 [] [] [(53,.v (.agg #[sL b.1 a.2.2.1.1 b.2.1,I a.2.2.1.2])),(54,.v (I (W (a.2.2.1.2 - (d.length:Int))))),(57,.v (I a.2.2.1.2))] _ E ⟨(Es E),E⟩ ?_)))
 obtain ⟨⟨i,b2,b3⟩,a0,h⟩:=aD h
 refine JO.call E E E E (rO a.2.2.1 (W (a.2.2.1.2 - (d.length:Int))) a.2.2.1.2 b.1 b.2.1 _ a0) E [1] E E ?_
 rintro ⟨n,o,b4,b5⟩ -
 refine aL aA 8 [] [52] [(6,.bp 52 0)] (.new 7 46 (aG a b) (.new 8 46 bG (.new 52 38 [sL n i.1 o,I i.2] .nil))) E ⟨ev2,(Bs E E)⟩ (aC E (JS.seq (JS.region (aB aA 2 [] [] [(63,.v (.agg #[sL b.2.2.1 (Q8 a).2.2.1 b.2.2.2.1]))] _ E ev1 ?_))))
 refine bnw h fun e a1 h=>JO.call E E E E (aEt (Q8 a).2.2.1 b.2.2.1 b.2.2.2.1 _ a1) E [2] E E ?_
 rintro ⟨f,g⟩ -
 refine aL aA 2 [] [58] [(9,.bp 58 0)] (.new 7 46 (aG a b) (.new 8 46 bG (.new 52 38 [sL n i.1 o,I i.2] (.new 58 41 [sL f e g] .nil)))) E ⟨ev2,(Bs E E)⟩ (aC E (JS.seq ?_))
 obtain ⟨a2,a3,h⟩:=aM h
 refine vK (ι:=Bool×List Int×Int×Option Addr×Nat) ⟨fun z=>a2 (z.1,z.2.1,z.2.2.1)=some r,fun z=>[(1,.bp 7 0),(2,.bp 8 0),(9,.bp 58 0),(10,.bp 70 0),(11,.v (.bool z.1))],fun z=>(.new 7 46 (aG a b) (.new 8 46 bG (.new 58 41 [sL f e g] (.new 70 38 [sL z.2.2.2.1 z.2.1 (Q4 z),I z.2.2.1] .nil)))),fun z=>(cH a b []),fun z=>[fI z.2.2.2.1 (Q4 z) z.2.1,⟨(.sl iT),⟨f,e.length,g⟩,e⟩],fun z=>0⟩ ?_ ?_
 ·
  obtain ⟨F,J,h⟩:=aD h
  obtain ⟨⟨c,m⟩,G,h⟩:=aD h
  refine bE E (.new 52 38 [sL n i.1 o,I i.2] (.new 58 41 [sL f e g] .nil)) [] [3,4,5,6,8,9] ev6 E (fun b6=>?_)
  refine cD aA aI true 8 [0,1] E (by kernel_rfl) [] [(66,.v (.agg #[sL n i.1 o,I i.2])),(67,.v (.agg #[sL f e g]))] ev6 [] E E (Es E) ?_
  refine JA.all (rs:=[2,7]) (by kernel_rfl) E (List.forall_mem_cons.2 ⟨?_,List.forall_mem_cons.2 ⟨?_,(fun _ hx=>absurd hx List.not_mem_nil)⟩⟩)
  ·
   refine JK.call E E E E (oP e f g _ J) E [7] E E ?_
   rintro ⟨t,u⟩ -
   refine aQ ev6 [] E ?_
   refine JA.all (rs:=[3,7]) (by kernel_rfl) E (List.forall_mem_cons.2 ⟨?_,List.forall_mem_cons.2 ⟨?_,(fun _ hx=>absurd hx List.not_mem_nil)⟩⟩)
   ·
    refine JK.call E E E E (oQ i F n o t u _ G) E [9,7] E E ?_
    rintro ⟨j,k⟩ -
    refine aR E (aW aA aI 3 [4,5,6] E (by kernel_rfl) [] [(70,.v (.agg #[sL j c.1 k,I c.2])),(71,.v (.bool m))] E (Es E) (JA.one 7 (by kernel_rfl) (JK.alloc aA E E E E E 70 E (fO _ E) (aQ ev6 [] E (JA.one 8 (by kernel_rfl) (aY aA E E E E E E E E (aR E (aW aA aI 0 [9] E (by kernel_rfl) [] [(11,.v (.bool m))] E ev2 (bI (by kernel_rfl) (bC (B':=(.new 7 46 (aG a b) (.new 8 46 bG (.new 58 41 [sL f e g] (.new 70 38 [sL j c.1 k,I c.2] .nil))))) (Bs E E) (aO (m,c.1,c.2,j,k) h (Es E) (Bs E E) [1,2,3,4,5,6] E [0,1] E)))))))))))
   refine JK.alloc aA E E E E E 70 E (fO _ E) (aQ ev6 [] E (JA.one 3 (by kernel_rfl) (JK.call E E E E (oQ i F n o t u _ G) E [9,7] E E ?_)))
   rintro ⟨j,k⟩ -
   refine aR E (aW aA aI 2 [4,5,6] E (by kernel_rfl) [] [(70,.v (.agg #[sL j c.1 k,I c.2])),(71,.v (.bool m))] E (Es E) (JA.one 8 (by kernel_rfl) (aY aA E E E E E E E E (aR E (aW aA aI 0 [9] E (by kernel_rfl) [] [(11,.v (.bool m))] E ev2 (bI (by kernel_rfl) (bC (B':=(.new 7 46 (aG a b) (.new 8 46 bG (.new 58 41 [sL f e g] (.new 70 38 [sL j c.1 k,I c.2] .nil))))) (Bs E E) (aO (m,c.1,c.2,j,k) h (Es E) (Bs E E) [1,2,3,4,5,6] E [0,1] E))))))))
  refine JK.alloc aA E E E E E 70 E (fO _ E) (aQ ev6 [] E (JA.one 2 (by kernel_rfl) (JK.call E E E E (oP e f g _ J) E [7] E E ?_)))
  rintro ⟨t,u⟩ -
  refine aQ ev6 [] E (JA.one 3 (by kernel_rfl) (JK.call E E E E (oQ i F n o t u _ G) E [9,7] E E ?_))
  rintro ⟨j,k⟩ -
  refine aR E (aW aA aI 2 [4,5,6] E (by kernel_rfl) [] [(70,.v (.agg #[sL j c.1 k,I c.2])),(71,.v (.bool m))] E (Es E) (JA.one 8 (by kernel_rfl) (aY aA E E E E E E E E (aR E (aW aA aI 0 [9] E (by kernel_rfl) [] [(11,.v (.bool m))] E ev2 (bI (by kernel_rfl) (bC (B':=(.new 7 46 (aG a b) (.new 8 46 bG (.new 58 41 [sL f e g] (.new 70 38 [sL j c.1 k,I c.2] .nil))))) (Bs E E) (aO (m,c.1,c.2,j,k) h (Es E) (Bs E E) [1,2,3,4,5,6] E [0,1] E))))))))
 rintro ⟨a4,w,x,y,A⟩ h
 subst a3
 refine JS.seq (aE aA 2 [(73,.v (.bool (!a4)))] ev1 E E ?_)
 refine aJ E h (fun h=>?_) (fun h=>?_)
 ·
  refine JS.seq (JS.region (aB aA 1 [] [] [(74,.v (.agg (aG a b).toArray))] _ E ev1 ?_))
  obtain ⟨⟨a5,a6⟩,a7,h⟩:=aD h
  refine JO.call E E E E (cX a b _ a7) E [0,1,2,3,4,5] E E fun K _=>aL aA 4 [] [] [(3,.v (I a6))] (.new 8 46 (aG a5 K) .nil) E ⟨ev2,(Bs E E)⟩ (aC E ?_)
  cases h
  exact JS.ret aA K V E E [0,0,0,0,0,0] E
 refine JS.skip (JS.seq (JS.region (aB aA 1 [] [] [(78,.v (.agg (aG a b).toArray))] _ E ev1 ?_)))
 refine bnw h fun B a8 h=>JO.call E E E E (dK a b _ a8) E [0,1,2,3,4,5] E E fun l _=>aL aA 2 [] [120] [(12,.bp 120 0)] (.new 8 46 bG (.new 58 41 [sL f e g] (.new 70 38 [sL y w A,I x] (.new 120 46 (aG B l) .nil)))) E ⟨ev2,(Bs E E)⟩ (aC E (aS aA 3 [] [] [] (.new 8 46 bG (.new 70 38 [sL y w A,I x] (.new 120 46 (aG (U10 B e) (l.1,l.2.1,f,g,(Q4 l))) .nil))) ⟨V,(Bs E E)⟩ E E (JS.seq (JS.region (aB aA 2 [] [] [(82,.v (.agg (aG (U10 B e) (l.1,l.2.1,f,g,(Q4 l))).toArray)),(83,.v (.agg #[sL y w A,I x]))] _ E ⟨(Es E),E⟩ ?_)))))
 refine bnw h fun a9 b0 h=>JO.call E E E E (sD (U10 B e) (w,x) 3 (l.1,l.2.1,f,g,(Q4 l)) y A _ b0) E [6,13,8,9,10,11,12] E E fun L _=>aL aA 2 [] [] [(3,.v (I 0))] (.new 8 46 (aG a9 L) .nil) E ⟨ev2,(Bs E E)⟩ (aC E ?_)
 cases h
 exact JS.ret aA L V E E [0,0,0,0,0,0] E

def oF (a:Int):Option Int:= (aF (fR a) fun b=>(bif b then some (W (a+32)) else some a))

theorem aDd (a:Int) (r:Int) (h:oF a=some r) :
 FC Tryz.prog 263 [I a] [] (fun _:Unit=>True) (fun _=>I r) (fun _=>[]):= by
 refine FC.of (T:=TTx) Tryz.call263 Tryz.func263 E E fun c=>?_
 unfold oF at h
 refine aE aA 1 [] ev5 E E (JS.seq (JS.seq (JS.region (aB aA 1 [] [] [(3,.v (I a))] _ E ev1 ?_))))
 refine bnw h fun d b h=>JO.call E E E E (rN a _ b) E [] E E fun _ _=>aC E ?_
 refine aJ E h (fun h=>?_) (fun h=>?_)
 ·
  refine gI aA 3 [(W (a+32))] [] [(2,.v (I (W (a+32))))] _ ev4 E E ?_
  cases h
  exact JS.ret aA () V E E [] E
 refine JS.skip (aE aA 2 [(2,.v (I a))] ev1 E E ?_)
 cases h
 exact JS.ret aA () V E E [] E

def oE (a:Int):Option Int:= (aF (eN a) fun b=>(bif b then some (W (a - 32)) else some a))

theorem aDa (a:Int) (r:Int) (h:oE a=some r) :
 FC Tryz.prog 262 [I a] [] (fun _:Unit=>True) (fun _=>I r) (fun _=>[]):= by
 refine FC.of (T:=TTx) Tryz.call262 Tryz.func262 E E fun c=>?_
 unfold oE at h
 refine aE aA 1 [] ev5 E E (JS.seq (JS.seq (JS.region (aB aA 1 [] [] [(3,.v (I a))] _ E ev1 ?_))))
 refine bnw h fun d b h=>JO.call E E E E (oN a _ b) E [] E E fun _ _=>aC E ?_
 refine aJ E h (fun h=>?_) (fun h=>?_)
 ·
  refine gI aA 3 [(W (a - 32))] [] [(2,.v (I (W (a - 32))))] _ ev4 E E ?_
  cases h
  exact JS.ret aA () V E E [] E
 refine JS.skip (aE aA 2 [(2,.v (I a))] ev1 E E ?_)
 cases h
 exact JS.ret aA () V E E [] E

def kI (h:Int) (c:Int) (i:(List Int)→Option ((List Int×Int)×Bool)) (j:(Bool×Int×List Int)→Option ((List Int×Int)×Bool)):(Bool×Int×List Int)→Option ((List Int×Int)×Bool):=fun (d,a,b)=>(bif decide (a<h) then (aT (fun ((k,l):Bool×List Int)=> j (k,(W (a+1)),l)) fun e=>(aN (0≤a∧a<(b.length:Int)) <|(aF (eN (at' b a)) fun f=>(cA ((!f)=true) (fR (at' b a)) false fun m=>(bif (bif (!f) then (!m) else false) then e (d,b) else (aT (fun (n:List Int)=> e (false,n)) fun g=>(bif (bif decide (c=1) then true else (bif decide (c=2) then d else false)) then (aF (oE (at' b a)) fun o=>(aN (0≤a∧a<(b.length:Int)) <|g (List.set b (Int.toNat a) o))) else (aF (oF (at' b a)) fun p=>(aN (0≤a∧a<(b.length:Int)) <|g (List.set b (Int.toNat a) p)))))))))) else i b)

def mF (b:List Int×Int) (c:Int) (a:Int) (d:Int):Option ((List Int×Int)×Bool):= (aF (pT b c a) fun e=>(cA ((!e)=false) (dH d 0 2) false fun g=>(bif (bif (!e) then true else (!g)) then some (([],0),false) else (aF (dP b a) fun f=>(aT (fun (h:List Int)=> some ((h,f.2),true)) fun i=>(aZ (kI a d i) bO (true,c,f.1)))))))

theorem tH (f:List Int×Int) (l:Int) (g:Int) (i:Int) (j:Option Addr) (k:Nat) (r:(List Int×Int)×Bool) (h:mF f l g i=some r):
 FC Tryz.prog 199 [.agg #[sL j f.1 k,I f.2],I l,I g,I i] [fI j k f.1] (fun _:Option Addr×Nat=>True) (fun q=>.tuple #[.agg #[sL q.1 r.1.1 q.2,I r.1.2],.bool r.2]) (fun q=>[fI q.1 q.2 r.1.1]):= by
 refine FC.of (T:=TTx) Tryz.call199 Tryz.func199 E E fun w0=>?_
 unfold mF at h
 refine aS aA 3 [] [2,3] [(4,.bp 2 0),(8,.bp 3 0)] (.new 2 38 [sL j f.1 k,I f.2] (.new 3 38 [.slice none 0 0,I 0] .nil)) ⟨(Es E),(Bs E E)⟩ E E (JS.seq (JS.seq (JS.region (aB aA 3 [] [] [(14,.v (.agg #[sL j f.1 k,I f.2])),(15,.v (I l)),(16,.v (I g))] _ E ⟨(Es E),E⟩ ?_))))
 refine bnw h fun o H h=>JO.call E E E E (aBs f l g j k _ H) E [0] E E fun _ _=>aB aA 3 [] [] [(19,.v (.bool (!o))),(20,.cd [(19,false)] (.v (I i)))] _ E ⟨(Es E),E⟩ ?_
 obtain ⟨J,K,-,h⟩:=bB h
 refine bR E E E E (fun L=>eG i 0 2 _ (K L)) E [] E E (aB aA 2 [] [] [(23,.v (.bool (bif (!o) then true else (!J))))] _ E ev1 (aC E ?_))
 refine aJ E h (fun h=>?_) (fun h=>?_)
 ·
  refine aS aA 3 [] [] [(9,.v (.bool false))] (.new 3 38 [.slice none 0 0,I 0] .nil) ⟨ev2,(Bs E E)⟩ E E ?_
  cases h
  refine aX iT Sl.nil E E (JS.ret aA (none,0) V E E [0] E)
 refine JS.skip (JS.seq (JS.region (aB aA 2 [] [] [(25,.v (.agg #[sL j f.1 k,I f.2])),(26,.v (I g))] _ E ⟨(Es E),E⟩ ?_)))
 refine bnw h fun e M h=>JO.call E E E E (eK f g j k _ M) E [0] E E ?_
 rintro ⟨p,s⟩ -
 refine aL aA 2 [] [13] [(10,.bp 13 0)] (.new 3 38 [.slice none 0 0,I 0] (.new 13 38 [sL p e.1 s,I e.2] .nil)) E ⟨ev2,(Bs E E)⟩ (aC E (aE aA 1 [(11,.v (.bool true))] ev1 E E (JS.seq (aE aA 2 [(12,.v (I l))] ev1 E E ?_))))
 obtain ⟨t,N,h⟩:=aM h
 refine bA (ι:=List Int×Option Addr×Nat) ⟨fun z=>t z.1=some r,fun z=>[(8,.bp 3 0),(10,.bp 13 0)],fun z=>(.new 3 38 [.slice none 0 0,I 0] (.new 13 38 [sL z.2.1 z.1 z.2.2,I e.2] .nil)),fun z=>[],fun z=>[fI z.2.1 z.2.2 z.1],fun z=>0⟩ ?_ ?_
 ·
  refine JS.loop (ι:=Nat×Bool×Int×List Int×Option Addr×Nat) ⟨fun z=>aZ (kI g i t) z.1 (z.2.1,z.2.2.1,z.2.2.2.1)=some r,fun z=>[(2,.v (I g)),(3,.v (I i)),(8,.bp 3 0),(10,.bp 13 0),(11,.v (.bool z.2.1)),(12,.v (I z.2.2.1))],fun z=>(.new 3 38 [.slice none 0 0,I 0] (.new 13 38 [sL (Q4 z).1 z.2.2.2.1 (Q4 z).2,I e.2] .nil)),fun z=>[],fun z=>[fI (Q4 z).1 (Q4 z).2 z.2.2.2.1],fun z=>z.1⟩ (bO,true,l,e.1,p,s) h (Es E) (Bs E E) [] E [0] E ?_
  rintro ⟨u,w,a,b,c,d⟩ h
  obtain ⟨u,rfl,h⟩:=bK h
  rw [kI] at h
  refine JS.seq (aE aA 3 [(31,.v (.bool (decide (a<g))))] ev1 E E ?_)
  refine aJ E h (fun h=>?_) (fun h=>?_)
  ·
   refine JS.skip (JS.seq ?_)
   obtain ⟨O,P,h⟩:=aM h
   refine bA (ι:=Bool×List Int×Option Addr×Nat) ⟨fun z=>O (z.1,z.2.1)=some r,fun z=>[(2,.v (I g)),(3,.v (I i)),(8,.bp 3 0),(10,.bp 13 0),(11,.v (.bool z.1)),(12,.v (I a))],fun z=>(.new 3 38 [.slice none 0 0,I 0] (.new 13 38 [sL z.2.2.1 z.2.1 z.2.2.2,I e.2] .nil)),fun z=>[],fun z=>[fI z.2.2.1 z.2.2.2 z.2.1],fun z=>0⟩ ?_ ?_
   ·
    refine JS.seq (JS.region (cC 0 E fun m=>?_))
    obtain ⟨x,h⟩:=aH h
    refine aB aA 4 [] [] [(37,.ep ⟨c,b.length,d⟩ (Int.toNat a*1))] _ E ⟨m.ix x,ev2,E⟩ (JO.load aA E E E E E E E 0 E E (Int.toNat a) 0 (at' b a) ⟨bH x,E⟩ E E (aB aA 1 [] [] [(13,.v (I (at' b a)))] _ E ev1 (aC E (JS.seq (JS.seq (JS.region (aB aA 1 [] [] [(39,.v (I (at' b a)))] _ E ev1 ?_)))))))
    refine bnw h fun y Q h=>JO.call E E E E (oN (at' b a) _ Q) E [] E E fun _ _=>aB aA 3 [] [] [(42,.v (.bool (!y))),(43,.cd [(42,true)] (.v (I (at' b a))))] _ E ⟨(Es E),E⟩ ?_
    obtain ⟨R,S,-,h⟩:=bB h
    refine bR E E E E (fun U=>rN (at' b a) _ (S U)) E [] E E (aB aA 2 [] [] [(46,.v (.bool (bif (!y) then (!R) else false)))] _ E ev1 (aC E ?_))
    refine aJ E h (fun h=>?_) (fun h=>?_)
    ·
     refine JS.exit E (aO (w,b,c,d) h (Es E) (Bs E E) [] E [0] E)
    refine JS.skip ?_
    obtain ⟨X,Y,h⟩:=aM h
    refine cJ (ι:=List Int×Option Addr×Nat) ⟨fun z=>X z.1=some r,fun z=>[(2,.v (I g)),(3,.v (I i)),(8,.bp 3 0),(10,.bp 13 0),(12,.v (I a))],fun z=>(.new 3 38 [.slice none 0 0,I 0] (.new 13 38 [sL z.2.1 z.1 z.2.2,I e.2] .nil)),fun z=>[],fun z=>[fI z.2.1 z.2.2 z.1],fun z=>0⟩ ?_ ?_
    ·
     refine aE aA 9 [(55,.v (.bool (bif (decide (i=1)) then true else (bif (decide (i=2)) then w else false))))] ev1 E E ?_
     refine aJ E h (fun h=>?_) (fun h=>?_)
     ·
      obtain ⟨A,Z,h⟩:=aD h
      obtain ⟨B,h⟩:=aH h
      refine bE E (.new 13 38 [sL c b d,I e.2] .nil) [] [5,6] ev3 E (fun b1=>?_)
      refine cD aA aI true 3 [0,1,2,3] E (by kernel_rfl) [] [(57,.v (sL c b d)),(58,.v (I a)),(59,.v (I (at' b a)))] ev3 [] E E (Es E) (JA.one 4 (by kernel_rfl) (JK.call E E E E (aDa (at' b a) _ Z) E [] E E fun _ _=>aQ ev3 [] E (aW aA aI 1 [5] E (by kernel_rfl) [] [(61,.ep ⟨c,b.length,d⟩ (Int.toNat a*1))] E ⟨m.ix B,ev2⟩ (JA.one 6 (by kernel_rfl) (pY aA E E E E E E E E E [0] (fs:=[]) E (Int.toNat a) 0 (at' b a) A ⟨bH B,E⟩ ev9 (aR E (bI (by kernel_rfl) (bC (B':=(.new 3 38 [.slice none 0 0,I 0] (.new 13 38 [sL c b d,I e.2] .nil))) (Bs E E) (aO ((List.set b (Int.toNat a) A),c,d) h (Es E) ⟨E,E,E,E,E,(congrArg (fun n=>([.slice c n d,I e.2]:List Value)) (List.length_set.trans E)),E,E,V⟩ [] E [0] (by simp only [List.length_set,List.length_replicate,cV,fU,sL,fI,vD];rfl))))))))))
     obtain ⟨C,a0,h⟩:=aD h
     obtain ⟨D,h⟩:=aH h
     refine bE E (.new 13 38 [sL c b d,I e.2] .nil) [] [5,6] ev3 E (fun b2=>?_)
     refine cD aA aI true 3 [0,1,2,3] E (by kernel_rfl) [] [(63,.v (sL c b d)),(64,.v (I a)),(65,.v (I (at' b a)))] ev3 [] E E (Es E) (JA.one 4 (by kernel_rfl) (JK.call E E E E (aDd (at' b a) _ a0) E [] E E fun _ _=>aQ ev3 [] E (aW aA aI 1 [5] E (by kernel_rfl) [] [(67,.ep ⟨c,b.length,d⟩ (Int.toNat a*1))] E ⟨m.ix D,ev2⟩ (JA.one 6 (by kernel_rfl) (pY aA E E E E E E E E E [0] (fs:=[]) E (Int.toNat a) 0 (at' b a) C ⟨bH D,E⟩ ev9 (aR E (bI (by kernel_rfl) (bC (B':=(.new 3 38 [.slice none 0 0,I 0] (.new 13 38 [sL c b d,I e.2] .nil))) (Bs E E) (aO ((List.set b (Int.toNat a) C),c,d) h (Es E) ⟨E,E,E,E,E,(congrArg (fun n=>([.slice c n d,I e.2]:List Value)) (List.length_set.trans E)),E,E,V⟩ [] E [0] (by simp only [List.length_set,List.length_replicate,cV,fU,sL,fI,vD];rfl))))))))))
    rintro ⟨a1,a2,a3⟩ h
    subst Y
    refine lT aA 1 [(11,.v (.bool false))] ev1 E E (aV (aO (false,a1,a2,a3) h (Es E) (Bs E E) [] E [0] E))
   rintro ⟨a4,a6,a7,a8⟩ h
   subst P
   refine cS aA 3 [(W (a+1))] [] [(12,.v (I (W (a+1))))] _ ev4 E E (bZ (u,a4,(W (a+1)),a6,a7,a8) h (Nat.lt_succ_self _) (Es E) (Bs E E) [] E [0] E)
  refine JS.exit E (aO (b,c,d) h (Es E) (Bs E E) [] E [0] E)
 rintro ⟨a9,F,G⟩ h
 subst N
 refine aS aA 3 [] [] [(9,.v (.bool true))] (.new 3 38 [sL F a9 G,I e.2] .nil) ⟨ev2,(Bs E E)⟩ E E ?_
 cases h
 exact JS.ret aA (F,G) V E E [0] E

def lL (b:Int) (a:List Int):Option (Int×List Int):= (aF (mD a b) fun c=> some (c,a))

theorem aCc (d:Int) (a:List Int) (e:Option Addr) (b:Option Addr) (c:Nat) (r:Int×List Int) (h:lL d a=some r):
 FX Tryz.prog 194 [I d,.pointer e] [fI b c a] [⟨.val,⟨e,1,1⟩,[(Sl.v ⟨b,a.length,c⟩)]⟩] (fun _:Unit=>True) (fun _=>I r.1) (fun _=>[⟨.val,⟨e,1,1⟩,[(Sl.v ⟨b,a.length,c⟩)]⟩]):= by
 refine FX.of (T:=TTx) Tryz.call194 Tryz.func194 E E fun i L0=>?_
 unfold lL at h
 refine gS 1 e E ?_
 refine aE aA 1 [] ev5 E E (JS.seq (JS.region (dI aA E E E E E E 1 E E 0 0 (Sl.v ⟨b,a.length,c⟩) ev7 E E E (aB aA 1 [] [] [(5,.v (I d))] _ E ev1 ?_))))
 refine bnw h fun f g h=>JO.call E E E E (xZ a d b c _ g) E [0] E E fun _ _=>aB aA 1 [] [] [(3,.v (I f))] _ E ev1 (aC E ?_)
 cases h
 exact cU aA () V E E [0] E

def cW (c:Int) (d:(List Int)) (e:Int→Option (Int×List Int)) (f:(Int×Int)→Option (Int×List Int)):(Int×Int)→Option (Int×List Int):=fun (a,b)=>(bif decide (b<c) then (aF (lL a d) fun (g,h)=> f (g,(W (b+1)))) else e a)

def eM (b:Int) (c:Int) (a:(List Int)):Option (Int×List Int):= (aT (fun (d:Int)=> some (d,a)) fun e=>(aZ (cW c a e) bO (b,0)))

theorem tD (i:Int) (e:Int) (a:(List Int)) (b:Option Addr) (c:Option Addr) (d:Nat) (r:Int×List Int) (h:eM i e a=some r):
 FX Tryz.prog 114 [I i,I e,.func (.func 194) #[] #[.pointer b]] [fI c d a] [⟨.val,⟨b,1,1⟩,[(Sl.v ⟨c,a.length,d⟩)]⟩] (fun _:Unit=>True) (fun _=>I r.1) (fun _=>[⟨.val,⟨b,1,1⟩,[(Sl.v ⟨c,a.length,d⟩)]⟩]):= by
 refine FX.of (T:=TTx) Tryz.call114 Tryz.func114 E E fun p L0=>?_
 unfold eM at h
 refine aE aA 1 [] ev5 E E (JS.seq (aE aA 2 [(7,.v (I e)),(8,.v (I 0))] ⟨(Es E),E⟩ E E ?_))
 obtain ⟨j,m,h⟩:=aM h
 refine bA (ι:=Int) ⟨fun z=>j z=some r,fun z=>[(0,.v (I z))],fun z=>.nil,fun z=>[fI c d a],fun z=>[⟨.val,⟨b,1,1⟩,[(Sl.v ⟨c,a.length,d⟩)]⟩],fun z=>0⟩ ?_ ?_
 ·
  refine JS.loop (ι:=Nat×Int×Int) ⟨fun z=>aZ (cW e a j) z.1 z.2=some r,fun z=>[(0,.v (I z.2.1)),(2,.v (.func (.func 194) #[] #[.pointer b])),(7,.v (I e)),(8,.v (I z.2.2))],fun z=>.nil,fun z=>[fI c d a],fun z=>[⟨.val,⟨b,1,1⟩,[(Sl.v ⟨c,a.length,d⟩)]⟩],fun z=>z.1⟩ (bO,i,0) h (Es E) V [0] E [0] E ?_
  rintro ⟨k,f,g⟩ h
  obtain ⟨k,rfl,h⟩:=bK h
  rw [cW] at h
  refine aE aA 1 [(9,.v (.bool (decide (g<e))))] ev1 E E (JS.seq ?_)
  refine aJ E h (fun h=>?_) (fun h=>?_)
  ·
   refine JS.skip (JS.seq (JS.block (JS.region (aB aA 2 [] [] [(10,.v (.func (.func 194) #[] #[.pointer b])),(11,.v (I f))] _ E ⟨(Es E),E⟩ ?_))))
   obtain ⟨⟨l,q⟩,n,h⟩:=aD h
   refine rX (vs0:=[I f]) (caps:=[.pointer b]) E E E E E (aCc f a b c d _ n) E [0] E [0] E E fun _ _=>aB aA 1 [] [] [(0,.v (I l))] _ E ⟨⟨E,V⟩,E⟩ (aC E (aV (cS aA 2 [(W (g+1))] [] [(8,.v (I (W (g+1))))] _ ⟨⟨V,E⟩,⟨E,V⟩,E⟩ E E (bZ (k,l,(W (g+1))) h (Nat.lt_succ_self _) (Es E) V [0] E [0] E))))
  refine JS.exit E (aO f h ev2 V [0] E [0] E)
 rintro o h
 subst m
 refine aE aA 2 [(6,.v (I o))] ev1 E E ?_
 cases h
 exact cU aA () V E E [0] E

def pC (b:Int) (a:List Int):Option (Int×List Int):= (aF (nX a b) fun c=> some (c,a))

theorem aCb (d:Int) (a:List Int) (e:Option Addr) (b:Option Addr) (c:Nat) (r:Int×List Int) (h:pC d a=some r):
 FX Tryz.prog 195 [I d,.pointer e] [fI b c a] [⟨.val,⟨e,1,1⟩,[(Sl.v ⟨b,a.length,c⟩)]⟩] (fun _:Unit=>True) (fun _=>I r.1) (fun _=>[⟨.val,⟨e,1,1⟩,[(Sl.v ⟨b,a.length,c⟩)]⟩]):= by
 refine FX.of (T:=TTx) Tryz.call195 Tryz.func195 E E fun i L0=>?_
 unfold pC at h
 refine gS 1 e E ?_
 refine aE aA 1 [] ev5 E E (JS.seq (JS.region (dI aA E E E E E E 1 E E 0 0 (Sl.v ⟨b,a.length,c⟩) ev7 E E E (aB aA 1 [] [] [(5,.v (I d))] _ E ev1 ?_))))
 refine bnw h fun f g h=>JO.call E E E E (wK a d b c _ g) E [0] E E fun _ _=>aB aA 1 [] [] [(3,.v (I f))] _ E ev1 (aC E ?_)
 cases h
 exact cU aA () V E E [0] E

def dU (c:Int) (d:(List Int)) (e:Int→Option (Int×List Int)) (f:(Int×Int)→Option (Int×List Int)):(Int×Int)→Option (Int×List Int):=fun (a,b)=>(bif decide (b<c) then (aF (pC a d) fun (g,h)=> f (g,(W (b+1)))) else e a)

def dR (b:Int) (c:Int) (a:(List Int)):Option (Int×List Int):= (aT (fun (d:Int)=> some (d,a)) fun e=>(aZ (dU c a e) bO (b,0)))

theorem mM (i:Int) (e:Int) (a:(List Int)) (b:Option Addr) (c:Option Addr) (d:Nat) (r:Int×List Int) (h:dR i e a=some r):
 FX Tryz.prog 114 [I i,I e,.func (.func 195) #[] #[.pointer b]] [fI c d a] [⟨.val,⟨b,1,1⟩,[(Sl.v ⟨c,a.length,d⟩)]⟩] (fun _:Unit=>True) (fun _=>I r.1) (fun _=>[⟨.val,⟨b,1,1⟩,[(Sl.v ⟨c,a.length,d⟩)]⟩]):= by
 refine FX.of (T:=TTx) Tryz.call114 Tryz.func114 E E fun p L0=>?_
 unfold dR at h
 refine aE aA 1 [] ev5 E E (JS.seq (aE aA 2 [(7,.v (I e)),(8,.v (I 0))] ⟨(Es E),E⟩ E E ?_))
 obtain ⟨j,m,h⟩:=aM h
 refine bA (ι:=Int) ⟨fun z=>j z=some r,fun z=>[(0,.v (I z))],fun z=>.nil,fun z=>[fI c d a],fun z=>[⟨.val,⟨b,1,1⟩,[(Sl.v ⟨c,a.length,d⟩)]⟩],fun z=>0⟩ ?_ ?_
 ·
  refine JS.loop (ι:=Nat×Int×Int) ⟨fun z=>aZ (dU e a j) z.1 z.2=some r,fun z=>[(0,.v (I z.2.1)),(2,.v (.func (.func 195) #[] #[.pointer b])),(7,.v (I e)),(8,.v (I z.2.2))],fun z=>.nil,fun z=>[fI c d a],fun z=>[⟨.val,⟨b,1,1⟩,[(Sl.v ⟨c,a.length,d⟩)]⟩],fun z=>z.1⟩ (bO,i,0) h (Es E) V [0] E [0] E ?_
  rintro ⟨k,f,g⟩ h
  obtain ⟨k,rfl,h⟩:=bK h
  rw [dU] at h
  refine aE aA 1 [(9,.v (.bool (decide (g<e))))] ev1 E E (JS.seq ?_)
  refine aJ E h (fun h=>?_) (fun h=>?_)
  ·
   refine JS.skip (JS.seq (JS.block (JS.region (aB aA 2 [] [] [(10,.v (.func (.func 195) #[] #[.pointer b])),(11,.v (I f))] _ E ⟨(Es E),E⟩ ?_))))
   obtain ⟨⟨l,q⟩,n,h⟩:=aD h
   refine rX (vs0:=[I f]) (caps:=[.pointer b]) E E E E E (aCb f a b c d _ n) E [0] E [0] E E fun _ _=>aB aA 1 [] [] [(0,.v (I l))] _ E ⟨⟨E,V⟩,E⟩ (aC E (aV (cS aA 2 [(W (g+1))] [] [(8,.v (I (W (g+1))))] _ ⟨⟨V,E⟩,⟨E,V⟩,E⟩ E E (bZ (k,l,(W (g+1))) h (Nat.lt_succ_self _) (Es E) V [0] E [0] E))))
  refine JS.exit E (aO f h ev2 V [0] E [0] E)
 rintro o h
 subst m
 refine aE aA 2 [(6,.v (I o))] ev1 E E ?_
 cases h
 exact cU aA () V E E [0] E

def kQ (a:EdQ) (c:Int):Option (EdQ×Int):= (aF (lK c) fun e=>(bif e then (aF (cK a) fun b=> some ((b.1,b.2.1,b.2.2.1,(min (W ((W ((W (10*a.2.2.2.1))+c)) - 48)) 999),b.2.2.2.2.1,b.2.2.2.2.2.1,b.2.2.2.2.2.2.1,b.2.2.2.2.2.2.2.1,b.2.2.2.2.2.2.2.2.1,b.2.2.2.2.2.2.2.2.2.1,b.2.2.2.2.2.2.2.2.2.2.1,b.2.2.2.2.2.2.2.2.2.2.2.1,b.2.2.2.2.2.2.2.2.2.2.2.2.1,b.2.2.2.2.2.2.2.2.2.2.2.2.2.1,b.2.2.2.2.2.2.2.2.2.2.2.2.2.2.1,b.2.2.2.2.2.2.2.2.2.2.2.2.2.2.2.1,b.2.2.2.2.2.2.2.2.2.2.2.2.2.2.2.2),0)) else (bif decide (c=98) then (aF (eM a.2.2.1.2 (max a.2.2.2.1 1) a.2.2.1.1) fun (f,A)=>(aF (dP a.2.2.1 f) fun g=>(aF (eX a g) fun (h,i)=> some (h,i)))) else (bif decide (c=102) then (aF (dR a.2.2.1.2 (max a.2.2.2.1 1) a.2.2.1.1) fun (j,B)=>(aF (dP a.2.2.1 j) fun k=>(aF (eX a k) fun (l,m)=> some (l,m)))) else (bif decide (c=100) then (aF (dR a.2.2.1.2 (max a.2.2.2.1 1) a.2.2.1.1) fun (n,C)=>(aF (mX a a.2.2.1.2 n 1) fun (o,p)=> some (o,p))) else (bif decide (c=121) then (aF (pA a) fun (q,r)=> some (q,r)) else (bif (xT [(117,1),(108,0),(99,2)] c) then (aT (fun ((s,t):List Int×Int)=>(aF (eX a (s,t)) fun (u,v)=> some (u,v))) fun w=>(aF (nX a.2.2.1.1 a.2.2.1.2) fun x=>(aF (mF a.2.2.1 a.2.2.1.2 x (xU [(117,1),(108,0),(99,2)] c)) fun (d,D)=> w (d.1,d.2)))) else (aF (cR a) fun (y,z)=> some (y,z)))))))))

theorem aDe (a:EdQ) (c:Int) (b:P6) (r:EdQ×Int) (h:kQ a c=some r):
 FC Tryz.prog 113 [.agg (aG a b).toArray,I c] (cH a b []) (fun _:P6=>True) (fun q=>.tuple #[.agg (aG r.1 q).toArray,I r.2]) (fun q=>(cH r.1 q [])):= by
 refine FC.of (T:=TTx) Tryz.call113 Tryz.func113 E E fun w0=>?_
 unfold kQ at h
 refine aS aA 3 [] [7,8] [(2,.bp 7 0),(4,.bp 8 0)] (.new 7 46 (aG a b) (.new 8 46 bG .nil)) ⟨(Es E),(Bs E E)⟩ E E (JS.seq ?_)
 refine bE E (.new 7 46 (aG a b) .nil) [] [12] ev3 E (fun c4=>?_)
 refine cD aA aI true 4 [0,1,2,3,4,5,6,7,8] E (by kernel_rfl) [] [(19,.v (sL b.1 a.2.2.1.1 b.2.1)),(22,.v (I a.2.2.1.2)),(25,.v (I (max a.2.2.2.1 1)))] ev3 [] E E (Es E) (JA.one 9 (by kernel_rfl) (JK.alloc aA E E E E E 9 E (fO _ E) (aQ ev3 [] E (JA.one 10 (by kernel_rfl) (aY aA E E E E E E E E (aQ ev3 [] E (cD aA aI true 1 [11] E (by kernel_rfl) [] [(7,.v (I a.2.2.1.2))] ev3 [] E E ev2 (aW aA aI 0 [12] E (by kernel_rfl) [] [(8,.v (I (max a.2.2.2.1 1)))] E ev2 (bI (by kernel_rfl) (bC (B':=(.new 7 46 (aG a b) (.new 8 46 bG (.new 9 22 [sL b.1 a.2.2.1.1 b.2.1] .nil)))) (Bs E E) (JS.seq (JS.region (rA 9 E (B':=(.new 7 46 (aG a b) (.new 8 46 bG .nil))) (Bs E E) E .val (Sl.v ⟨b.1,a.2.2.1.1.length,b.2.1⟩) ev9 (fun e=>[(0,.v (.agg (aG a b).toArray)),(1,.v (I c)),(2,.bp 7 0),(4,.bp 8 0),(6,.ep ⟨e,1,1⟩ 0),(7,.v (I a.2.2.1.2)),(8,.v (I (max a.2.2.2.1 1))),(19,.v (sL b.1 a.2.2.1.1 b.2.1)),(22,.v (I a.2.2.1.2)),(25,.v (I (max a.2.2.2.1 1)))]) (fun _=>(Es E)) fun e=>rW E E E E E E (aB aA 1 [] [] [(9,.v (.func (.func 194) #[] #[.pointer e]))] _ E ev1 (aC E (JS.seq (JS.region (rW E E E E E E (aB aA 1 [] [] [(10,.v (.func (.func 195) #[] #[.pointer e]))] _ E ev1 (aC E (JS.seq (JS.block ?_))))))))))))))))))))))
 refine JS.seq (JS.region (aB aA 1 [] [] [(29,.v (I c))] _ E ev1 ?_))
 refine bnw h fun L M h=>JO.call E E E E (zZ c _ M) E [] E E fun _ _=>aB aA 1 [] [] [(28,.v (.bool L))] _ E ev1 (aC E ?_)
 refine aJ E h (fun h=>?_) (fun h=>?_)
 ·
  refine JS.seq (JS.region (aB aA 1 [] [] [(31,.v (.agg (aG a b).toArray))] _ E ev1 ?_))
  refine bnw h fun j N h=>JO.call E E E E (dK a b _ N) E [0,1,2,3,4,5] E E fun i _=>aL aA 2 [] [35] [(11,.bp 35 0)] (.new 7 46 (aG a b) (.new 8 46 bG (.new 35 46 (aG j i) .nil))) E ⟨ev2,(Bs E E)⟩ (aC E (aS aA 9 [(W (10*a.2.2.2.1)),(W ((W (10*a.2.2.2.1))+c)),(W ((W ((W (10*a.2.2.2.1))+c)) - 48))] [] [] (.new 8 46 bG (.new 35 46 (aG (U3 j (min (W ((W ((W (10*a.2.2.2.1))+c)) - 48)) 999)) i) .nil)) ⟨ev5,ev5,ev5,V,(Bs E E)⟩ E E (aS aA 3 [] [] [(5,.v (I 0))] (.new 8 46 (aG (U3 j (min (W ((W ((W (10*a.2.2.2.1))+c)) - 48)) 999)) i) .nil) ⟨ev2,(Bs E E)⟩ E E ?_)))
  cases h
  exact JS.ret aA i V E E [0,0,0,0,0,0] E
 refine aE aA 3 [(42,.v (.bool (decide (c=98))))] ev1 E E ?_
 refine aJ E h (fun h=>?_) (fun h=>?_)
 ·
  refine JS.seq ?_
  obtain ⟨⟨O,c5⟩,P,h⟩:=aD h
  obtain ⟨Q,R,h⟩:=aD h
  obtain ⟨⟨s,t⟩,S,h⟩:=aD h
  refine bE E (.new 7 46 (aG a b) .nil) [] [8,9,10,11,12] ev3 E (fun c6=>?_)
  refine cD aA aI true 7 [0,1,2,3,4,5] E (by kernel_rfl) [] [(45,.v (.agg (aG a b).toArray)),(47,.v (.agg #[sL b.1 a.2.2.1.1 b.2.1,I a.2.2.1.2])),(48,.v (I a.2.2.1.2)),(49,.v (I (max a.2.2.2.1 1))),(50,.v (.func (.func 194) #[] #[.pointer e]))] ev3 [] E E (Es E) (JA.one 6 (by kernel_rfl) (sT E E E E (tD a.2.2.1.2 (max a.2.2.2.1 1) a.2.2.1.1 e b.1 b.2.1 _ P) E [0] E [0] E E fun _ _=>aQ ev3 [] E (JA.one 7 (by kernel_rfl) (JK.call E E E E (eK a.2.2.1 O b.1 b.2.1 _ R) E [0] E E ?_))))
  rintro ⟨U,X⟩ -
  refine aQ ev3 [] E (JA.one 8 (by kernel_rfl) (JK.call E E E E (gY a Q b U X _ S) E [0,1,2,3,4,5,6] E E ?_))
  rintro k -
  refine aR E (aW aA aI 2 [9,10] E (by kernel_rfl) [] [(54,.v (.agg (aG s k).toArray)),(55,.v (I t))] E (Es E) (JA.one 11 (by kernel_rfl) (aY aA E E E E E E E E (aR E (aW aA aI 0 [12] E (by kernel_rfl) [] [(5,.v (I t))] E ev2 (bI (by kernel_rfl) (bC (B':=(.new 8 46 (aG s k) .nil)) (Bs E E) ?_)))))))
  cases h
  exact JS.ret aA k V E E [0,0,0,0,0,0] E
 refine aE aA 3 [(56,.v (.bool (decide (c=102))))] ev1 E E ?_
 refine aJ E h (fun h=>?_) (fun h=>?_)
 ·
  refine JS.seq ?_
  obtain ⟨⟨Y,c7⟩,Z,h⟩:=aD h
  obtain ⟨a0,a1,h⟩:=aD h
  obtain ⟨⟨u,w⟩,a2,h⟩:=aD h
  refine bE E (.new 7 46 (aG a b) .nil) [] [8,9,10,11,12] ev3 E (fun c8=>?_)
  refine cD aA aI true 7 [0,1,2,3,4,5] E (by kernel_rfl) [] [(59,.v (.agg (aG a b).toArray)),(61,.v (.agg #[sL b.1 a.2.2.1.1 b.2.1,I a.2.2.1.2])),(62,.v (I a.2.2.1.2)),(63,.v (I (max a.2.2.2.1 1))),(64,.v (.func (.func 195) #[] #[.pointer e]))] ev3 [] E E (Es E) (JA.one 6 (by kernel_rfl) (sT E E E E (mM a.2.2.1.2 (max a.2.2.2.1 1) a.2.2.1.1 e b.1 b.2.1 _ Z) E [0] E [0] E E fun _ _=>aQ ev3 [] E (JA.one 7 (by kernel_rfl) (JK.call E E E E (eK a.2.2.1 Y b.1 b.2.1 _ a1) E [0] E E ?_))))
  rintro ⟨a3,a4⟩ -
  refine aQ ev3 [] E (JA.one 8 (by kernel_rfl) (JK.call E E E E (gY a a0 b a3 a4 _ a2) E [0,1,2,3,4,5,6] E E ?_))
  rintro l -
  refine aR E (aW aA aI 2 [9,10] E (by kernel_rfl) [] [(68,.v (.agg (aG u l).toArray)),(69,.v (I w))] E (Es E) (JA.one 11 (by kernel_rfl) (aY aA E E E E E E E E (aR E (aW aA aI 0 [12] E (by kernel_rfl) [] [(5,.v (I w))] E ev2 (bI (by kernel_rfl) (bC (B':=(.new 8 46 (aG u l) .nil)) (Bs E E) ?_)))))))
  cases h
  exact JS.ret aA l V E E [0,0,0,0,0,0] E
 refine aE aA 3 [(70,.v (.bool (decide (c=100))))] ev1 E E ?_
 refine aJ E h (fun h=>?_) (fun h=>?_)
 ·
  refine JS.seq ?_
  obtain ⟨⟨a5,c9⟩,a6,h⟩:=aD h
  obtain ⟨⟨x,y⟩,a7,h⟩:=aD h
  refine bE E (.new 7 46 (aG a b) .nil) [] [6,7,8,9,10] ev3 E (fun d0=>?_)
  refine cD aA aI true 6 [0,1,2,3,4] E (by kernel_rfl) [] [(73,.v (.agg (aG a b).toArray)),(74,.v (I a.2.2.1.2)),(75,.v (I a.2.2.1.2)),(76,.v (I (max a.2.2.2.1 1))),(77,.v (.func (.func 195) #[] #[.pointer e]))] ev3 [] E E (Es E) (JA.one 5 (by kernel_rfl) (sT E E E E (mM a.2.2.1.2 (max a.2.2.2.1 1) a.2.2.1.1 e b.1 b.2.1 _ a6) E [0] E [0] E E fun _ _=>aQ ev3 [] E (JA.one 6 (by kernel_rfl) (JK.call E E E E (tW a a.2.2.1.2 a5 1 b _ a7) E [0,1,2,3,4,5] E E ?_))))
  rintro m -
  refine aR E (aW aA aI 2 [7,8] E (by kernel_rfl) [] [(80,.v (.agg (aG x m).toArray)),(81,.v (I y))] E (Es E) (JA.one 9 (by kernel_rfl) (aY aA E E E E E E E E (aR E (aW aA aI 0 [10] E (by kernel_rfl) [] [(5,.v (I y))] E ev2 (bI (by kernel_rfl) (bC (B':=(.new 8 46 (aG x m) .nil)) (Bs E E) ?_)))))))
  cases h
  exact JS.ret aA m V E E [0,0,0,0,0,0] E
 refine aE aA 3 [(82,.v (.bool (decide (c=121))))] ev1 E E ?_
 refine aJ E h (fun h=>?_) (fun h=>?_)
 ·
  refine JS.seq (JS.region (aB aA 1 [] [] [(85,.v (.agg (aG a b).toArray))] _ E ev1 ?_))
  obtain ⟨⟨a8,a9⟩,b0,h⟩:=aD h
  refine JO.call E E E E (aEo a b _ b0) E [0,1,2,3,4,5] E E fun A _=>aL aA 4 [] [] [(5,.v (I a9))] (.new 8 46 (aG a8 A) .nil) E ⟨ev2,(Bs E E)⟩ (aC E ?_)
  cases h
  exact JS.ret aA A V E E [0,0,0,0,0,0] E
 refine JS.skip (aV (JS.seq (JS.region (JO.makeMap E E E E E fun B d1 X127 b1=>JO.insert b1 E E E E Tryz.underlying181 Tryz.underlying3 E E E E fun d2 X130 b2=>JO.insert b2 E E E E Tryz.underlying181 Tryz.underlying3 E E E E fun d3 X133 b3=>JO.insert b3 E E E E Tryz.underlying181 Tryz.underlying3 E E E E fun d4 X136 b4=>aB aA 2 [] [] [(12,.v (.map (some B)))] _ E ev1 (aC E (JS.seq (JS.seq (JS.region (aB aA 2 [] [] [(92,.v (.map (some B))),(93,.v (I c))] _ E ⟨(Es E),E⟩ (aMq b4 E E E E Tryz.underlying181 Tryz.underlying3 (fun _=>by kernel_rfl) E E E (aB aA 5 [] [] [(13,.v (I (xU [(117,1),(108,0),(99,2)] c))),(14,.v (.bool (xT [(117,1),(108,0),(99,2)] c)))] _ E ⟨(Es E),E⟩ (aC E (aE aA 1 [(97,.v (.bool (xT [(117,1),(108,0),(99,2)] c)))] ev1 E E ?_)))))))))))))
 refine aJ E h (fun h=>?_) (fun h=>?_)
 ·
  refine JS.seq ?_
  obtain ⟨b5,b6,h⟩:=aM h
  refine vK (ι:=List Int×Int×Option Addr×Nat) ⟨fun z=>b5 (z.1,z.2.1)=some r,fun z=>[(2,.bp 7 0),(4,.bp 8 0),(15,.bp 163 0)],fun z=>(.new 7 46 (aG a b) (.new 8 46 bG (.new 163 38 [sL z.2.2.1 z.1 z.2.2.2,I z.2.1] .nil))),fun z=>(cH a b []),fun z=>[fI z.2.2.1 z.2.2.2 z.1,⟨.val,⟨e,1,1⟩,[(Sl.v ⟨b.1,a.2.2.1.1.length,b.2.1⟩)]⟩],fun z=>0⟩ ?_ ?_
  ·
   obtain ⟨n,C,h⟩:=aD h
   obtain ⟨⟨d,o⟩,p,h⟩:=aD h
   refine bE E (.new 7 46 (aG a b) .nil) [6] [7,8,9,10,12,13] ev3 E (fun d5=>?_)
   refine cD aA aI true 9 [0,1,2,4,6] E (by kernel_rfl) [] [(100,.v (.agg #[sL b.1 a.2.2.1.1 b.2.1,I a.2.2.1.2])),(101,.v (I a.2.2.1.2)),(103,.v (I a.2.2.1.2)),(105,.v (I (xU [(117,1),(108,0),(99,2)] c)))] ev3 [6] E E (Es E) (xE aA aI 3 E (by kernel_rfl) E E E E E 0 E E 0 0 (Sl.v ⟨b.1,a.2.2.1.1.length,b.2.1⟩) ev7 E E E ev3 [6] E ?_)
   refine JA.all (rs:=[5,11]) (by kernel_rfl) E (List.forall_mem_cons.2 ⟨?_,List.forall_mem_cons.2 ⟨?_,(fun _ hx=>absurd hx List.not_mem_nil)⟩⟩)
   ·
    refine JK.call E E E E (wK a.2.2.1.1 a.2.2.1.2 b.1 b.2.1 _ C) E [0] E E fun _ _=>aQ ev3 [6] E ?_
    refine JA.all (rs:=[7,11]) (by kernel_rfl) E (List.forall_mem_cons.2 ⟨?_,List.forall_mem_cons.2 ⟨?_,(fun _ hx=>absurd hx List.not_mem_nil)⟩⟩)
    ·
     refine JK.call E E E E (tH a.2.2.1 a.2.2.1.2 n (xU [(117,1),(108,0),(99,2)] c) b.1 b.2.1 _ p) E [0] E E ?_
     rintro ⟨f,g⟩ -
     refine aR E (aW aA aI 3 [8,9,10] E (by kernel_rfl) [] [(107,.v (.agg #[sL f d.1 g,I d.2])),(108,.v (.bool o))] E (Es E) (JA.one 11 (by kernel_rfl) (JK.alloc aA E E E E E 163 E (fO _ E) (aQ ev3 [7] E (JA.one 12 (by kernel_rfl) (aY aA E E E E E E E E (aR E (aW aA aI 0 [13] E (by kernel_rfl) [] [] E V (bI (by kernel_rfl) (bC (B':=(.new 7 46 (aG a b) (.new 8 46 bG (.new 163 38 [sL f d.1 g,I d.2] .nil)))) (Bs E E) (aO (d.1,d.2,f,g) h (Es E) (Bs E E) [0,1,2,3,4,5] E [0,0] E)))))))))))
    refine JK.alloc aA E E E E E 163 E (fO _ E) (aQ ev3 [6] E (JA.one 7 (by kernel_rfl) (JK.call E E E E (tH a.2.2.1 a.2.2.1.2 n (xU [(117,1),(108,0),(99,2)] c) b.1 b.2.1 _ p) E [0] E E ?_)))
    rintro ⟨f,g⟩ -
    refine aR E (aW aA aI 2 [8,9,10] E (by kernel_rfl) [] [(107,.v (.agg #[sL f d.1 g,I d.2])),(108,.v (.bool o))] E (Es E) (JA.one 12 (by kernel_rfl) (aY aA E E E E E E E E (aR E (aW aA aI 0 [13] E (by kernel_rfl) [] [] E V (bI (by kernel_rfl) (bC (B':=(.new 7 46 (aG a b) (.new 8 46 bG (.new 163 38 [sL f d.1 g,I d.2] .nil)))) (Bs E E) (aO (d.1,d.2,f,g) h (Es E) (Bs E E) [0,1,2,3,4,5] E [0,0] E))))))))
   refine JK.alloc aA E E E E E 163 E (fO _ E) (aQ ev3 [6] E (JA.one 5 (by kernel_rfl) (JK.call E E E E (wK a.2.2.1.1 a.2.2.1.2 b.1 b.2.1 _ C) E [0] E E fun _ _=>aQ ev3 [6] E (JA.one 7 (by kernel_rfl) (JK.call E E E E (tH a.2.2.1 a.2.2.1.2 n (xU [(117,1),(108,0),(99,2)] c) b.1 b.2.1 _ p) E [0] E E ?_)))))
   rintro ⟨f,g⟩ -
   refine aR E (aW aA aI 2 [8,9,10] E (by kernel_rfl) [] [(107,.v (.agg #[sL f d.1 g,I d.2])),(108,.v (.bool o))] E (Es E) (JA.one 12 (by kernel_rfl) (aY aA E E E E E E E E (aR E (aW aA aI 0 [13] E (by kernel_rfl) [] [] E V (bI (by kernel_rfl) (bC (B':=(.new 7 46 (aG a b) (.new 8 46 bG (.new 163 38 [sL f d.1 g,I d.2] .nil)))) (Bs E E) (aO (d.1,d.2,f,g) h (Es E) (Bs E E) [0,1,2,3,4,5] E [0,0] E))))))))
  rintro ⟨D,F,G,H⟩ h
  subst b6
  refine JS.seq (JS.region (aB aA 2 [] [] [(109,.v (.agg (aG a b).toArray)),(110,.v (.agg #[sL G D H,I F]))] _ E ⟨(Es E),E⟩ ?_))
  obtain ⟨⟨b7,b8⟩,b9,h⟩:=aD h
  refine JO.call E E E E (gY a (D,F) b G H _ b9) E [0,1,2,3,4,5,6] E E fun J _=>aL aA 4 [] [] [(5,.v (I b8))] (.new 8 46 (aG b7 J) .nil) E ⟨ev2,(Bs E E)⟩ (aC E ?_)
  cases h
  exact JS.ret aA J V E E [0,0,0,0,0,0] E
 refine JS.skip (JS.seq (JS.region (aB aA 1 [] [] [(114,.v (.agg (aG a b).toArray))] _ E ev1 ?_)))
 obtain ⟨⟨c0,c1⟩,c2,h⟩:=aD h
 refine JO.call E E E E (cX a b _ c2) E [0,1,2,3,4,5] E E fun K _=>aL aA 4 [] [] [(5,.v (I c1))] (.new 8 46 (aG c0 K) .nil) E ⟨ev2,(Bs E E)⟩ (aC E ?_)
 cases h
 exact JS.ret aA K V E E [0,0,0,0,0,0] E

def qG (b:Int) (a:List Int):Option (Int×List Int):= (aF (mD a b) fun c=> some (c,a))

theorem aDn (d:Int) (a:List Int) (e:Option Addr) (b:Option Addr) (c:Nat) (r:Int×List Int) (h:qG d a=some r):
 FX Tryz.prog 115 [I d,.pointer e] [fI b c a] [⟨.val,⟨e,1,1⟩,[(Sl.v ⟨b,a.length,c⟩)]⟩] (fun _:Unit=>True) (fun _=>I r.1) (fun _=>[⟨.val,⟨e,1,1⟩,[(Sl.v ⟨b,a.length,c⟩)]⟩]):= by
 refine FX.of (T:=TTx) Tryz.call115 Tryz.func115 E E fun i L0=>?_
 unfold qG at h
 refine gS 1 e E ?_
 refine aE aA 1 [] ev5 E E (JS.seq (JS.region (dI aA E E E E E E 1 E E 0 0 (Sl.v ⟨b,a.length,c⟩) ev7 E E E (aB aA 1 [] [] [(5,.v (I d))] _ E ev1 ?_))))
 refine bnw h fun f g h=>JO.call E E E E (xZ a d b c _ g) E [0] E E fun _ _=>aB aA 1 [] [] [(3,.v (I f))] _ E ev1 (aC E ?_)
 cases h
 exact cU aA () V E E [0] E

def eB (c:Int) (d:(List Int)) (e:Int→Option (Int×List Int)) (f:(Int×Int)→Option (Int×List Int)):(Int×Int)→Option (Int×List Int):=fun (a,b)=>(bif decide (b<c) then (aF (qG a d) fun (g,h)=> f (g,(W (b+1)))) else e a)

def dX (b:Int) (c:Int) (a:(List Int)):Option (Int×List Int):= (aT (fun (d:Int)=> some (d,a)) fun e=>(aZ (eB c a e) bO (b,0)))

theorem tV (i:Int) (e:Int) (a:(List Int)) (b:Option Addr) (c:Option Addr) (d:Nat) (r:Int×List Int) (h:dX i e a=some r):
 FX Tryz.prog 114 [I i,I e,.func (.func 115) #[] #[.pointer b]] [fI c d a] [⟨.val,⟨b,1,1⟩,[(Sl.v ⟨c,a.length,d⟩)]⟩] (fun _:Unit=>True) (fun _=>I r.1) (fun _=>[⟨.val,⟨b,1,1⟩,[(Sl.v ⟨c,a.length,d⟩)]⟩]):= by
 refine FX.of (T:=TTx) Tryz.call114 Tryz.func114 E E fun p L0=>?_
 unfold dX at h
 refine aE aA 1 [] ev5 E E (JS.seq (aE aA 2 [(7,.v (I e)),(8,.v (I 0))] ⟨(Es E),E⟩ E E ?_))
 obtain ⟨j,m,h⟩:=aM h
 refine bA (ι:=Int) ⟨fun z=>j z=some r,fun z=>[(0,.v (I z))],fun z=>.nil,fun z=>[fI c d a],fun z=>[⟨.val,⟨b,1,1⟩,[(Sl.v ⟨c,a.length,d⟩)]⟩],fun z=>0⟩ ?_ ?_
 ·
  refine JS.loop (ι:=Nat×Int×Int) ⟨fun z=>aZ (eB e a j) z.1 z.2=some r,fun z=>[(0,.v (I z.2.1)),(2,.v (.func (.func 115) #[] #[.pointer b])),(7,.v (I e)),(8,.v (I z.2.2))],fun z=>.nil,fun z=>[fI c d a],fun z=>[⟨.val,⟨b,1,1⟩,[(Sl.v ⟨c,a.length,d⟩)]⟩],fun z=>z.1⟩ (bO,i,0) h (Es E) V [0] E [0] E ?_
  rintro ⟨k,f,g⟩ h
  obtain ⟨k,rfl,h⟩:=bK h
  rw [eB] at h
  refine aE aA 1 [(9,.v (.bool (decide (g<e))))] ev1 E E (JS.seq ?_)
  refine aJ E h (fun h=>?_) (fun h=>?_)
  ·
   refine JS.skip (JS.seq (JS.block (JS.region (aB aA 2 [] [] [(10,.v (.func (.func 115) #[] #[.pointer b])),(11,.v (I f))] _ E ⟨(Es E),E⟩ ?_))))
   obtain ⟨⟨l,q⟩,n,h⟩:=aD h
   refine rX (vs0:=[I f]) (caps:=[.pointer b]) E E E E E (aDn f a b c d _ n) E [0] E [0] E E fun _ _=>aB aA 1 [] [] [(0,.v (I l))] _ E ⟨⟨E,V⟩,E⟩ (aC E (aV (cS aA 2 [(W (g+1))] [] [(8,.v (I (W (g+1))))] _ ⟨⟨V,E⟩,⟨E,V⟩,E⟩ E E (bZ (k,l,(W (g+1))) h (Nat.lt_succ_self _) (Es E) V [0] E [0] E))))
  refine JS.exit E (aO f h ev2 V [0] E [0] E)
 rintro o h
 subst m
 refine aE aA 2 [(6,.v (I o))] ev1 E E ?_
 cases h
 exact cU aA () V E E [0] E

def pI (a:EdQ) (c:Int×List (List UInt8)) (b:Int×Int):Option (EdQ×Int):= (aF (nW a c b) fun d=>(bif (bif (!d) then true else (!(decide (a.2.1=0)))) then some ((false,0,([],0),0,0,0,0,0,0,0,[],[],0,([],0),[],0,([],0)),0) else (aF (mC a c b) fun (e,f,g)=>(bif g then some (e,f) else (bif decide (b.1=3) then (aF (kQ a b.2) fun (h,i)=> some (h,i)) else (bif decide (b.1=15) then (aF (dX a.2.2.1.2 (max a.2.2.2.1 1) a.2.2.1.1) fun (j,q)=>(aF (mX a j a.2.2.1.2 2) fun (k,l)=> some (k,l))) else (bif decide (b.1=2) then (aF (kR a c b.2) fun (m,n)=> some (m,n)) else (aF (cR a) fun (o,p)=> some (o,p)))))))))

theorem aEx (a:EdQ) (d:Int×List (List UInt8)) (b:Int×Int) (c:P6) (e:Option Addr) (f:Nat) (r:EdQ×Int) (h:pI a d b=some r):
 FC Tryz.prog 38 [.agg (aG a c).toArray,.agg #[I d.1,sL e d.2 f],.agg #[I b.1,I b.2]] (cH a c [⟨.str,⟨e,d.2.length,f⟩,d.2⟩]) (fun _:P6=>True) (fun q=>.tuple #[.agg (aG r.1 q).toArray,I r.2]) (fun q=>(cH r.1 q [])):= by
 refine FC.of (T:=TTx) Tryz.call38 Tryz.func38 E E fun M=>?_
 unfold pI at h
 refine aS aA 5 [] [8,9,10,11] [(3,.bp 8 0),(4,.bp 9 0),(5,.bp 10 0),(6,.bp 11 0)] (.new 8 46 (aG a c) (.new 9 50 [I d.1,sL e d.2 f] (.new 10 64 [I b.1,I b.2] (.new 11 46 bG .nil)))) ⟨(Es E),(Bs E E)⟩ E E (JS.seq (JS.seq (JS.region (aB aA 3 [] [] [(13,.v (.agg (aG a c).toArray)),(14,.v (.agg #[I d.1,sL e d.2 f])),(15,.v (.agg #[I b.1,I b.2]))] _ E ⟨(Es E),E⟩ ?_))))
 refine bnw h fun k u h=>JO.call E E E E (wJ a d b c e f _ u) E [0,1,2,3,4,5,6] E E fun _ _=>aB aA 6 [] [] [(22,.v (.bool (bif (!k) then true else (!(decide (a.2.1=0))))))] _ E ev1 (aC E ?_)
 refine aJ E h (fun h=>?_) (fun h=>?_)
 ·
  refine aS aA 3 [] [] [(7,.v (I 0))] (.new 11 46 bG .nil) ⟨ev2,(Bs E E)⟩ E E ?_
  cases h
  refine aX iT Sl.nil E E (aX (.sl iT) Sl.nil E E (aX (.pair (.sl iT) iT) Sl.nil E E (aX iT Sl.nil E E (aX iT Sl.nil E E (aX iT Sl.nil E E (JS.ret aA (none,0,none,0,none,0,none,0,none,0,none,0) V E E [5,4,3,2,1,0] E))))))
 refine JS.skip (JS.seq (JS.seq (JS.region (aB aA 3 [] [] [(25,.v (.agg (aG a c).toArray)),(26,.v (.agg #[I d.1,sL e d.2 f])),(27,.v (.agg #[I b.1,I b.2]))] _ E ⟨(Es E),E⟩ ?_))))
 obtain ⟨⟨l,i,g⟩,w,h⟩:=aD h
 refine JO.call E E E E (yS a d b c e f _ w) E [0,1,2,3,4,5,6] E E fun j _=>aL aA 8 [] [36] [(8,.bp 36 0),(9,.v (I i)),(10,.v (.bool g))] (.new 8 46 (aG a c) (.new 9 50 [I d.1,sL e d.2 f] (.new 10 64 [I b.1,I b.2] (.new 11 46 bG (.new 36 46 (aG l j) .nil))))) E ⟨(Es E),(Bs E E)⟩ (aC E (aE aA 1 [(32,.v (.bool g))] ev1 E E ?_))
 refine aJ E h (fun h=>?_) (fun h=>?_)
 ·
  refine aS aA 4 [] [] [(7,.v (I i))] (.new 11 46 (aG l j) .nil) ⟨ev2,(Bs E E)⟩ E E ?_
  cases h
  exact JS.ret aA j V E E [0,0,0,0,0,0] E
 refine JS.skip (JS.seq (aE aA 2 [(36,.v (I b.1))] ev1 E E (JS.block (aE aA 2 [(37,.v (.bool (decide (b.1=3))))] ev1 E E ?_))))
 refine aJ E h (fun h=>?_) (fun h=>?_)
 ·
  refine JS.seq (JS.region (aB aA 3 [] [] [(39,.v (.agg (aG a c).toArray)),(41,.v (I b.2))] _ E ⟨(Es E),E⟩ ?_))
  obtain ⟨⟨x,y⟩,z,h⟩:=aD h
  refine JO.call E E E E (aDe a b.2 c _ z) E [0,1,2,3,4,5] E E fun o _=>aL aA 4 [] [] [(7,.v (I y))] (.new 11 46 (aG x o) .nil) E ⟨ev2,(Bs E E)⟩ (aC E ?_)
  cases h
  exact JS.ret aA o V E E [0,0,0,0,0,0] E
 refine aE aA 2 [(45,.v (.bool (decide (b.1=15))))] ev1 E E ?_
 refine aJ E h (fun h=>?_) (fun h=>?_)
 ·
  refine aS aA 5 [] [58] [(11,.bp 58 0)] (.new 8 46 (aG a c) (.new 11 46 bG (.new 58 22 [sL c.1 a.2.2.1.1 c.2.1] .nil))) ⟨ev2,(Bs E E)⟩ E E (JS.seq (JS.region (aB aA 6 [] [] [(52,.v (I a.2.2.1.2)),(55,.v (I (max a.2.2.2.1 1)))] _ E ⟨(Es E),E⟩ (rA 58 E (B':=(.new 8 46 (aG a c) (.new 11 46 bG .nil))) (Bs E E) E .val (Sl.v ⟨c.1,a.2.2.1.1.length,c.2.1⟩) ev9 (fun m=>[(0,.v (.agg (aG a c).toArray)),(1,.v (.agg #[I d.1,sL e d.2 f])),(2,.v (.agg #[I b.1,I b.2])),(3,.bp 8 0),(6,.bp 11 0),(9,.v (I i)),(10,.v (.bool g)),(11,.ep ⟨m,1,1⟩ 0),(13,.v (.agg (aG a c).toArray)),(14,.v (.agg #[I d.1,sL e d.2 f])),(15,.v (.agg #[I b.1,I b.2])),(16,.v (.bool k)),(22,.v (.bool (bif (!k) then true else (!(decide (a.2.1=0)))))),(25,.v (.agg (aG a c).toArray)),(26,.v (.agg #[I d.1,sL e d.2 f])),(27,.v (.agg #[I b.1,I b.2])),(28,.v (.tuple #[.agg (aG l j).toArray,I i,.bool g])),(32,.v (.bool g)),(36,.v (I b.1)),(37,.v (.bool (decide (b.1=3)))),(45,.v (.bool (decide (b.1=15)))),(52,.v (I a.2.2.1.2)),(55,.v (I (max a.2.2.2.1 1)))]) (fun _=>(Es E)) fun m=>rW E E E E E E ?_))))
  obtain ⟨⟨n,N⟩,A,h⟩:=aD h
  refine bL E E E E (tV a.2.2.1.2 (max a.2.2.2.1 1) a.2.2.1.1 m c.1 c.2.1 _ A) E [0] E [0] E E fun _ _=>aB aA 1 [] [] [(12,.v (I n))] _ E ev1 (aC E (JS.seq (JS.region (aB aA 5 [] [] [(58,.v (.agg (aG a c).toArray)),(59,.v (I n)),(62,.v (I a.2.2.1.2))] _ E ⟨(Es E),E⟩ ?_))))
  obtain ⟨⟨B,C⟩,D,h⟩:=aD h
  refine JO.call E E E E (tW a n a.2.2.1.2 2 c _ D) E [0,1,2,3,4,5] E E fun p _=>aL aA 4 [] [] [(7,.v (I C))] (.new 11 46 (aG B p) .nil) E ⟨ev2,(Bs E E)⟩ (aC E ?_)
  cases h
  exact JS.ret aA p V E E [0,0,0,0,0,0] E
 refine aE aA 2 [(66,.v (.bool (decide (b.1=2))))] ev1 E E ?_
 refine aJ E h (fun h=>?_) (fun h=>?_)
 ·
  refine JS.seq (JS.region (aB aA 4 [] [] [(68,.v (.agg (aG a c).toArray)),(69,.v (.agg #[I d.1,sL e d.2 f])),(71,.v (I b.2))] _ E ⟨(Es E),E⟩ ?_))
  obtain ⟨⟨F,G⟩,H,h⟩:=aD h
  refine JO.call E E E E (aDf a d b.2 c e f _ H) E [0,1,2,3,4,5,6] E E fun s _=>aL aA 4 [] [] [(7,.v (I G))] (.new 11 46 (aG F s) .nil) E ⟨ev2,(Bs E E)⟩ (aC E ?_)
  cases h
  exact JS.ret aA s V E E [0,0,0,0,0,0] E
 refine JS.skip (aV (JS.seq (JS.region (aB aA 1 [] [] [(75,.v (.agg (aG a c).toArray))] _ E ev1 ?_))))
 obtain ⟨⟨J,K⟩,L,h⟩:=aD h
 refine JO.call E E E E (cX a c _ L) E [0,1,2,3,4,5] E E fun t _=>aL aA 4 [] [] [(7,.v (I K))] (.new 11 46 (aG J t) .nil) E ⟨ev2,(Bs E E)⟩ (aC E ?_)
 cases h
 exact JS.ret aA t V E E [0,0,0,0,0,0] E

def nS (a:EdQ) (b:Int):Option EdQ:= some (a.1,1,(a.2.2.1.1,b),a.2.2.2.1,a.2.2.2.2.1,a.2.2.2.2.2.1,a.2.2.2.2.2.2.1,a.2.2.2.2.2.2.2.1,a.2.2.2.2.2.2.2.2.1,a.2.2.2.2.2.2.2.2.2.1,a.2.2.2.2.2.2.2.2.2.2.1,a.2.2.2.2.2.2.2.2.2.2.2.1,a.2.2.2.2.2.2.2.2.2.2.2.2.1,a.2.2.2.2.2.2.2.2.2.2.2.2.2.1,a.2.2.2.2.2.2.2.2.2.2.2.2.2.2.1,a.2.2.2.2.2.2.2.2.2.2.2.2.2.2.2.1,a.2.2.2.2.2.2.2.2.2.2.2.2.2.2.2.2)

theorem wG (a:EdQ) (c:Int) (b:P6) (r:EdQ) (h:nS a c=some r):
 FC Tryz.prog 276 [.agg (aG a b).toArray,I c] (cH a b []) (fun _:Unit=>True) (fun _=>.agg #[.bool r.1,I r.2.1,sL b.1 a.2.2.1.1 b.2.1,I r.2.2.1.2,I r.2.2.2.1,I (Q4 r).1,I (Q4 r).2.1,I (Q4 r).2.2.1,I (Q4 r).2.2.2.1,I (Q8 r).1,I (Q8 r).2.1,sL b.2.2.1 (Q8 a).2.2.1 b.2.2.2.1,sL (Q4 b).1 (Q8 a).2.2.2.1 (Q4 b).2.1,I (Q12 r).1,sL (Q4 b).2.2.1 (Q12 a).2.1.1 (Q4 b).2.2.2.1,I (Q12 r).2.1.2,sL (Q8 b).1 (Q12 a).2.2.1 (Q8 b).2.1,I (Q12 r).2.2.2.1,sL (Q8 b).2.2.1 (Q16 a).1 (Q8 b).2.2.2,I (Q16 r).2]) (fun _=>[]):= by
 refine FC.of (T:=TTx) Tryz.call276 Tryz.func276 E E fun d=>?_
 unfold nS at h
 refine aS aA 2 [] [7,8] [(2,.bp 7 0),(4,.bp 8 0)] (.new 7 46 (aG a b) (.new 8 46 bG .nil)) ⟨(Es E),(Bs E E)⟩ E E (aS aA 2 [] [] [] (.new 7 46 (aG (a.1,1,a.2.2) b) (.new 8 46 bG .nil)) ⟨V,(Bs E E)⟩ E E (aS aA 4 [] [] [] (.new 7 46 (aG (a.1,1,(a.2.2.1.1,c),a.2.2.2) b) (.new 8 46 bG .nil)) ⟨V,(Bs E E)⟩ E E (aS aA 2 [] [] [] (.new 8 46 (aG (a.1,1,(a.2.2.1.1,c),a.2.2.2) b) .nil) ⟨V,(Bs E E)⟩ E E ?_)))
 cases h
 exact JS.ret aA () V E E [] E

def eI (e:EdQ) (h:Int) (f:Int) (i:Int):Option (EdQ×Int):= (bif decide (f=i) then (bif (!(decide (h=99))) then (aF (cR e) fun (l,m)=> some (l,m)) else (aF (dP e.2.2.1 f) fun n=>(aF (mB e n 0) fun g=>(aF (nS g f) fun c=> some ((c.1,c.2.1,(g.2.2.1.1,c.2.2.1.2),c.2.2.2.1,c.2.2.2.2.1,c.2.2.2.2.2.1,c.2.2.2.2.2.2.1,c.2.2.2.2.2.2.2.1,c.2.2.2.2.2.2.2.2.1,c.2.2.2.2.2.2.2.2.2.1,g.2.2.2.2.2.2.2.2.2.2.1,g.2.2.2.2.2.2.2.2.2.2.2.1,c.2.2.2.2.2.2.2.2.2.2.2.2.1,(g.2.2.2.2.2.2.2.2.2.2.2.2.2.1.1,c.2.2.2.2.2.2.2.2.2.2.2.2.2.1.2),g.2.2.2.2.2.2.2.2.2.2.2.2.2.2.1,c.2.2.2.2.2.2.2.2.2.2.2.2.2.2.2.1,(g.2.2.2.2.2.2.2.2.2.2.2.2.2.2.2.2.1,c.2.2.2.2.2.2.2.2.2.2.2.2.2.2.2.2.2)),0))))) else (aF (iI e.2.2.1 f i) fun (o,p,K)=>(aF (cK e) fun a=>(aF (oI e.2.2.2.2.2.2.2.2.2.2.1 p 0) fun (j,L)=>(bif decide (h=121) then (aF (dP e.2.2.1 f) fun q=>(aF (eX (a.1,a.2.1,a.2.2.1,a.2.2.2.1,a.2.2.2.2.1,a.2.2.2.2.2.1,a.2.2.2.2.2.2.1,a.2.2.2.2.2.2.2.1,a.2.2.2.2.2.2.2.2.1,a.2.2.2.2.2.2.2.2.2.1,j,a.2.2.2.2.2.2.2.2.2.2.2.1,a.2.2.2.2.2.2.2.2.2.2.2.2.1,a.2.2.2.2.2.2.2.2.2.2.2.2.2.1,a.2.2.2.2.2.2.2.2.2.2.2.2.2.2.1,a.2.2.2.2.2.2.2.2.2.2.2.2.2.2.2.1,a.2.2.2.2.2.2.2.2.2.2.2.2.2.2.2.2) q) fun (r,s)=> some (r,s))) else (aF (dP o f) fun t=>(aF (mB (a.1,a.2.1,a.2.2.1,a.2.2.2.1,a.2.2.2.2.1,a.2.2.2.2.2.1,a.2.2.2.2.2.2.1,a.2.2.2.2.2.2.2.1,a.2.2.2.2.2.2.2.2.1,a.2.2.2.2.2.2.2.2.2.1,j,a.2.2.2.2.2.2.2.2.2.2.2.1,a.2.2.2.2.2.2.2.2.2.2.2.2.1,a.2.2.2.2.2.2.2.2.2.2.2.2.2.1,a.2.2.2.2.2.2.2.2.2.2.2.2.2.2.1,a.2.2.2.2.2.2.2.2.2.2.2.2.2.2.2.1,a.2.2.2.2.2.2.2.2.2.2.2.2.2.2.2.2) t 0) fun b=>(aT (fun ((u,v,w,x,y,z,A,B,C,D,F,G,H,J):Bool×Int×Int×Int×Int×Int×Int×Int×Int×Int×Int×Int×Int×Int)=> some ((u,v,(b.2.2.1.1,w),x,y,z,A,B,C,D,b.2.2.2.2.2.2.2.2.2.2.1,b.2.2.2.2.2.2.2.2.2.2.2.1,F,(b.2.2.2.2.2.2.2.2.2.2.2.2.2.1.1,G),b.2.2.2.2.2.2.2.2.2.2.2.2.2.2.1,H,(b.2.2.2.2.2.2.2.2.2.2.2.2.2.2.2.2.1,J)),0)) fun k=>(bif decide (h=99) then (aF (nS b f) fun d=> k (d.1,d.2.1,d.2.2.1.2,d.2.2.2.1,d.2.2.2.2.1,d.2.2.2.2.2.1,d.2.2.2.2.2.2.1,d.2.2.2.2.2.2.2.1,d.2.2.2.2.2.2.2.2.1,d.2.2.2.2.2.2.2.2.2.1,d.2.2.2.2.2.2.2.2.2.2.2.2.1,d.2.2.2.2.2.2.2.2.2.2.2.2.2.1.2,d.2.2.2.2.2.2.2.2.2.2.2.2.2.2.2.1,d.2.2.2.2.2.2.2.2.2.2.2.2.2.2.2.2.2)) else k (b.1,b.2.1,b.2.2.1.2,b.2.2.2.1,b.2.2.2.2.1,b.2.2.2.2.2.1,b.2.2.2.2.2.2.1,b.2.2.2.2.2.2.2.1,b.2.2.2.2.2.2.2.2.1,b.2.2.2.2.2.2.2.2.2.1,b.2.2.2.2.2.2.2.2.2.2.2.2.1,b.2.2.2.2.2.2.2.2.2.2.2.2.2.1.2,b.2.2.2.2.2.2.2.2.2.2.2.2.2.2.2.1,b.2.2.2.2.2.2.2.2.2.2.2.2.2.2.2.2.2))))))))))

theorem hX (d:EdQ) (t:Int) (f:Int) (u:Int) (b:P6) (r:EdQ×Int) (h:eI d t f u=some r):
 FC Tryz.prog 219 [.agg (aG d b).toArray,I t,I f,I u] (cH d b []) (fun _:P6=>True) (fun q=>.tuple #[.agg (aG r.1 q).toArray,I r.2]) (fun q=>(cH r.1 q [])):= by
 refine FC.of (T:=TTx) Tryz.call219 Tryz.func219 E E fun w0=>?_
 unfold eI at h
 refine aS aA 3 [] [7,8] [(4,.bp 7 0),(8,.bp 8 0)] (.new 7 46 (aG d b) (.new 8 46 bG .nil)) ⟨(Es E),(Bs E E)⟩ E E (JS.seq (aE aA 3 [(16,.v (.bool (decide (f=u))))] ev1 E E ?_))
 refine aJ E h (fun h=>?_) (fun h=>?_)
 ·
  refine JS.seq (aE aA 2 [(18,.v (.bool (!(decide (t=99)))))] ev1 E E ?_)
  refine aJ E h (fun h=>?_) (fun h=>?_)
  ·
   refine JS.seq (JS.region (aB aA 1 [] [] [(19,.v (.agg (aG d b).toArray))] _ E ev1 ?_))
   obtain ⟨⟨G,H⟩,J,h⟩:=aD h
   refine JO.call E E E E (cX d b _ J) E [0,1,2,3,4,5] E E fun C _=>aL aA 4 [] [] [(9,.v (I H))] (.new 8 46 (aG G C) .nil) E ⟨ev2,(Bs E E)⟩ (aC E ?_)
   cases h
   exact JS.ret aA C V E E [0,0,0,0,0,0] E
  refine JS.skip (JS.seq ?_)
  obtain ⟨K,L,h⟩:=aD h
  obtain ⟨l,M,h⟩:=aD h
  refine bnw h fun g N h=>bE E (.new 7 46 (aG d b) .nil) [] [5,7,8,9] ev3 E (fun c3=>?_)
  refine cD aA aI true 6 [0,1,2,3] E (by kernel_rfl) [] [(23,.v (.agg (aG d b).toArray)),(25,.v (.agg #[sL b.1 d.2.2.1.1 b.2.1,I d.2.2.1.2])),(26,.v (I f))] ev3 [] E E (Es E) (aW aA aI 5 [6] E (by kernel_rfl) [] [(29,.v (I f))] E ev2 (JA.one 4 (by kernel_rfl) (JK.call E E E E (eK d.2.2.1 f b.1 b.2.1 _ L) E [0] E E ?_)))
  rintro ⟨O,P⟩ -
  refine aQ ev3 [] E (JA.one 5 (by kernel_rfl) (JK.call E E E E (sD d K 0 b O P _ M) E [0,1,2,3,4,5,6] E E ?_))
  rintro w -
  refine aR E (JA.one 7 (by kernel_rfl) (JK.call E E E E (wG l f w _ N) E [6,7,8,9,10,11] E E fun _ _=>aR E (JA.one 8 (by kernel_rfl) (aY aA E E E E E E E E (aR E (aW aA aI 0 [9] E (by kernel_rfl) [] [(9,.v (I 0))] E ev2 (bI (by kernel_rfl) (bC (B':=(.new 8 46 (aG (g.1,g.2.1,(l.2.2.1.1,g.2.2.1.2),g.2.2.2.1,(Q4 g).1,(Q4 g).2.1,(Q4 g).2.2.1,(Q4 g).2.2.2.1,(Q8 g).1,(Q8 g).2.1,(Q8 l).2.2.1,(Q8 l).2.2.2.1,(Q12 g).1,((Q12 l).2.1.1,(Q12 g).2.1.2),(Q12 l).2.2.1,(Q12 g).2.2.2.1,((Q16 l).1,(Q16 g).2)) w) .nil)) (Bs E E) ?_))))))))
  cases h
  exact JS.ret aA w V E E [0,0,0,0,0,0] E
 refine JS.skip (JS.seq (JS.region (aB aA 4 [] [] [(33,.v (.agg #[sL b.1 d.2.2.1.1 b.2.1,I d.2.2.1.2])),(34,.v (I f)),(35,.v (I u))] _ E ⟨(Es E),E⟩ ?_)))
 obtain ⟨⟨i,x,c4⟩,Q,h⟩:=aD h
 refine JO.call E E E E (rO d.2.2.1 f u b.1 b.2.1 _ Q) E [0] E E ?_
 rintro ⟨p,s,y,A⟩ -
 refine aL aA 8 [] [68] [(10,.bp 68 0),(11,.v (sL y x A))] (.new 7 46 (aG d b) (.new 8 46 bG (.new 68 38 [sL p i.1 s,I i.2] .nil))) E ⟨(Es E),(Bs E E)⟩ (aC E (JS.seq (JS.region (aB aA 1 [] [] [(40,.v (.agg (aG d b).toArray))] _ E ev1 ?_))))
 refine bnw h fun k R h=>JO.call E E E E (dK d b _ R) E [0,1,2,3,4,5] E E fun e _=>aL aA 2 [] [89] [(13,.bp 89 0)] (.new 7 46 (aG d b) (.new 8 46 bG (.new 68 38 [sL p i.1 s,I i.2] (.new 89 46 (aG k e) .nil)))) E ⟨ev2,(Bs E E)⟩ (aC E (JS.seq (JS.region (aB aA 3 [] [] [(44,.v (.agg #[sL b.2.2.1 (Q8 d).2.2.1 b.2.2.2.1])),(45,.v (sL y x A))] _ E ⟨(Es E),E⟩ ?_))))
 obtain ⟨⟨m,c5⟩,S,h⟩:=aD h
 refine JO.call E E E E (aAc (Q8 d).2.2.1 x 0 b.2.2.1 b.2.2.2.1 y A _ S) E [1,13] E E ?_
 rintro ⟨n,o⟩ -
 refine aL aA 5 [] [] [] (.new 7 46 (aG d b) (.new 8 46 bG (.new 68 38 [sL p i.1 s,I i.2] (.new 89 46 (aG (U10 k m) (e.1,e.2.1,n,o,(Q4 e))) .nil)))) E ⟨V,(Bs E E)⟩ (aC E (JS.seq (aE aA 2 [(51,.v (.bool (decide (t=121))))] ev1 E E ?_)))
 refine aJ E h (fun h=>?_) (fun h=>?_)
 ·
  refine JS.seq ?_
  obtain ⟨U,W,h⟩:=aD h
  obtain ⟨⟨D,F⟩,X,h⟩:=aD h
  refine bE E (.new 7 46 (aG d b) (.new 89 46 (aG (U10 k m) (e.1,e.2.1,n,o,(Q4 e))) .nil)) [] [5,6,7,8,9] ev6 E (fun c6=>?_)
  refine cD aA aI true 6 [0,1,2,3] E (by kernel_rfl) [] [(52,.v (.agg (aG (U10 k m) (e.1,e.2.1,n,o,(Q4 e))).toArray)),(54,.v (.agg #[sL b.1 d.2.2.1.1 b.2.1,I d.2.2.1.2])),(55,.v (I f))] ev6 [] E E (Es E) (JA.one 4 (by kernel_rfl) (JK.call E E E E (eK d.2.2.1 f b.1 b.2.1 _ W) E [0] E E ?_))
  rintro ⟨Y,Z⟩ -
  refine aQ ev6 [] E (JA.one 5 (by kernel_rfl) (JK.call E E E E (gY (U10 k m) U (e.1,e.2.1,n,o,(Q4 e)) Y Z _ X) E [8,7,10,11,12,13,6] E E ?_))
  rintro B -
  refine aR E (aW aA aI 2 [6,7] E (by kernel_rfl) [] [(58,.v (.agg (aG D B).toArray)),(59,.v (I F))] E (Es E) (JA.one 8 (by kernel_rfl) (aY aA E E E E E E E E (aR E (aW aA aI 0 [9] E (by kernel_rfl) [] [(9,.v (I F))] E ev2 (bI (by kernel_rfl) (bC (B':=(.new 8 46 (aG D B) .nil)) (Bs E E) ?_)))))))
  cases h
  exact JS.ret aA B V E E [0,0,0,0,0,0] E
 refine JS.skip (JS.seq ?_)
 obtain ⟨a0,a1,h⟩:=aD h
 refine bnw h fun a a2 h=>bE E (.new 68 38 [sL p i.1 s,I i.2] (.new 89 46 (aG (U10 k m) (e.1,e.2.1,n,o,(Q4 e))) .nil)) [] [4,5] ev6 E (fun c7=>?_)
 refine cD aA aI true 3 [0,1,2] E (by kernel_rfl) [] [(60,.v (.agg (aG (U10 k m) (e.1,e.2.1,n,o,(Q4 e))).toArray)),(61,.v (.agg #[sL p i.1 s,I i.2])),(62,.v (I f))] ev6 [] E E (Es E) (JA.one 3 (by kernel_rfl) (JK.call E E E E (eK i f p s _ a1) E [13] E E ?_))
 rintro ⟨a3,a4⟩ -
 refine aQ ev6 [] E (JA.one 4 (by kernel_rfl) (JK.call E E E E (sD (U10 k m) a0 0 (e.1,e.2.1,n,o,(Q4 e)) a3 a4 _ a2) E [8,7,10,11,12,13,6] E E ?_))
 rintro j -
 refine aR E (JA.one 5 (by kernel_rfl) (aY aA E E E E E E E E (aR E (bI (by kernel_rfl) (bC (B':=(.new 8 46 bG (.new 89 46 (aG a j) .nil))) (Bs E E) ?_)))))
 obtain ⟨a5,a6,h⟩:=aM h
 refine cJ (ι:=Bool×Int×Int×Int×Int×Int×Int×Int×Int×Int×Int×Int×Int×Int) ⟨fun z=>a5 z=some r,fun z=>[(8,.bp 8 0),(13,.bp 89 0)],fun z=>(.new 8 46 bG (.new 89 46 (aG (z.1,z.2.1,(a.2.2.1.1,z.2.2.1),z.2.2.2.1,(Q4 z).1,(Q4 z).2.1,(Q4 z).2.2.1,(Q4 z).2.2.2.1,(Q8 z).1,(Q8 z).2.1,(Q8 a).2.2.1,(Q8 a).2.2.2.1,(Q8 z).2.2.1,((Q12 a).2.1.1,(Q8 z).2.2.2.1),(Q12 a).2.2.1,(Q12 z).1,((Q16 a).1,(Q12 z).2)) j) .nil)),fun z=>[],fun z=>(cH a j []),fun z=>0⟩ ?_ ?_
 ·
  refine JS.seq (aCl [true,true,true,true,true,true,false,false,false,false,false,false,false,false,false,false] (cH d b []) (cH a j []) E E (lT aA 2 [(66,.v (.bool (decide (t=99))))] ev1 E E ?_))
  refine aJ E h (fun h=>?_) (fun h=>?_)
  ·
   refine JS.region (aB aA 2 [] [] [(67,.v (.agg (aG a j).toArray)),(68,.v (I f))] _ E ⟨(Es E),E⟩ ?_)
   obtain ⟨c,a7,h⟩:=aD h
   refine JO.call E E E E (wG a f j _ a7) E [6,7,8,9,10,11] E E fun _ _=>aL aA 1 [] [] [] (.new 8 46 bG (.new 89 46 (aG (c.1,c.2.1,(a.2.2.1.1,c.2.2.1.2),c.2.2.2.1,(Q4 c).1,(Q4 c).2.1,(Q4 c).2.2.1,(Q4 c).2.2.2.1,(Q8 c).1,(Q8 c).2.1,(Q8 a).2.2.1,(Q8 a).2.2.2.1,(Q12 c).1,((Q12 a).2.1.1,(Q12 c).2.1.2),(Q12 a).2.2.1,(Q12 c).2.2.2.1,((Q16 a).1,(Q16 c).2)) j) .nil)) E ⟨V,(Bs E E)⟩ (aC E (bT (c.1,c.2.1,c.2.2.1.2,c.2.2.2.1,(Q4 c).1,(Q4 c).2.1,(Q4 c).2.2.1,(Q4 c).2.2.2.1,(Q8 c).1,(Q8 c).2.1,(Q12 c).1,(Q12 c).2.1.2,(Q12 c).2.2.2.1,(Q16 c).2) h (Es E) (Bs E E) [] E [0,1,2,3,4,5] E E))
  refine JS.skip (bT (a.1,a.2.1,a.2.2.1.2,a.2.2.2.1,(Q4 a).1,(Q4 a).2.1,(Q4 a).2.2.1,(Q4 a).2.2.2.1,(Q8 a).1,(Q8 a).2.1,(Q12 a).1,(Q12 a).2.1.2,(Q12 a).2.2.2.1,(Q16 a).2) h (Es E) (Bs E E) [] E [0,1,2,3,4,5] E E)
 rintro ⟨a8,a9,b0,b1,b2,b3,b4,b5,b6,b7,b8,b9,c0,c1⟩ h
 subst a6
 refine aS aA 3 [] [] [(9,.v (I 0))] (.new 8 46 (aG (a8,a9,(a.2.2.1.1,b0),b1,b2,b3,b4,b5,b6,b7,(Q8 a).2.2.1,(Q8 a).2.2.2.1,b8,((Q12 a).2.1.1,b9),(Q12 a).2.2.1,c0,((Q16 a).1,c1)) j) .nil) ⟨ev2,(Bs E E)⟩ E E ?_
 cases h
 exact JS.ret aA j V E E [0,0,0,0,0,0] E

def mV (b:List Int) (c:Bool) (d:Int) (e:Int→Option Int) (f:Int→Option Int):Int→Option Int:=fun a=>(cA ((decide (a<(b.length:Int)))=true) (fB b a c) (0:Int) fun g=>(bif (bif decide (a<(b.length:Int)) then (decide (g=d)) else false) then f (W (a+1)) else e a))

def lI (a:List Int) (b:Int) (c:Bool):Option Int:= (aF (fB a b c) fun d=>(aT (fun (e:Int)=> some e) fun f=>(aZ (mV a c d f) bO b)))

theorem aBr (a:List Int) (f:Int) (b:Bool) (c:Option Addr) (d:Nat) (r:Int) (h:lI a f b=some r):
 FC Tryz.prog 295 [sL c a d,I f,.bool b] [fI c d a] (fun _:Unit=>True) (fun _=>I r) (fun _=>[]):= by
 refine FC.of (T:=TTx) Tryz.call295 Tryz.func295 E E fun q=>?_
 unfold lI at h
 refine aE aA 1 [] ev5 E E (JS.seq (JS.region (aB aA 3 [] [] [(8,.v (sL c a d)),(9,.v (I f)),(10,.v (.bool b))] _ E ⟨(Es E),E⟩ ?_)))
 refine bnw h fun g k h=>JO.call E E E E (gZ a f b c d _ k) E [0] E E fun _ _=>aB aA 1 [] [] [(7,.v (I g))] _ E ev1 (aC E (JS.seq ?_))
 obtain ⟨i,l,h⟩:=aM h
 refine bA (ι:=Int) ⟨fun z=>i z=some r,fun z=>[(1,.v (I z))],fun z=>.nil,fun z=>[],fun z=>[],fun z=>0⟩ ?_ ?_
 ·
  refine JS.loop (ι:=Nat×Int) ⟨fun z=>aZ (mV a b g i) z.1 z.2=some r,fun z=>[(0,.v (sL c a d)),(1,.v (I z.2)),(2,.v (.bool b)),(7,.v (I g))],fun z=>.nil,fun z=>[fI c d a],fun z=>[],fun z=>z.1⟩ (bO,f) h (Es E) V [0] E [] E ?_
  rintro ⟨j,e⟩ h
  obtain ⟨j,rfl,h⟩:=bK h
  rw [mV] at h
  refine JS.seq (JS.seq (JS.region (aB aA 8 [] [] [(16,.v (.bool (decide (e<(a.length:Int))))),(17,.cd [(16,true)] (.v (sL c a d))),(18,.cd [(16,true)] (.v (I e))),(19,.cd [(16,true)] (.v (.bool b)))] _ E ⟨(Es E),E⟩ ?_)))
  obtain ⟨m,n,-,h⟩:=bB h
  refine bR E E E E (fun o=>gZ a e b c d _ (n o)) E [0] E E (aB aA 3 [] [] [(23,.v (.bool (bif (decide (e<(a.length:Int))) then (decide (m=g)) else false)))] _ E ev1 (aC E ?_))
  refine aJ E h (fun h=>?_) (fun h=>?_)
  ·
   refine JS.skip (JS.block (cS aA 3 [(W (e+1))] [] [(1,.v (I (W (e+1))))] _ ev4 E E (aV (bZ (j,(W (e+1))) h (Nat.lt_succ_self _) (Es E) V [0] E [] E))))
  refine JS.exit E (aO e h ev2 V [] E [] E)
 rintro p h
 subst l
 refine aE aA 2 [(6,.v (I p))] ev1 E E ?_
 cases h
 exact JS.ret aA () V E E [] E

def gL (b:List Int) (c:Bool) (d:Int→Option Int) (e:Int→Option Int):Int→Option Int:=fun a=>(cA ((decide (a<(b.length:Int)))=true) (fB b a c) (0:Int) fun f=>(bif (bif decide (a<(b.length:Int)) then (decide (f=0)) else false) then e (W (a+1)) else d a))

def nA (a:List Int) (d:Int) (b:Bool):Option Int:= (bif decide ((a.length:Int)=0) then some 0 else (aF (dE d (a.length:Int)) fun e=>(aT (fun (c:Int)=>(bif decide ((a.length:Int)≤c) then some (W ((a.length:Int) - 1)) else (aF (lI a c b) fun f=> some (W (f - 1))))) fun g=>(aZ (gL a b g) bO (W (e+1))))))

theorem aDh (a:List Int) (f:Int) (d:Bool) (b:Option Addr) (c:Nat) (r:Int) (h:nA a f d=some r):
 FC Tryz.prog 281 [sL b a c,I f,.bool d] [fI b c a] (fun _:Unit=>True) (fun _=>I r) (fun _=>[]):= by
 refine FC.of (T:=TTx) Tryz.call281 Tryz.func281 E E fun t=>?_
 unfold nA at h
 refine aE aA 1 [] ev5 E E (aE aA 3 [(7,.v (I (a.length:Int)))] ev1 E E (JS.seq (aE aA 2 [(11,.v (.bool (decide ((a.length:Int)=0))))] ev1 E E ?_)))
 refine aJ E h (fun h=>?_) (fun h=>?_)
 ·
  refine aE aA 1 [(6,.v (I 0))] ev1 E E ?_
  cases h
  exact JS.ret aA () V E E [] E
 refine JS.skip (JS.seq (JS.region (aB aA 2 [] [] [(12,.v (I f)),(13,.v (I (a.length:Int)))] _ E ⟨(Es E),E⟩ ?_)))
 refine bnw h fun g m h=>JO.call E E E E (gD f (a.length:Int) _ m) E [] E E fun _ _=>aB aA 2 [(W (g+1))] [] [(1,.v (I (W (g+1))))] _ E ev4 (aC E (JS.seq ?_))
 obtain ⟨j,n,h⟩:=aM h
 refine bA (ι:=Int) ⟨fun z=>j z=some r,fun z=>[(0,.v (sL b a c)),(1,.v (I z)),(2,.v (.bool d)),(7,.v (I (a.length:Int)))],fun z=>.nil,fun z=>[fI b c a],fun z=>[],fun z=>0⟩ ?_ ?_
 ·
  refine JS.loop (ι:=Nat×Int) ⟨fun z=>aZ (gL a d j) z.1 z.2=some r,fun z=>[(0,.v (sL b a c)),(1,.v (I z.2)),(2,.v (.bool d)),(7,.v (I (a.length:Int)))],fun z=>.nil,fun z=>[fI b c a],fun z=>[],fun z=>z.1⟩ (bO,(W (g+1))) h (Es E) V [0] E [] E ?_
  rintro ⟨k,e⟩ h
  obtain ⟨k,rfl,h⟩:=bK h
  rw [gL] at h
  refine JS.seq (JS.seq (JS.region (aB aA 7 [] [] [(19,.v (.bool (decide (e<(a.length:Int))))),(20,.cd [(19,true)] (.v (sL b a c))),(21,.cd [(19,true)] (.v (I e))),(22,.cd [(19,true)] (.v (.bool d)))] _ E ⟨(Es E),E⟩ ?_)))
  obtain ⟨o,p,-,h⟩:=bB h
  refine bR E E E E (fun q=>gZ a e d b c _ (p q)) E [0] E E (aB aA 2 [] [] [(25,.v (.bool (bif (decide (e<(a.length:Int))) then (decide (o=0)) else false)))] _ E ev1 (aC E ?_))
  refine aJ E h (fun h=>?_) (fun h=>?_)
  ·
   refine JS.skip (JS.block (cS aA 3 [(W (e+1))] [] [(1,.v (I (W (e+1))))] _ ev4 E E (aV (bZ (k,(W (e+1))) h (Nat.lt_succ_self _) (Es E) V [0] E [] E))))
  refine JS.exit E (aO e h (Es E) V [0] E [] E)
 rintro i h
 subst n
 refine JS.seq (aE aA 3 [(30,.v (.bool (decide ((a.length:Int)≤i))))] ev1 E E ?_)
 refine aJ E h (fun h=>?_) (fun h=>?_)
 ·
  refine gI aA 3 [(W ((a.length:Int) - 1))] [] [(6,.v (I (W ((a.length:Int) - 1))))] _ ev4 E E ?_
  cases h
  exact JS.ret aA () V E E [] E
 refine JS.skip (JS.seq (JS.region (aB aA 3 [] [] [(33,.v (sL b a c)),(34,.v (I i)),(35,.v (.bool d))] _ E ⟨(Es E),E⟩ ?_)))
 refine bnw h fun l s h=>JO.call E E E E (aBr a i d b c _ s) E [0] E E fun _ _=>aB aA 2 [(W (l - 1))] [] [(6,.v (I (W (l - 1))))] _ E ev4 (aC E ?_)
 cases h
 exact JS.ret aA () V E E [] E

def kG (b:List Int) (c:Bool) (d:Int→Option Int) (e:Int→Option Int):Int→Option Int:=fun a=>(cA ((decide (a<(b.length:Int)))=true) (fB b a c) (0:Int) fun f=>(bif (bif decide (a<(b.length:Int)) then (decide (f=0)) else false) then e (W (a+1)) else d a))

def pD (a:List Int) (e:Int) (c:Bool):Option Int:= (aF (dE e (a.length:Int)) fun b=>(aT (fun (f:Int)=>(aT (fun (g:Int)=> some g) fun h=>(aZ (kG a c h) bO f))) fun d=>(cA ((decide (b<(a.length:Int)))=true) (fB a b c) (0:Int) fun i=>(bif (bif decide (b<(a.length:Int)) then (!(decide (i=0))) else false) then (aF (lI a b c) fun j=> d j) else d b))))

theorem aEq (a:List Int) (g:Int) (d:Bool) (b:Option Addr) (c:Nat) (r:Int) (h:pD a g d=some r):
 FC Tryz.prog 278 [sL b a c,I g,.bool d] [fI b c a] (fun _:Unit=>True) (fun _=>I r) (fun _=>[]):= by
 refine FC.of (T:=TTx) Tryz.call278 Tryz.func278 E E fun B=>?_
 unfold pD at h
 refine aE aA 1 [] ev5 E E (JS.seq (JS.region (aB aA 3 [] [] [(7,.v (I g)),(9,.v (I (a.length:Int)))] _ E ⟨(Es E),E⟩ ?_)))
 refine bnw h fun e l h=>JO.call E E E E (gD g (a.length:Int) _ l) E [] E E fun _ _=>aB aA 1 [] [] [(1,.v (I e))] _ E ev1 (aC E ?_)
 obtain ⟨m,n,h⟩:=aM h
 refine cJ (ι:=Int) ⟨fun z=>m z=some r,fun z=>[(0,.v (sL b a c)),(1,.v (I z)),(2,.v (.bool d))],fun z=>.nil,fun z=>[fI b c a],fun z=>[],fun z=>0⟩ ?_ ?_
 ·
  refine JS.seq (JS.region (aB aA 8 [] [] [(15,.v (.bool (decide (e<(a.length:Int))))),(16,.cd [(15,true)] (.v (sL b a c))),(17,.cd [(15,true)] (.v (I e))),(18,.cd [(15,true)] (.v (.bool d)))] _ E ⟨(Es E),E⟩ ?_))
  obtain ⟨o,p,-,h⟩:=bB h
  refine bR E E E E (fun q=>gZ a e d b c _ (p q)) E [0] E E (aB aA 2 [] [] [(21,.v (.bool (bif (decide (e<(a.length:Int))) then (!(decide (o=0))) else false)))] _ E ev1 (aC E ?_))
  refine aJ E h (fun h=>?_) (fun h=>?_)
  ·
   refine JS.region (aB aA 3 [] [] [(22,.v (sL b a c)),(23,.v (I e)),(24,.v (.bool d))] _ E ⟨(Es E),E⟩ ?_)
   obtain ⟨i,s,h⟩:=aD h
   refine JO.call E E E E (aBr a e d b c _ s) E [0] E E fun _ _=>aB aA 1 [] [] [(1,.v (I i))] _ E ev1 (aC E (aO i h (Es E) V [0] E [] E))
  refine JS.skip (aO e h (Es E) V [0] E [] E)
 rintro t h
 subst n
 refine JS.seq ?_
 obtain ⟨j,u,h⟩:=aM h
 refine bA (ι:=Int) ⟨fun z=>j z=some r,fun z=>[(1,.v (I z))],fun z=>.nil,fun z=>[],fun z=>[],fun z=>0⟩ ?_ ?_
 ·
  refine JS.loop (ι:=Nat×Int) ⟨fun z=>aZ (kG a d j) z.1 z.2=some r,fun z=>[(0,.v (sL b a c)),(1,.v (I z.2)),(2,.v (.bool d))],fun z=>.nil,fun z=>[fI b c a],fun z=>[],fun z=>z.1⟩ (bO,t) h (Es E) V [0] E [] E ?_
  rintro ⟨k,f⟩ h
  obtain ⟨k,rfl,h⟩:=bK h
  rw [kG] at h
  refine JS.seq (JS.seq (JS.region (aB aA 8 [] [] [(30,.v (.bool (decide (f<(a.length:Int))))),(31,.cd [(30,true)] (.v (sL b a c))),(32,.cd [(30,true)] (.v (I f))),(33,.cd [(30,true)] (.v (.bool d)))] _ E ⟨(Es E),E⟩ ?_)))
  obtain ⟨w,x,-,h⟩:=bB h
  refine bR E E E E (fun y=>gZ a f d b c _ (x y)) E [0] E E (aB aA 2 [] [] [(36,.v (.bool (bif (decide (f<(a.length:Int))) then (decide (w=0)) else false)))] _ E ev1 (aC E ?_))
  refine aJ E h (fun h=>?_) (fun h=>?_)
  ·
   refine JS.skip (JS.block (cS aA 3 [(W (f+1))] [] [(1,.v (I (W (f+1))))] _ ev4 E E (aV (bZ (k,(W (f+1))) h (Nat.lt_succ_self _) (Es E) V [0] E [] E))))
  refine JS.exit E (aO f h ev2 V [] E [] E)
 rintro A h
 subst u
 refine aE aA 2 [(6,.v (I A))] ev1 E E ?_
 cases h
 exact JS.ret aA () V E E [] E

def qF (c:Int) (a:List Int) (b:Bool):Option (Int×List Int×Bool):= (aF (pD a c b) fun d=> some (d,a,b))

theorem aDl (d:Int) (a:List Int) (e:Bool) (f:Option Addr) (b:Option Addr) (c:Nat) (g:Option Addr) (r:Int×List Int×Bool) (h:qF d a e=some r):
 FX Tryz.prog 277 [I d,.pointer f,.pointer g] [fI b c a] [⟨.val,⟨f,1,1⟩,[(Sl.v ⟨b,a.length,c⟩)]⟩,⟨.bool,⟨g,1,1⟩,[e]⟩] (fun _:Unit=>True) (fun _=>I r.1) (fun _=>[⟨.val,⟨f,1,1⟩,[(Sl.v ⟨b,a.length,c⟩)]⟩,⟨.bool,⟨g,1,1⟩,[r.2.2]⟩]):= by
 refine FX.of (T:=TTx) Tryz.call277 Tryz.func277 E E fun k L0=>?_
 unfold qF at h
 refine gS 1 f E ?_
 refine gS 2 g E ?_
 refine aE aA 1 [] ev5 E E (JS.seq (JS.region (dI aA E E E E E E 1 E E 0 0 (Sl.v ⟨b,a.length,c⟩) ev7 E E E (aB aA 1 [] [] [(6,.v (I d))] _ E ev1 (dI aA E E E E E E 2 E E 0 0 e ev7 E E E ?_)))))
 refine bnw h fun i j h=>JO.call E E E E (aEq a d e b c _ j) E [0] E E fun _ _=>aB aA 1 [] [] [(4,.v (I i))] _ E ev1 (aC E ?_)
 cases h
 exact cU aA () V E E [0,0] E

def eA (d:Int) (e:(List Int)×Bool) (f:(Int×Bool)→Option (Int×List Int×Bool)) (g:(Int×Int×Bool)→Option (Int×List Int×Bool)):(Int×Int×Bool)→Option (Int×List Int×Bool):=fun (a,b,c)=>(bif decide (b<d) then (aF (qF a e.1 c) fun (h,j,i)=> g (h,(W (b+1)),i)) else f (a,c))

def eW (b:Int) (c:Int) (a:(List Int)×Bool):Option (Int×List Int×Bool):= (aT (fun ((d,e):Int×Bool)=> some (d,a.1,e)) fun f=>(aZ (eA c a f) bO (b,0,a.2)))

theorem tU (j:Int) (f:Int) (a:(List Int)×Bool) (b:Option Addr) (d:Option Addr) (e:Nat) (c:Option Addr) (r:Int×List Int×Bool) (h:eW j f a=some r):
 FX Tryz.prog 114 [I j,I f,.func (.func 277) #[] #[.pointer b,.pointer c]] [fI d e a.1] [⟨.val,⟨b,1,1⟩,[(Sl.v ⟨d,a.1.length,e⟩)]⟩,⟨.bool,⟨c,1,1⟩,[a.2]⟩] (fun _:Unit=>True) (fun _=>I r.1) (fun _=>[⟨.val,⟨b,1,1⟩,[(Sl.v ⟨d,a.1.length,e⟩)]⟩,⟨.bool,⟨c,1,1⟩,[r.2.2]⟩]):= by
 refine FX.of (T:=TTx) Tryz.call114 Tryz.func114 E E fun t L0=>?_
 unfold eW at h
 refine aE aA 1 [] ev5 E E (JS.seq (aE aA 2 [(7,.v (I f)),(8,.v (I 0))] ⟨(Es E),E⟩ E E ?_))
 obtain ⟨k,o,h⟩:=aM h
 refine bA (ι:=Int×Bool) ⟨fun z=>k z=some r,fun z=>[(0,.v (I z.1))],fun z=>.nil,fun z=>[fI d e a.1],fun z=>[⟨.val,⟨b,1,1⟩,[(Sl.v ⟨d,a.1.length,e⟩)]⟩,⟨.bool,⟨c,1,1⟩,[z.2]⟩],fun z=>0⟩ ?_ ?_
 ·
  refine JS.loop (ι:=Nat×Int×Int×Bool) ⟨fun z=>aZ (eA f a k) z.1 z.2=some r,fun z=>[(0,.v (I z.2.1)),(2,.v (.func (.func 277) #[] #[.pointer b,.pointer c])),(7,.v (I f)),(8,.v (I z.2.2.1))],fun z=>.nil,fun z=>[fI d e a.1],fun z=>[⟨.val,⟨b,1,1⟩,[(Sl.v ⟨d,a.1.length,e⟩)]⟩,⟨.bool,⟨c,1,1⟩,[z.2.2.2]⟩],fun z=>z.1⟩ (bO,j,0,a.2) h (Es E) V [0] E [0,0] E ?_
  rintro ⟨l,g,i,m⟩ h
  obtain ⟨l,rfl,h⟩:=bK h
  rw [eA] at h
  refine aE aA 1 [(9,.v (.bool (decide (i<f))))] ev1 E E (JS.seq ?_)
  refine aJ E h (fun h=>?_) (fun h=>?_)
  ·
   refine JS.skip (JS.seq (JS.block (JS.region (aB aA 2 [] [] [(10,.v (.func (.func 277) #[] #[.pointer b,.pointer c])),(11,.v (I g))] _ E ⟨(Es E),E⟩ ?_))))
   obtain ⟨⟨n,u,p⟩,q,h⟩:=aD h
   refine rX (vs0:=[I g]) (caps:=[.pointer b,.pointer c]) E E E E E (aDl g a.1 m b d e c _ q) E [0,0] E [0] E E fun _ _=>aB aA 1 [] [] [(0,.v (I n))] _ E ⟨⟨E,V⟩,E⟩ (aC E (aV (cS aA 2 [(W (i+1))] [] [(8,.v (I (W (i+1))))] _ ⟨⟨V,E⟩,⟨E,V⟩,E⟩ E E (bZ (l,n,(W (i+1)),p) h (Nat.lt_succ_self _) (Es E) V [0] E [0,0] E))))
  refine JS.exit E (aO (g,m) h ev2 V [0] E [0,0] E)
 rintro ⟨s,w⟩ h
 subst o
 refine aE aA 2 [(6,.v (I s))] ev1 E E ?_
 cases h
 exact cU aA () V E E [0,0] E

def qE (c:Int) (a:List Int) (b:Bool):Option (Int×List Int×Bool):= (aF (jD a c b) fun d=> some (d,a,b))

theorem aDk (d:Int) (a:List Int) (e:Bool) (f:Option Addr) (b:Option Addr) (c:Nat) (g:Option Addr) (r:Int×List Int×Bool) (h:qE d a e=some r):
 FX Tryz.prog 279 [I d,.pointer f,.pointer g] [fI b c a] [⟨.val,⟨f,1,1⟩,[(Sl.v ⟨b,a.length,c⟩)]⟩,⟨.bool,⟨g,1,1⟩,[e]⟩] (fun _:Unit=>True) (fun _=>I r.1) (fun _=>[⟨.val,⟨f,1,1⟩,[(Sl.v ⟨b,a.length,c⟩)]⟩,⟨.bool,⟨g,1,1⟩,[r.2.2]⟩]):= by
 refine FX.of (T:=TTx) Tryz.call279 Tryz.func279 E E fun k L0=>?_
 unfold qE at h
 refine gS 1 f E ?_
 refine gS 2 g E ?_
 refine aE aA 1 [] ev5 E E (JS.seq (JS.region (dI aA E E E E E E 1 E E 0 0 (Sl.v ⟨b,a.length,c⟩) ev7 E E E (aB aA 1 [] [] [(6,.v (I d))] _ E ev1 (dI aA E E E E E E 2 E E 0 0 e ev7 E E E ?_)))))
 refine bnw h fun i j h=>JO.call E E E E (vQ a d e b c _ j) E [0] E E fun _ _=>aB aA 1 [] [] [(4,.v (I i))] _ E ev1 (aC E ?_)
 cases h
 exact cU aA () V E E [0,0] E

def dZ (d:Int) (e:(List Int)×Bool) (f:(Int×Bool)→Option (Int×List Int×Bool)) (g:(Int×Int×Bool)→Option (Int×List Int×Bool)):(Int×Int×Bool)→Option (Int×List Int×Bool):=fun (a,b,c)=>(bif decide (b<d) then (aF (qE a e.1 c) fun (h,j,i)=> g (h,(W (b+1)),i)) else f (a,c))

def eV (b:Int) (c:Int) (a:(List Int)×Bool):Option (Int×List Int×Bool):= (aT (fun ((d,e):Int×Bool)=> some (d,a.1,e)) fun f=>(aZ (dZ c a f) bO (b,0,a.2)))

theorem tT (j:Int) (f:Int) (a:(List Int)×Bool) (b:Option Addr) (d:Option Addr) (e:Nat) (c:Option Addr) (r:Int×List Int×Bool) (h:eV j f a=some r):
 FX Tryz.prog 114 [I j,I f,.func (.func 279) #[] #[.pointer b,.pointer c]] [fI d e a.1] [⟨.val,⟨b,1,1⟩,[(Sl.v ⟨d,a.1.length,e⟩)]⟩,⟨.bool,⟨c,1,1⟩,[a.2]⟩] (fun _:Unit=>True) (fun _=>I r.1) (fun _=>[⟨.val,⟨b,1,1⟩,[(Sl.v ⟨d,a.1.length,e⟩)]⟩,⟨.bool,⟨c,1,1⟩,[r.2.2]⟩]):= by
 refine FX.of (T:=TTx) Tryz.call114 Tryz.func114 E E fun t L0=>?_
 unfold eV at h
 refine aE aA 1 [] ev5 E E (JS.seq (aE aA 2 [(7,.v (I f)),(8,.v (I 0))] ⟨(Es E),E⟩ E E ?_))
 obtain ⟨k,o,h⟩:=aM h
 refine bA (ι:=Int×Bool) ⟨fun z=>k z=some r,fun z=>[(0,.v (I z.1))],fun z=>.nil,fun z=>[fI d e a.1],fun z=>[⟨.val,⟨b,1,1⟩,[(Sl.v ⟨d,a.1.length,e⟩)]⟩,⟨.bool,⟨c,1,1⟩,[z.2]⟩],fun z=>0⟩ ?_ ?_
 ·
  refine JS.loop (ι:=Nat×Int×Int×Bool) ⟨fun z=>aZ (dZ f a k) z.1 z.2=some r,fun z=>[(0,.v (I z.2.1)),(2,.v (.func (.func 279) #[] #[.pointer b,.pointer c])),(7,.v (I f)),(8,.v (I z.2.2.1))],fun z=>.nil,fun z=>[fI d e a.1],fun z=>[⟨.val,⟨b,1,1⟩,[(Sl.v ⟨d,a.1.length,e⟩)]⟩,⟨.bool,⟨c,1,1⟩,[z.2.2.2]⟩],fun z=>z.1⟩ (bO,j,0,a.2) h (Es E) V [0] E [0,0] E ?_
  rintro ⟨l,g,i,m⟩ h
  obtain ⟨l,rfl,h⟩:=bK h
  rw [dZ] at h
  refine aE aA 1 [(9,.v (.bool (decide (i<f))))] ev1 E E (JS.seq ?_)
  refine aJ E h (fun h=>?_) (fun h=>?_)
  ·
   refine JS.skip (JS.seq (JS.block (JS.region (aB aA 2 [] [] [(10,.v (.func (.func 279) #[] #[.pointer b,.pointer c])),(11,.v (I g))] _ E ⟨(Es E),E⟩ ?_))))
   obtain ⟨⟨n,u,p⟩,q,h⟩:=aD h
   refine rX (vs0:=[I g]) (caps:=[.pointer b,.pointer c]) E E E E E (aDk g a.1 m b d e c _ q) E [0,0] E [0] E E fun _ _=>aB aA 1 [] [] [(0,.v (I n))] _ E ⟨⟨E,V⟩,E⟩ (aC E (aV (cS aA 2 [(W (i+1))] [] [(8,.v (I (W (i+1))))] _ ⟨⟨V,E⟩,⟨E,V⟩,E⟩ E E (bZ (l,n,(W (i+1)),p) h (Nat.lt_succ_self _) (Es E) V [0] E [0,0] E))))
  refine JS.exit E (aO (g,m) h ev2 V [0] E [0,0] E)
 rintro ⟨s,w⟩ h
 subst o
 refine aE aA 2 [(6,.v (I s))] ev1 E E ?_
 cases h
 exact cU aA () V E E [0,0] E

def qD (c:Int) (a:List Int) (b:Bool):Option (Int×List Int×Bool):= (aF (nA a c b) fun d=> some (d,a,b))

theorem aDj (d:Int) (a:List Int) (e:Bool) (f:Option Addr) (b:Option Addr) (c:Nat) (g:Option Addr) (r:Int×List Int×Bool) (h:qD d a e=some r):
 FX Tryz.prog 280 [I d,.pointer f,.pointer g] [fI b c a] [⟨.val,⟨f,1,1⟩,[(Sl.v ⟨b,a.length,c⟩)]⟩,⟨.bool,⟨g,1,1⟩,[e]⟩] (fun _:Unit=>True) (fun _=>I r.1) (fun _=>[⟨.val,⟨f,1,1⟩,[(Sl.v ⟨b,a.length,c⟩)]⟩,⟨.bool,⟨g,1,1⟩,[r.2.2]⟩]):= by
 refine FX.of (T:=TTx) Tryz.call280 Tryz.func280 E E fun k L0=>?_
 unfold qD at h
 refine gS 1 f E ?_
 refine gS 2 g E ?_
 refine aE aA 1 [] ev5 E E (JS.seq (JS.region (dI aA E E E E E E 1 E E 0 0 (Sl.v ⟨b,a.length,c⟩) ev7 E E E (aB aA 1 [] [] [(6,.v (I d))] _ E ev1 (dI aA E E E E E E 2 E E 0 0 e ev7 E E E ?_)))))
 refine bnw h fun i j h=>JO.call E E E E (aDh a d e b c _ j) E [0] E E fun _ _=>aB aA 1 [] [] [(4,.v (I i))] _ E ev1 (aC E ?_)
 cases h
 exact cU aA () V E E [0,0] E

def dY (d:Int) (e:(List Int)×Bool) (f:(Int×Bool)→Option (Int×List Int×Bool)) (g:(Int×Int×Bool)→Option (Int×List Int×Bool)):(Int×Int×Bool)→Option (Int×List Int×Bool):=fun (a,b,c)=>(bif decide (b<d) then (aF (qD a e.1 c) fun (h,j,i)=> g (h,(W (b+1)),i)) else f (a,c))

def eU (b:Int) (c:Int) (a:(List Int)×Bool):Option (Int×List Int×Bool):= (aT (fun ((d,e):Int×Bool)=> some (d,a.1,e)) fun f=>(aZ (dY c a f) bO (b,0,a.2)))

theorem tS (j:Int) (f:Int) (a:(List Int)×Bool) (b:Option Addr) (d:Option Addr) (e:Nat) (c:Option Addr) (r:Int×List Int×Bool) (h:eU j f a=some r):
 FX Tryz.prog 114 [I j,I f,.func (.func 280) #[] #[.pointer b,.pointer c]] [fI d e a.1] [⟨.val,⟨b,1,1⟩,[(Sl.v ⟨d,a.1.length,e⟩)]⟩,⟨.bool,⟨c,1,1⟩,[a.2]⟩] (fun _:Unit=>True) (fun _=>I r.1) (fun _=>[⟨.val,⟨b,1,1⟩,[(Sl.v ⟨d,a.1.length,e⟩)]⟩,⟨.bool,⟨c,1,1⟩,[r.2.2]⟩]):= by
 refine FX.of (T:=TTx) Tryz.call114 Tryz.func114 E E fun t L0=>?_
 unfold eU at h
 refine aE aA 1 [] ev5 E E (JS.seq (aE aA 2 [(7,.v (I f)),(8,.v (I 0))] ⟨(Es E),E⟩ E E ?_))
 obtain ⟨k,o,h⟩:=aM h
 refine bA (ι:=Int×Bool) ⟨fun z=>k z=some r,fun z=>[(0,.v (I z.1))],fun z=>.nil,fun z=>[fI d e a.1],fun z=>[⟨.val,⟨b,1,1⟩,[(Sl.v ⟨d,a.1.length,e⟩)]⟩,⟨.bool,⟨c,1,1⟩,[z.2]⟩],fun z=>0⟩ ?_ ?_
 ·
  refine JS.loop (ι:=Nat×Int×Int×Bool) ⟨fun z=>aZ (dY f a k) z.1 z.2=some r,fun z=>[(0,.v (I z.2.1)),(2,.v (.func (.func 280) #[] #[.pointer b,.pointer c])),(7,.v (I f)),(8,.v (I z.2.2.1))],fun z=>.nil,fun z=>[fI d e a.1],fun z=>[⟨.val,⟨b,1,1⟩,[(Sl.v ⟨d,a.1.length,e⟩)]⟩,⟨.bool,⟨c,1,1⟩,[z.2.2.2]⟩],fun z=>z.1⟩ (bO,j,0,a.2) h (Es E) V [0] E [0,0] E ?_
  rintro ⟨l,g,i,m⟩ h
  obtain ⟨l,rfl,h⟩:=bK h
  rw [dY] at h
  refine aE aA 1 [(9,.v (.bool (decide (i<f))))] ev1 E E (JS.seq ?_)
  refine aJ E h (fun h=>?_) (fun h=>?_)
  ·
   refine JS.skip (JS.seq (JS.block (JS.region (aB aA 2 [] [] [(10,.v (.func (.func 280) #[] #[.pointer b,.pointer c])),(11,.v (I g))] _ E ⟨(Es E),E⟩ ?_))))
   obtain ⟨⟨n,u,p⟩,q,h⟩:=aD h
   refine rX (vs0:=[I g]) (caps:=[.pointer b,.pointer c]) E E E E E (aDj g a.1 m b d e c _ q) E [0,0] E [0] E E fun _ _=>aB aA 1 [] [] [(0,.v (I n))] _ E ⟨⟨E,V⟩,E⟩ (aC E (aV (cS aA 2 [(W (i+1))] [] [(8,.v (I (W (i+1))))] _ ⟨⟨V,E⟩,⟨E,V⟩,E⟩ E E (bZ (l,n,(W (i+1)),p) h (Nat.lt_succ_self _) (Es E) V [0] E [0,0] E))))
  refine JS.exit E (aO (g,m) h ev2 V [0] E [0,0] E)
 rintro ⟨s,w⟩ h
 subst o
 refine aE aA 2 [(6,.v (I s))] ev1 E E ?_
 cases h
 exact cU aA () V E E [0,0] E

def kH (b:List Int) (c:Int→Option (Int×Bool×Bool)) (d:Int→Option (Int×Bool×Bool)):Int→Option (Int×Bool×Bool):=fun a=>(aN (((decide (a<(b.length:Int)))=true)→0≤a∧a<(b.length:Int)) <|(cA ((decide (a<(b.length:Int)))=true) (gH (at' b a)) (0:Int) fun e=>(bif (bif decide (a<(b.length:Int)) then (decide (e=0)) else false) then d (W (a+1)) else c a)))

def jS (b:List Int) (j:Int) (a:Int) (c:Int):Option (Int×Bool×Bool):= (aF (dE j (b.length:Int)) fun d=>(aF (fR a) fun e=>(aT (fun (_:Unit)=> some (0,false,false)) fun k=>(bif decide (a=104) then some ((max (W (d - (max (1:Int) (min c 999)))) 0),false,true) else (aT (fun (l:Bool)=>(bif l then some ((min (W (d+(max (1:Int) (min c 999)))) (b.length:Int)),false,true) else (aT (fun (m:Bool)=>(bif m then (aF (eW d (max (1:Int) (min c 999)) (b,e)) fun (n,u,v)=> some (n,false,true)) else (aT (fun (o:Bool)=>(bif o then (aF (eV d (max (1:Int) (min c 999)) (b,e)) fun (p,w,x)=> some (p,false,true)) else (aT (fun (q:Bool)=>(bif q then (aF (eU d (max (1:Int) (min c 999)) (b,e)) fun (r,y,z)=> some (r,(decide (0<(b.length:Int))),true)) else (bif decide (a=48) then some (0,false,true) else (bif decide (a=94) then (aT (fun (s:Int)=> some (s,false,true)) fun t=>(aZ (kH b t) bO 0)) else (bif decide (a=36) then some ((max (W ((b.length:Int) - 1)) 0),(decide (0<(b.length:Int))),true) else (bif decide (a=124) then some ((min (W ((max (1:Int) (min c 999)) - 1)) (b.length:Int)),false,true) else k ())))))) fun f=>(bif decide (a=101) then f (decide (a=101)) else f (decide (a=69)))))) fun g=>(bif decide (a=98) then g (decide (a=98)) else g (decide (a=66)))))) fun h=>(bif decide (a=119) then h (decide (a=119)) else h (decide (a=87)))))) fun i=>(bif decide (a=108) then i (decide (a=108)) else i (decide (a=32))))))))

theorem tG (a:List Int) (l:Int) (b:Int) (c:Int) (e:Option Addr) (f:Nat) (r:Int×Bool×Bool) (h:jS a l b c=some r):
 FC Tryz.prog 221 [sL e a f,I l,I b,I c] [fI e f a] (fun _:Unit=>True) (fun _=>.tuple #[I r.1,.bool r.2.1,.bool r.2.2]) (fun _=>[]):= by
 refine FC.of (T:=TTx) Tryz.call221 Tryz.func221 E E fun w0=>?_
 unfold jS at h
 refine aS aA 4 [] [2] [(4,.bp 2 0)] (.new 2 22 [sL e a f] .nil) ⟨ev2,(Bs E E)⟩ E E (aE aA 3 [(11,.v (I (a.length:Int)))] ev1 E E (JS.seq (JS.region (aB aA 2 [] [] [(16,.v (I l)),(17,.v (I (a.length:Int)))] _ E ⟨(Es E),E⟩ ?_))))
 refine bnw h fun d t h=>JO.call E E E E (gD l (a.length:Int) _ t) E [] E E fun _ _=>aB aA 5 [] [] [(1,.v (I d)),(3,.v (I (max (1:Int) (min c 999))))] _ E ⟨(Es E),E⟩ (aC E (JS.seq (JS.region (aB aA 1 [] [] [(22,.v (I b))] _ E ev1 ?_))))
 refine bnw h fun g u h=>JO.call E E E E (rN b _ u) E [] E E fun _ _=>aL aA 2 [] [7] [(12,.bp 7 0)] (.new 2 22 [sL e a f] (.new 7 4 [.bool g] .nil)) E ⟨ev2,(Bs E E)⟩ (aC E (JS.seq (aE aA 1 [(24,.v (I b))] ev1 E E ?_)))
 obtain ⟨w,x,h⟩:=aM h
 refine bA (ι:=Unit) ⟨fun _=>w ()=some r,fun _=>[],fun _=>.nil,fun _=>[],fun _=>[],fun _=>0⟩ ?_ ?_
 ·
  refine aE aA 2 [(25,.v (.bool (decide (b=104))))] ev1 E E ?_
  refine aJ E h (fun h=>?_) (fun h=>?_)
  ·
   refine gI aA 7 [(W (d - (max (1:Int) (min c 999))))] [] [(8,.v (I (max (W (d - (max (1:Int) (min c 999)))) 0))),(9,.v (.bool false)),(10,.v (.bool true))] _ ⟨ev5,(Es E),E⟩ E E ?_
   cases h
   exact JS.ret aA () V E E [] E
  obtain ⟨y,A,h⟩:=aM h
  refine cJ (ι:=Bool) ⟨fun z=>y z=some r,fun z=>[(1,.v (I d)),(3,.v (I (max (1:Int) (min c 999)))),(4,.bp 2 0),(11,.v (I (a.length:Int))),(12,.bp 7 0),(24,.v (I b)),(31,.v (.bool z))],fun z=>(.new 2 22 [sL e a f] (.new 7 4 [.bool g] .nil)),fun z=>[fI e f a],fun z=>[],fun z=>0⟩ ?_ ?_
  ·
   refine aE aA 2 [(31,.v (.bool (decide (b=108))))] ev1 E E ?_
   refine aJ E h (fun h=>?_) (fun h=>?_)
   ·
    refine JS.skip (aO (decide (b=108)) h (Es E) (Bs E E) [0] E [] E)
   refine lT aA 2 [(31,.v (.bool (decide (b=32))))] ev1 E E (aO (decide (b=32)) h (Es E) (Bs E E) [0] E [] E)
  rintro a1 h
  subst A
  refine aJ E h (fun h=>?_) (fun h=>?_)
  ·
   refine gI aA 8 [(W (d+(max (1:Int) (min c 999))))] [] [(8,.v (I (min (W (d+(max (1:Int) (min c 999)))) (a.length:Int)))),(9,.v (.bool false)),(10,.v (.bool true))] _ ⟨ev5,(Es E),E⟩ E E ?_
   cases h
   exact JS.ret aA () V E E [] E
  obtain ⟨B,C,h⟩:=aM h
  refine cJ (ι:=Bool) ⟨fun z=>B z=some r,fun z=>[(1,.v (I d)),(3,.v (I (max (1:Int) (min c 999)))),(4,.bp 2 0),(11,.v (I (a.length:Int))),(12,.bp 7 0),(24,.v (I b)),(39,.v (.bool z))],fun z=>(.new 2 22 [sL e a f] (.new 7 4 [.bool g] .nil)),fun z=>[fI e f a],fun z=>[],fun z=>0⟩ ?_ ?_
  ·
   refine aE aA 2 [(39,.v (.bool (decide (b=119))))] ev1 E E ?_
   refine aJ E h (fun h=>?_) (fun h=>?_)
   ·
    refine JS.skip (aO (decide (b=119)) h (Es E) (Bs E E) [0] E [] E)
   refine lT aA 2 [(39,.v (.bool (decide (b=87))))] ev1 E E (aO (decide (b=87)) h (Es E) (Bs E E) [0] E [] E)
  rintro m h
  subst C
  refine aJ E h (fun h=>?_) (fun h=>?_)
  ·
   refine JS.seq (JS.region (aB aA 2 [] [] [(42,.v (I d)),(43,.v (I (max (1:Int) (min c 999))))] _ E ⟨(Es E),E⟩ (rA 2 E (B':=(.new 7 4 [.bool g] .nil)) (Bs E E) E .val (Sl.v ⟨e,a.length,f⟩) ev9 (fun i=>[(1,.v (I d)),(3,.v (I (max (1:Int) (min c 999)))),(4,.ep ⟨i,1,1⟩ 0),(11,.v (I (a.length:Int))),(12,.bp 7 0),(24,.v (I b)),(39,.v (.bool m)),(42,.v (I d)),(43,.v (I (max (1:Int) (min c 999))))]) (fun _=>(Es E)) fun i=>rA 7 E (B':=.nil) V E .bool g ev7 (fun j=>[(1,.v (I d)),(3,.v (I (max (1:Int) (min c 999)))),(4,.ep ⟨i,1,1⟩ 0),(11,.v (I (a.length:Int))),(12,.ep ⟨j,1,1⟩ 0),(24,.v (I b)),(39,.v (.bool m)),(42,.v (I d)),(43,.v (I (max (1:Int) (min c 999))))]) (fun _=>(Es E)) fun j=>rW E E E E E E ?_)))
   obtain ⟨⟨D,a2,a3⟩,F,h⟩:=aD h
   refine bL E E E E (tU d (max (1:Int) (min c 999)) (a,g) i e f j _ F) E [1,0] E [0] E E fun _ _=>aB aA 3 [] [] [(8,.v (I D)),(9,.v (.bool false)),(10,.v (.bool true))] _ E ⟨(Es E),E⟩ (aC E ?_)
   cases h
   exact JS.ret aA () V E E [] E
  obtain ⟨G,H,h⟩:=aM h
  refine cJ (ι:=Bool) ⟨fun z=>G z=some r,fun z=>[(1,.v (I d)),(3,.v (I (max (1:Int) (min c 999)))),(4,.bp 2 0),(11,.v (I (a.length:Int))),(12,.bp 7 0),(24,.v (I b)),(46,.v (.bool z))],fun z=>(.new 2 22 [sL e a f] (.new 7 4 [.bool g] .nil)),fun z=>[fI e f a],fun z=>[],fun z=>0⟩ ?_ ?_
  ·
   refine aE aA 2 [(46,.v (.bool (decide (b=98))))] ev1 E E ?_
   refine aJ E h (fun h=>?_) (fun h=>?_)
   ·
    refine JS.skip (aO (decide (b=98)) h (Es E) (Bs E E) [0] E [] E)
   refine lT aA 2 [(46,.v (.bool (decide (b=66))))] ev1 E E (aO (decide (b=66)) h (Es E) (Bs E E) [0] E [] E)
  rintro n h
  subst H
  refine aJ E h (fun h=>?_) (fun h=>?_)
  ·
   refine JS.seq (JS.region (aB aA 2 [] [] [(49,.v (I d)),(50,.v (I (max (1:Int) (min c 999))))] _ E ⟨(Es E),E⟩ (rA 2 E (B':=(.new 7 4 [.bool g] .nil)) (Bs E E) E .val (Sl.v ⟨e,a.length,f⟩) ev9 (fun i=>[(1,.v (I d)),(3,.v (I (max (1:Int) (min c 999)))),(4,.ep ⟨i,1,1⟩ 0),(11,.v (I (a.length:Int))),(12,.bp 7 0),(24,.v (I b)),(46,.v (.bool n)),(49,.v (I d)),(50,.v (I (max (1:Int) (min c 999))))]) (fun _=>(Es E)) fun i=>rA 7 E (B':=.nil) V E .bool g ev7 (fun j=>[(1,.v (I d)),(3,.v (I (max (1:Int) (min c 999)))),(4,.ep ⟨i,1,1⟩ 0),(11,.v (I (a.length:Int))),(12,.ep ⟨j,1,1⟩ 0),(24,.v (I b)),(46,.v (.bool n)),(49,.v (I d)),(50,.v (I (max (1:Int) (min c 999))))]) (fun _=>(Es E)) fun j=>rW E E E E E E ?_)))
   obtain ⟨⟨J,a4,a6⟩,K,h⟩:=aD h
   refine bL E E E E (tT d (max (1:Int) (min c 999)) (a,g) i e f j _ K) E [1,0] E [0] E E fun _ _=>aB aA 3 [] [] [(8,.v (I J)),(9,.v (.bool false)),(10,.v (.bool true))] _ E ⟨(Es E),E⟩ (aC E ?_)
   cases h
   exact JS.ret aA () V E E [] E
  obtain ⟨L,M,h⟩:=aM h
  refine cJ (ι:=Bool) ⟨fun z=>L z=some r,fun z=>[(1,.v (I d)),(3,.v (I (max (1:Int) (min c 999)))),(4,.bp 2 0),(11,.v (I (a.length:Int))),(12,.bp 7 0),(24,.v (I b)),(53,.v (.bool z))],fun z=>(.new 2 22 [sL e a f] (.new 7 4 [.bool g] .nil)),fun z=>[fI e f a],fun z=>[],fun z=>0⟩ ?_ ?_
  ·
   refine aE aA 2 [(53,.v (.bool (decide (b=101))))] ev1 E E ?_
   refine aJ E h (fun h=>?_) (fun h=>?_)
   ·
    refine JS.skip (aO (decide (b=101)) h (Es E) (Bs E E) [0] E [] E)
   refine lT aA 2 [(53,.v (.bool (decide (b=69))))] ev1 E E (aO (decide (b=69)) h (Es E) (Bs E E) [0] E [] E)
  rintro o h
  subst M
  refine aJ E h (fun h=>?_) (fun h=>?_)
  ·
   refine JS.seq (JS.region (aB aA 2 [] [] [(56,.v (I d)),(57,.v (I (max (1:Int) (min c 999))))] _ E ⟨(Es E),E⟩ (rA 2 E (B':=(.new 7 4 [.bool g] .nil)) (Bs E E) E .val (Sl.v ⟨e,a.length,f⟩) ev9 (fun i=>[(1,.v (I d)),(3,.v (I (max (1:Int) (min c 999)))),(4,.ep ⟨i,1,1⟩ 0),(11,.v (I (a.length:Int))),(12,.bp 7 0),(24,.v (I b)),(53,.v (.bool o)),(56,.v (I d)),(57,.v (I (max (1:Int) (min c 999))))]) (fun _=>(Es E)) fun i=>rA 7 E (B':=.nil) V E .bool g ev7 (fun j=>[(1,.v (I d)),(3,.v (I (max (1:Int) (min c 999)))),(4,.ep ⟨i,1,1⟩ 0),(11,.v (I (a.length:Int))),(12,.ep ⟨j,1,1⟩ 0),(24,.v (I b)),(53,.v (.bool o)),(56,.v (I d)),(57,.v (I (max (1:Int) (min c 999))))]) (fun _=>(Es E)) fun j=>rW E E E E E E ?_)))
   obtain ⟨⟨N,a7,a8⟩,O,h⟩:=aD h
   refine bL E E E E (tS d (max (1:Int) (min c 999)) (a,g) i e f j _ O) E [1,0] E [0] E E fun _ _=>aB aA 5 [] [] [(8,.v (I N)),(9,.v (.bool (decide (0<(a.length:Int))))),(10,.v (.bool true))] _ E ⟨(Es E),E⟩ (aC E ?_)
   cases h
   exact JS.ret aA () V E E [] E
  refine aE aA 2 [(62,.v (.bool (decide (b=48))))] ev1 E E ?_
  refine aJ E h (fun h=>?_) (fun h=>?_)
  ·
   refine aE aA 3 [(8,.v (I 0)),(9,.v (.bool false)),(10,.v (.bool true))] ⟨(Es E),E⟩ E E ?_
   cases h
   exact JS.ret aA () V E E [] E
  refine aE aA 2 [(64,.v (.bool (decide (b=94))))] ev1 E E ?_
  refine aJ E h (fun h=>?_) (fun h=>?_)
  ·
   refine aE aA 1 [(13,.v (I 0))] ev1 E E (JS.seq ?_)
   obtain ⟨p,P,h⟩:=aM h
   refine bA (ι:=Int) ⟨fun z=>p z=some r,fun z=>[(13,.v (I z))],fun z=>.nil,fun z=>[],fun z=>[],fun z=>0⟩ ?_ ?_
   ·
    refine JS.loop (ι:=Nat×Int) ⟨fun z=>aZ (kH a p) z.1 z.2=some r,fun z=>[(4,.bp 2 0),(11,.v (I (a.length:Int))),(13,.v (I z.2))],fun z=>(.new 2 22 [sL e a f] .nil),fun z=>[fI e f a],fun z=>[],fun z=>z.1⟩ (bO,0) h (Es E) (Bs E E) [0] E [] E ?_
    rintro ⟨q,k⟩ h
    obtain ⟨q,rfl,h⟩:=bK h
    rw [kH] at h
    refine JS.seq (JS.seq (JS.region (cC 0 E fun Q=>?_)))
    obtain ⟨s,h⟩:=aH h
    refine aB aA 7 [] [] [(69,.v (.bool (decide (k<(a.length:Int))))),(72,.cd [(69,true)] (.ep ⟨e,a.length,f⟩ (Int.toNat k*1)))] _ E ⟨(fun R=>Q.ix (s R)),(Es E),E⟩ (JO.load aA E E E E E E E 0 E E (Int.toNat k) 0 (at' a k) (fun S=>⟨bH (s S),E⟩) E E ?_)
    obtain ⟨U,X,-,h⟩:=bB h
    refine bR E E E E (fun Y=>lX (at' a k) _ (X Y)) E [] E E (aB aA 2 [] [] [(76,.v (.bool (bif (decide (k<(a.length:Int))) then (decide (U=0)) else false)))] _ E ev1 (aC E ?_))
    refine aJ E h (fun h=>?_) (fun h=>?_)
    ·
     refine JS.skip (JS.block (cS aA 3 [(W (k+1))] [] [(13,.v (I (W (k+1))))] _ ev4 E E (aV (bZ (q,(W (k+1))) h (Nat.lt_succ_self _) (Es E) (Bs E E) [0] E [] E))))
    refine JS.exit E (aO k h ev2 V [] E [] E)
   rintro Z h
   subst P
   refine aE aA 4 [(8,.v (I Z)),(9,.v (.bool false)),(10,.v (.bool true))] ⟨(Es E),E⟩ E E ?_
   cases h
   exact JS.ret aA () V E E [] E
  refine aE aA 2 [(80,.v (.bool (decide (b=36))))] ev1 E E ?_
  refine aJ E h (fun h=>?_) (fun h=>?_)
  ·
   refine gI aA 8 [(W ((a.length:Int) - 1))] [] [(8,.v (I (max (W ((a.length:Int) - 1)) 0))),(9,.v (.bool (decide (0<(a.length:Int))))),(10,.v (.bool true))] _ ⟨ev5,(Es E),E⟩ E E ?_
   cases h
   exact JS.ret aA () V E E [] E
  refine aE aA 2 [(87,.v (.bool (decide (b=124))))] ev1 E E ?_
  refine aJ E h (fun h=>?_) (fun h=>?_)
  ·
   refine gI aA 7 [(W ((max (1:Int) (min c 999)) - 1))] [] [(8,.v (I (min (W ((max (1:Int) (min c 999)) - 1)) (a.length:Int)))),(9,.v (.bool false)),(10,.v (.bool true))] _ ⟨ev5,(Es E),E⟩ E E ?_
   cases h
   exact JS.ret aA () V E E [] E
  refine JS.skip (aV (aO () h V V [] E [] E))
 rintro _ h
 subst x
 refine aE aA 3 [(8,.v (I 0)),(9,.v (.bool false)),(10,.v (.bool false))] ⟨(Es E),E⟩ E E ?_
 cases h
 exact JS.ret aA () V E E [] E

def xD (c:List Int) (e:Int) (f:Int) (g:Bool):Option (Int×Int):= (aF (dE e (c.length:Int)) fun a=>(aF (dE f (c.length:Int)) fun b=>(aT (fun (h:Int)=> some ((min a b),h)) fun d=>(bif (bif g then (decide ((max a b)<(c.length:Int))) else false) then d (W ((max a b)+1)) else d (max a b)))))

theorem aNf (c:List Int) (d:Int) (e:Int) (f:Bool) (g:Option Addr) (i:Nat) (r:Int×Int) (h:xD c d e f=some r):
 FC Tryz.prog 282 [sL g c i,I d,I e,.bool f] [fI g i c] (fun _:Unit=>True) (fun _=>.tuple #[I r.1,I r.2]) (fun _=>[]):= by
 refine FC.of (T:=TTx) Tryz.call282 Tryz.func282 E E fun o=>?_
 unfold xD at h
 refine aE aA 2 [] ev5 E E (aE aA 3 [(10,.v (I (c.length:Int)))] ev1 E E (JS.seq (JS.region (aB aA 2 [] [] [(15,.v (I d)),(16,.v (I (c.length:Int)))] _ E ⟨(Es E),E⟩ ?_))))
 refine bnw h fun a j h=>JO.call E E E E (gD d (c.length:Int) _ j) E [] E E fun _ _=>aB aA 2 [] [] [(18,.v (I e)),(19,.v (I (c.length:Int)))] _ E ⟨(Es E),E⟩ ?_
 refine bnw h fun b k h=>JO.call E E E E (gD e (c.length:Int) _ k) E [] E E fun _ _=>aB aA 2 [] [] [(1,.v (I a)),(2,.v (I b))] _ E ⟨(Es E),E⟩ (aC E (aE aA 8 [(11,.v (I (min a b))),(12,.v (I (max a b)))] ⟨(Es E),E⟩ E E ?_))
 obtain ⟨l,m,h⟩:=aM h
 refine cJ (ι:=Int) ⟨fun z=>l z=some r,fun z=>[(11,.v (I (min a b))),(12,.v (I z))],fun z=>.nil,fun z=>[],fun z=>[],fun z=>0⟩ ?_ ?_
 ·
  refine aE aA 6 [(32,.v (.bool (bif f then (decide ((max a b)<(c.length:Int))) else false)))] ev1 E E ?_
  refine aJ E h (fun h=>?_) (fun h=>?_)
  ·
   refine cS aA 3 [(W ((max a b)+1))] [] [(12,.v (I (W ((max a b)+1))))] _ ev4 E E (aO (W ((max a b)+1)) h (Es E) V [] E [] E)
  refine JS.skip (aO (max a b) h (Es E) V [] E [] E)
 rintro n h
 subst m
 refine aE aA 4 [(8,.v (I (min a b))),(9,.v (I n))] ⟨(Es E),E⟩ E E ?_
 cases h
 exact JS.ret aA () V E E [] E

def qV (a:EdQ) (b:Int) (c:Bool):Option (EdQ×Int):= (bif decide (a.2.2.2.2.1=0) then (aF (dP a.2.2.1 b) fun d=>(aF (eX a d) fun (e,f)=> some (e,f))) else (aF (xD a.2.2.1.1 a.2.2.1.2 b c) fun (g,h)=>(aF (eI a a.2.2.2.2.1 g h) fun (i,j)=> some (i,j))))

theorem aA3 (a:EdQ) (c:Int) (d:Bool) (b:P6) (r:EdQ×Int) (h:qV a c d=some r):
 FC Tryz.prog 222 [.agg (aG a b).toArray,I c,.bool d] (cH a b []) (fun _:P6=>True) (fun q=>.tuple #[.agg (aG r.1 q).toArray,I r.2]) (fun q=>(cH r.1 q [])):= by
 refine FC.of (T:=TTx) Tryz.call222 Tryz.func222 E E fun x=>?_
 unfold qV at h
 refine aS aA 3 [] [7,8] [(3,.bp 7 0),(6,.bp 8 0)] (.new 7 46 (aG a b) (.new 8 46 bG .nil)) ⟨(Es E),(Bs E E)⟩ E E (JS.seq (aE aA 3 [(12,.v (.bool (decide ((Q4 a).1=0))))] ev1 E E ?_))
 refine aJ E h (fun h=>?_) (fun h=>?_)
 ·
  refine JS.seq ?_
  obtain ⟨l,m,h⟩:=aD h
  obtain ⟨⟨i,j⟩,n,h⟩:=aD h
  refine bE E (.new 7 46 (aG a b) .nil) [] [5,6,7,8,9] ev3 E (fun y=>?_)
  refine cD aA aI true 6 [0,1,2,3] E (by kernel_rfl) [] [(13,.v (.agg (aG a b).toArray)),(15,.v (.agg #[sL b.1 a.2.2.1.1 b.2.1,I a.2.2.1.2])),(16,.v (I c))] ev3 [] E E (Es E) (JA.one 4 (by kernel_rfl) (JK.call E E E E (eK a.2.2.1 c b.1 b.2.1 _ m) E [0] E E ?_))
  rintro ⟨o,p⟩ -
  refine aQ ev3 [] E (JA.one 5 (by kernel_rfl) (JK.call E E E E (gY a l b o p _ n) E [0,1,2,3,4,5,6] E E ?_))
  rintro e -
  refine aR E (aW aA aI 2 [6,7] E (by kernel_rfl) [] [(19,.v (.agg (aG i e).toArray)),(20,.v (I j))] E (Es E) (JA.one 8 (by kernel_rfl) (aY aA E E E E E E E E (aR E (aW aA aI 0 [9] E (by kernel_rfl) [] [(7,.v (I j))] E ev2 (bI (by kernel_rfl) (bC (B':=(.new 8 46 (aG i e) .nil)) (Bs E E) ?_)))))))
  cases h
  exact JS.ret aA e V E E [0,0,0,0,0,0] E
 refine JS.skip (JS.seq (JS.region (aB aA 8 [] [] [(24,.v (sL b.1 a.2.2.1.1 b.2.1)),(27,.v (I a.2.2.1.2)),(28,.v (I c)),(29,.v (.bool d))] _ E ⟨(Es E),E⟩ ?_)))
 obtain ⟨⟨f,g⟩,s,h⟩:=aD h
 refine JO.call E E E E (aNf a.2.2.1.1 a.2.2.1.2 c d b.1 b.2.1 _ s) E [0] E E fun _ _=>aB aA 5 [] [] [(8,.v (I f)),(9,.v (I g))] _ E ⟨(Es E),E⟩ (aC E (JS.seq (JS.region (aB aA 5 [] [] [(33,.v (.agg (aG a b).toArray)),(35,.v (I (Q4 a).1)),(36,.v (I f)),(37,.v (I g))] _ E ⟨(Es E),E⟩ ?_))))
 obtain ⟨⟨t,u⟩,w,h⟩:=aD h
 refine JO.call E E E E (hX a (Q4 a).1 f g b _ w) E [0,1,2,3,4,5] E E fun k _=>aL aA 4 [] [] [(7,.v (I u))] (.new 8 46 (aG t k) .nil) E ⟨ev2,(Bs E E)⟩ (aC E ?_)
 cases h
 exact JS.ret aA k V E E [0,0,0,0,0,0] E

def lJ (a:EdQ) (b:Int) (c:Int):Option (EdQ×Int):= (aF (jS a.2.2.1.1 a.2.2.1.2 b c) fun (d,e,h)=>(aF (qV a d e) fun (f,g)=> some (f,g)))

theorem sV (a:EdQ) (c:Int) (d:Int) (b:P6) (r:EdQ×Int) (h:lJ a c d=some r):
 FC Tryz.prog 218 [.agg (aG a b).toArray,I c,I d] (cH a b []) (fun _:P6=>True) (fun q=>.tuple #[.agg (aG r.1 q).toArray,I r.2]) (fun q=>(cH r.1 q [])):= by
 refine FC.of (T:=TTx) Tryz.call218 Tryz.func218 E E fun m=>?_
 unfold lJ at h
 refine aS aA 3 [] [7,8] [(3,.bp 7 0),(6,.bp 8 0)] (.new 7 46 (aG a b) (.new 8 46 bG .nil)) ⟨(Es E),(Bs E E)⟩ E E (JS.seq (JS.region (aB aA 8 [] [] [(14,.v (sL b.1 a.2.2.1.1 b.2.1)),(17,.v (I a.2.2.1.2)),(18,.v (I c)),(19,.v (I d))] _ E ⟨(Es E),E⟩ ?_)))
 obtain ⟨⟨e,f,n⟩,i,h⟩:=aD h
 refine JO.call E E E E (tG a.2.2.1.1 a.2.2.1.2 c d b.1 b.2.1 _ i) E [0] E E fun _ _=>aB aA 7 [] [] [(8,.v (I e)),(9,.v (.bool f))] _ E ⟨(Es E),E⟩ (aC E (JS.seq (JS.region (aB aA 3 [] [] [(24,.v (.agg (aG a b).toArray)),(25,.v (I e)),(26,.v (.bool f))] _ E ⟨(Es E),E⟩ ?_))))
 obtain ⟨⟨j,k⟩,l,h⟩:=aD h
 refine JO.call E E E E (aA3 a e f b _ l) E [0,1,2,3,4,5] E E fun g _=>aL aA 4 [] [] [(7,.v (I k))] (.new 8 46 (aG j g) .nil) E ⟨ev2,(Bs E E)⟩ (aC E ?_)
 cases h
 exact JS.ret aA g V E E [0,0,0,0,0,0] E

def qU (a:EdQ) (f:Int×List (List UInt8)) (b:Int×Int) (d:Int):Option (EdQ×Int):= (aF (cK a) fun e=>(aT (fun (_:Unit)=>(aF (cR a) fun (i,j)=> some (i,j))) fun g=>(bif decide (b.1=4) then some (e,2) else (bif decide (b.1=7) then (bif (bif (bif (bif decide (a.2.2.2.1=0) then (decide (a.2.2.2.2.1=0)) else false) then (decide (a.2.2.2.2.2.1=0)) else false) then (decide (a.2.2.2.2.2.2.1=0)) else false) then (aF (cR a) fun (k,l)=> some (k,l)) else (aF (eE a a.2.2.2.2.2.2.2.2.2.1) fun m=> some (m,0))) else (bif decide (b.1=8) then (aF (mU a f (-1)) fun (n,o)=> some (n,o)) else (bif decide (b.1=9) then (aF (mU a f 1) fun (p,q)=> some (p,q)) else (aT (fun (r:Bool)=>(bif r then (aF (lJ a 104 d) fun (s,t)=> some (s,t)) else (bif decide (b.1=10) then (aF (lJ a 108 d) fun (u,v)=> some (u,v)) else (bif decide (b.1=12) then (aF (lJ a 48 d) fun (w,x)=> some (w,x)) else (bif decide (b.1=13) then (aF (lJ a 36 d) fun (y,z)=> some (y,z)) else (bif decide (b.1=14) then (aF (eI a 100 a.2.2.1.2 (min (W (a.2.2.1.2+d)) (a.2.2.1.1.length:Int))) fun (A,B)=> some (A,B)) else (bif decide (b.1=2) then (bif decide (b.2=99) then some (e,3) else (bif decide (b.2=108) then some (e,5) else (bif (bif decide (b.2=100) then (decide ((a.2.2.1.1.length:Int)=0)) else false) then some (e,4) else (bif decide (b.2=114) then (aF (sQ a) fun (c,C)=> some ((c.1,c.2.1,c.2.2.1,c.2.2.2.1,c.2.2.2.2.1,c.2.2.2.2.2.1,c.2.2.2.2.2.2.1,c.2.2.2.2.2.2.2.1,c.2.2.2.2.2.2.2.2.1,c.2.2.2.2.2.2.2.2.2.1,c.2.2.2.2.2.2.2.2.2.2.1,c.2.2.2.2.2.2.2.2.2.2.2.1,c.2.2.2.2.2.2.2.2.2.2.2.2.1,c.2.2.2.2.2.2.2.2.2.2.2.2.2.1,[],c.2.2.2.2.2.2.2.2.2.2.2.2.2.2.2.1,c.2.2.2.2.2.2.2.2.2.2.2.2.2.2.2.2),C)) else g ())))) else g ()))))))) fun h=>(bif decide (b.1=11) then h (decide (b.1=11)) else h (decide (b.1=5))))))))))

theorem aGf (a:EdQ) (d:Int×List (List UInt8)) (c:Int×Int) (e:Int) (b:P6) (g:Option Addr) (i:Nat) (r:EdQ×Int) (h:qU a d c e=some r):
 FC Tryz.prog 124 [.agg (aG a b).toArray,.agg #[I d.1,sL g d.2 i],.agg #[I c.1,I c.2],I e] (cH a b [⟨.str,⟨g,d.2.length,i⟩,d.2⟩]) (fun _:P6=>True) (fun q=>.tuple #[.agg (aG r.1 q).toArray,I r.2]) (fun q=>(cH r.1 q [])):= by
 refine FC.of (T:=TTx) Tryz.call124 Tryz.func124 E E fun w0=>?_
 unfold qU at h
 refine aS aA 5 [] [8,9,10,11] [(4,.bp 8 0),(5,.bp 9 0),(6,.bp 10 0),(8,.bp 11 0)] (.new 8 46 (aG a b) (.new 9 50 [I d.1,sL g d.2 i] (.new 10 64 [I c.1,I c.2] (.new 11 46 bG .nil)))) ⟨(Es E),(Bs E E)⟩ E E (JS.seq (eZ E (by kernel_rfl) (eC aA 9 [] [(10,.v (I a.2.2.1.2)),(11,.v (I (a.2.2.1.1.length:Int)))] E (Es E) (kW E (JS.seq (JS.region (aB aA 1 [] [] [(20,.v (.agg (aG a b).toArray))] _ E ev1 ?_)))))))
 refine bnw h fun j K h=>JO.call E E E E (dK a b _ K) E [0,1,2,3,4,5] E E fun f _=>aL aA 2 [] [32] [(12,.bp 32 0)] (.new 8 46 (aG a b) (.new 9 50 [I d.1,sL g d.2 i] (.new 10 64 [I c.1,I c.2] (.new 11 46 bG (.new 32 46 (aG j f) .nil))))) E ⟨ev2,(Bs E E)⟩ (aC E (JS.seq (aE aA 2 [(23,.v (I c.1))] ev1 E E ?_)))
 obtain ⟨L,M,h⟩:=aM h
 refine bA (ι:=Unit) ⟨fun _=>L ()=some r,fun _=>[(4,.bp 8 0),(8,.bp 11 0)],fun _=>(.new 8 46 (aG a b) (.new 11 46 bG .nil)),fun _=>(cH a b []),fun _=>[],fun _=>0⟩ ?_ ?_
 ·
  refine aE aA 2 [(24,.v (.bool (decide (c.1=4))))] ev1 E E ?_
  refine aJ E h (fun h=>?_) (fun h=>?_)
  ·
   refine aS aA 3 [] [] [(9,.v (I 2))] (.new 11 46 (aG j f) .nil) ⟨ev2,(Bs E E)⟩ E E ?_
   cases h
   exact JS.ret aA f V E E [0,0,0,0,0,0] E
  refine aE aA 2 [(27,.v (.bool (decide (c.1=7))))] ev1 E E ?_
  refine aJ E h (fun h=>?_) (fun h=>?_)
  ·
   refine JS.seq (aE aA 18 [(46,.v (.bool (bif (bif (bif (decide (a.2.2.2.1=0)) then (decide ((Q4 a).1=0)) else false) then (decide ((Q4 a).2.1=0)) else false) then (decide ((Q4 a).2.2.1=0)) else false)))] ev1 E E ?_)
   refine aJ E h (fun h=>?_) (fun h=>?_)
   ·
    refine JS.seq (JS.region (aB aA 1 [] [] [(47,.v (.agg (aG a b).toArray))] _ E ev1 ?_))
    obtain ⟨⟨N,O⟩,P,h⟩:=aD h
    refine JO.call E E E E (cX a b _ P) E [0,1,2,3,4,5] E E fun k _=>aL aA 4 [] [] [(9,.v (I O))] (.new 11 46 (aG N k) .nil) E ⟨ev2,(Bs E E)⟩ (aC E ?_)
    cases h
    exact JS.ret aA k V E E [0,0,0,0,0,0] E
   refine JS.skip (JS.seq (JS.region (aB aA 3 [] [] [(51,.v (.agg (aG a b).toArray)),(53,.v (I (Q8 a).2.1))] _ E ⟨(Es E),E⟩ ?_)))
   refine bnw h fun Q R h=>JO.call E E E E (lW a (Q8 a).2.1 b _ R) E [0,1,2,3,4,5] E E fun l _=>aL aA 2 [] [] [(9,.v (I 0))] (.new 11 46 (aG Q l) .nil) E ⟨ev2,(Bs E E)⟩ (aC E ?_)
   cases h
   exact JS.ret aA l V E E [0,0,0,0,0,0] E
  refine aE aA 2 [(55,.v (.bool (decide (c.1=8))))] ev1 E E ?_
  refine aJ E h (fun h=>?_) (fun h=>?_)
  ·
   refine JS.seq (JS.region (aB aA 2 [] [] [(57,.v (.agg (aG a b).toArray)),(58,.v (.agg #[I d.1,sL g d.2 i]))] _ E ⟨(Es E),E⟩ ?_))
   obtain ⟨⟨S,U⟩,X,h⟩:=aD h
   refine JO.call E E E E (rR a d (-1) b g i _ X) E [0,1,2,3,4,5,6] E E fun m _=>aL aA 4 [] [] [(9,.v (I U))] (.new 11 46 (aG S m) .nil) E ⟨ev2,(Bs E E)⟩ (aC E ?_)
   cases h
   exact JS.ret aA m V E E [0,0,0,0,0,0] E
  refine aE aA 2 [(62,.v (.bool (decide (c.1=9))))] ev1 E E ?_
  refine aJ E h (fun h=>?_) (fun h=>?_)
  ·
   refine JS.seq (JS.region (aB aA 2 [] [] [(64,.v (.agg (aG a b).toArray)),(65,.v (.agg #[I d.1,sL g d.2 i]))] _ E ⟨(Es E),E⟩ ?_))
   obtain ⟨⟨Y,Z⟩,a0,h⟩:=aD h
   refine JO.call E E E E (rR a d 1 b g i _ a0) E [0,1,2,3,4,5,6] E E fun n _=>aL aA 4 [] [] [(9,.v (I Z))] (.new 11 46 (aG Y n) .nil) E ⟨ev2,(Bs E E)⟩ (aC E ?_)
   cases h
   exact JS.ret aA n V E E [0,0,0,0,0,0] E
  obtain ⟨a1,a2,h⟩:=aM h
  refine cJ (ι:=Bool) ⟨fun z=>a1 z=some r,fun z=>[(3,.v (I e)),(4,.bp 8 0),(6,.bp 10 0),(8,.bp 11 0),(10,.v (I a.2.2.1.2)),(11,.v (I (a.2.2.1.1.length:Int))),(12,.bp 32 0),(23,.v (I c.1)),(69,.v (.bool z))],fun z=>(.new 8 46 (aG a b) (.new 10 64 [I c.1,I c.2] (.new 11 46 bG (.new 32 46 (aG j f) .nil)))),fun z=>(cH a b []),fun z=>(cH j f []),fun z=>0⟩ ?_ ?_
  ·
   refine aE aA 2 [(69,.v (.bool (decide (c.1=11))))] ev1 E E ?_
   refine aJ E h (fun h=>?_) (fun h=>?_)
   ·
    refine JS.skip (bT (decide (c.1=11)) h (Es E) (Bs E E) [0,1,2,3,4,5] E [0,1,2,3,4,5] E E)
   refine lT aA 2 [(69,.v (.bool (decide (c.1=5))))] ev1 E E (bT (decide (c.1=5)) h (Es E) (Bs E E) [0,1,2,3,4,5] E [0,1,2,3,4,5] E E)
  rintro c5 h
  subst a2
  refine aJ E h (fun h=>?_) (fun h=>?_)
  ·
   refine JS.seq (JS.region (aB aA 2 [] [] [(72,.v (.agg (aG a b).toArray)),(73,.v (I e))] _ E ⟨(Es E),E⟩ ?_))
   obtain ⟨⟨a3,a4⟩,a5,h⟩:=aD h
   refine JO.call E E E E (sV a 104 e b _ a5) E [0,1,2,3,4,5] E E fun o _=>aL aA 4 [] [] [(9,.v (I a4))] (.new 11 46 (aG a3 o) .nil) E ⟨ev2,(Bs E E)⟩ (aC E ?_)
   cases h
   exact JS.ret aA o V E E [0,0,0,0,0,0] E
  refine aE aA 2 [(77,.v (.bool (decide (c.1=10))))] ev1 E E ?_
  refine aJ E h (fun h=>?_) (fun h=>?_)
  ·
   refine JS.seq (JS.region (aB aA 2 [] [] [(79,.v (.agg (aG a b).toArray)),(80,.v (I e))] _ E ⟨(Es E),E⟩ ?_))
   obtain ⟨⟨a6,a7⟩,a8,h⟩:=aD h
   refine JO.call E E E E (sV a 108 e b _ a8) E [0,1,2,3,4,5] E E fun p _=>aL aA 4 [] [] [(9,.v (I a7))] (.new 11 46 (aG a6 p) .nil) E ⟨ev2,(Bs E E)⟩ (aC E ?_)
   cases h
   exact JS.ret aA p V E E [0,0,0,0,0,0] E
  refine aE aA 2 [(84,.v (.bool (decide (c.1=12))))] ev1 E E ?_
  refine aJ E h (fun h=>?_) (fun h=>?_)
  ·
   refine JS.seq (JS.region (aB aA 2 [] [] [(86,.v (.agg (aG a b).toArray)),(87,.v (I e))] _ E ⟨(Es E),E⟩ ?_))
   obtain ⟨⟨a9,b0⟩,b1,h⟩:=aD h
   refine JO.call E E E E (sV a 48 e b _ b1) E [0,1,2,3,4,5] E E fun s _=>aL aA 4 [] [] [(9,.v (I b0))] (.new 11 46 (aG a9 s) .nil) E ⟨ev2,(Bs E E)⟩ (aC E ?_)
   cases h
   exact JS.ret aA s V E E [0,0,0,0,0,0] E
  refine aE aA 2 [(91,.v (.bool (decide (c.1=13))))] ev1 E E ?_
  refine aJ E h (fun h=>?_) (fun h=>?_)
  ·
   refine JS.seq (JS.region (aB aA 2 [] [] [(93,.v (.agg (aG a b).toArray)),(94,.v (I e))] _ E ⟨(Es E),E⟩ ?_))
   obtain ⟨⟨b2,b3⟩,b4,h⟩:=aD h
   refine JO.call E E E E (sV a 36 e b _ b4) E [0,1,2,3,4,5] E E fun t _=>aL aA 4 [] [] [(9,.v (I b3))] (.new 11 46 (aG b2 t) .nil) E ⟨ev2,(Bs E E)⟩ (aC E ?_)
   cases h
   exact JS.ret aA t V E E [0,0,0,0,0,0] E
  refine aE aA 2 [(98,.v (.bool (decide (c.1=14))))] ev1 E E ?_
  refine aJ E h (fun h=>?_) (fun h=>?_)
  ·
   refine JS.seq (JS.region (aB aA 7 [(W (a.2.2.1.2+e))] [] [(100,.v (.agg (aG a b).toArray)),(101,.v (I a.2.2.1.2)),(106,.v (I (min (W (a.2.2.1.2+e)) (a.2.2.1.1.length:Int))))] _ E ⟨ev5,(Es E),E⟩ ?_))
   obtain ⟨⟨b5,b6⟩,b7,h⟩:=aD h
   refine JO.call E E E E (hX a 100 a.2.2.1.2 (min (W (a.2.2.1.2+e)) (a.2.2.1.1.length:Int)) b _ b7) E [0,1,2,3,4,5] E E fun u _=>aL aA 4 [] [] [(9,.v (I b6))] (.new 11 46 (aG b5 u) .nil) E ⟨ev2,(Bs E E)⟩ (aC E ?_)
   cases h
   exact JS.ret aA u V E E [0,0,0,0,0,0] E
  refine aE aA 2 [(110,.v (.bool (decide (c.1=2))))] ev1 E E ?_
  refine aJ E h (fun h=>?_) (fun h=>?_)
  ·
   refine JS.block (aE aA 4 [(112,.v (.bool (decide (c.2=99))))] ev1 E E ?_)
   refine aJ E h (fun h=>?_) (fun h=>?_)
   ·
    refine aS aA 3 [] [] [(9,.v (I 3))] (.new 11 46 (aG j f) .nil) ⟨ev2,(Bs E E)⟩ E E ?_
    cases h
    exact JS.ret aA f V E E [0,0,0,0,0,0] E
   refine aE aA 4 [(117,.v (.bool (decide (c.2=108))))] ev1 E E ?_
   refine aJ E h (fun h=>?_) (fun h=>?_)
   ·
    refine aS aA 3 [] [] [(9,.v (I 5))] (.new 11 46 (aG j f) .nil) ⟨ev2,(Bs E E)⟩ E E ?_
    cases h
    exact JS.ret aA f V E E [0,0,0,0,0,0] E
   refine aE aA 8 [(122,.v (.bool (bif (decide (c.2=100)) then (decide ((a.2.2.1.1.length:Int)=0)) else false)))] ev1 E E ?_
   refine aJ E h (fun h=>?_) (fun h=>?_)
   ·
    refine aS aA 3 [] [] [(9,.v (I 4))] (.new 11 46 (aG j f) .nil) ⟨ev2,(Bs E E)⟩ E E ?_
    cases h
    exact JS.ret aA f V E E [0,0,0,0,0,0] E
   refine aE aA 4 [(131,.v (.bool (decide (c.2=114))))] ev1 E E ?_
   refine aJ E h (fun h=>?_) (fun h=>?_)
   ·
    refine JS.seq (JS.region (aB aA 1 [] [] [(135,.v (.agg (aG a b).toArray))] _ E ev1 ?_))
    obtain ⟨⟨b8,b9⟩,c0,h⟩:=aD h
    refine JO.call E E E E (aA2 a b _ c0) E [0,1,2,3,4,5] E E ?_
    rintro ⟨w,x,y,A,B,C,D,F,G,H⟩ -
    refine aL aA 4 [] [] [(9,.v (I b9))] (.new 11 46 (aG (U14 b8 []) (w,x,y,A,B,C,D,F,none,0,G,H)) .nil) E ⟨ev2,(Bs E E)⟩ (aC E ?_)
    cases h
    refine aX iT Sl.nil E E (JS.ret aA (w,x,y,A,B,C,D,F,none,0,G,H) V E E [1,1,1,1,0,0] E)
   refine JS.skip (aV (aV (aO () h (Es E) (Bs E E) [0,1,2,3,4,5] E [] E)))
  refine JS.skip (aV (aO () h (Es E) (Bs E E) [0,1,2,3,4,5] E [] E))
 rintro _ h
 subst M
 refine JS.seq (JS.region (aB aA 1 [] [] [(139,.v (.agg (aG a b).toArray))] _ E ev1 ?_))
 obtain ⟨⟨c1,c2⟩,c3,h⟩:=aD h
 refine JO.call E E E E (cX a b _ c3) E [0,1,2,3,4,5] E E fun J _=>aL aA 4 [] [] [(9,.v (I c2))] (.new 11 46 (aG c1 J) .nil) E ⟨ev2,(Bs E E)⟩ (aC E ?_)
 cases h
 exact JS.ret aA J V E E [0,0,0,0,0,0] E

def rV (a:Int):Option Int:= (bif decide (a=102) then some 0 else (bif decide (a=70) then some 1 else (bif decide (a=116) then some 2 else (bif decide (a=84) then some 3 else some (-1)))))

theorem aDm (a:Int) (r:Int) (h:rV a=some r) :
 FC Tryz.prog 215 [I a] [] (fun _:Unit=>True) (fun _=>I r) (fun _=>[]):= by
 refine FC.of (T:=TTx) Tryz.call215 Tryz.func215 E E fun b=>?_
 unfold rV at h
 refine aE aA 1 [] ev5 E E (JS.seq (aE aA 1 [(3,.v (I a))] ev1 E E (JS.block (aE aA 2 [(4,.v (.bool (decide (a=102))))] ev1 E E ?_))))
 refine aJ E h (fun h=>?_) (fun h=>?_)
 ·
  refine aE aA 1 [(2,.v (I 0))] ev1 E E ?_
  cases h
  exact JS.ret aA () V E E [] E
 refine aE aA 2 [(6,.v (.bool (decide (a=70))))] ev1 E E ?_
 refine aJ E h (fun h=>?_) (fun h=>?_)
 ·
  refine aE aA 1 [(2,.v (I 1))] ev1 E E ?_
  cases h
  exact JS.ret aA () V E E [] E
 refine aE aA 2 [(8,.v (.bool (decide (a=116))))] ev1 E E ?_
 refine aJ E h (fun h=>?_) (fun h=>?_)
 ·
  refine aE aA 1 [(2,.v (I 2))] ev1 E E ?_
  cases h
  exact JS.ret aA () V E E [] E
 refine aE aA 2 [(10,.v (.bool (decide (a=84))))] ev1 E E ?_
 refine aJ E h (fun h=>?_) (fun h=>?_)
 ·
  refine aE aA 1 [(2,.v (I 3))] ev1 E E ?_
  cases h
  exact JS.ret aA () V E E [] E
 refine JS.skip (aV (aE aA 1 [(2,.v (I (-1)))] ev1 E E ?_))
 cases h
 exact JS.ret aA () V E E [] E

def kM (b:List Int) (c:Int) (d:Unit→Option Int) (e:Int→Option Int):Int→Option Int:=fun a=>(bif decide (a<(b.length:Int)) then (aN (0≤a∧a<(b.length:Int)) <|(bif decide ((at' b a)=c) then some a else e (W (a+1)))) else d ())

def kL (b:List Int) (c:Int) (d:Unit→Option Int) (e:Int→Option Int):Int→Option Int:=fun a=>(bif decide (0≤a) then (aN (0≤a∧a<(b.length:Int)) <|(bif decide ((at' b a)=c) then some a else e (W (a - 1)))) else d ())

def kK (b:List Int) (c:Int) (d:Unit→Option Int) (e:Int→Option Int):Int→Option Int:=fun a=>(bif decide ((W (a+1))<(b.length:Int)) then (aN (0≤(W (a+1))∧(W (a+1))<(b.length:Int)) <|(bif decide ((at' b (W (a+1)))=c) then some a else e (W (a+1)))) else d ())

def kJ (b:List Int) (c:Int) (d:Unit→Option Int) (e:Int→Option Int):Int→Option Int:=fun a=>(bif decide (1≤a) then (aN (0≤(W (a - 1))∧(W (a - 1))<(b.length:Int)) <|(bif decide ((at' b (W (a - 1)))=c) then some a else e (W (a - 1)))) else d ())

def pH (a:List Int) (f:Int) (c:Int) (d:Int):Option Int:= (aF (dE f (a.length:Int)) fun e=>(aT (fun (_:Unit)=> some (-1)) fun b=>(bif decide (d=0) then (aT (fun (_:Unit)=> b ()) fun g=>(aZ (kM a c g) bO (W (e+1)))) else (bif decide (d=1) then (aT (fun (_:Unit)=> b ()) fun h=>(aZ (kL a c h) bO (W (e - 1)))) else (bif decide (d=2) then (aT (fun (_:Unit)=> b ()) fun i=>(aZ (kK a c i) bO (W (e+1)))) else (bif decide (d=3) then (aT (fun (_:Unit)=> b ()) fun j=>(aZ (kJ a c j) bO (W (e - 1)))) else b ()))))))

theorem aEw (a:List Int) (l:Int) (b:Int) (k:Int) (c:Option Addr) (d:Nat) (r:Int) (h:pH a l b k=some r):
 FC Tryz.prog 275 [sL c a d,I l,I b,I k] [fI c d a] (fun _:Unit=>True) (fun _=>I r) (fun _=>[]):= by
 refine FC.of (T:=TTx) Tryz.call275 Tryz.func275 E E fun O=>?_
 unfold pH at h
 refine aE aA 1 [] ev5 E E (aE aA 3 [(9,.v (I (a.length:Int)))] ev1 E E (JS.seq (JS.region (aB aA 2 [] [] [(16,.v (I l)),(17,.v (I (a.length:Int)))] _ E ⟨(Es E),E⟩ ?_))))
 refine bnw h fun e B h=>JO.call E E E E (gD l (a.length:Int) _ B) E [] E E fun _ _=>aB aA 1 [] [] [(1,.v (I e))] _ E ev1 (aC E (JS.seq (aE aA 1 [(19,.v (I k))] ev1 E E ?_)))
 obtain ⟨C,D,h⟩:=aM h
 refine bA (ι:=Unit) ⟨fun _=>C ()=some r,fun _=>[],fun _=>.nil,fun _=>[],fun _=>[],fun _=>0⟩ ?_ ?_
 ·
  refine aE aA 2 [(20,.v (.bool (decide (k=0))))] ev1 E E ?_
  refine aJ E h (fun h=>?_) (fun h=>?_)
  ·
   refine gI aA 3 [(W (e+1))] [] [(10,.v (I (W (e+1))))] _ ev4 E E ?_
   obtain ⟨m,F,h⟩:=aM h
   refine bA (ι:=Unit) ⟨fun _=>m ()=some r,fun _=>[],fun _=>.nil,fun _=>[],fun _=>[],fun _=>0⟩ ?_ ?_
   ·
    refine JS.loop (ι:=Nat×Int) ⟨fun z=>aZ (kM a b m) z.1 z.2=some r,fun z=>[(0,.v (sL c a d)),(2,.v (I b)),(9,.v (I (a.length:Int))),(10,.v (I z.2))],fun z=>.nil,fun z=>[fI c d a],fun z=>[],fun z=>z.1⟩ (bO,(W (e+1))) h (Es E) V [0] E [] E ?_
    rintro ⟨n,i⟩ h
    obtain ⟨n,rfl,h⟩:=bK h
    rw [kM] at h
    refine JS.seq (aE aA 3 [(26,.v (.bool (decide (i<(a.length:Int)))))] ev1 E E ?_)
    refine aJ E h (fun h=>?_) (fun h=>?_)
    ·
     refine JS.skip (JS.seq (JS.block (JS.seq (JS.region (cC 0 E fun G=>?_)))))
     obtain ⟨o,h⟩:=aH h
     refine aB aA 3 [] [] [(31,.ep ⟨c,a.length,d⟩ (Int.toNat i*1))] _ E ⟨G.ix o,ev2,E⟩ (JO.load aA E E E E E E E 0 E E (Int.toNat i) 0 (at' a i) ⟨bH o,E⟩ E E (aB aA 2 [] [] [(34,.v (.bool (decide ((at' a i)=b))))] _ E ev1 (aC E ?_)))
     refine aJ E h (fun h=>?_) (fun h=>?_)
     ·
      refine aE aA 2 [(8,.v (I i))] ev1 E E ?_
      cases h
      exact JS.ret aA () V E E [] E
     refine JS.skip (aV (cS aA 3 [(W (i+1))] [] [(10,.v (I (W (i+1))))] _ ev4 E E (bZ (n,(W (i+1))) h (Nat.lt_succ_self _) (Es E) V [0] E [] E)))
    refine JS.exit E (aO () h V V [] E [] E)
   rintro _ h
   subst F
   refine aV (aO () h V V [] E [] E)
  refine aE aA 2 [(36,.v (.bool (decide (k=1))))] ev1 E E ?_
  refine aJ E h (fun h=>?_) (fun h=>?_)
  ·
   refine gI aA 3 [(W (e - 1))] [] [(11,.v (I (W (e - 1))))] _ ev4 E E ?_
   obtain ⟨p,H,h⟩:=aM h
   refine bA (ι:=Unit) ⟨fun _=>p ()=some r,fun _=>[],fun _=>.nil,fun _=>[],fun _=>[],fun _=>0⟩ ?_ ?_
   ·
    refine JS.loop (ι:=Nat×Int) ⟨fun z=>aZ (kL a b p) z.1 z.2=some r,fun z=>[(0,.v (sL c a d)),(2,.v (I b)),(11,.v (I z.2))],fun z=>.nil,fun z=>[fI c d a],fun z=>[],fun z=>z.1⟩ (bO,(W (e - 1))) h (Es E) V [0] E [] E ?_
    rintro ⟨q,j⟩ h
    obtain ⟨q,rfl,h⟩:=bK h
    rw [kL] at h
    refine JS.seq (aE aA 2 [(41,.v (.bool (decide (0≤j))))] ev1 E E ?_)
    refine aJ E h (fun h=>?_) (fun h=>?_)
    ·
     refine JS.skip (JS.seq (JS.block (JS.seq (JS.region (cC 0 E fun J=>?_)))))
     obtain ⟨s,h⟩:=aH h
     refine aB aA 3 [] [] [(46,.ep ⟨c,a.length,d⟩ (Int.toNat j*1))] _ E ⟨J.ix s,ev2,E⟩ (JO.load aA E E E E E E E 0 E E (Int.toNat j) 0 (at' a j) ⟨bH s,E⟩ E E (aB aA 2 [] [] [(49,.v (.bool (decide ((at' a j)=b))))] _ E ev1 (aC E ?_)))
     refine aJ E h (fun h=>?_) (fun h=>?_)
     ·
      refine aE aA 2 [(8,.v (I j))] ev1 E E ?_
      cases h
      exact JS.ret aA () V E E [] E
     refine JS.skip (aV (cS aA 3 [(W (j - 1))] [] [(11,.v (I (W (j - 1))))] _ ev4 E E (bZ (q,(W (j - 1))) h (Nat.lt_succ_self _) (Es E) V [0] E [] E)))
    refine JS.exit E (aO () h V V [] E [] E)
   rintro _ h
   subst H
   refine aV (aO () h V V [] E [] E)
  refine aE aA 2 [(51,.v (.bool (decide (k=2))))] ev1 E E ?_
  refine aJ E h (fun h=>?_) (fun h=>?_)
  ·
   refine gI aA 3 [(W (e+1))] [] [(12,.v (I (W (e+1))))] _ ev4 E E ?_
   obtain ⟨t,K,h⟩:=aM h
   refine bA (ι:=Unit) ⟨fun _=>t ()=some r,fun _=>[],fun _=>.nil,fun _=>[],fun _=>[],fun _=>0⟩ ?_ ?_
   ·
    refine JS.loop (ι:=Nat×Int) ⟨fun z=>aZ (kK a b t) z.1 z.2=some r,fun z=>[(0,.v (sL c a d)),(2,.v (I b)),(9,.v (I (a.length:Int))),(12,.v (I z.2))],fun z=>.nil,fun z=>[fI c d a],fun z=>[],fun z=>z.1⟩ (bO,(W (e+1))) h (Es E) V [0] E [] E ?_
    rintro ⟨u,f⟩ h
    obtain ⟨u,rfl,h⟩:=bK h
    rw [kK] at h
    refine JS.seq (gI aA 4 [(W (f+1))] [] [(58,.v (.bool (decide ((W (f+1))<(a.length:Int)))))] _ ev4 E E ?_)
    refine aJ E h (fun h=>?_) (fun h=>?_)
    ·
     refine JS.skip (JS.seq (JS.block (JS.seq (JS.region (cC 0 E fun L=>?_)))))
     obtain ⟨w,h⟩:=aH h
     refine aB aA 4 [(W (f+1))] [] [(64,.ep ⟨c,a.length,d⟩ (Int.toNat (W (f+1))*1))] _ E ⟨ev5,L.ix w,ev2,E⟩ (JO.load aA E E E E E E E 0 E E (Int.toNat (W (f+1))) 0 (at' a (W (f+1))) ⟨bH w,E⟩ E E (aB aA 2 [] [] [(67,.v (.bool (decide ((at' a (W (f+1)))=b))))] _ E ev1 (aC E ?_)))
     refine aJ E h (fun h=>?_) (fun h=>?_)
     ·
      refine aE aA 2 [(8,.v (I f))] ev1 E E ?_
      cases h
      exact JS.ret aA () V E E [] E
     refine JS.skip (aV (cS aA 3 [(W (f+1))] [] [(12,.v (I (W (f+1))))] _ ev4 E E (bZ (u,(W (f+1))) h (Nat.lt_succ_self _) (Es E) V [0] E [] E)))
    refine JS.exit E (aO () h V V [] E [] E)
   rintro _ h
   subst K
   refine aV (aO () h V V [] E [] E)
  refine aE aA 2 [(69,.v (.bool (decide (k=3))))] ev1 E E ?_
  refine aJ E h (fun h=>?_) (fun h=>?_)
  ·
   refine gI aA 3 [(W (e - 1))] [] [(13,.v (I (W (e - 1))))] _ ev4 E E ?_
   obtain ⟨x,M,h⟩:=aM h
   refine bA (ι:=Unit) ⟨fun _=>x ()=some r,fun _=>[],fun _=>.nil,fun _=>[],fun _=>[],fun _=>0⟩ ?_ ?_
   ·
    refine JS.loop (ι:=Nat×Int) ⟨fun z=>aZ (kJ a b x) z.1 z.2=some r,fun z=>[(0,.v (sL c a d)),(2,.v (I b)),(13,.v (I z.2))],fun z=>.nil,fun z=>[fI c d a],fun z=>[],fun z=>z.1⟩ (bO,(W (e - 1))) h (Es E) V [0] E [] E ?_
    rintro ⟨y,g⟩ h
    obtain ⟨y,rfl,h⟩:=bK h
    rw [kJ] at h
    refine JS.seq (aE aA 2 [(74,.v (.bool (decide (1≤g))))] ev1 E E ?_)
    refine aJ E h (fun h=>?_) (fun h=>?_)
    ·
     refine JS.skip (JS.seq (JS.block (JS.seq (JS.region (cC 0 E fun N=>?_)))))
     obtain ⟨A,h⟩:=aH h
     refine aB aA 4 [(W (g - 1))] [] [(80,.ep ⟨c,a.length,d⟩ (Int.toNat (W (g - 1))*1))] _ E ⟨ev5,N.ix A,ev2,E⟩ (JO.load aA E E E E E E E 0 E E (Int.toNat (W (g - 1))) 0 (at' a (W (g - 1))) ⟨bH A,E⟩ E E (aB aA 2 [] [] [(83,.v (.bool (decide ((at' a (W (g - 1)))=b))))] _ E ev1 (aC E ?_)))
     refine aJ E h (fun h=>?_) (fun h=>?_)
     ·
      refine aE aA 2 [(8,.v (I g))] ev1 E E ?_
      cases h
      exact JS.ret aA () V E E [] E
     refine JS.skip (aV (cS aA 3 [(W (g - 1))] [] [(13,.v (I (W (g - 1))))] _ ev4 E E (bZ (y,(W (g - 1))) h (Nat.lt_succ_self _) (Es E) V [0] E [] E)))
    refine JS.exit E (aO () h V V [] E [] E)
   rintro _ h
   subst M
   refine aV (aO () h V V [] E [] E)
  refine JS.skip (aV (aO () h V V [] E [] E))
 rintro _ h
 subst D
 refine aE aA 1 [(8,.v (I (-1)))] ev1 E E ?_
 cases h
 exact JS.ret aA () V E E [] E

def nG (d:List Int) (e:Int) (f:Int) (g:Int) (h:Int→Option (Int×Bool)) (i:(Int×Int)→Option (Int×Bool)):(Int×Int)→Option (Int×Bool):=fun (a,b)=>(bif decide (b<(max (1:Int) (min g 999))) then (aF (pH d a e f) fun c=>(bif decide (c<0) then some ((-1),false) else i (c,(W (b+1))))) else h a)

def lR (a:List Int) (b:Int) (c:Int) (d:Int) (e:Int):Option (Int×Bool):= (aF (dE b (a.length:Int)) fun f=>(aT (fun (g:Int)=> some (g,true)) fun h=>(aZ (nG a c d e h) bO (f,0))))

theorem aBx (a:List Int) (g:Int) (b:Int) (c:Int) (d:Int) (e:Option Addr) (f:Nat) (r:Int×Bool) (h:lR a g b c d=some r):
 FC Tryz.prog 216 [sL e a f,I g,I b,I c,I d] [fI e f a] (fun _:Unit=>True) (fun _=>.tuple #[I r.1,.bool r.2]) (fun _=>[]):= by
 refine FC.of (T:=TTx) Tryz.call216 Tryz.func216 E E fun t=>?_
 unfold lR at h
 refine aE aA 2 [] ev5 E E (JS.seq (JS.region (aB aA 3 [] [] [(12,.v (I g)),(14,.v (I (a.length:Int)))] _ E ⟨(Es E),E⟩ ?_)))
 refine bnw h fun l o h=>JO.call E E E E (gD g (a.length:Int) _ o) E [] E E fun _ _=>aB aA 1 [] [] [(1,.v (I l))] _ E ev1 (aC E (JS.seq (aE aA 4 [(18,.v (I (max (1:Int) (min d 999)))),(19,.v (I 0))] ⟨(Es E),E⟩ E E ?_)))
 obtain ⟨m,p,h⟩:=aM h
 refine bA (ι:=Int) ⟨fun z=>m z=some r,fun z=>[(1,.v (I z))],fun z=>.nil,fun z=>[],fun z=>[],fun z=>0⟩ ?_ ?_
 ·
  refine JS.loop (ι:=Nat×Int×Int) ⟨fun z=>aZ (nG a b c d m) z.1 z.2=some r,fun z=>[(0,.v (sL e a f)),(1,.v (I z.2.1)),(2,.v (I b)),(3,.v (I c)),(18,.v (I (max (1:Int) (min d 999)))),(19,.v (I z.2.2))],fun z=>.nil,fun z=>[fI e f a],fun z=>[],fun z=>z.1⟩ (bO,l,0) h (Es E) V [0] E [] E ?_
  rintro ⟨n,j,i⟩ h
  obtain ⟨n,rfl,h⟩:=bK h
  rw [nG] at h
  refine aE aA 1 [(20,.v (.bool (decide (i<(max (1:Int) (min d 999))))))] ev1 E E (JS.seq ?_)
  refine aJ E h (fun h=>?_) (fun h=>?_)
  ·
   refine JS.skip (JS.seq (JS.block (JS.seq (JS.region (aB aA 4 [] [] [(21,.v (sL e a f)),(22,.v (I j)),(23,.v (I b)),(24,.v (I c))] _ E ⟨(Es E),E⟩ ?_)))))
   refine bnw h fun k q h=>JO.call E E E E (aEw a j b c e f _ q) E [0] E E fun _ _=>aB aA 1 [] [] [(1,.v (I k))] _ E ev1 (aC E (aE aA 2 [(27,.v (.bool (decide (k<0))))] ev1 E E ?_))
   refine aJ E h (fun h=>?_) (fun h=>?_)
   ·
    refine aE aA 2 [(10,.v (I (-1))),(11,.v (.bool false))] ⟨(Es E),E⟩ E E ?_
    cases h
    exact JS.ret aA () V E E [] E
   refine JS.skip (aV (cS aA 2 [(W (i+1))] [] [(19,.v (I (W (i+1))))] _ ev4 E E (bZ (n,k,(W (i+1))) h (Nat.lt_succ_self _) (Es E) V [0] E [] E)))
  refine JS.exit E (aO j h ev2 V [] E [] E)
 rintro s h
 subst p
 refine aE aA 3 [(10,.v (I s)),(11,.v (.bool true))] ⟨(Es E),E⟩ E E ?_
 cases h
 exact JS.ret aA () V E E [] E

def nU (a:EdQ) (c:Int) (b:Int) (d:Int):Option (EdQ×Int):= (aF (lR a.2.2.1.1 a.2.2.1.2 c b d) fun (e,f)=>(bif (!f) then (aF (cR a) fun (g,h)=> some (g,h)) else (aF (qV a e (bif decide (b=0) then true else (decide (b=2)))) fun (i,j)=> some (i,j))))

theorem aBt (a:EdQ) (d:Int) (c:Int) (e:Int) (b:P6) (r:EdQ×Int) (h:nU a d c e=some r):
 FC Tryz.prog 217 [.agg (aG a b).toArray,I d,I c,I e] (cH a b []) (fun _:P6=>True) (fun q=>.tuple #[.agg (aG r.1 q).toArray,I r.2]) (fun q=>(cH r.1 q [])):= by
 refine FC.of (T:=TTx) Tryz.call217 Tryz.func217 E E fun t=>?_
 unfold nU at h
 refine aS aA 3 [] [7,8] [(4,.bp 7 0),(8,.bp 8 0)] (.new 7 46 (aG a b) (.new 8 46 bG .nil)) ⟨(Es E),(Bs E E)⟩ E E (JS.seq (JS.region (aB aA 9 [] [] [(15,.v (sL b.1 a.2.2.1.1 b.2.1)),(18,.v (I a.2.2.1.2)),(19,.v (I d)),(20,.v (I c)),(21,.v (I e))] _ E ⟨(Es E),E⟩ ?_)))
 obtain ⟨⟨f,g⟩,k,h⟩:=aD h
 refine JO.call E E E E (aBx a.2.2.1.1 a.2.2.1.2 d c e b.1 b.2.1 _ k) E [0] E E fun _ _=>aB aA 5 [] [] [(10,.v (I f)),(11,.v (.bool g))] _ E ⟨(Es E),E⟩ (aC E (JS.seq (aE aA 2 [(26,.v (.bool (!g)))] ev1 E E ?_)))
 refine aJ E h (fun h=>?_) (fun h=>?_)
 ·
  refine JS.seq (JS.region (aB aA 1 [] [] [(27,.v (.agg (aG a b).toArray))] _ E ev1 ?_))
  obtain ⟨⟨l,m⟩,n,h⟩:=aD h
  refine JO.call E E E E (cX a b _ n) E [0,1,2,3,4,5] E E fun i _=>aL aA 4 [] [] [(9,.v (I m))] (.new 8 46 (aG l i) .nil) E ⟨ev2,(Bs E E)⟩ (aC E ?_)
  cases h
  exact JS.ret aA i V E E [0,0,0,0,0,0] E
 refine JS.skip (JS.seq (JS.region (aB aA 8 [] [] [(31,.v (.agg (aG a b).toArray)),(32,.v (I f)),(38,.v (.bool (bif (decide (c=0)) then true else (decide (c=2)))))] _ E ⟨(Es E),E⟩ ?_)))
 obtain ⟨⟨o,p⟩,s,h⟩:=aD h
 refine JO.call E E E E (aA3 a f (bif (decide (c=0)) then true else (decide (c=2))) b _ s) E [0,1,2,3,4,5] E E fun j _=>aL aA 4 [] [] [(9,.v (I p))] (.new 8 46 (aG o j) .nil) E ⟨ev2,(Bs E E)⟩ (aC E ?_)
 cases h
 exact JS.ret aA j V E E [0,0,0,0,0,0] E

def mT (c:EdQ) (d:Int×Int) (e:Int) (f:(List Int)→Option (EdQ×Int)) (g:(Int×List Int)→Option (EdQ×Int)):(Int×List Int)→Option (EdQ×Int):=fun (a,b)=>(bif decide (a<(W (c.2.2.1.2+e))) then (aN (0≤a∧a<(b.length:Int)) <|g ((W (a+1)),(List.set b (Int.toNat a) d.2))) else f b)

def sP (a:EdQ) (c:Int×Int) (d:Int):Option (EdQ×Int):= (bif (!(decide (c.1=1))) then (aF (cR a) fun (g,h)=> some (g,h)) else (bif decide (a.2.2.2.2.2.2.1=114) then (bif decide ((a.2.2.1.1.length:Int)<(W (a.2.2.1.2+d))) then (aF (cR a) fun (i,j)=> some (i,j)) else (aF (dP a.2.2.1 (W ((W (a.2.2.1.2+d)) - 1))) fun f=>(aT (fun (k:List Int)=>(aF (eX a (k,f.2)) fun (l,m)=> some (l,m))) fun n=>(aZ (mT a c d n) bO (a.2.2.1.2,f.1))))) else (aF (rV a.2.2.2.2.2.2.1) fun e=>(aF (lR a.2.2.1.1 a.2.2.1.2 c.2 e d) fun (t,o)=>(bif (!o) then (aF (cR a) fun (p,q)=> some (p,q)) else (aF (cK a) fun b=>(aF (nU (b.1,b.2.1,b.2.2.1,b.2.2.2.1,b.2.2.2.2.1,b.2.2.2.2.2.1,b.2.2.2.2.2.2.1,c.2,e,b.2.2.2.2.2.2.2.2.2.1,b.2.2.2.2.2.2.2.2.2.2.1,b.2.2.2.2.2.2.2.2.2.2.2.1,b.2.2.2.2.2.2.2.2.2.2.2.2.1,b.2.2.2.2.2.2.2.2.2.2.2.2.2.1,b.2.2.2.2.2.2.2.2.2.2.2.2.2.2.1,b.2.2.2.2.2.2.2.2.2.2.2.2.2.2.2.1,b.2.2.2.2.2.2.2.2.2.2.2.2.2.2.2.2) c.2 e d) fun (r,s)=> some (r,s))))))))

theorem aIc (a:EdQ) (c:Int×Int) (d:Int) (b:P6) (r:EdQ×Int) (h:sP a c d=some r):
 FC Tryz.prog 123 [.agg (aG a b).toArray,.agg #[I c.1,I c.2],I d] (cH a b []) (fun _:P6=>True) (fun q=>.tuple #[.agg (aG r.1 q).toArray,I r.2]) (fun q=>(cH r.1 q [])):= by
 refine FC.of (T:=TTx) Tryz.call123 Tryz.func123 E E fun w0=>?_
 unfold sP at h
 refine aS aA 4 [] [7,8,9] [(3,.bp 7 0),(4,.bp 8 0),(6,.bp 9 0)] (.new 7 46 (aG a b) (.new 8 64 [I c.1,I c.2] (.new 9 46 bG .nil))) ⟨(Es E),(Bs E E)⟩ E E (JS.seq (aE aA 3 [(17,.v (.bool (!(decide (c.1=1)))))] ev1 E E ?_))
 refine aJ E h (fun h=>?_) (fun h=>?_)
 ·
  refine JS.seq (JS.region (aB aA 1 [] [] [(18,.v (.agg (aG a b).toArray))] _ E ev1 ?_))
  obtain ⟨⟨H,J⟩,K,h⟩:=aD h
  refine JO.call E E E E (cX a b _ K) E [0,1,2,3,4,5] E E fun o _=>aL aA 4 [] [] [(7,.v (I J))] (.new 9 46 (aG H o) .nil) E ⟨ev2,(Bs E E)⟩ (aC E ?_)
  cases h
  exact JS.ret aA o V E E [0,0,0,0,0,0] E
 refine JS.skip (aE aA 4 [(8,.v (I a.2.2.1.2))] ev1 E E (JS.seq (aE aA 3 [(27,.v (.bool (decide ((Q4 a).2.2.1=114))))] ev1 E E ?_)))
 refine aJ E h (fun h=>?_) (fun h=>?_)
 ·
  refine JS.seq (gI aA 8 [(W (a.2.2.1.2+d))] [] [(35,.v (.bool (decide ((a.2.2.1.1.length:Int)<(W (a.2.2.1.2+d))))))] _ ev4 E E ?_)
  refine aJ E h (fun h=>?_) (fun h=>?_)
  ·
   refine JS.seq (JS.region (aB aA 1 [] [] [(36,.v (.agg (aG a b).toArray))] _ E ev1 ?_))
   obtain ⟨⟨L,M⟩,N,h⟩:=aD h
   refine JO.call E E E E (cX a b _ N) E [0,1,2,3,4,5] E E fun p _=>aL aA 4 [] [] [(7,.v (I M))] (.new 9 46 (aG L p) .nil) E ⟨ev2,(Bs E E)⟩ (aC E ?_)
   cases h
   exact JS.ret aA p V E E [0,0,0,0,0,0] E
  refine JS.skip (JS.seq (JS.region (aB aA 6 [(W (a.2.2.1.2+d)),(W ((W (a.2.2.1.2+d)) - 1))] [] [(41,.v (.agg #[sL b.1 a.2.2.1.1 b.2.1,I a.2.2.1.2])),(45,.v (I (W ((W (a.2.2.1.2+d)) - 1))))] _ E ⟨ev5,ev5,(Es E),E⟩ ?_)))
  refine bnw h fun e O h=>JO.call E E E E (eK a.2.2.1 (W ((W (a.2.2.1.2+d)) - 1)) b.1 b.2.1 _ O) E [0] E E ?_
  rintro ⟨s,t⟩ -
  refine aL aA 2 [] [57] [(9,.bp 57 0)] (.new 7 46 (aG a b) (.new 8 64 [I c.1,I c.2] (.new 9 46 bG (.new 57 38 [sL s e.1 t,I e.2] .nil)))) E ⟨ev2,(Bs E E)⟩ (aC E (JS.seq (aE aA 2 [(10,.v (I a.2.2.1.2))] ev1 E E ?_)))
  obtain ⟨u,P,h⟩:=aM h
  refine bA (ι:=List Int×Option Addr×Nat) ⟨fun z=>u z.1=some r,fun z=>[(3,.bp 7 0),(6,.bp 9 0),(9,.bp 57 0)],fun z=>(.new 7 46 (aG a b) (.new 9 46 bG (.new 57 38 [sL z.2.1 z.1 z.2.2,I e.2] .nil))),fun z=>(cH a b []),fun z=>[fI z.2.1 z.2.2 z.1],fun z=>0⟩ ?_ ?_
  ·
   refine JS.loop (ι:=Nat×Int×List Int×Option Addr×Nat) ⟨fun z=>aZ (mT a c d u) z.1 (z.2.1,z.2.2.1)=some r,fun z=>[(2,.v (I d)),(3,.bp 7 0),(4,.bp 8 0),(6,.bp 9 0),(8,.v (I a.2.2.1.2)),(9,.bp 57 0),(10,.v (I z.2.1))],fun z=>(.new 7 46 (aG a b) (.new 8 64 [I c.1,I c.2] (.new 9 46 bG (.new 57 38 [sL z.2.2.2.1 z.2.2.1 (Q4 z),I e.2] .nil)))),fun z=>(cH a b []),fun z=>[fI z.2.2.2.1 (Q4 z) z.2.2.1],fun z=>z.1⟩ (bO,a.2.2.1.2,e.1,s,t) h (Es E) (Bs E E) [0,1,2,3,4,5] E [0] E ?_
   rintro ⟨w,f,i,j,k⟩ h
   obtain ⟨w,rfl,h⟩:=bK h
   rw [mT] at h
   refine JS.seq (gI aA 5 [(W (a.2.2.1.2+d))] [] [(52,.v (.bool (decide (f<(W (a.2.2.1.2+d))))))] _ ev4 E E ?_)
   refine aJ E h (fun h=>?_) (fun h=>?_)
   ·
    refine JS.skip (JS.seq (JS.block (JS.region (cC 6 E fun Q=>?_))))
    obtain ⟨x,h⟩:=aH h
    refine aB aA 6 [] [] [(59,.v (I c.2)),(60,.ep ⟨j,i.length,k⟩ (Int.toNat f*1))] _ E ⟨Q.ix x,(Es E),E⟩ (pW aA E E E E E E E E E [0] (fs:=[]) E (Int.toNat f) 0 (at' i f) c.2 ⟨bH x,E⟩ ev9 (aC E (aV (cS aA 3 [(W (f+1))] [] [(10,.v (I (W (f+1))))] _ ev4 E E (bZ (w,(W (f+1)),(List.set i (Int.toNat f) c.2),j,k) h (Nat.lt_succ_self _) (Es E) ⟨E,E,E,E,E,E,E,E,E,E,E,E,E,(congrArg (fun n=>([.slice j n k,I e.2]:List Value)) (List.length_set.trans E)),E,E,V⟩ [0,1,2,3,4,5] E [0] (by simp only [List.length_set,List.length_replicate,cV,fU,sL,fI,vD];rfl))))))
   refine JS.exit E (aO (i,j,k) h (Es E) (Bs E E) [0,1,2,3,4,5] E [0] E)
  rintro ⟨y,A,B⟩ h
  subst P
  refine JS.seq (JS.region (aB aA 2 [] [] [(61,.v (.agg (aG a b).toArray)),(62,.v (.agg #[sL A y B,I e.2]))] _ E ⟨(Es E),E⟩ ?_))
  obtain ⟨⟨R,S⟩,U,h⟩:=aD h
  refine JO.call E E E E (gY a (y,e.2) b A B _ U) E [0,1,2,3,4,5,6] E E fun C _=>aL aA 4 [] [] [(7,.v (I S))] (.new 9 46 (aG R C) .nil) E ⟨ev2,(Bs E E)⟩ (aC E ?_)
  cases h
  exact JS.ret aA C V E E [0,0,0,0,0,0] E
 refine JS.skip (JS.seq (JS.region (aB aA 2 [] [] [(67,.v (I (Q4 a).2.2.1))] _ E ev1 ?_)))
 refine bnw h fun g X h=>JO.call E E E E (aDm (Q4 a).2.2.1 _ X) E [] E E fun _ _=>aB aA 1 [] [] [(11,.v (I g))] _ E ev1 (aC E (JS.seq (JS.seq (JS.region (aB aA 8 [] [] [(72,.v (sL b.1 a.2.2.1.1 b.2.1)),(73,.v (I a.2.2.1.2)),(75,.v (I c.2)),(76,.v (I g)),(77,.v (I d))] _ E ⟨(Es E),E⟩ ?_)))))
 obtain ⟨⟨a7,D⟩,Y,h⟩:=aD h
 refine JO.call E E E E (aBx a.2.2.1.1 a.2.2.1.2 c.2 g d b.1 b.2.1 _ Y) E [0] E E fun _ _=>aB aA 5 [] [] [(13,.v (.bool D))] _ E ev1 (aC E (aE aA 2 [(82,.v (.bool (!D)))] ev1 E E ?_))
 refine aJ E h (fun h=>?_) (fun h=>?_)
 ·
  refine JS.seq (JS.region (aB aA 1 [] [] [(83,.v (.agg (aG a b).toArray))] _ E ev1 ?_))
  obtain ⟨⟨Z,a0⟩,a1,h⟩:=aD h
  refine JO.call E E E E (cX a b _ a1) E [0,1,2,3,4,5] E E fun F _=>aL aA 4 [] [] [(7,.v (I a0))] (.new 9 46 (aG Z F) .nil) E ⟨ev2,(Bs E E)⟩ (aC E ?_)
  cases h
  exact JS.ret aA F V E E [0,0,0,0,0,0] E
 refine JS.skip (JS.seq (JS.region (aB aA 1 [] [] [(87,.v (.agg (aG a b).toArray))] _ E ev1 ?_)))
 refine bnw h fun l a2 h=>JO.call E E E E (dK a b _ a2) E [0,1,2,3,4,5] E E fun m _=>aL aA 2 [] [217] [(14,.bp 217 0)] (.new 8 64 [I c.1,I c.2] (.new 9 46 bG (.new 217 46 (aG l m) .nil))) E ⟨ev2,(Bs E E)⟩ (aC E (aS aA 7 [] [] [] (.new 8 64 [I c.1,I c.2] (.new 9 46 bG (.new 217 46 (aG (U8 (U7 l c.2) g) m) .nil))) ⟨V,(Bs E E)⟩ E E (JS.seq (JS.region (aB aA 5 [] [] [(94,.v (.agg (aG (U8 (U7 l c.2) g) m).toArray)),(96,.v (I c.2)),(97,.v (I g)),(98,.v (I d))] _ E ⟨(Es E),E⟩ ?_)))))
 obtain ⟨⟨a3,a4⟩,a5,h⟩:=aD h
 refine JO.call E E E E (aBt (U8 (U7 l c.2) g) c.2 g d m _ a5) E [6,7,8,9,10,11] E E fun G _=>aL aA 4 [] [] [(7,.v (I a4))] (.new 9 46 (aG a3 G) .nil) E ⟨ev2,(Bs E E)⟩ (aC E ?_)
 cases h
 exact JS.ret aA G V E E [0,0,0,0,0,0] E

def uM (b:EdQ) (c:Int) (f:Int):Option (EdQ×Int×Bool):= (aF (cK b) fun a=>(aF (dH c 49 57) fun g=>(bif (bif g then true else (bif decide (c=48) then (!(decide (b.2.2.2.1=0))) else false)) then some ((a.1,a.2.1,a.2.2.1,(min (W ((W ((W (10*b.2.2.2.1))+c)) - 48)) 999),a.2.2.2.2.1,a.2.2.2.2.2.1,a.2.2.2.2.2.2.1,a.2.2.2.2.2.2.2.1,a.2.2.2.2.2.2.2.2.1,a.2.2.2.2.2.2.2.2.2.1,a.2.2.2.2.2.2.2.2.2.2.1,a.2.2.2.2.2.2.2.2.2.2.2.1,a.2.2.2.2.2.2.2.2.2.2.2.2.1,a.2.2.2.2.2.2.2.2.2.2.2.2.2.1,a.2.2.2.2.2.2.2.2.2.2.2.2.2.2.1,a.2.2.2.2.2.2.2.2.2.2.2.2.2.2.2.1,a.2.2.2.2.2.2.2.2.2.2.2.2.2.2.2.2),0,true) else (aF (rV c) fun h=>(bif decide (0≤h) then some ((a.1,a.2.1,a.2.2.1,a.2.2.2.1,a.2.2.2.2.1,a.2.2.2.2.2.1,c,a.2.2.2.2.2.2.2.1,a.2.2.2.2.2.2.2.2.1,a.2.2.2.2.2.2.2.2.2.1,a.2.2.2.2.2.2.2.2.2.2.1,a.2.2.2.2.2.2.2.2.2.2.2.1,a.2.2.2.2.2.2.2.2.2.2.2.2.1,a.2.2.2.2.2.2.2.2.2.2.2.2.2.1,a.2.2.2.2.2.2.2.2.2.2.2.2.2.2.1,a.2.2.2.2.2.2.2.2.2.2.2.2.2.2.2.1,a.2.2.2.2.2.2.2.2.2.2.2.2.2.2.2.2),0,true) else (bif (bif decide (c=59) then true else (decide (c=44))) then (aT (fun (i:Int)=>(aT (fun ((j,k):Int×EdQ)=> some (k,j,true)) fun d=>(bif decide (b.2.2.2.2.2.2.2.1=0) then (aF (cR b) fun (l,m)=> d (m,l)) else (aF (nU b b.2.2.2.2.2.2.2.1 i f) fun (n,o)=> d (o,n))))) fun e=>(bif decide (c=44) then (aN (0≤b.2.2.2.2.2.2.2.2.1∧b.2.2.2.2.2.2.2.2.1<(([1,0,3,2]:List Int).length:Int)) <|e (at' ([1,0,3,2]:List Int) b.2.2.2.2.2.2.2.2.1)) else e b.2.2.2.2.2.2.2.2.1)) else (cA ((decide (b.2.2.2.2.1=0))=true) (iF c ([100,99,121]:List UInt8)) false fun p=>(bif (bif decide (b.2.2.2.2.1=0) then p else false) then some ((a.1,a.2.1,a.2.2.1,0,c,b.2.2.2.1,a.2.2.2.2.2.2.1,a.2.2.2.2.2.2.2.1,a.2.2.2.2.2.2.2.2.1,a.2.2.2.2.2.2.2.2.2.1,a.2.2.2.2.2.2.2.2.2.2.1,a.2.2.2.2.2.2.2.2.2.2.2.1,a.2.2.2.2.2.2.2.2.2.2.2.2.1,a.2.2.2.2.2.2.2.2.2.2.2.2.2.1,a.2.2.2.2.2.2.2.2.2.2.2.2.2.2.1,a.2.2.2.2.2.2.2.2.2.2.2.2.2.2.2.1,a.2.2.2.2.2.2.2.2.2.2.2.2.2.2.2.2),0,true) else some ((false,0,([],0),0,0,0,0,0,0,0,[],[],0,([],0),[],0,([],0)),0,false)))))))))

theorem aKv (a:EdQ) (b:Int) (f:Int) (c:P6) (r:EdQ×Int×Bool) (h:uM a b f=some r):
 FC Tryz.prog 220 [.agg (aG a c).toArray,I b,I f] (cH a c []) (fun _:P6=>True) (fun q=>.tuple #[.agg (aG r.1 q).toArray,I r.2.1,.bool r.2.2]) (fun q=>(cH r.1 q [])):= by
 refine FC.of (T:=TTx) Tryz.call220 Tryz.func220 E E fun O=>?_
 unfold uM at h
 refine aS aA 4 [] [7,8] [(3,.bp 7 0),(6,.bp 8 0)] (.new 7 46 (aG a c) (.new 8 46 bG .nil)) ⟨(Es E),(Bs E E)⟩ E E (JS.seq (JS.region (aB aA 1 [] [] [(12,.v (.agg (aG a c).toArray))] _ E ev1 ?_)))
 refine bnw h fun e s h=>JO.call E E E E (dK a c _ s) E [0,1,2,3,4,5] E E fun d _=>aL aA 2 [] [29] [(9,.bp 29 0)] (.new 7 46 (aG a c) (.new 8 46 bG (.new 29 46 (aG e d) .nil))) E ⟨ev2,(Bs E E)⟩ (aC E (JS.seq (JS.block (JS.seq (JS.region (aB aA 1 [] [] [(15,.v (I b))] _ E ev1 ?_))))))
 refine bnw h fun t u h=>JO.call E E E E (eG b 49 57 _ u) E [] E E fun _ _=>aB aA 10 [] [] [(14,.v (.bool (bif t then true else (bif (decide (b=48)) then (!(decide (a.2.2.2.1=0))) else false))))] _ E ev1 (aC E ?_)
 refine aJ E h (fun h=>?_) (fun h=>?_)
 ·
  refine aS aA 9 [(W (10*a.2.2.2.1)),(W ((W (10*a.2.2.2.1))+b)),(W ((W ((W (10*a.2.2.2.1))+b)) - 48))] [] [] (.new 8 46 bG (.new 29 46 (aG (U3 e (min (W ((W ((W (10*a.2.2.2.1))+b)) - 48)) 999)) d) .nil)) ⟨ev5,ev5,ev5,V,(Bs E E)⟩ E E (aS aA 4 [] [] [(7,.v (I 0)),(8,.v (.bool true))] (.new 8 46 (aG (U3 e (min (W ((W ((W (10*a.2.2.2.1))+b)) - 48)) 999)) d) .nil) ⟨(Es E),(Bs E E)⟩ E E ?_)
  cases h
  exact JS.ret aA d V E E [0,0,0,0,0,0] E
 refine JS.seq (JS.region (aB aA 1 [] [] [(36,.v (I b))] _ E ev1 ?_))
 refine bnw h fun w x h=>JO.call E E E E (aDm b _ x) E [] E E fun _ _=>aB aA 2 [] [] [(35,.v (.bool (decide (0≤w))))] _ E ev1 (aC E ?_)
 refine aJ E h (fun h=>?_) (fun h=>?_)
 ·
  refine aS aA 3 [] [] [] (.new 8 46 bG (.new 29 46 (aG (U6 e b) d) .nil)) ⟨V,(Bs E E)⟩ E E (aS aA 4 [] [] [(7,.v (I 0)),(8,.v (.bool true))] (.new 8 46 (aG (U6 e b) d) .nil) ⟨(Es E),(Bs E E)⟩ E E ?_)
  cases h
  exact JS.ret aA d V E E [0,0,0,0,0,0] E
 refine aE aA 7 [(42,.v (.bool (bif (decide (b=59)) then true else (decide (b=44)))))] ev1 E E ?_
 refine aJ E h (fun h=>?_) (fun h=>?_)
 ·
  refine aE aA 3 [(10,.v (I (Q8 a).1))] ev1 E E ?_
  obtain ⟨y,A,h⟩:=aM h
  refine cJ (ι:=Int) ⟨fun z=>y z=some r,fun z=>[(2,.v (I f)),(3,.bp 7 0),(6,.bp 8 0),(9,.bp 29 0),(10,.v (I z))],fun z=>(.new 7 46 (aG a c) (.new 8 46 bG (.new 29 46 (aG e d) .nil))),fun z=>(cH a c []),fun z=>(cH e d []),fun z=>0⟩ ?_ ?_
  ·
   refine aE aA 2 [(52,.v (.bool (decide (b=44))))] ev1 E E ?_
   refine aJ E h (fun h=>?_) (fun h=>?_)
   ·
    refine JS.region ?_
    refine kU E (JK.buildSlice aA E E E E E E E E E E E [] E iT [1,0,3,2] ⟨E,E⟩ E E fun B=>kT ?_)
    refine cC 6 E fun C=>?_
    obtain ⟨g,h⟩:=aH h
    refine aB aA 2 [] [] [(55,.ep ⟨B,([1,0,3,2]:List Int).length,([1,0,3,2]:List Int).length⟩ (Int.toNat (Q8 a).1*1))] _ E ⟨C.ix g,ev2,E⟩ (JO.load aA E E E E E E E 6 E E (Int.toNat (Q8 a).1) 0 (at' ([1,0,3,2]:List Int) (Q8 a).1) ⟨bH g,E⟩ E E (aB aA 1 [] [] [(10,.v (I (at' ([1,0,3,2]:List Int) (Q8 a).1)))] _ E ev1 (aC E (bT (at' ([1,0,3,2]:List Int) (Q8 a).1) h (Es E) (Bs E E) [0,1,2,3,4,5] E [1,2,3,4,5,6] E E))))
   refine JS.skip (bT (Q8 a).1 h (Es E) (Bs E E) [0,1,2,3,4,5] E [0,1,2,3,4,5] E E)
  rintro i h
  subst A
  refine aE aA 1 [] ev5 E E ?_
  obtain ⟨D,F,h⟩:=aM h
  refine cJ (ι:=Int×EdQ×P6) ⟨fun z=>D (z.1,z.2.1)=some r,fun z=>[(6,.bp 8 0),(9,.bp 29 0),(11,.v (I z.1))],fun z=>(.new 8 46 bG (.new 29 46 (aG z.2.1 z.2.2) .nil)),fun z=>[],fun z=>(cH z.2.1 z.2.2 []),fun z=>0⟩ ?_ ?_
  ·
   refine aE aA 3 [(59,.v (.bool (decide ((Q4 a).2.2.2.1=0))))] ev1 E E ?_
   refine aJ E h (fun h=>?_) (fun h=>?_)
   ·
    refine JS.region (aB aA 1 [] [] [(61,.v (.agg (aG a c).toArray))] _ E ev1 ?_)
    obtain ⟨⟨j,k⟩,G,h⟩:=aD h
    refine JO.call E E E E (cX a c _ G) E [0,1,2,3,4,5] E E fun l _=>aL aA 5 [] [] [(11,.v (I k))] (.new 8 46 bG (.new 29 46 (aG j l) .nil)) E ⟨ev2,(Bs E E)⟩ (aC E (bT (k,j,l) h (Es E) (Bs E E) [] E [0,1,2,3,4,5] E E))
   refine JS.region (aB aA 5 [] [] [(66,.v (.agg (aG a c).toArray)),(68,.v (I (Q4 a).2.2.2.1)),(69,.v (I i)),(70,.v (I f))] _ E ⟨(Es E),E⟩ ?_)
   obtain ⟨⟨m,n⟩,H,h⟩:=aD h
   refine JO.call E E E E (aBt a (Q4 a).2.2.2.1 i f c _ H) E [0,1,2,3,4,5] E E fun o _=>aL aA 5 [] [] [(11,.v (I n))] (.new 8 46 bG (.new 29 46 (aG m o) .nil)) E ⟨ev2,(Bs E E)⟩ (aC E (bT (n,m,o) h (Es E) (Bs E E) [] E [0,1,2,3,4,5] E E))
  rintro ⟨J,K,p⟩ h
  subst F
  refine aS aA 5 [] [] [(7,.v (I J)),(8,.v (.bool true))] (.new 8 46 (aG K p) .nil) ⟨(Es E),(Bs E E)⟩ E E ?_
  cases h
  exact JS.ret aA p V E E [0,0,0,0,0,0] E
 refine JS.seq (JS.region (aB aA 5 [] [] [(80,.v (.bool (decide ((Q4 a).1=0)))),(81,.cd [(80,true)] (.v (I b)))] _ E ⟨(Es E),E⟩ ?_))
 obtain ⟨L,M,-,h⟩:=bB h
 refine bR E E E E (fun N=>uW b ([100,99,121]:List UInt8) _ (M N)) E [] E E (aB aA 2 [] [] [(76,.v (.bool (bif (decide ((Q4 a).1=0)) then L else false)))] _ E ev1 (aC E ?_))
 refine aJ E h (fun h=>?_) (fun h=>?_)
 ·
  refine JS.seq ?_
  refine bE E (.new 7 46 (aG a c) .nil) [] [5,6,7,8] ev3 E (fun P=>?_)
  refine cD aA aI true 5 [0,1,2,3] E (by kernel_rfl) [] [(84,.v (I b)),(86,.v (I a.2.2.2.1)),(87,.bp 29 5)] ev3 [] E E (Es E) (JA.one 4 (by kernel_rfl) (aY aA E E E E E E E E (aQ ev3 [] E (aW aA aI 3 [5] E (by kernel_rfl) [] [(88,.bp 29 6)] E ev2 (JA.one 6 (by kernel_rfl) (aY aA E E E E E E E E (aR E (aW aA aI 1 [7] E (by kernel_rfl) [] [(89,.bp 29 4)] E ev2 (JA.one 8 (by kernel_rfl) (aY aA E E E E E E E E (aR E (bI (by kernel_rfl) (bC (B':=(.new 8 46 bG (.new 29 46 (aG (U5 (U4 (U3 e 0) b) a.2.2.2.1) d) .nil))) (Bs E E) (aS aA 4 [] [] [(7,.v (I 0)),(8,.v (.bool true))] (.new 8 46 (aG (U5 (U4 (U3 e 0) b) a.2.2.2.1) d) .nil) ⟨(Es E),(Bs E E)⟩ E E ?_))))))))))))))
  cases h
  exact JS.ret aA d V E E [0,0,0,0,0,0] E
 refine JS.skip (aV (aS aA 4 [] [] [(7,.v (I 0)),(8,.v (.bool false))] (.new 8 46 bG .nil) ⟨(Es E),(Bs E E)⟩ E E ?_))
 cases h
 refine aX iT Sl.nil E E (aX (.sl iT) Sl.nil E E (aX (.pair (.sl iT) iT) Sl.nil E E (aX iT Sl.nil E E (aX iT Sl.nil E E (aX iT Sl.nil E E (JS.ret aA (none,0,none,0,none,0,none,0,none,0,none,0) V E E [5,4,3,2,1,0] E))))))

def kA (d:List Int×Int) (e:(List Int)→Option (EdQ×Int)) (f:(Int×List Int)→Option (EdQ×Int)):(Int×List Int)→Option (EdQ×Int):=fun (a,b)=>(bif decide (a<d.2) then (aT (fun (g:List Int)=> f ((W (a+1)),g)) fun c=>(aN (0≤a∧a<(b.length:Int)) <|(aF (eN (at' b a)) fun h=>(bif h then (aF (oE (at' b a)) fun i=>(aN (0≤a∧a<(b.length:Int)) <|c (List.set b (Int.toNat a) i))) else (aF (oF (at' b a)) fun j=>(aN (0≤a∧a<(b.length:Int)) <|c (List.set b (Int.toNat a) j))))))) else e b)

def pB (a:EdQ) (c:Int):Option (EdQ×Int):= (bif decide ((a.2.2.1.1.length:Int)=0) then (aF (cR a) fun (d,e)=> some (d,e)) else (aF (dP a.2.2.1 (W (a.2.2.1.2+c))) fun b=>(aT (fun (f:List Int)=>(aF (eX a (f,b.2)) fun (g,h)=> some (g,h))) fun i=>(aZ (kA b i) bO (a.2.2.1.2,b.1)))))

theorem aEp (a:EdQ) (i:Int) (d:P6) (r:EdQ×Int) (h:pB a i=some r):
 FC Tryz.prog 224 [.agg (aG a d).toArray,I i] (cH a d []) (fun _:P6=>True) (fun q=>.tuple #[.agg (aG r.1 q).toArray,I r.2]) (fun q=>(cH r.1 q [])):= by
 refine FC.of (T:=TTx) Tryz.call224 Tryz.func224 E E fun Y=>?_
 unfold pB at h
 refine aS aA 3 [] [7,8] [(2,.bp 7 0),(4,.bp 8 0)] (.new 7 46 (aG a d) (.new 8 46 bG .nil)) ⟨(Es E),(Bs E E)⟩ E E (JS.seq (aE aA 5 [(14,.v (.bool (decide ((a.2.2.1.1.length:Int)=0))))] ev1 E E ?_))
 refine aJ E h (fun h=>?_) (fun h=>?_)
 ·
  refine JS.seq (JS.region (aB aA 1 [] [] [(15,.v (.agg (aG a d).toArray))] _ E ev1 ?_))
  obtain ⟨⟨D,F⟩,G,h⟩:=aD h
  refine JO.call E E E E (cX a d _ G) E [0,1,2,3,4,5] E E fun k _=>aL aA 4 [] [] [(5,.v (I F))] (.new 8 46 (aG D k) .nil) E ⟨ev2,(Bs E E)⟩ (aC E ?_)
  cases h
  exact JS.ret aA k V E E [0,0,0,0,0,0] E
 refine JS.skip (aE aA 4 [(6,.v (I a.2.2.1.2))] ev1 E E (JS.seq (JS.region (aB aA 5 [(W (a.2.2.1.2+i))] [] [(23,.v (.agg #[sL d.1 a.2.2.1.1 d.2.1,I a.2.2.1.2])),(26,.v (I (W (a.2.2.1.2+i))))] _ E ⟨ev5,(Es E),E⟩ ?_))))
 refine bnw h fun e H h=>JO.call E E E E (eK a.2.2.1 (W (a.2.2.1.2+i)) d.1 d.2.1 _ H) E [0] E E ?_
 rintro ⟨l,m⟩ -
 refine aL aA 2 [] [35] [(7,.bp 35 0)] (.new 7 46 (aG a d) (.new 8 46 bG (.new 35 38 [sL l e.1 m,I e.2] .nil))) E ⟨ev2,(Bs E E)⟩ (aC E (JS.seq (aE aA 2 [(8,.v (I a.2.2.1.2))] ev1 E E ?_)))
 obtain ⟨o,J,h⟩:=aM h
 refine bA (ι:=List Int×Option Addr×Nat) ⟨fun z=>o z.1=some r,fun z=>[(2,.bp 7 0),(4,.bp 8 0),(7,.bp 35 0)],fun z=>(.new 7 46 (aG a d) (.new 8 46 bG (.new 35 38 [sL z.2.1 z.1 z.2.2,I e.2] .nil))),fun z=>(cH a d []),fun z=>[fI z.2.1 z.2.2 z.1],fun z=>0⟩ ?_ ?_
 ·
  refine JS.loop (ι:=Nat×Int×List Int×Option Addr×Nat) ⟨fun z=>aZ (kA e o) z.1 (z.2.1,z.2.2.1)=some r,fun z=>[(2,.bp 7 0),(4,.bp 8 0),(7,.bp 35 0),(8,.v (I z.2.1))],fun z=>(.new 7 46 (aG a d) (.new 8 46 bG (.new 35 38 [sL z.2.2.2.1 z.2.2.1 (Q4 z),I e.2] .nil))),fun z=>(cH a d []),fun z=>[fI z.2.2.2.1 (Q4 z) z.2.2.1],fun z=>z.1⟩ (bO,a.2.2.1.2,e.1,l,m) h (Es E) (Bs E E) [0,1,2,3,4,5] E [0] E ?_
  rintro ⟨p,b,c,f,g⟩ h
  obtain ⟨p,rfl,h⟩:=bK h
  rw [kA] at h
  refine JS.seq (aE aA 4 [(32,.v (.bool (decide (b<e.2))))] ev1 E E ?_)
  refine aJ E h (fun h=>?_) (fun h=>?_)
  ·
   refine JS.skip (JS.seq ?_)
   obtain ⟨K,L,h⟩:=aM h
   refine bA (ι:=List Int×Option Addr×Nat) ⟨fun z=>K z.1=some r,fun z=>[(2,.bp 7 0),(4,.bp 8 0),(7,.bp 35 0),(8,.v (I b))],fun z=>(.new 7 46 (aG a d) (.new 8 46 bG (.new 35 38 [sL z.2.1 z.1 z.2.2,I e.2] .nil))),fun z=>(cH a d []),fun z=>[fI z.2.1 z.2.2 z.1],fun z=>0⟩ ?_ ?_
   ·
    refine JS.seq (JS.region (cC 6 E fun j=>?_))
    obtain ⟨s,h⟩:=aH h
    refine aB aA 4 [] [] [(38,.ep ⟨f,c.length,g⟩ (Int.toNat b*1))] _ E ⟨j.ix s,ev2,E⟩ (JO.load aA E E E E E E E 6 E E (Int.toNat b) 0 (at' c b) ⟨bH s,E⟩ E E (aB aA 1 [] [] [(9,.v (I (at' c b)))] _ E ev1 (aC E (JS.seq (JS.region (aB aA 1 [] [] [(40,.v (I (at' c b)))] _ E ev1 ?_))))))
    refine bnw h fun Z M h=>JO.call E E E E (oN (at' c b) _ M) E [] E E fun _ _=>aC E ?_
    refine aJ E h (fun h=>?_) (fun h=>?_)
    ·
     obtain ⟨t,N,h⟩:=aD h
     obtain ⟨u,h⟩:=aH h
     refine bE E (.new 35 38 [sL f c g,I e.2] .nil) [] [5,6] ev3 E (fun a0=>?_)
     refine cD aA aI true 3 [0,1,2,3] E (by kernel_rfl) [] [(43,.v (sL f c g)),(44,.v (I b)),(45,.v (I (at' c b)))] ev3 [] E E (Es E) (JA.one 4 (by kernel_rfl) (JK.call E E E E (aDa (at' c b) _ N) E [] E E fun _ _=>aQ ev3 [] E (aW aA aI 1 [5] E (by kernel_rfl) [] [(47,.ep ⟨f,c.length,g⟩ (Int.toNat b*1))] E ⟨j.ix u,ev2⟩ (JA.one 6 (by kernel_rfl) (pY aA E E E E E E E E E [0] (fs:=[]) E (Int.toNat b) 0 (at' c b) t ⟨bH u,E⟩ ev9 (aR E (bI (by kernel_rfl) (bC (B':=(.new 7 46 (aG a d) (.new 8 46 bG (.new 35 38 [sL f c g,I e.2] .nil)))) (Bs E E) (aV (aO ((List.set c (Int.toNat b) t),f,g) h (Es E) ⟨E,E,E,E,E,E,E,E,E,(congrArg (fun n=>([.slice f n g,I e.2]:List Value)) (List.length_set.trans E)),E,E,V⟩ [0,1,2,3,4,5] E [0] (by simp only [List.length_set,List.length_replicate,cV,fU,sL,fI,vD];rfl)))))))))))
    obtain ⟨w,O,h⟩:=aD h
    obtain ⟨x,h⟩:=aH h
    refine bE E (.new 35 38 [sL f c g,I e.2] .nil) [] [5,6] ev3 E (fun a1=>?_)
    refine cD aA aI true 3 [0,1,2,3] E (by kernel_rfl) [] [(49,.v (sL f c g)),(50,.v (I b)),(51,.v (I (at' c b)))] ev3 [] E E (Es E) (JA.one 4 (by kernel_rfl) (JK.call E E E E (aDd (at' c b) _ O) E [] E E fun _ _=>aQ ev3 [] E (aW aA aI 1 [5] E (by kernel_rfl) [] [(53,.ep ⟨f,c.length,g⟩ (Int.toNat b*1))] E ⟨j.ix x,ev2⟩ (JA.one 6 (by kernel_rfl) (pY aA E E E E E E E E E [0] (fs:=[]) E (Int.toNat b) 0 (at' c b) w ⟨bH x,E⟩ ev9 (aR E (bI (by kernel_rfl) (bC (B':=(.new 7 46 (aG a d) (.new 8 46 bG (.new 35 38 [sL f c g,I e.2] .nil)))) (Bs E E) (aV (aO ((List.set c (Int.toNat b) w),f,g) h (Es E) ⟨E,E,E,E,E,E,E,E,E,(congrArg (fun n=>([.slice f n g,I e.2]:List Value)) (List.length_set.trans E)),E,E,V⟩ [0,1,2,3,4,5] E [0] (by simp only [List.length_set,List.length_replicate,cV,fU,sL,fI,vD];rfl)))))))))))
   rintro ⟨P,Q,R⟩ h
   subst L
   refine cS aA 3 [(W (b+1))] [] [(8,.v (I (W (b+1))))] _ ev4 E E (bZ (p,(W (b+1)),P,Q,R) h (Nat.lt_succ_self _) (Es E) (Bs E E) [0,1,2,3,4,5] E [0] E)
  refine JS.exit E (aO (c,f,g) h (Es E) (Bs E E) [0,1,2,3,4,5] E [0] E)
 rintro ⟨y,A,B⟩ h
 subst J
 refine JS.seq (JS.region (aB aA 2 [] [] [(54,.v (.agg (aG a d).toArray)),(55,.v (.agg #[sL A y B,I e.2]))] _ E ⟨(Es E),E⟩ ?_))
 obtain ⟨⟨S,U⟩,X,h⟩:=aD h
 refine JO.call E E E E (gY a (y,e.2) d A B _ X) E [0,1,2,3,4,5,6] E E fun C _=>aL aA 4 [] [] [(5,.v (I U))] (.new 8 46 (aG S C) .nil) E ⟨ev2,(Bs E E)⟩ (aC E ?_)
 cases h
 exact JS.ret aA C V E E [0,0,0,0,0,0] E

def rU (a:EdQ) (d:Int) (e:Int):Option (EdQ×Int):= (aF (gG a.2.2.2.2.2.2.2.2.2.2.1) fun f=>(aF (mA f e) fun b=>(aF (dP a.2.2.1 d) fun g=>(aF (jI g b) fun (c,h)=>(bif (bif decide ((b.length:Int)=0) then true else (!h)) then (aF (cR a) fun (i,j)=> some (i,j)) else (aF (dP c (W (c.2 - 1))) fun k=>(aF (eX a k) fun (l,m)=> some (l,m))))))))

theorem aDc (b:EdQ) (d:Int) (e:Int) (a:P6) (r:EdQ×Int) (h:rU b d e=some r):
 FC Tryz.prog 223 [.agg (aG b a).toArray,I d,I e] (cH b a []) (fun _:P6=>True) (fun q=>.tuple #[.agg (aG r.1 q).toArray,I r.2]) (fun q=>(cH r.1 q [])):= by
 refine FC.of (T:=TTx) Tryz.call223 Tryz.func223 E E fun N=>?_
 unfold rU at h
 refine aS aA 3 [] [7,8] [(3,.bp 7 0),(6,.bp 8 0)] (.new 7 46 (aG b a) (.new 8 46 bG .nil)) ⟨(Es E),(Bs E E)⟩ E E (JS.seq (JS.region (aB aA 2 [] [] [(12,.v (.agg #[sL a.2.2.1 (Q8 b).2.2.1 a.2.2.2.1]))] _ E ev1 ?_)))
 refine bnw h fun s t h=>JO.call E E E E (oP (Q8 b).2.2.1 a.2.2.1 a.2.2.2.1 _ t) E [1] E E ?_
 rintro ⟨u,w⟩ -
 refine aB aA 1 [] [] [(14,.v (I e))] _ E ev1 ?_
 refine bnw h fun f x h=>JO.call E E E E (yR s e u w _ x) E [6] E E ?_
 rintro ⟨j,k⟩ -
 refine aB aA 1 [] [] [(8,.v (sL j f k))] _ E ev1 (aC E (JS.seq (JS.region (aB aA 3 [] [] [(18,.v (.agg #[sL a.1 b.2.2.1.1 a.2.1,I b.2.2.1.2])),(19,.v (I d))] _ E ⟨(Es E),E⟩ ?_))))
 refine bnw h fun y z h=>JO.call E E E E (eK b.2.2.1 d a.1 a.2.1 _ z) E [0] E E ?_
 rintro ⟨A,B⟩ -
 refine aB aA 1 [] [] [(21,.v (sL j f k))] _ E ev1 ?_
 obtain ⟨⟨c,m⟩,C,h⟩:=aD h
 refine JO.call E E E E (oQ y f A B j k _ C) E [6,7] E E ?_
 rintro ⟨g,i⟩ -
 refine aL aA 6 [] [30] [(9,.bp 30 0),(10,.v (.bool m))] (.new 7 46 (aG b a) (.new 8 46 bG (.new 30 38 [sL g c.1 i,I c.2] .nil))) E ⟨(Es E),(Bs E E)⟩ (aC E (JS.seq (aE aA 7 [(31,.v (.bool (bif (decide ((f.length:Int)=0)) then true else (!m))))] ev1 E E ?_)))
 refine aJ E h (fun h=>?_) (fun h=>?_)
 ·
  refine JS.seq (JS.region (aB aA 1 [] [] [(32,.v (.agg (aG b a).toArray))] _ E ev1 ?_))
  obtain ⟨⟨D,F⟩,G,h⟩:=aD h
  refine JO.call E E E E (cX b a _ G) E [0,1,2,3,4,5] E E fun n _=>aL aA 4 [] [] [(7,.v (I F))] (.new 8 46 (aG D n) .nil) E ⟨ev2,(Bs E E)⟩ (aC E ?_)
  cases h
  exact JS.ret aA n V E E [0,0,0,0,0,0] E
 refine JS.skip (JS.seq ?_)
 obtain ⟨H,J,h⟩:=aD h
 obtain ⟨⟨o,p⟩,K,h⟩:=aD h
 refine bE E (.new 7 46 (aG b a) (.new 30 38 [sL g c.1 i,I c.2] .nil)) [] [6,7,8,9,10] ev6 E (fun O=>?_)
 refine cD aA aI true 6 [0,1,2,3,4] E (by kernel_rfl) [(W (c.2 - 1))] [(36,.v (.agg (aG b a).toArray)),(37,.v (.agg #[sL g c.1 i,I c.2])),(40,.v (I (W (c.2 - 1))))] ev6 [] E E ⟨ev5,(Es E)⟩ (JA.one 5 (by kernel_rfl) (JK.call E E E E (eK c (W (c.2 - 1)) g i _ J) E [6] E E ?_))
 rintro ⟨L,M⟩ -
 refine aQ ev6 [] E (JA.one 6 (by kernel_rfl) (JK.call E E E E (gY b H a L M _ K) E [0,1,2,3,4,5,6] E E ?_))
 rintro l -
 refine aR E (aW aA aI 2 [7,8] E (by kernel_rfl) [] [(43,.v (.agg (aG o l).toArray)),(44,.v (I p))] E (Es E) (JA.one 9 (by kernel_rfl) (aY aA E E E E E E E E (aR E (aW aA aI 0 [10] E (by kernel_rfl) [] [(7,.v (I p))] E ev2 (bI (by kernel_rfl) (bC (B':=(.new 8 46 (aG o l) .nil)) (Bs E E) ?_)))))))
 cases h
 exact JS.ret aA l V E E [0,0,0,0,0,0] E

def uN (b:EdQ) (d:Int):Option (EdQ×Int):= (aT (fun (f:Int)=>(aF (dP b.2.2.1 f) fun g=>(aF (mB b g 0) fun c=>(aF (nS c f) fun a=> some ((a.1,a.2.1,(c.2.2.1.1,a.2.2.1.2),a.2.2.2.1,a.2.2.2.2.1,a.2.2.2.2.2.1,a.2.2.2.2.2.2.1,a.2.2.2.2.2.2.2.1,a.2.2.2.2.2.2.2.2.1,a.2.2.2.2.2.2.2.2.2.1,c.2.2.2.2.2.2.2.2.2.2.1,c.2.2.2.2.2.2.2.2.2.2.2.1,a.2.2.2.2.2.2.2.2.2.2.2.2.1,(c.2.2.2.2.2.2.2.2.2.2.2.2.2.1.1,a.2.2.2.2.2.2.2.2.2.2.2.2.2.1.2),c.2.2.2.2.2.2.2.2.2.2.2.2.2.2.1,a.2.2.2.2.2.2.2.2.2.2.2.2.2.2.2.1,(c.2.2.2.2.2.2.2.2.2.2.2.2.2.2.2.2.1,a.2.2.2.2.2.2.2.2.2.2.2.2.2.2.2.2.2)),0))))) fun e=>(bif decide (d=105) then e b.2.2.1.2 else (bif decide (d=73) then (aF (jS b.2.2.1.1 b.2.2.1.2 94 1) fun (h,k,l)=> e h) else (bif decide (d=97) then e (min (W (b.2.2.1.2+1)) (b.2.2.1.1.length:Int)) else (bif decide (d=65) then e (b.2.2.1.1.length:Int) else (aF (cR b) fun (i,j)=> some (i,j)))))))

theorem aKw (a:EdQ) (d:Int) (b:P6) (r:EdQ×Int) (h:uN a d=some r):
 FC Tryz.prog 225 [.agg (aG a b).toArray,I d] (cH a b []) (fun _:P6=>True) (fun q=>.tuple #[.agg (aG r.1 q).toArray,I r.2]) (fun q=>(cH r.1 q [])):= by
 refine FC.of (T:=TTx) Tryz.call225 Tryz.func225 E E fun A=>?_
 unfold uN at h
 refine aS aA 3 [] [7,8] [(2,.bp 7 0),(4,.bp 8 0)] (.new 7 46 (aG a b) (.new 8 46 bG .nil)) ⟨(Es E),(Bs E E)⟩ E E (JS.seq (eZ E (by kernel_rfl) (eC aA 8 [] [(6,.v (sL b.1 a.2.2.1.1 b.2.1)),(7,.v (I a.2.2.1.2))] E (Es E) (kW E (JS.seq (aE aA 1 [(14,.v (I d))] ev1 E E ?_))))))
 obtain ⟨k,l,h⟩:=aM h
 refine bA (ι:=Int) ⟨fun z=>k z=some r,fun z=>[(2,.bp 7 0),(4,.bp 8 0),(7,.v (I z))],fun z=>(.new 7 46 (aG a b) (.new 8 46 bG .nil)),fun z=>(cH a b []),fun z=>[],fun z=>0⟩ ?_ ?_
 ·
  refine aE aA 2 [(19,.v (.bool (decide (d=105))))] ev1 E E ?_
  refine aJ E h (fun h=>?_) (fun h=>?_)
  ·
   refine JS.skip (aV (aO a.2.2.1.2 h (Es E) (Bs E E) [0,1,2,3,4,5] E [] E))
  refine aE aA 2 [(21,.v (.bool (decide (d=73))))] ev1 E E ?_
  refine aJ E h (fun h=>?_) (fun h=>?_)
  ·
   refine JS.region (aB aA 2 [] [] [(24,.v (sL b.1 a.2.2.1.1 b.2.1)),(25,.v (I a.2.2.1.2))] _ E ⟨(Es E),E⟩ ?_)
   obtain ⟨⟨i,B,C⟩,m,h⟩:=aD h
   refine JO.call E E E E (tG a.2.2.1.1 a.2.2.1.2 94 1 b.1 b.2.1 _ m) E [0] E E fun _ _=>aB aA 5 [] [] [(7,.v (I i))] _ E ev1 (aC E (aV (aO i h (Es E) (Bs E E) [0,1,2,3,4,5] E [] E)))
  refine aE aA 2 [(30,.v (.bool (decide (d=97))))] ev1 E E ?_
  refine aJ E h (fun h=>?_) (fun h=>?_)
  ·
   refine cS aA 6 [(W (a.2.2.1.2+1))] [] [(7,.v (I (min (W (a.2.2.1.2+1)) (a.2.2.1.1.length:Int))))] _ ev4 E E (aV (aO (min (W (a.2.2.1.2+1)) (a.2.2.1.1.length:Int)) h (Es E) (Bs E E) [0,1,2,3,4,5] E [] E))
  refine aE aA 2 [(37,.v (.bool (decide (d=65))))] ev1 E E ?_
  refine aJ E h (fun h=>?_) (fun h=>?_)
  ·
   refine lT aA 3 [(7,.v (I (a.2.2.1.1.length:Int)))] ev1 E E (aV (aO (a.2.2.1.1.length:Int) h (Es E) (Bs E E) [0,1,2,3,4,5] E [] E))
  refine JS.seq (JS.region (aB aA 1 [] [] [(15,.v (.agg (aG a b).toArray))] _ E ev1 ?_))
  obtain ⟨⟨n,o⟩,p,h⟩:=aD h
  refine JO.call E E E E (cX a b _ p) E [0,1,2,3,4,5] E E fun j _=>aL aA 4 [] [] [(5,.v (I o))] (.new 8 46 (aG n j) .nil) E ⟨ev2,(Bs E E)⟩ (aC E ?_)
  cases h
  exact JS.ret aA j V E E [0,0,0,0,0,0] E
 rintro f h
 subst l
 refine JS.seq ?_
 obtain ⟨s,t,h⟩:=aD h
 obtain ⟨e,u,h⟩:=aD h
 refine bnw h fun c w h=>bE E (.new 7 46 (aG a b) .nil) [] [5,7,8,9] ev3 E (fun D=>?_)
 refine cD aA aI true 6 [0,1,2,3] E (by kernel_rfl) [] [(41,.v (.agg (aG a b).toArray)),(43,.v (.agg #[sL b.1 a.2.2.1.1 b.2.1,I a.2.2.1.2])),(44,.v (I f))] ev3 [] E E (Es E) (aW aA aI 5 [6] E (by kernel_rfl) [] [(47,.v (I f))] E ev2 (JA.one 4 (by kernel_rfl) (JK.call E E E E (eK a.2.2.1 f b.1 b.2.1 _ t) E [0] E E ?_)))
 rintro ⟨x,y⟩ -
 refine aQ ev3 [] E (JA.one 5 (by kernel_rfl) (JK.call E E E E (sD a s 0 b x y _ u) E [0,1,2,3,4,5,6] E E ?_))
 rintro g -
 refine aR E (JA.one 7 (by kernel_rfl) (JK.call E E E E (wG e f g _ w) E [6,7,8,9,10,11] E E fun _ _=>aR E (JA.one 8 (by kernel_rfl) (aY aA E E E E E E E E (aR E (aW aA aI 0 [9] E (by kernel_rfl) [] [(5,.v (I 0))] E ev2 (bI (by kernel_rfl) (bC (B':=(.new 8 46 (aG (c.1,c.2.1,(e.2.2.1.1,c.2.2.1.2),c.2.2.2.1,(Q4 c).1,(Q4 c).2.1,(Q4 c).2.2.1,(Q4 c).2.2.2.1,(Q8 c).1,(Q8 c).2.1,(Q8 e).2.2.1,(Q8 e).2.2.2.1,(Q12 c).1,((Q12 e).2.1.1,(Q12 c).2.1.2),(Q12 e).2.2.1,(Q12 c).2.2.2.1,((Q16 e).1,(Q16 c).2)) g) .nil)) (Bs E E) ?_))))))))
 cases h
 exact JS.ret aA g V E E [0,0,0,0,0,0] E

end
end Go.Eng
