/- The walks of the functions that FnExactEmacsKey reaches: what each computes, as a plain function (M_..), and that the model computes it (ok_..). Condition of each: that the plain function answers. -/
import Derived.Test.YtlpgcohnjhomgaaGreatFnExactEmacsKeyWalkA
set_option linter.unusedVariables false
set_option linter.unusedSimpArgs false
namespace Go.Eng
open Go Go.Proofs
noncomputable section

def qN (x0:EdQ) (x1:Int×List (List UInt8)) (x2:Int):Option (EdQ×Bool):=
  (aG (pJ x0) fun (y32:Bool)=>
  (bif (bif (!y32) then true else (bif (!(decide (x2=1))) then (!(decide (x2=(-1)))) else false)) then
  some ((false,0,([],0),0,0,0,0,0,0,0,[],[],0,([],0),[],0,([],0)),false)
  else
  (aG (pH x1) fun (y34:Int)=>
  (aU (fun (x37:Int)=>
  (aG (cH x0) fun (y40:EdQ)=>
  (aG (eQ y40) fun (y54:EdQ)=>
  (bif (bif (bif (!(decide (x0.2.2.2.2.2.2.2.2.2.2.2.2.1=0))) then (decide (x2=1)) else false) then (decide ((W (x37+x2))=(W (y34+1)))) else false) then
  (aG (dK x0.2.2.2.2.2.2.2.2.2.2.2.2.2.1) fun (y57:List Int×Int)=>
  (aG (kS (y54.1,y54.2.1,y57,y54.2.2.2.1,y54.2.2.2.2.1,y54.2.2.2.2.2.1,y54.2.2.2.2.2.2.1,y54.2.2.2.2.2.2.2.1,y54.2.2.2.2.2.2.2.2.1,0,y40.2.2.2.2.2.2.2.2.2.2.1,([]:List (List Int×Int)),0,(([]:List Int),0),y40.2.2.2.2.2.2.2.2.2.2.2.2.2.2.1,y54.2.2.2.2.2.2.2.2.2.2.2.2.2.2.2.1,(y40.2.2.2.2.2.2.2.2.2.2.2.2.2.2.2.2.1,y54.2.2.2.2.2.2.2.2.2.2.2.2.2.2.2.2.2))) fun (y61:EdQ)=>
  some ((y61.1,y61.2.1,(y57.1,y61.2.2.1.2),y61.2.2.2.1,y61.2.2.2.2.1,y61.2.2.2.2.2.1,y61.2.2.2.2.2.2.1,y61.2.2.2.2.2.2.2.1,y61.2.2.2.2.2.2.2.2.1,y61.2.2.2.2.2.2.2.2.2.1,y40.2.2.2.2.2.2.2.2.2.2.1,[],y61.2.2.2.2.2.2.2.2.2.2.2.2.1,([],y61.2.2.2.2.2.2.2.2.2.2.2.2.2.1.2),y40.2.2.2.2.2.2.2.2.2.2.2.2.2.2.1,y61.2.2.2.2.2.2.2.2.2.2.2.2.2.2.2.1,(y40.2.2.2.2.2.2.2.2.2.2.2.2.2.2.2.2.1,y61.2.2.2.2.2.2.2.2.2.2.2.2.2.2.2.2.2)),true)))
  else
  (aG (lC x1 (W (x37+x2))) fun (y63,y64)=>
  (aG (tQ y63) fun (y66,y67)=>
  (bif (bif (!y64) then true else (!y67)) then
  some ((false,0,([],0),0,0,0,0,0,0,0,[],[],0,([],0),[],0,([],0)),false)
  else
  (aU (fun ((x76,x79):List Int×Int)=>
  (aU (fun (x83:Int)=>
  some ((y54.1,y54.2.1,(y66.1,x83),y54.2.2.2.1,y54.2.2.2.2.1,y54.2.2.2.2.2.1,y54.2.2.2.2.2.2.1,y54.2.2.2.2.2.2.2.1,y54.2.2.2.2.2.2.2.2.1,0,y40.2.2.2.2.2.2.2.2.2.2.1,[],(W (x37+x2)),(x76,x79),y40.2.2.2.2.2.2.2.2.2.2.2.2.2.2.1,y54.2.2.2.2.2.2.2.2.2.2.2.2.2.2.2.1,(y40.2.2.2.2.2.2.2.2.2.2.2.2.2.2.2.2.1,y54.2.2.2.2.2.2.2.2.2.2.2.2.2.2.2.2.2)),true)) fun j84=>
  (bif (decide (x0.2.1=2)) then
  j84 0
  else
  j84 y66.2))) fun j80=>
  (bif (decide (x0.2.2.2.2.2.2.2.2.2.2.2.2.1=0)) then
  (aG (dK x0.2.2.1) fun (y71:List Int×Int)=>
  j80 (y71.1,y71.2))
  else
  j80 (y40.2.2.2.2.2.2.2.2.2.2.2.2.2.1.1,y54.2.2.2.2.2.2.2.2.2.2.2.2.2.1.2)))))))))) fun j38=>
  (bif (decide (x0.2.2.2.2.2.2.2.2.2.2.2.2.1=0)) then
  j38 (W (y34+1))
  else
  j38 x0.2.2.2.2.2.2.2.2.2.2.2.2.1)))))

theorem aKi (x0:EdQ) (x1:Int×List (List UInt8)) (x2:Int) (q4:P6) (a28:Option Addr) (c29:Nat) (r:EdQ×Bool) (h:qN x0 x1 x2=some r):
  FC Tryz.prog 243 [.agg (cC x0 q4).toArray,.agg #[.int .i64 x1.1,.slice a28 x1.2.length c29],.int .i64 x2] (bW x0 q4 [⟨.str,⟨a28,x1.2.length,c29⟩,x1.2⟩]) (fun _:Option Addr×Nat×Option Addr×Nat×Option Addr×Nat×Option Addr×Nat×Option Addr×Nat=>True) (fun q=>.tuple #[.agg (aI (U11 r.1 []) (q.1,q.2.1,q.2.2.1,q.2.2.2.1,none,0,(Q4 q))).toArray,.bool r.2]) (fun q=>[⟨(.int .i64),⟨q.1,r.1.2.2.1.1.length,q.2.1⟩,r.1.2.2.1.1⟩,⟨(.sl (.int .i64)),⟨q.2.2.1,r.1.2.2.2.2.2.2.2.2.2.2.1.length,q.2.2.2.1⟩,r.1.2.2.2.2.2.2.2.2.2.2.1⟩,⟨(.int .i64),⟨(Q4 q).1,r.1.2.2.2.2.2.2.2.2.2.2.2.2.2.1.1.length,(Q4 q).2.1⟩,r.1.2.2.2.2.2.2.2.2.2.2.2.2.2.1.1⟩,⟨(.int .i64),⟨(Q4 q).2.2.1,r.1.2.2.2.2.2.2.2.2.2.2.2.2.2.2.1.length,(Q4 q).2.2.2.1⟩,r.1.2.2.2.2.2.2.2.2.2.2.2.2.2.2.1⟩,⟨(.int .i64),⟨(Q8 q).1,r.1.2.2.2.2.2.2.2.2.2.2.2.2.2.2.2.2.1.length,(Q8 q).2⟩,r.1.2.2.2.2.2.2.2.2.2.2.2.2.2.2.2.2.1⟩]):=
 by
  refine FC.of (T:=TTx) Tryz.call243 Tryz.func243 E E fun w0=>?_
  unfold qN at h
  refine aL aA 4 [] [8,9,10] [(3,.bp 8 0),(4,.bp 9 0),(6,.bp 10 0)] (.new 8 46 (aI x0 q4) (.new 9 50 [.int .i64 x1.1,.slice a28 x1.2.length c29] (.new 10 46 bF .nil))) ⟨(Es E),(Bs E E)⟩ E E (JS.seq (JS.seq (JS.region (aB aA 1 [] [] [(15,.v (.agg (aI x0 q4).toArray))] _ E ⟨⟨E,V⟩,E⟩ ?_))))
  refine bnw h fun y32 hy33 h=>JO.call E E E E (zP x0 q4 _ hy33) E [0,1,2,3,4,5] E E fun _ _=>aB aA 9 [] [] [(25,.v (.bool (bif (!y32) then true else (bif (!(decide (x2=1))) then (!(decide (x2=(-1)))) else false))))] _ E ⟨⟨E,V⟩,E⟩ (aD E ?_)
  refine aK E h (fun h=>?_) (fun h=>?_)
  ·
   refine aL aA 3 [] [] [(7,.v (.bool false))] (.new 10 46 bF .nil) ⟨⟨E,V⟩,(Bs E E)⟩ E E ?_
   cases h
   refine aX (.int .i64) Sl.nil E E (aX (.sl (.int .i64)) Sl.nil E E (aX (.int .i64) Sl.nil E E (aX (.int .i64) Sl.nil E E (aX (.int .i64) Sl.nil E E (JS.ret aA (none,0,none,0,none,0,none,0,none,0) V E E [4,3,2,1,0] E)))))
  refine JS.skip (JS.seq (JS.region (aB aA 1 [] [] [(27,.v (.agg #[.int .i64 x1.1,.slice a28 x1.2.length c29]))] _ E ⟨⟨E,V⟩,E⟩ ?_)))
  refine bnw h fun y34 hy35 h=>JO.call E E E E (aGk x1 a28 c29 _ hy35) E [6] E E fun _ _=>aB aA 1 [] [] [(8,.v (I y34))] _ E ⟨⟨E,V⟩,E⟩ (aD E (aC aA 3 [(9,.v (I (Q12 x0).1))] ⟨⟨E,V⟩,E⟩ E E ?_))
  obtain ⟨j38,hj100,h⟩:=aQ h
  refine dM (ι:=Int) ⟨fun z=>j38 z=some r,fun z=>[(2,.v (I x2)),(3,.bp 8 0),(4,.bp 9 0),(6,.bp 10 0),(8,.v (I y34)),(9,.v (I z))],fun z=>(.new 8 46 (aI x0 q4) (.new 9 50 [.int .i64 x1.1,.slice a28 x1.2.length c29] (.new 10 46 bF .nil))),fun z=>(bW x0 q4 [⟨.str,⟨a28,x1.2.length,c29⟩,x1.2⟩]),fun z=>[],fun z=>0⟩ ?_ ?_
  ·
   refine aC aA 2 [(32,.v (.bool (decide ((Q12 x0).1=0))))] ⟨⟨E,V⟩,E⟩ E E ?_
   refine aK E h (fun h=>?_) (fun h=>?_)
   ·
    refine bZ aA 3 [(W (y34+1))] [] [(9,.v (I (W (y34+1))))] _ ⟨⟨V,E⟩,⟨E,V⟩,E⟩ E E (aT (W (y34+1)) h (Es E) (Bs E E) [0,1,2,3,4,5,6] E [] E)
   refine JS.skip (aT (Q12 x0).1 h (Es E) (Bs E E) [0,1,2,3,4,5,6] E [] E)
  rintro x37 h
  subst hj100
  refine JS.seq (JS.region (aB aA 1 [] [] [(35,.v (.agg (aI x0 q4).toArray))] _ E ⟨⟨E,V⟩,E⟩ ?_))
  refine bnw h fun y40 hy41 h=>JO.call E E E E (dU x0 q4 _ hy41) E [0,1,2,3,4,5] E E fun q42 _=>bnw h fun y54 hy55 h=>JO.call E E E E (oS y40 q42 _ hy55) E [7,8,9,10,11,12] E E fun _ _=>aP aA 2 [] [39] [(10,.bp 39 0)] (.new 8 46 (aI x0 q4) (.new 9 50 [.int .i64 x1.1,.slice a28 x1.2.length c29] (.new 10 46 bF (.new 39 46 (aI (y54.1,y54.2.1,(y40.2.2.1.1,y54.2.2.1.2),y54.2.2.2.1,(Q4 y54).1,(Q4 y54).2.1,(Q4 y54).2.2.1,(Q4 y54).2.2.2.1,(Q8 y54).1,(Q8 y54).2.1,(Q8 y40).2.2.1,(Q8 y40).2.2.2.1,(Q12 y54).1,((Q12 y40).2.1.1,(Q12 y54).2.1.2),(Q12 y40).2.2.1,(Q12 y54).2.2.2.1,((Q16 y40).1,(Q16 y54).2)) q42) .nil)))) E ⟨⟨E,V⟩,(Bs E E)⟩ (aD E (aL aA 2 [] [] [] (.new 8 46 (aI x0 q4) (.new 9 50 [.int .i64 x1.1,.slice a28 x1.2.length c29] (.new 10 46 bF (.new 39 46 (aI (y54.1,y54.2.1,(y40.2.2.1.1,y54.2.2.1.2),y54.2.2.2.1,(Q4 y54).1,(Q4 y54).2.1,(Q4 y54).2.2.1,(Q4 y54).2.2.2.1,(Q8 y54).1,0,(Q8 y40).2.2.1,(Q8 y40).2.2.2.1,(Q12 y54).1,((Q12 y40).2.1.1,(Q12 y54).2.1.2),(Q12 y40).2.2.1,(Q12 y54).2.2.2.1,((Q16 y40).1,(Q16 y54).2)) q42) .nil)))) ⟨V,(Bs E E)⟩ E E (aL aA 3 [] [] [] (.new 8 46 (aI x0 q4) (.new 9 50 [.int .i64 x1.1,.slice a28 x1.2.length c29] (.new 10 46 bF (.new 39 46 (aI (y54.1,y54.2.1,(y40.2.2.1.1,y54.2.2.1.2),y54.2.2.2.1,(Q4 y54).1,(Q4 y54).2.1,(Q4 y54).2.2.1,(Q4 y54).2.2.2.1,(Q8 y54).1,0,(Q8 y40).2.2.1,[],(Q12 y54).1,((Q12 y40).2.1.1,(Q12 y54).2.1.2),(Q12 y40).2.2.1,(Q12 y54).2.2.2.1,((Q16 y40).1,(Q16 y54).2)) (q42.1,q42.2.1,q42.2.2.1,q42.2.2.2.1,none,0,(Q4 q42).2.2)) .nil)))) ⟨V,(Bs E E)⟩ E E (sD aA 4 [(W (x37+x2))] [] [(9,.v (I (W (x37+x2))))] _ ⟨⟨V,E⟩,⟨E,V⟩,E⟩ E E (JS.seq (sD aA 13 [(W (y34+1))] [] [(56,.v (.bool (bif (bif (!(decide ((Q12 x0).1=0))) then (decide (x2=1)) else false) then (decide ((W (x37+x2))=(W (y34+1)))) else false)))] _ ⟨(fun q93=>⟨V,E⟩),⟨E,V⟩,E⟩ E E ?_))))))
  refine aK E h (fun h=>?_) (fun h=>?_)
  ·
   refine JS.seq (JS.region (aB aA 2 [] [] [(58,.v (.agg #[.slice (Q4 q4).2.2.1 (Q12 x0).2.1.1.length (Q4 q4).2.2.2.1,.int .i64 (Q12 x0).2.1.2]))] _ E ⟨⟨E,V⟩,E⟩ ?_))
   refine bnw h fun y57 hy58 h=>JO.call E E E E (fG (Q12 x0).2.1 (Q4 q4).2.2.1 (Q4 q4).2.2.2.1 _ hy58) E [3] E E ?_
   rintro ⟨a59,c60⟩ -
   refine aP aA 2 [] [] [] (.new 10 46 bF (.new 39 46 (aI (y54.1,y54.2.1,y57,y54.2.2.2.1,(Q4 y54).1,(Q4 y54).2.1,(Q4 y54).2.2.1,(Q4 y54).2.2.2.1,(Q8 y54).1,0,(Q8 y40).2.2.1,[],(Q12 y54).1,((Q12 y40).2.1.1,(Q12 y54).2.1.2),(Q12 y40).2.2.1,(Q12 y54).2.2.2.1,((Q16 y40).1,(Q16 y54).2)) (a59,c60,q42.2.2.1,q42.2.2.2.1,none,0,(Q4 q42).2.2)) .nil)) E ⟨V,(Bs E E)⟩ (aD E (aL aA 3 [] [] [] (.new 10 46 bF (.new 39 46 (aI (y54.1,y54.2.1,y57,y54.2.2.2.1,(Q4 y54).1,(Q4 y54).2.1,(Q4 y54).2.2.1,(Q4 y54).2.2.2.1,(Q8 y54).1,0,(Q8 y40).2.2.1,[],(Q12 y54).1,([],0),(Q12 y40).2.2.1,(Q12 y54).2.2.2.1,((Q16 y40).1,(Q16 y54).2)) (a59,c60,q42.2.2.1,q42.2.2.2.1,none,0,none,0,(Q8 q42))) .nil)) ⟨V,(Bs E E)⟩ E E (aL aA 2 [] [] [] (.new 10 46 bF (.new 39 46 (aI (y54.1,y54.2.1,y57,y54.2.2.2.1,(Q4 y54).1,(Q4 y54).2.1,(Q4 y54).2.2.1,(Q4 y54).2.2.2.1,(Q8 y54).1,0,(Q8 y40).2.2.1,[],0,([],0),(Q12 y40).2.2.1,(Q12 y54).2.2.2.1,((Q16 y40).1,(Q16 y54).2)) (a59,c60,q42.2.2.1,q42.2.2.2.1,none,0,none,0,(Q8 q42))) .nil)) ⟨V,(Bs E E)⟩ E E (JS.seq (JS.region (aB aA 1 [] [] [(64,.v (.agg (aI (y54.1,y54.2.1,y57,y54.2.2.2.1,(Q4 y54).1,(Q4 y54).2.1,(Q4 y54).2.2.1,(Q4 y54).2.2.2.1,(Q8 y54).1,0,(Q8 y40).2.2.1,[],0,([],0),(Q12 y40).2.2.1,(Q12 y54).2.2.2.1,((Q16 y40).1,(Q16 y54).2)) (a59,c60,q42.2.2.1,q42.2.2.2.1,none,0,none,0,(Q8 q42))).toArray))] _ E ⟨⟨E,V⟩,E⟩ ?_))))))
   refine bnw h fun y61 hy62 h=>zU (.pair (.sl (.int .i64)) (.int .i64)) Sl.nil E E (zU (.int .i64) Sl.nil E E (JO.call E E E E (wU (y54.1,y54.2.1,y57,y54.2.2.2.1,(Q4 y54).1,(Q4 y54).2.1,(Q4 y54).2.2.1,(Q4 y54).2.2.2.1,(Q8 y54).1,0,(Q8 y40).2.2.1,([]:List (List Int×Int)),0,(([]:List Int),0),(Q12 y40).2.2.1,(Q12 y54).2.2.2.1,((Q16 y40).1,(Q16 y54).2)) (a59,c60,q42.2.2.1,q42.2.2.2.1,none,0,none,0,(Q8 q42)) _ hy62) E [9,11,1,0,14,15] E E fun _ _=>aP aA 2 [] [] [(7,.v (.bool true))] (.new 10 46 (aI (y61.1,y61.2.1,(y57.1,y61.2.2.1.2),y61.2.2.2.1,(Q4 y61).1,(Q4 y61).2.1,(Q4 y61).2.2.1,(Q4 y61).2.2.2.1,(Q8 y61).1,(Q8 y61).2.1,(Q8 y40).2.2.1,[],(Q12 y61).1,([],(Q12 y61).2.1.2),(Q12 y40).2.2.1,(Q12 y61).2.2.2.1,((Q16 y40).1,(Q16 y61).2)) (a59,c60,q42.2.2.1,q42.2.2.2.1,none,0,none,0,(Q8 q42))) .nil) E ⟨⟨E,V⟩,(Bs E E)⟩ (aD E ?_)))
   cases h
   refine aX (.int .i64) Sl.nil E E (JS.ret aA (a59,c60,q42.2.2.1,q42.2.2.2.1,none,0,(Q8 q42)) V E E [1,2,0,3,3] E)
  refine JS.skip (JS.seq (JS.region (aB aA 2 [] [] [(67,.v (.agg #[.int .i64 x1.1,.slice a28 x1.2.length c29])),(68,.v (I (W (x37+x2))))] _ E ⟨(Es E),E⟩ ?_)))
  obtain ⟨⟨y63,y64⟩,hy65,h⟩:=aE h
  refine JO.call E E E E (aIn x1 (W (x37+x2)) a28 c29 _ hy65) E [6] E E fun _ _=>aB aA 5 [] [] [(11,.v (.string (bs y63))),(12,.v (.bool y64))] _ E ⟨(Es E),E⟩ (aD E (JS.seq (JS.region (aB aA 1 [] [] [(73,.v (.string (bs y63)))] _ E ⟨⟨E,V⟩,E⟩ ?_))))
  obtain ⟨⟨y66,y67⟩,hy68,h⟩:=aE h
  refine JO.call E E E E (aKg y63 _ hy68) E [] E E ?_
  rintro ⟨a69,c70⟩ -
  refine aP aA 6 [] [58] [(13,.bp 58 0),(14,.v (.bool y67))] (.new 8 46 (aI x0 q4) (.new 10 46 bF (.new 39 46 (aI (y54.1,y54.2.1,(y40.2.2.1.1,y54.2.2.1.2),y54.2.2.2.1,(Q4 y54).1,(Q4 y54).2.1,(Q4 y54).2.2.1,(Q4 y54).2.2.2.1,(Q8 y54).1,0,(Q8 y40).2.2.1,[],(Q12 y54).1,((Q12 y40).2.1.1,(Q12 y54).2.1.2),(Q12 y40).2.2.1,(Q12 y54).2.2.2.1,((Q16 y40).1,(Q16 y54).2)) (q42.1,q42.2.1,q42.2.2.1,q42.2.2.2.1,none,0,(Q4 q42).2.2)) (.new 58 38 [.slice a69 y66.1.length c70,.int .i64 y66.2] .nil)))) E ⟨(Es E),(Bs E E)⟩ (aD E (JS.seq (aC aA 6 [(82,.v (.bool (bif (!y64) then true else (!y67))))] ⟨⟨E,V⟩,E⟩ E E ?_)))
  refine aK E h (fun h=>?_) (fun h=>?_)
  ·
   refine aL aA 3 [] [] [(7,.v (.bool false))] (.new 10 46 bF .nil) ⟨⟨E,V⟩,(Bs E E)⟩ E E ?_
   cases h
   refine aX (.int .i64) Sl.nil E E (aX (.sl (.int .i64)) Sl.nil E E (aX (.int .i64) Sl.nil E E (aX (.int .i64) Sl.nil E E (aX (.int .i64) Sl.nil E E (JS.ret aA (none,0,none,0,none,0,none,0,none,0) V E E [4,3,2,1,0] E)))))
  refine JS.skip ?_
  obtain ⟨j80,hj97,h⟩:=aQ h
  refine dM (ι:=List Int×Int×Option Addr×Nat) ⟨fun z=>j80 (z.1,z.2.1)=some r,fun z=>[(3,.bp 8 0),(6,.bp 10 0),(9,.v (I (W (x37+x2)))),(10,.bp 39 0),(13,.bp 58 0)],fun z=>(.new 8 46 (aI x0 q4) (.new 10 46 bF (.new 39 46 (aI (y54.1,y54.2.1,(y40.2.2.1.1,y54.2.2.1.2),y54.2.2.2.1,(Q4 y54).1,(Q4 y54).2.1,(Q4 y54).2.2.1,(Q4 y54).2.2.2.1,(Q8 y54).1,0,(Q8 y40).2.2.1,[],(Q12 y54).1,(z.1,z.2.1),(Q12 y40).2.2.1,(Q12 y54).2.2.2.1,((Q16 y40).1,(Q16 y54).2)) (q42.1,q42.2.1,q42.2.2.1,q42.2.2.2.1,none,0,z.2.2.1,z.2.2.2,(Q8 q42))) (.new 58 38 [.slice a69 y66.1.length c70,.int .i64 y66.2] .nil)))),fun z=>(bW x0 q4 []),fun z=>[⟨(.int .i64),⟨z.2.2.1,z.1.length,z.2.2.2⟩,z.1⟩,⟨(.int .i64),⟨q42.1,y40.2.2.1.1.length,q42.2.1⟩,y40.2.2.1.1⟩,⟨(.sl (.int .i64)),⟨q42.2.2.1,(Q8 y40).2.2.1.length,q42.2.2.2.1⟩,(Q8 y40).2.2.1⟩,⟨(.int .i64),⟨(Q8 q42).1,(Q12 y40).2.2.1.length,(Q8 q42).2.1⟩,(Q12 y40).2.2.1⟩,⟨(.int .i64),⟨(Q8 q42).2.2.1,(Q16 y40).1.length,(Q8 q42).2.2.2⟩,(Q16 y40).1⟩,⟨(.int .i64),⟨a69,y66.1.length,c70⟩,y66.1⟩],fun z=>0⟩ ?_ ?_
  ·
   refine aC aA 3 [(86,.v (.bool (decide ((Q12 x0).1=0))))] ⟨⟨E,V⟩,E⟩ E E ?_
   refine aK E h (fun h=>?_) (fun h=>?_)
   ·
    refine JS.region (aB aA 2 [] [] [(88,.v (.agg #[.slice q4.1 x0.2.2.1.1.length q4.2.1,.int .i64 x0.2.2.1.2]))] _ E ⟨⟨E,V⟩,E⟩ ?_)
    refine bnw h fun y71 hy72 h=>JO.call E E E E (fG x0.2.2.1 q4.1 q4.2.1 _ hy72) E [0] E E ?_
    rintro ⟨a73,c74⟩ -
    refine aP aA 2 [] [] [] (.new 8 46 (aI x0 q4) (.new 10 46 bF (.new 39 46 (aI (y54.1,y54.2.1,(y40.2.2.1.1,y54.2.2.1.2),y54.2.2.2.1,(Q4 y54).1,(Q4 y54).2.1,(Q4 y54).2.2.1,(Q4 y54).2.2.2.1,(Q8 y54).1,0,(Q8 y40).2.2.1,[],(Q12 y54).1,y71,(Q12 y40).2.2.1,(Q12 y54).2.2.2.1,((Q16 y40).1,(Q16 y54).2)) (q42.1,q42.2.1,q42.2.2.1,q42.2.2.2.1,none,0,a73,c74,(Q8 q42))) (.new 58 38 [.slice a69 y66.1.length c70,.int .i64 y66.2] .nil)))) E ⟨V,(Bs E E)⟩ (aD E (bV (y71.1,y71.2,a73,c74) h (Es E) (Bs E E) [0,1,2,3,4,5] E [0,2,3,6,7,1] E E))
   refine JS.skip (bV ((Q12 y40).2.1.1,(Q12 y54).2.1.2,(Q4 q42).2.2.1,(Q4 q42).2.2.2.1) h (Es E) (Bs E E) [0,1,2,3,4,5] E [4,1,2,5,6,0] E E)
  rintro ⟨x76,x79,a77,c78⟩ h
  subst hj97
  obtain ⟨j84,hj96,h⟩:=aQ h
  refine dM (ι:=Int) ⟨fun z=>j84 z=some r,fun z=>[(6,.bp 10 0),(9,.v (I (W (x37+x2)))),(10,.bp 39 0),(13,.bp 58 0)],fun z=>(.new 10 46 bF (.new 39 46 (aI (y54.1,y54.2.1,(y40.2.2.1.1,y54.2.2.1.2),y54.2.2.2.1,(Q4 y54).1,(Q4 y54).2.1,(Q4 y54).2.2.1,(Q4 y54).2.2.2.1,(Q8 y54).1,0,(Q8 y40).2.2.1,[],(Q12 y54).1,(x76,x79),(Q12 y40).2.2.1,(Q12 y54).2.2.2.1,((Q16 y40).1,(Q16 y54).2)) (q42.1,q42.2.1,q42.2.2.1,q42.2.2.2.1,none,0,a77,c78,(Q8 q42))) (.new 58 38 [.slice a69 y66.1.length c70,.int .i64 z] .nil))),fun z=>[],fun z=>[⟨(.int .i64),⟨q42.1,y40.2.2.1.1.length,q42.2.1⟩,y40.2.2.1.1⟩,⟨(.sl (.int .i64)),⟨q42.2.2.1,(Q8 y40).2.2.1.length,q42.2.2.2.1⟩,(Q8 y40).2.2.1⟩,⟨(.int .i64),⟨a77,x76.length,c78⟩,x76⟩,⟨(.int .i64),⟨(Q8 q42).1,(Q12 y40).2.2.1.length,(Q8 q42).2.1⟩,(Q12 y40).2.2.1⟩,⟨(.int .i64),⟨(Q8 q42).2.2.1,(Q16 y40).1.length,(Q8 q42).2.2.2⟩,(Q16 y40).1⟩,⟨(.int .i64),⟨a69,y66.1.length,c70⟩,y66.1⟩],fun z=>0⟩ ?_ ?_
  ·
   refine aC aA 3 [(93,.v (.bool (decide (x0.2.1=2))))] ⟨⟨E,V⟩,E⟩ E E ?_
   refine aK E h (fun h=>?_) (fun h=>?_)
   ·
    refine aC0 aA 2 [] [] [] (.new 10 46 bF (.new 39 46 (aI (y54.1,y54.2.1,(y40.2.2.1.1,y54.2.2.1.2),y54.2.2.2.1,(Q4 y54).1,(Q4 y54).2.1,(Q4 y54).2.2.1,(Q4 y54).2.2.2.1,(Q8 y54).1,0,(Q8 y40).2.2.1,[],(Q12 y54).1,(x76,x79),(Q12 y40).2.2.1,(Q12 y54).2.2.2.1,((Q16 y40).1,(Q16 y54).2)) (q42.1,q42.2.1,q42.2.2.1,q42.2.2.2.1,none,0,a77,c78,(Q8 q42))) (.new 58 38 [.slice a69 y66.1.length c70,.int .i64 0] .nil))) ⟨V,(Bs E E)⟩ E E (bV 0 h (Es E) (Bs E E) [] E [1,2,0,3,4,5] E E)
   refine JS.skip (bV y66.2 h (Es E) (Bs E E) [] E [1,2,0,3,4,5] E E)
  rintro x83 h
  subst hj96
  refine aL aA 3 [] [] [] (.new 10 46 bF (.new 39 46 (aI (y54.1,y54.2.1,(y66.1,x83),y54.2.2.2.1,(Q4 y54).1,(Q4 y54).2.1,(Q4 y54).2.2.1,(Q4 y54).2.2.2.1,(Q8 y54).1,0,(Q8 y40).2.2.1,[],(Q12 y54).1,(x76,x79),(Q12 y40).2.2.1,(Q12 y54).2.2.2.1,((Q16 y40).1,(Q16 y54).2)) (a69,c70,q42.2.2.1,q42.2.2.2.1,none,0,a77,c78,(Q8 q42))) .nil)) ⟨V,(Bs E E)⟩ E E (aL aA 3 [] [] [] (.new 10 46 bF (.new 39 46 (aI (y54.1,y54.2.1,(y66.1,x83),y54.2.2.2.1,(Q4 y54).1,(Q4 y54).2.1,(Q4 y54).2.2.1,(Q4 y54).2.2.2.1,(Q8 y54).1,0,(Q8 y40).2.2.1,[],(W (x37+x2)),(x76,x79),(Q12 y40).2.2.1,(Q12 y54).2.2.2.1,((Q16 y40).1,(Q16 y54).2)) (a69,c70,q42.2.2.1,q42.2.2.2.1,none,0,a77,c78,(Q8 q42))) .nil)) ⟨V,(Bs E E)⟩ E E (aL aA 3 [] [] [(7,.v (.bool true))] (.new 10 46 (aI (y54.1,y54.2.1,(y66.1,x83),y54.2.2.2.1,(Q4 y54).1,(Q4 y54).2.1,(Q4 y54).2.2.1,(Q4 y54).2.2.2.1,(Q8 y54).1,0,(Q8 y40).2.2.1,[],(W (x37+x2)),(x76,x79),(Q12 y40).2.2.1,(Q12 y54).2.2.2.1,((Q16 y40).1,(Q16 y54).2)) (a69,c70,q42.2.2.1,q42.2.2.2.1,none,0,a77,c78,(Q8 q42))) .nil) ⟨⟨E,V⟩,(Bs E E)⟩ E E ?_))
  cases h
  exact JS.ret aA (a69,c70,q42.2.2.1,q42.2.2.2.1,a77,c78,(Q8 q42)) V E E [5,1,1,1,1] E

def iT (x0:EdQ) (x1:Int×List (List UInt8)) (x2:Int):Option (EdQ×Int):=
  (aG (qN x0 x1 x2) fun (y32,y33)=>
  (bif (!y33) then
  (aG (dG x0) fun (y45,y46)=>
  some (y45,y46))
  else
  some ((y32.1,y32.2.1,y32.2.2.1,y32.2.2.2.1,y32.2.2.2.2.1,y32.2.2.2.2.2.1,y32.2.2.2.2.2.2.1,y32.2.2.2.2.2.2.2.1,y32.2.2.2.2.2.2.2.2.1,y32.2.2.2.2.2.2.2.2.2.1,y32.2.2.2.2.2.2.2.2.2.2.1,[],y32.2.2.2.2.2.2.2.2.2.2.2.2.1,y32.2.2.2.2.2.2.2.2.2.2.2.2.2.1,y32.2.2.2.2.2.2.2.2.2.2.2.2.2.2.1,y32.2.2.2.2.2.2.2.2.2.2.2.2.2.2.2.1,y32.2.2.2.2.2.2.2.2.2.2.2.2.2.2.2.2),0)))

theorem sF (x0:EdQ) (x1:Int×List (List UInt8)) (x2:Int) (q4:P6) (a28:Option Addr) (c29:Nat) (r:EdQ×Int) (h:iT x0 x1 x2=some r):
  FC Tryz.prog 163 [.agg (cC x0 q4).toArray,.agg #[.int .i64 x1.1,.slice a28 x1.2.length c29],.int .i64 x2] (bW x0 q4 [⟨.str,⟨a28,x1.2.length,c29⟩,x1.2⟩]) (fun _:P6=>True) (fun q=>.tuple #[.agg (aI r.1 q).toArray,.int .i64 r.2]) (fun q=>(bW r.1 q [])):=
 by
  refine FC.of (T:=TTx) Tryz.call163 Tryz.func163 E E fun w0=>?_
  unfold iT at h
  refine aL aA 4 [] [8,9,10] [(3,.bp 8 0),(4,.bp 9 0),(6,.bp 10 0)] (.new 8 46 (aI x0 q4) (.new 9 50 [.int .i64 x1.1,.slice a28 x1.2.length c29] (.new 10 46 bF .nil))) ⟨(Es E),(Bs E E)⟩ E E (JS.seq (JS.region (aB aA 3 [] [] [(11,.v (.agg (aI x0 q4).toArray)),(12,.v (.agg #[.int .i64 x1.1,.slice a28 x1.2.length c29])),(13,.v (I x2))] _ E ⟨(Es E),E⟩ ?_)))
  obtain ⟨⟨y32,y33⟩,hy34,h⟩:=aE h
  refine JO.call E E E E (aKi x0 x1 x2 q4 a28 c29 _ hy34) E [0,1,2,3,4,5,6] E E ?_
  rintro ⟨a35,c36,a37,c38,a39,c40,a41,c42,a43,c44⟩ -
  refine aP aA 6 [] [29] [(8,.bp 29 0),(9,.v (.bool y33))] (.new 8 46 (aI x0 q4) (.new 10 46 bF (.new 29 46 (aI (U11 y32 []) (a35,c36,a37,c38,none,0,a39,c40,a41,c42,a43,c44)) .nil))) E ⟨(Es E),(Bs E E)⟩ (aD E (JS.seq (aC aA 2 [(18,.v (.bool (!y33)))] ⟨⟨E,V⟩,E⟩ E E ?_)))
  refine aK E h (fun h=>?_) (fun h=>?_)
  ·
   refine JS.seq (JS.region (aB aA 1 [] [] [(19,.v (.agg (aI x0 q4).toArray))] _ E ⟨⟨E,V⟩,E⟩ ?_))
   obtain ⟨⟨y45,y46⟩,hy47,h⟩:=aE h
   refine JO.call E E E E (fF x0 q4 _ hy47) E [0,1,2,3,4,5] E E fun q48 _=>aP aA 4 [] [] [(7,.v (I y46))] (.new 10 46 (aI y45 q48) .nil) E ⟨⟨E,V⟩,(Bs E E)⟩ (aD E ?_)
   cases h
   exact JS.ret aA q48 V E E [0,0,0,0,0,0] E
  refine JS.skip (aL aA 3 [] [] [(7,.v (I 0))] (.new 10 46 (aI (U11 y32 []) (a35,c36,a37,c38,none,0,a39,c40,a41,c42,a43,c44)) .nil) ⟨⟨E,V⟩,(Bs E E)⟩ E E ?_)
  cases h
  refine aX (.pair (.sl (.int .i64)) (.int .i64)) Sl.nil E E (JS.ret aA (a35,c36,a37,c38,none,0,a39,c40,a41,c42,a43,c44) V E E [1,1,0,0,0,0] E)

def tR (x0:List Int×Int) (x1:Int):Option ((List Int×Int)×Bool):=
  (aG (cW x0.1 ([]:List Int) ([]:List Int)) fun (y7:List Int)=>
  (aG (dA x1 (x0.1.length:Int)) fun (y11:Int)=>
  (aG (dE x0) fun (y13:Bool)=>
  (aG (mF (y7,y11) y13) fun (y15,y16)=>
  some (y15,y16)))))

theorem aKh (x0:List Int×Int) (x1:Int) (a3:Option Addr) (c4:Nat) (r:(List Int×Int)×Bool) (h:tR x0 x1=some r):
  FC Tryz.prog 242 [.agg #[.slice a3 x0.1.length c4,.int .i64 x0.2],.int .i64 x1] [⟨(.int .i64),⟨a3,x0.1.length,c4⟩,x0.1⟩] (fun _:Option Addr×Nat=>True) (fun q=>.tuple #[.agg #[.slice q.1 r.1.1.length q.2,.int .i64 r.1.2],.bool r.2]) (fun q=>[⟨(.int .i64),⟨q.1,r.1.1.length,q.2⟩,r.1.1⟩]):=
 by
  refine FC.of (T:=TTx) Tryz.call242 Tryz.func242 E E fun w0=>?_
  unfold tR at h
  refine aL aA 3 [] [2,3] [(2,.bp 2 0),(4,.bp 3 0)] (.new 2 38 [.slice a3 x0.1.length c4,.int .i64 x0.2] (.new 3 38 [.slice none 0 0,.int .i64 0] .nil)) ⟨(Es E),(Bs E E)⟩ E E (JS.seq ?_)
  obtain ⟨y7,hy8,h⟩:=aE h
  obtain ⟨y11,hy12,h⟩:=aE h
  obtain ⟨y13,hy14,h⟩:=aE h
  obtain ⟨⟨y15,y16⟩,hy17,h⟩:=aE h
  refine bB E (.new 2 38 [.slice a3 x0.1.length c4,.int .i64 x0.2] .nil) [] [10,11,12,13,14,15] ⟨E,E,E,E,V⟩ E (fun be20=>?_)
  refine bR aA aF true 12 [0,1,3,9] E (by kernel_rfl) [] [(7,.v (.slice a3 x0.1.length c4)),(9,.v (I x1)),(15,.v (.agg #[.slice a3 x0.1.length c4,.int .i64 x0.2]))] ⟨E,E,E,E,V⟩ [] E E (Es E) (aS aA aF 11 [4] E (by kernel_rfl) [] [(10,.bp 2 0)] E ⟨E,V⟩ (bR aA aF true 9 [5,6] E (by kernel_rfl) [] [(12,.v (I (x0.1.length:Int)))] ⟨E,E,E,E,V⟩ [] E E ⟨E,V⟩ (JA.one 2 (by kernel_rfl) (zV (.int .i64) Sl.nil E E (zV (.int .i64) Sl.nil E E (JK.call E E E E (fH x0.1 ([]:List Int) ([]:List Int) a3 c4 none 0 none 0 _ hy8) E [2,1,0] E E ?_))))))
  rintro ⟨a9,c10⟩ -
  refine aR ⟨E,E,E,E,V⟩ [] E (JA.one 7 (by kernel_rfl) (JK.call E E E E (cE x1 (x0.1.length:Int) _ hy12) E [] E E fun _ _=>aR ⟨E,E,E,E,V⟩ [] E (aS aA aF 6 [8] E (by kernel_rfl) [] [(14,.v (.agg #[.slice a9 y7.length c10,.int .i64 y11]))] E ⟨E,V⟩ (JA.one 10 (by kernel_rfl) (JK.call E E E E (eO x0 a3 c4 _ hy14) E [2] E E fun _ _=>aM E (JA.one 11 (by kernel_rfl) (zD E E E E (aAv (y7,y11) y13 a9 c10 _ hy17) E [0] E [] E E ?_)))))))
  rintro ⟨a18,c19⟩ -
  refine aM E (aS aA aF 2 [12,13] E (by kernel_rfl) [] [(18,.v (.agg #[.slice a18 y15.1.length c19,.int .i64 y15.2])),(19,.v (.bool y16))] E (Es E) (JA.one 14 (by kernel_rfl) (aY aA E E E E E E E E (aM E (aS aA aF 0 [15] E (by kernel_rfl) [] [(5,.v (.bool y16))] E ⟨E,V⟩ (bE (by kernel_rfl) (aW (B':=(.new 3 38 [.slice a18 y15.1.length c19,.int .i64 y15.2] .nil)) (Bs E E) ?_)))))))
  cases h
  exact JS.ret aA (a18,c19) V E E [0] E

def eF (x0:EdQ) (x1:Int):Option (EdQ×Int):=
  (aG (tR x0.2.2.1 x1) fun (y27,y28)=>
  (aG (dX x0 y27 y28 0) fun (y32,y33)=>
  some (y32,y33)))

theorem gW (x0:EdQ) (x1:Int) (q3:P6) (r:EdQ×Int) (h:eF x0 x1=some r):
  FC Tryz.prog 162 [.agg (cC x0 q3).toArray,.int .i64 x1] (bW x0 q3 []) (fun _:P6=>True) (fun q=>.tuple #[.agg (aI r.1 q).toArray,.int .i64 r.2]) (fun q=>(bW r.1 q [])):=
 by
  refine FC.of (T:=TTx) Tryz.call162 Tryz.func162 E E fun w0=>?_
  unfold eF at h
  refine aL aA 3 [] [7,8] [(2,.bp 7 0),(4,.bp 8 0)] (.new 7 46 (aI x0 q3) (.new 8 46 bF .nil)) ⟨(Es E),(Bs E E)⟩ E E (JS.seq (JS.region (aB aA 3 [] [] [(10,.v (.agg #[.slice q3.1 x0.2.2.1.1.length q3.2.1,.int .i64 x0.2.2.1.2])),(11,.v (I x1))] _ E ⟨(Es E),E⟩ ?_)))
  obtain ⟨⟨y27,y28⟩,hy29,h⟩:=aE h
  refine JO.call E E E E (aKh x0.2.2.1 x1 q3.1 q3.2.1 _ hy29) E [0] E E ?_
  rintro ⟨a30,c31⟩ -
  refine aP aA 6 [] [15] [(6,.bp 15 0),(7,.v (.bool y28))] (.new 7 46 (aI x0 q3) (.new 8 46 bF (.new 15 38 [.slice a30 y27.1.length c31,.int .i64 y27.2] .nil))) E ⟨(Es E),(Bs E E)⟩ (aD E (JS.seq (JS.region (aB aA 3 [] [] [(15,.v (.agg (aI x0 q3).toArray)),(16,.v (.agg #[.slice a30 y27.1.length c31,.int .i64 y27.2])),(17,.v (.bool y28))] _ E ⟨(Es E),E⟩ ?_))))
  obtain ⟨⟨y32,y33⟩,hy34,h⟩:=aE h
  refine JO.call E E E E (kK x0 y27 y28 0 q3 a30 c31 _ hy34) E [0,1,2,3,4,5,6] E E fun q35 _=>aP aA 4 [] [] [(5,.v (I y33))] (.new 8 46 (aI y32 q35) .nil) E ⟨⟨E,V⟩,(Bs E E)⟩ (aD E ?_)
  cases h
  exact JS.ret aA q35 V E E [0,0,0,0,0,0] E

def kQ (x0:Int) (x1:Int) (j19:(List Int)→Option (List Int)) (k13:(List Int×Int)→Option (List Int)):(List Int×Int)→Option (List Int):=fun (x4,x7)=>
  (bif (decide (x7<x1)) then
  (aN (x4.length+([x0]:List Int).length≤536870912) <|
  k13 ((x4 ++ ([x0]:List Int)),(W (x7+1))))
  else
  j19 x4)

def oH (x0:Int) (x1:Int):Option (List Int):=
  (aU (fun (x16:List Int)=>
  some x16) fun j19=>
  (bC (kQ x0 x1 j19) bM (([]:List Int),0)))

theorem aBn (x0:Int) (x1:Int) (r:List Int) (h:oH x0 x1=some r) :
  FC Tryz.prog 160 [.int .i64 x0,.int .i64 x1] [] (fun _:Option Addr×Nat=>True) (fun q=>.slice q.1 r.length q.2) (fun q=>[⟨(.int .i64),⟨q.1,r.length,q.2⟩,r⟩]):=
 by
  refine FC.of (T:=TTx) Tryz.call160 Tryz.func160 E E fun w0=>?_
  unfold oH at h
  refine aC aA 1 [] ⟨V,E⟩ E E (JS.seq (JS.region ?_))
  refine jH E (JK.buildSlice aA E E E E E E E E E E E [] E (.int .i64) [] ⟨E,E⟩ E E fun a3=>jG ?_)
  refine aB aA 1 [] [] [(5,.v (.slice a3 ([]:List Int).length ([]:List Int).length))] _ E ⟨⟨E,V⟩,E⟩ (aD E (JS.seq (aC aA 1 [(6,.v (I 0))] ⟨⟨E,V⟩,E⟩ E E ?_)))
  obtain ⟨j19,hj23,h⟩:=aQ h
  refine bA (ι:=List Int×Option Addr×Nat) ⟨fun z=>j19 z.1=some r,fun z=>[(5,.v (.slice z.2.1 z.1.length z.2.2))],fun z=>.nil,fun z=>[],fun z=>[⟨(.int .i64),⟨z.2.1,z.1.length,z.2.2⟩,z.1⟩],fun z=>0⟩ ?_ ?_
  ·
   refine JS.loop (ι:=Nat×List Int×Int×Option Addr×Nat) ⟨fun z=>bC (kQ x0 x1 j19) z.1 (z.2.1,z.2.2.1)=some r,fun z=>[(0,.v (I x0)),(1,.v (I x1)),(5,.v (.slice z.2.2.2.1 z.2.1.length (Q4 z))),(6,.v (I z.2.2.1))],fun z=>.nil,fun z=>[],fun z=>[⟨(.int .i64),⟨z.2.2.2.1,z.2.1.length,(Q4 z)⟩,z.2.1⟩],fun z=>z.1⟩ (bM,([]:List Int),0,a3,([]:List Int).length) h (Es E) V [] E [0] E ?_
   rintro ⟨n14,x4,x7,a5,c6⟩ h
   obtain ⟨n14,rfl,h⟩:=bH h
   rw [kQ] at h
   refine JS.seq (aC aA 3 [(10,.v (.bool (decide (x7<x1))))] ⟨⟨E,V⟩,E⟩ E E ?_)
   refine aK E h (fun h=>?_) (fun h=>?_)
   ·
    refine JS.skip (JS.seq (JS.block (JS.region (aB aA 2 [] [] [(13,.v (.slice a5 x4.length c6)),(14,.v (I x0))] _ E ⟨(Es E),E⟩ ?_))))
    refine jH E (JK.buildSlice aA E E E E E E E E E E E [] E (.int .i64) [x0] ⟨E,E⟩ E E fun a8=>jG ?_)
    obtain ⟨g9,h⟩:=aH h
    refine fP aA E E E E ⟨E,E,E,E,V,E,E,E,E⟩ E E E [1] E 0 E g9 E fun a10 c11=>aB aA 1 [] [] [(5,.v (.slice a10 (x4 ++ ([x0]:List Int)).length c11))] _ E ⟨⟨E,V⟩,E⟩ (aD E (aZ (bZ aA 3 [(W (x7+1))] [] [(6,.v (I (W (x7+1))))] _ ⟨⟨V,E⟩,⟨E,V⟩,E⟩ E E (bQ (n14,(x4 ++ ([x0]:List Int)),(W (x7+1)),a10,c11) h (Nat.lt_succ_self _) (Es E) V [] E [0] E))))
   refine JS.exit E (aT (x4,a5,c6) h ⟨E,V⟩ V [] E [0] E)
  rintro ⟨x16,a17,c18⟩ h
  subst hj23
  refine aC aA 2 [(4,.v (.slice a17 x16.length c18))] ⟨⟨E,V⟩,E⟩ E E ?_
  cases h
  exact JS.ret aA (a17,c18) V E E [0] E

def oJ (x0:List Int×Int) (x1:List Int):Option ((List Int×Int)×Bool):=
  (aG (dE x0) fun (y11:Bool)=>
  (bif (!y11) then
  some (([],0),false)
  else
  (aN (0≤(0:Int)∧(0:Int)≤x0.2∧x0.2≤(x0.1.length:Int)) <|
  (aN (0≤x0.2∧x0.2≤(x0.1.length:Int)∧(x0.1.length:Int)≤(x0.1.length:Int)) <|
  (aG (cW (bN x0.1 (0:Int) x0.2) x1 (bN x0.1 x0.2 (x0.1.length:Int))) fun (y22:List Int)=>
  (aG (mF (y22,(W (x0.2+(x1.length:Int)))) true) fun (y26,y27)=>
  some (y26,y27)))))))

theorem sH (x0:List Int×Int) (x1:List Int) (a3:Option Addr) (c4:Nat) (a7:Option Addr) (c8:Nat) (r:(List Int×Int)×Bool) (h:oJ x0 x1=some r):
  FC Tryz.prog 241 [.agg #[.slice a3 x0.1.length c4,.int .i64 x0.2],.slice a7 x1.length c8] [⟨(.int .i64),⟨a3,x0.1.length,c4⟩,x0.1⟩,⟨(.int .i64),⟨a7,x1.length,c8⟩,x1⟩] (fun _:Option Addr×Nat=>True) (fun q=>.tuple #[.agg #[.slice q.1 r.1.1.length q.2,.int .i64 r.1.2],.bool r.2]) (fun q=>[⟨(.int .i64),⟨q.1,r.1.1.length,q.2⟩,r.1.1⟩]):=
 by
  refine FC.of (T:=TTx) Tryz.call241 Tryz.func241 E E fun w0=>?_
  unfold oJ at h
  refine aL aA 3 [] [3,4] [(2,.bp 3 0),(4,.bp 4 0)] (.new 3 38 [.slice a3 x0.1.length c4,.int .i64 x0.2] (.new 4 38 [.slice none 0 0,.int .i64 0] .nil)) ⟨(Es E),(Bs E E)⟩ E E (JS.seq (JS.seq (JS.region (aB aA 1 [] [] [(6,.v (.agg #[.slice a3 x0.1.length c4,.int .i64 x0.2]))] _ E ⟨⟨E,V⟩,E⟩ ?_))))
  refine bnw h fun y11 hy12 h=>JO.call E E E E (eO x0 a3 c4 _ hy12) E [0] E E fun _ _=>aB aA 1 [] [] [(8,.v (.bool (!y11)))] _ E ⟨⟨E,V⟩,E⟩ (aD E ?_)
  refine aK E h (fun h=>?_) (fun h=>?_)
  ·
   refine aL aA 3 [] [] [(5,.v (.bool false))] (.new 4 38 [.slice none 0 0,.int .i64 0] .nil) ⟨⟨E,V⟩,(Bs E E)⟩ E E ?_
   cases h
   refine aX (.int .i64) Sl.nil E E (JS.ret aA (none,0) V E E [0] E)
  refine JS.skip (JS.seq ?_)
  obtain ⟨g13,h⟩:=aH h
  obtain ⟨g18,h⟩:=aH h
  obtain ⟨y22,hy23,h⟩:=aE h
  obtain ⟨⟨y26,y27⟩,hy28,h⟩:=aE h
  refine iC 0 E (0:Int) x0.2 fun a14 c15 hu16=>iC 1 E x0.2 (x0.1.length:Int) fun a19 c20 hu21=>cD 2 E fun hs37=>?_
  refine bB E (.new 3 38 [.slice a3 x0.1.length c4,.int .i64 x0.2] .nil) [] [17,18,19,20,21,22] ⟨E,E,E,E,V⟩ E (fun be33=>?_)
  refine bR aA aF true 9 [0,1,2,3,5,6,7,8,9,12,13,14,15,16] E (by kernel_rfl) [(W (x0.2+(x1.length:Int)))] [(11,.v (.slice a3 x0.1.length c4)),(13,.v (I x0.2)),(15,.v (.slice a7 x1.length c8)),(17,.v (.slice a3 x0.1.length c4)),(19,.v (I x0.2)),(26,.v (I (W (x0.2+(x1.length:Int)))))] ⟨E,E,E,E,V⟩ [] E E ⟨⟨V,E⟩,(Es E)⟩ (dB aA aF 4 E (by kernel_rfl) E E E E E E (0:Int) x0.2 E E ⟨g13.1,g13.2.1,g13.2.2,hs37.cap,hu16 g13⟩ E (dB aA aF 10 E (by kernel_rfl) E E E E E E x0.2 (x0.1.length:Int) E E ⟨g18.1,g18.2.1,g18.2.2,hs37.cap,hu21 g18⟩ E (JA.one 11 (by kernel_rfl) (JK.call E E E E (fH (bN x0.1 (0:Int) x0.2) x1 (bN x0.1 x0.2 (x0.1.length:Int)) a14 c15 a7 c8 a19 c20 _ hy23) E [1,3,0] E E ?_))))
  rintro ⟨a24,c25⟩ -
  refine aR ⟨E,E,E,E,V⟩ [] E (aS aA aF 5 [17] E (by kernel_rfl) [] [(27,.v (.agg #[.slice a24 y22.length c25,.int .i64 (W (x0.2+(x1.length:Int)))]))] E ⟨E,V⟩ (JA.one 18 (by kernel_rfl) (zD E E E E (aAv (y22,(W (x0.2+(x1.length:Int)))) true a24 c25 _ hy28) E [0] E [] E E ?_)))
  rintro ⟨a29,c30⟩ -
  refine aM E (aS aA aF 2 [19,20] E (by kernel_rfl) [] [(29,.v (.agg #[.slice a29 y26.1.length c30,.int .i64 y26.2])),(30,.v (.bool y27))] E (Es E) (JA.one 21 (by kernel_rfl) (aY aA E E E E E E E E (aM E (aS aA aF 0 [22] E (by kernel_rfl) [] [(5,.v (.bool y27))] E ⟨E,V⟩ (bE (by kernel_rfl) (aW (B':=(.new 4 38 [.slice a29 y26.1.length c30,.int .i64 y26.2] .nil)) (Bs E E) ?_)))))))
  cases h
  exact JS.ret aA (a29,c30) V E E [0] E

def nU (x0:EdQ) (x1:List Int) (x2:Int):Option (EdQ×Int):=
  (aG (oJ x0.2.2.1 x1) fun (y32,y33)=>
  (aG (dX x0 y32 y33 x2) fun (y37,y38)=>
  some (y37,y38)))

theorem xX (x0:EdQ) (x1:List Int) (x2:Int) (q4:P6) (a28:Option Addr) (c29:Nat) (r:EdQ×Int) (h:nU x0 x1 x2=some r):
  FC Tryz.prog 159 [.agg (cC x0 q4).toArray,.slice a28 x1.length c29,.int .i64 x2] (bW x0 q4 [⟨(.int .i64),⟨a28,x1.length,c29⟩,x1⟩]) (fun _:P6=>True) (fun q=>.tuple #[.agg (aI r.1 q).toArray,.int .i64 r.2]) (fun q=>(bW r.1 q [])):=
 by
  refine FC.of (T:=TTx) Tryz.call159 Tryz.func159 E E fun w0=>?_
  unfold nU at h
  refine aL aA 3 [] [8,9] [(3,.bp 8 0),(6,.bp 9 0)] (.new 8 46 (aI x0 q4) (.new 9 46 bF .nil)) ⟨(Es E),(Bs E E)⟩ E E (JS.seq (JS.region (aB aA 3 [] [] [(12,.v (.agg #[.slice q4.1 x0.2.2.1.1.length q4.2.1,.int .i64 x0.2.2.1.2])),(13,.v (.slice a28 x1.length c29))] _ E ⟨(Es E),E⟩ ?_)))
  obtain ⟨⟨y32,y33⟩,hy34,h⟩:=aE h
  refine JO.call E E E E (sH x0.2.2.1 x1 q4.1 q4.2.1 a28 c29 _ hy34) E [0,6] E E ?_
  rintro ⟨a35,c36⟩ -
  refine aP aA 6 [] [16] [(8,.bp 16 0),(9,.v (.bool y33))] (.new 8 46 (aI x0 q4) (.new 9 46 bF (.new 16 38 [.slice a35 y32.1.length c36,.int .i64 y32.2] .nil))) E ⟨(Es E),(Bs E E)⟩ (aD E (JS.seq (JS.region (aB aA 4 [] [] [(17,.v (.agg (aI x0 q4).toArray)),(18,.v (.agg #[.slice a35 y32.1.length c36,.int .i64 y32.2])),(19,.v (.bool y33)),(20,.v (I x2))] _ E ⟨(Es E),E⟩ ?_))))
  obtain ⟨⟨y37,y38⟩,hy39,h⟩:=aE h
  refine JO.call E E E E (kK x0 y32 y33 x2 q4 a35 c36 _ hy39) E [0,1,2,3,4,5,7] E E fun q40 _=>aP aA 4 [] [] [(7,.v (I y38))] (.new 9 46 (aI y37 q40) .nil) E ⟨⟨E,V⟩,(Bs E E)⟩ (aD E ?_)
  cases h
  exact JS.ret aA q40 V E E [0,0,0,0,0,0] E

def mC (x0:EdQ) (x1:Int×List (List UInt8)) (x2:Int×Int):Option (EdQ×Int):=
  (aG (rJ x0) fun (y32:Int)=>
  (aU (fun (_:Unit)=>
  some ((false,0,([],0),0,0,0,0,0,0,0,[],[],0,([],0),[],0,([],0)),(-1))) fun j316=>
  (bif (decide (x2.1=1)) then
  (aG (oH x2.2 y32) fun (y34:List Int)=>
  (aG (nU x0 y34 1) fun (y38,y39)=>
  some (y38,y39)))
  else
  (bif (decide (x2.1=6)) then
  (aG (oH 9 y32) fun (y54:List Int)=>
  (aG (nU x0 y54 1) fun (y58,y59)=>
  some (y58,y59)))
  else
  (bif (decide (x2.1=4)) then
  (aG (cH x0) fun (y74:EdQ)=>
  some (y74,2))
  else
  (bif (decide (x2.1=5)) then
  (aG (nV x0 (W (x0.2.2.1.2 - y32)) x0.2.2.1.2) fun (y88,y89)=>
  some (y88,y89))
  else
  (bif (decide (x2.1=14)) then
  (aG (nV x0 x0.2.2.1.2 (W (x0.2.2.1.2+y32))) fun (y103,y104)=>
  some (y103,y104))
  else
  (bif (decide (x2.1=11)) then
  (aG (eF x0 (W (x0.2.2.1.2 - y32))) fun (y118,y119)=>
  some (y118,y119))
  else
  (bif (decide (x2.1=10)) then
  (aG (eF x0 (W (x0.2.2.1.2+y32))) fun (y133,y134)=>
  some (y133,y134))
  else
  (bif (decide (x2.1=12)) then
  (aG (eF x0 0) fun (y148,y149)=>
  some (y148,y149))
  else
  (bif (decide (x2.1=13)) then
  (aG (eF x0 (x0.2.2.1.1.length:Int)) fun (y163,y164)=>
  some (y163,y164))
  else
  (bif (decide (x2.1=8)) then
  (aG (iT x0 x1 (-1)) fun (y178,y179)=>
  some (y178,y179))
  else
  (bif (decide (x2.1=9)) then
  (aG (iT x0 x1 1) fun (y193,y194)=>
  some (y193,y194))
  else
  (bif (decide (x2.1=2)) then
  (bif (decide (x2.2=99)) then
  (aG (cH x0) fun (y208:EdQ)=>
  some (y208,3))
  else
  (bif (decide (x2.2=108)) then
  (aG (cH x0) fun (y222:EdQ)=>
  some (y222,5))
  else
  (bif (decide (x2.2=100)) then
  (bif (decide ((x0.2.2.1.1.length:Int)=0)) then
  (aG (cH x0) fun (y236:EdQ)=>
  some (y236,4))
  else
  (aG (nV x0 x0.2.2.1.2 (W (x0.2.2.1.2+y32))) fun (y250,y251)=>
  some (y250,y251)))
  else
  (bif (decide (x2.2=117)) then
  (aG (gF x0 0 x0.2.2.1.2 2) fun (y266,y267)=>
  some (y266,y267))
  else
  (bif (decide (x2.2=119)) then
  (aG (kX x0.2.2.1.1 x0.2.2.1.2 true) fun (y281:Int)=>
  (aG (gF x0 y281 x0.2.2.1.2 2) fun (y283,y284)=>
  some (y283,y284)))
  else
  j316 ())))))
  else
  j316 ()))))))))))))))

theorem aGc (x0:EdQ) (x1:Int×List (List UInt8)) (x2:Int×Int) (q4:P6) (a28:Option Addr) (c29:Nat) (r:EdQ×Int) (h:mC x0 x1 x2=some r):
  FC Tryz.prog 87 [.agg (cC x0 q4).toArray,.agg #[.int .i64 x1.1,.slice a28 x1.2.length c29],.agg #[.int .i64 x2.1,.int .i64 x2.2]] (bW x0 q4 [⟨.str,⟨a28,x1.2.length,c29⟩,x1.2⟩]) (fun _:P6=>True) (fun q=>.tuple #[.agg (aI r.1 q).toArray,.int .i64 r.2]) (fun q=>(bW r.1 q [])):=
 by
  refine FC.of (T:=TTx) Tryz.call87 Tryz.func87 E E fun w0=>?_
  unfold mC at h
  refine aL aA 5 [] [8,9,10,11] [(3,.bp 8 0),(4,.bp 9 0),(5,.bp 10 0),(6,.bp 11 0)] (.new 8 46 (aI x0 q4) (.new 9 50 [.int .i64 x1.1,.slice a28 x1.2.length c29] (.new 10 64 [.int .i64 x2.1,.int .i64 x2.2] (.new 11 46 bF .nil)))) ⟨(Es E),(Bs E E)⟩ E E (aC aA 4 [(8,.v (I x0.2.2.1.2))] ⟨⟨E,V⟩,E⟩ E E (JS.seq (JS.region (aB aA 1 [] [] [(14,.v (.agg (aI x0 q4).toArray))] _ E ⟨⟨E,V⟩,E⟩ ?_))))
  refine bnw h fun y32 hy33 h=>JO.call E E E E (zO x0 q4 _ hy33) E [0,1,2,3,4,5] E E fun _ _=>aB aA 1 [] [] [(9,.v (I y32))] _ E ⟨⟨E,V⟩,E⟩ (aD E (aC aA 5 [(10,.v (I (x0.2.2.1.1.length:Int)))] ⟨⟨E,V⟩,E⟩ E E (JS.seq (aC aA 2 [(21,.v (I x2.1))] ⟨⟨E,V⟩,E⟩ E E ?_))))
  obtain ⟨j316,hj354,h⟩:=aQ h
  refine bA (ι:=Unit) ⟨fun _=>j316 ()=some r,fun _=>[(6,.bp 11 0)],fun _=>(.new 11 46 bF .nil),fun _=>[],fun _=>[],fun _=>0⟩ ?_ ?_
  ·
   refine aC aA 2 [(22,.v (.bool (decide (x2.1=1))))] ⟨⟨E,V⟩,E⟩ E E ?_
   refine aK E h (fun h=>?_) (fun h=>?_)
   ·
    refine JS.seq ?_
    obtain ⟨y34,hy35,h⟩:=aE h
    obtain ⟨⟨y38,y39⟩,hy40,h⟩:=aE h
    refine bB E (.new 8 46 (aI x0 q4) (.new 10 64 [.int .i64 x2.1,.int .i64 x2.2] .nil)) [] [5,6,7,8,9] ⟨E,E,E,E,E,E,E,E,V⟩ E (fun be53=>?_)
    refine bR aA aF true 6 [0,1,2,3] E (by kernel_rfl) [] [(24,.v (.agg (aI x0 q4).toArray)),(26,.v (I x2.2)),(27,.v (I y32))] ⟨E,E,E,E,E,E,E,E,V⟩ [] E E (Es E) (JA.one 4 (by kernel_rfl) (JK.call E E E E (aBn x2.2 y32 _ hy35) E [] E E ?_))
    rintro ⟨a36,c37⟩ -
    refine aR ⟨E,E,E,E,E,E,E,E,V⟩ [] E (JA.one 5 (by kernel_rfl) (JK.call E E E E (xX x0 y34 1 q4 a36 c37 _ hy40) E [0,1,2,3,4,5,7] E E ?_))
    rintro q41 -
    refine aM E (aS aA aF 2 [6,7] E (by kernel_rfl) [] [(30,.v (.agg (aI y38 q41).toArray)),(31,.v (I y39))] E (Es E) (JA.one 8 (by kernel_rfl) (aY aA E E E E E E E E (aM E (aS aA aF 0 [9] E (by kernel_rfl) [] [(7,.v (I y39))] E ⟨E,V⟩ (bE (by kernel_rfl) (aW (B':=(.new 11 46 (aI y38 q41) .nil)) (Bs E E) ?_)))))))
    cases h
    exact JS.ret aA q41 V E E [0,0,0,0,0,0] E
   refine aC aA 2 [(32,.v (.bool (decide (x2.1=6))))] ⟨⟨E,V⟩,E⟩ E E ?_
   refine aK E h (fun h=>?_) (fun h=>?_)
   ·
    refine JS.seq ?_
    obtain ⟨y54,hy55,h⟩:=aE h
    obtain ⟨⟨y58,y59⟩,hy60,h⟩:=aE h
    refine bB E (.new 8 46 (aI x0 q4) .nil) [] [3,4,5,6,7] ⟨E,E,E,E,V⟩ E (fun be73=>?_)
    refine bR aA aF true 6 [0,1] E (by kernel_rfl) [] [(34,.v (.agg (aI x0 q4).toArray)),(35,.v (I y32))] ⟨E,E,E,E,V⟩ [] E E (Es E) (JA.one 2 (by kernel_rfl) (JK.call E E E E (aBn 9 y32 _ hy55) E [] E E ?_))
    rintro ⟨a56,c57⟩ -
    refine aR ⟨E,E,E,E,V⟩ [] E (JA.one 3 (by kernel_rfl) (JK.call E E E E (xX x0 y54 1 q4 a56 c57 _ hy60) E [0,1,2,3,4,5,7] E E ?_))
    rintro q61 -
    refine aM E (aS aA aF 2 [4,5] E (by kernel_rfl) [] [(38,.v (.agg (aI y58 q61).toArray)),(39,.v (I y59))] E (Es E) (JA.one 6 (by kernel_rfl) (aY aA E E E E E E E E (aM E (aS aA aF 0 [7] E (by kernel_rfl) [] [(7,.v (I y59))] E ⟨E,V⟩ (bE (by kernel_rfl) (aW (B':=(.new 11 46 (aI y58 q61) .nil)) (Bs E E) ?_)))))))
    cases h
    exact JS.ret aA q61 V E E [0,0,0,0,0,0] E
   refine aC aA 2 [(40,.v (.bool (decide (x2.1=4))))] ⟨⟨E,V⟩,E⟩ E E ?_
   refine aK E h (fun h=>?_) (fun h=>?_)
   ·
    refine JS.seq (JS.region (aB aA 1 [] [] [(42,.v (.agg (aI x0 q4).toArray))] _ E ⟨⟨E,V⟩,E⟩ ?_))
    refine bnw h fun y74 hy75 h=>JO.call E E E E (dU x0 q4 _ hy75) E [0,1,2,3,4,5] E E fun q76 _=>aP aA 2 [] [] [(7,.v (I 2))] (.new 11 46 (aI y74 q76) .nil) E ⟨⟨E,V⟩,(Bs E E)⟩ (aD E ?_)
    cases h
    exact JS.ret aA q76 V E E [0,0,0,0,0,0] E
   refine aC aA 2 [(44,.v (.bool (decide (x2.1=5))))] ⟨⟨E,V⟩,E⟩ E E ?_
   refine aK E h (fun h=>?_) (fun h=>?_)
   ·
    refine JS.seq (JS.region (aB aA 5 [(W (x0.2.2.1.2 - y32))] [] [(46,.v (.agg (aI x0 q4).toArray)),(49,.v (I (W (x0.2.2.1.2 - y32)))),(50,.v (I x0.2.2.1.2))] _ E ⟨⟨V,E⟩,(Es E),E⟩ ?_))
    obtain ⟨⟨y88,y89⟩,hy90,h⟩:=aE h
    refine JO.call E E E E (xY x0 (W (x0.2.2.1.2 - y32)) x0.2.2.1.2 q4 _ hy90) E [0,1,2,3,4,5] E E fun q91 _=>aP aA 4 [] [] [(7,.v (I y89))] (.new 11 46 (aI y88 q91) .nil) E ⟨⟨E,V⟩,(Bs E E)⟩ (aD E ?_)
    cases h
    exact JS.ret aA q91 V E E [0,0,0,0,0,0] E
   refine aC aA 2 [(54,.v (.bool (decide (x2.1=14))))] ⟨⟨E,V⟩,E⟩ E E ?_
   refine aK E h (fun h=>?_) (fun h=>?_)
   ·
    refine JS.seq (JS.region (aB aA 5 [(W (x0.2.2.1.2+y32))] [] [(56,.v (.agg (aI x0 q4).toArray)),(57,.v (I x0.2.2.1.2)),(60,.v (I (W (x0.2.2.1.2+y32))))] _ E ⟨⟨V,E⟩,(Es E),E⟩ ?_))
    obtain ⟨⟨y103,y104⟩,hy105,h⟩:=aE h
    refine JO.call E E E E (xY x0 x0.2.2.1.2 (W (x0.2.2.1.2+y32)) q4 _ hy105) E [0,1,2,3,4,5] E E fun q106 _=>aP aA 4 [] [] [(7,.v (I y104))] (.new 11 46 (aI y103 q106) .nil) E ⟨⟨E,V⟩,(Bs E E)⟩ (aD E ?_)
    cases h
    exact JS.ret aA q106 V E E [0,0,0,0,0,0] E
   refine aC aA 2 [(64,.v (.bool (decide (x2.1=11))))] ⟨⟨E,V⟩,E⟩ E E ?_
   refine aK E h (fun h=>?_) (fun h=>?_)
   ·
    refine JS.seq (JS.region (aB aA 4 [(W (x0.2.2.1.2 - y32))] [] [(66,.v (.agg (aI x0 q4).toArray)),(69,.v (I (W (x0.2.2.1.2 - y32))))] _ E ⟨⟨V,E⟩,(Es E),E⟩ ?_))
    obtain ⟨⟨y118,y119⟩,hy120,h⟩:=aE h
    refine JO.call E E E E (gW x0 (W (x0.2.2.1.2 - y32)) q4 _ hy120) E [0,1,2,3,4,5] E E fun q121 _=>aP aA 4 [] [] [(7,.v (I y119))] (.new 11 46 (aI y118 q121) .nil) E ⟨⟨E,V⟩,(Bs E E)⟩ (aD E ?_)
    cases h
    exact JS.ret aA q121 V E E [0,0,0,0,0,0] E
   refine aC aA 2 [(73,.v (.bool (decide (x2.1=10))))] ⟨⟨E,V⟩,E⟩ E E ?_
   refine aK E h (fun h=>?_) (fun h=>?_)
   ·
    refine JS.seq (JS.region (aB aA 4 [(W (x0.2.2.1.2+y32))] [] [(75,.v (.agg (aI x0 q4).toArray)),(78,.v (I (W (x0.2.2.1.2+y32))))] _ E ⟨⟨V,E⟩,(Es E),E⟩ ?_))
    obtain ⟨⟨y133,y134⟩,hy135,h⟩:=aE h
    refine JO.call E E E E (gW x0 (W (x0.2.2.1.2+y32)) q4 _ hy135) E [0,1,2,3,4,5] E E fun q136 _=>aP aA 4 [] [] [(7,.v (I y134))] (.new 11 46 (aI y133 q136) .nil) E ⟨⟨E,V⟩,(Bs E E)⟩ (aD E ?_)
    cases h
    exact JS.ret aA q136 V E E [0,0,0,0,0,0] E
   refine aC aA 2 [(82,.v (.bool (decide (x2.1=12))))] ⟨⟨E,V⟩,E⟩ E E ?_
   refine aK E h (fun h=>?_) (fun h=>?_)
   ·
    refine JS.seq (JS.region (aB aA 1 [] [] [(84,.v (.agg (aI x0 q4).toArray))] _ E ⟨⟨E,V⟩,E⟩ ?_))
    obtain ⟨⟨y148,y149⟩,hy150,h⟩:=aE h
    refine JO.call E E E E (gW x0 0 q4 _ hy150) E [0,1,2,3,4,5] E E fun q151 _=>aP aA 4 [] [] [(7,.v (I y149))] (.new 11 46 (aI y148 q151) .nil) E ⟨⟨E,V⟩,(Bs E E)⟩ (aD E ?_)
    cases h
    exact JS.ret aA q151 V E E [0,0,0,0,0,0] E
   refine aC aA 2 [(88,.v (.bool (decide (x2.1=13))))] ⟨⟨E,V⟩,E⟩ E E ?_
   refine aK E h (fun h=>?_) (fun h=>?_)
   ·
    refine JS.seq (JS.region (aB aA 2 [] [] [(90,.v (.agg (aI x0 q4).toArray)),(91,.v (I (x0.2.2.1.1.length:Int)))] _ E ⟨(Es E),E⟩ ?_))
    obtain ⟨⟨y163,y164⟩,hy165,h⟩:=aE h
    refine JO.call E E E E (gW x0 (x0.2.2.1.1.length:Int) q4 _ hy165) E [0,1,2,3,4,5] E E fun q166 _=>aP aA 4 [] [] [(7,.v (I y164))] (.new 11 46 (aI y163 q166) .nil) E ⟨⟨E,V⟩,(Bs E E)⟩ (aD E ?_)
    cases h
    exact JS.ret aA q166 V E E [0,0,0,0,0,0] E
   refine aC aA 2 [(95,.v (.bool (decide (x2.1=8))))] ⟨⟨E,V⟩,E⟩ E E ?_
   refine aK E h (fun h=>?_) (fun h=>?_)
   ·
    refine JS.seq (JS.region (aB aA 2 [] [] [(97,.v (.agg (aI x0 q4).toArray)),(98,.v (.agg #[.int .i64 x1.1,.slice a28 x1.2.length c29]))] _ E ⟨(Es E),E⟩ ?_))
    obtain ⟨⟨y178,y179⟩,hy180,h⟩:=aE h
    refine JO.call E E E E (sF x0 x1 (-1) q4 a28 c29 _ hy180) E [0,1,2,3,4,5,6] E E fun q181 _=>aP aA 4 [] [] [(7,.v (I y179))] (.new 11 46 (aI y178 q181) .nil) E ⟨⟨E,V⟩,(Bs E E)⟩ (aD E ?_)
    cases h
    exact JS.ret aA q181 V E E [0,0,0,0,0,0] E
   refine aC aA 2 [(102,.v (.bool (decide (x2.1=9))))] ⟨⟨E,V⟩,E⟩ E E ?_
   refine aK E h (fun h=>?_) (fun h=>?_)
   ·
    refine JS.seq (JS.region (aB aA 2 [] [] [(104,.v (.agg (aI x0 q4).toArray)),(105,.v (.agg #[.int .i64 x1.1,.slice a28 x1.2.length c29]))] _ E ⟨(Es E),E⟩ ?_))
    obtain ⟨⟨y193,y194⟩,hy195,h⟩:=aE h
    refine JO.call E E E E (sF x0 x1 1 q4 a28 c29 _ hy195) E [0,1,2,3,4,5,6] E E fun q196 _=>aP aA 4 [] [] [(7,.v (I y194))] (.new 11 46 (aI y193 q196) .nil) E ⟨⟨E,V⟩,(Bs E E)⟩ (aD E ?_)
    cases h
    exact JS.ret aA q196 V E E [0,0,0,0,0,0] E
   refine aC aA 2 [(109,.v (.bool (decide (x2.1=2))))] ⟨⟨E,V⟩,E⟩ E E ?_
   refine aK E h (fun h=>?_) (fun h=>?_)
   ·
    refine aC aA 2 [(112,.v (I x2.2))] ⟨⟨E,V⟩,E⟩ E E (JS.block (aC aA 2 [(113,.v (.bool (decide (x2.2=99))))] ⟨⟨E,V⟩,E⟩ E E ?_))
    refine aK E h (fun h=>?_) (fun h=>?_)
    ·
     refine JS.seq (JS.region (aB aA 1 [] [] [(115,.v (.agg (aI x0 q4).toArray))] _ E ⟨⟨E,V⟩,E⟩ ?_))
     refine bnw h fun y208 hy209 h=>JO.call E E E E (dU x0 q4 _ hy209) E [0,1,2,3,4,5] E E fun q210 _=>aP aA 2 [] [] [(7,.v (I 3))] (.new 11 46 (aI y208 q210) .nil) E ⟨⟨E,V⟩,(Bs E E)⟩ (aD E ?_)
     cases h
     exact JS.ret aA q210 V E E [0,0,0,0,0,0] E
    refine aC aA 2 [(117,.v (.bool (decide (x2.2=108))))] ⟨⟨E,V⟩,E⟩ E E ?_
    refine aK E h (fun h=>?_) (fun h=>?_)
    ·
     refine JS.seq (JS.region (aB aA 1 [] [] [(119,.v (.agg (aI x0 q4).toArray))] _ E ⟨⟨E,V⟩,E⟩ ?_))
     refine bnw h fun y222 hy223 h=>JO.call E E E E (dU x0 q4 _ hy223) E [0,1,2,3,4,5] E E fun q224 _=>aP aA 2 [] [] [(7,.v (I 5))] (.new 11 46 (aI y222 q224) .nil) E ⟨⟨E,V⟩,(Bs E E)⟩ (aD E ?_)
     cases h
     exact JS.ret aA q224 V E E [0,0,0,0,0,0] E
    refine aC aA 2 [(121,.v (.bool (decide (x2.2=100))))] ⟨⟨E,V⟩,E⟩ E E ?_
    refine aK E h (fun h=>?_) (fun h=>?_)
    ·
     refine JS.seq (aC aA 2 [(124,.v (.bool (decide ((x0.2.2.1.1.length:Int)=0))))] ⟨⟨E,V⟩,E⟩ E E ?_)
     refine aK E h (fun h=>?_) (fun h=>?_)
     ·
      refine JS.seq (JS.region (aB aA 1 [] [] [(125,.v (.agg (aI x0 q4).toArray))] _ E ⟨⟨E,V⟩,E⟩ ?_))
      refine bnw h fun y236 hy237 h=>JO.call E E E E (dU x0 q4 _ hy237) E [0,1,2,3,4,5] E E fun q238 _=>aP aA 2 [] [] [(7,.v (I 4))] (.new 11 46 (aI y236 q238) .nil) E ⟨⟨E,V⟩,(Bs E E)⟩ (aD E ?_)
      cases h
      exact JS.ret aA q238 V E E [0,0,0,0,0,0] E
     refine JS.skip (JS.seq (JS.region (aB aA 5 [(W (x0.2.2.1.2+y32))] [] [(127,.v (.agg (aI x0 q4).toArray)),(128,.v (I x0.2.2.1.2)),(131,.v (I (W (x0.2.2.1.2+y32))))] _ E ⟨⟨V,E⟩,(Es E),E⟩ ?_)))
     obtain ⟨⟨y250,y251⟩,hy252,h⟩:=aE h
     refine JO.call E E E E (xY x0 x0.2.2.1.2 (W (x0.2.2.1.2+y32)) q4 _ hy252) E [0,1,2,3,4,5] E E fun q253 _=>aP aA 4 [] [] [(7,.v (I y251))] (.new 11 46 (aI y250 q253) .nil) E ⟨⟨E,V⟩,(Bs E E)⟩ (aD E ?_)
     cases h
     exact JS.ret aA q253 V E E [0,0,0,0,0,0] E
    refine aC aA 2 [(135,.v (.bool (decide (x2.2=117))))] ⟨⟨E,V⟩,E⟩ E E ?_
    refine aK E h (fun h=>?_) (fun h=>?_)
    ·
     refine JS.seq (JS.region (aB aA 2 [] [] [(137,.v (.agg (aI x0 q4).toArray)),(138,.v (I x0.2.2.1.2))] _ E ⟨(Es E),E⟩ ?_))
     obtain ⟨⟨y266,y267⟩,hy268,h⟩:=aE h
     refine JO.call E E E E (oR x0 0 x0.2.2.1.2 2 q4 _ hy268) E [0,1,2,3,4,5] E E fun q269 _=>aP aA 4 [] [] [(7,.v (I y267))] (.new 11 46 (aI y266 q269) .nil) E ⟨⟨E,V⟩,(Bs E E)⟩ (aD E ?_)
     cases h
     exact JS.ret aA q269 V E E [0,0,0,0,0,0] E
    refine aC aA 2 [(142,.v (.bool (decide (x2.2=119))))] ⟨⟨E,V⟩,E⟩ E E ?_
    refine aK E h (fun h=>?_) (fun h=>?_)
    ·
     refine JS.seq ?_
     obtain ⟨y281,hy282,h⟩:=aE h
     obtain ⟨⟨y283,y284⟩,hy285,h⟩:=aE h
     refine bB E (.new 8 46 (aI x0 q4) .nil) [] [7,8,9,10,11] ⟨E,E,E,E,V⟩ E (fun be298=>?_)
     refine bR aA aF true 6 [0,1,2,3,4,6] E (by kernel_rfl) [] [(144,.v (.agg (aI x0 q4).toArray)),(147,.v (.slice q4.1 x0.2.2.1.1.length q4.2.1)),(148,.v (I x0.2.2.1.2)),(150,.v (I x0.2.2.1.2))] ⟨E,E,E,E,V⟩ [] E E (Es E) (JA.one 5 (by kernel_rfl) (JK.call E E E E (aDq x0.2.2.1.1 x0.2.2.1.2 true q4.1 q4.2.1 _ hy282) E [0] E E fun _ _=>aR ⟨E,E,E,E,V⟩ [] E (JA.one 7 (by kernel_rfl) (JK.call E E E E (oR x0 y281 x0.2.2.1.2 2 q4 _ hy285) E [0,1,2,3,4,5] E E ?_))))
     rintro q286 -
     refine aM E (aS aA aF 2 [8,9] E (by kernel_rfl) [] [(152,.v (.agg (aI y283 q286).toArray)),(153,.v (I y284))] E (Es E) (JA.one 10 (by kernel_rfl) (aY aA E E E E E E E E (aM E (aS aA aF 0 [11] E (by kernel_rfl) [] [(7,.v (I y284))] E ⟨E,V⟩ (bE (by kernel_rfl) (aW (B':=(.new 11 46 (aI y283 q286) .nil)) (Bs E E) ?_)))))))
     cases h
     exact JS.ret aA q286 V E E [0,0,0,0,0,0] E
    refine JS.skip (aZ (aZ (aT () h ⟨E,V⟩ (Bs E E) [] E [] E)))
   refine JS.skip (aZ (aT () h ⟨E,V⟩ (Bs E E) [] E [] E))
  rintro _ h
  subst hj354
  refine aL aA 3 [] [] [(7,.v (I (-1)))] (.new 11 46 bF .nil) ⟨⟨E,V⟩,(Bs E E)⟩ E E ?_
  cases h
  refine aX (.int .i64) Sl.nil E E (aX (.sl (.int .i64)) Sl.nil E E (aX (.pair (.sl (.int .i64)) (.int .i64)) Sl.nil E E (aX (.int .i64) Sl.nil E E (aX (.int .i64) Sl.nil E E (aX (.int .i64) Sl.nil E E (JS.ret aA (none,0,none,0,none,0,none,0,none,0,none,0) V E E [5,4,3,2,1,0] E))))))

def pE (x0:EdQ) (x1:Int×List (List UInt8)) (x2:Int×Int):Option (EdQ×Int×Bool):=
  (aG (pJ x0) fun (y32:Bool)=>
  (bU ((!y32)=false) (lB x1) false fun (y34:Bool)=>
  (bU ((bif (!y32) then true else (!y34))=false) (sX x2) false fun (y37:Bool)=>
  (bif (bif (bif (bif (!y32) then true else (!y34)) then true else (!y37)) then true else (bif (!(decide (x0.2.1=0))) then (!(decide (x0.2.1=1))) else false)) then
  some ((false,0,([],0),0,0,0,0,0,0,0,[],[],0,([],0),[],0,([],0)),0,false)
  else
  (aG (mC x0 x1 x2) fun (y40,y41)=>
  (bif (decide (y41<0)) then
  some ((false,0,([],0),0,0,0,0,0,0,0,[],[],0,([],0),[],0,([],0)),0,false)
  else
  some (y40,y41,true)))))))

theorem aGi (x0:EdQ) (x1:Int×List (List UInt8)) (x2:Int×Int) (q4:P6) (a28:Option Addr) (c29:Nat) (r:EdQ×Int×Bool) (h:pE x0 x1 x2=some r):
  FC Tryz.prog 27 [.agg (cC x0 q4).toArray,.agg #[.int .i64 x1.1,.slice a28 x1.2.length c29],.agg #[.int .i64 x2.1,.int .i64 x2.2]] (bW x0 q4 [⟨.str,⟨a28,x1.2.length,c29⟩,x1.2⟩]) (fun _:P6=>True) (fun q=>.tuple #[.agg (aI r.1 q).toArray,.int .i64 r.2.1,.bool r.2.2]) (fun q=>(bW r.1 q [])):=
 by
  refine FC.of (T:=TTx) Tryz.call27 Tryz.func27 E E fun w0=>?_
  unfold pE at h
  refine aL aA 6 [] [8,9,10,11] [(3,.bp 8 0),(4,.bp 9 0),(5,.bp 10 0),(6,.bp 11 0)] (.new 8 46 (aI x0 q4) (.new 9 50 [.int .i64 x1.1,.slice a28 x1.2.length c29] (.new 10 64 [.int .i64 x2.1,.int .i64 x2.2] (.new 11 46 bF .nil)))) ⟨(Es E),(Bs E E)⟩ E E (JS.seq (JS.seq (JS.region (aB aA 1 [] [] [(11,.v (.agg (aI x0 q4).toArray))] _ E ⟨⟨E,V⟩,E⟩ ?_))))
  refine bnw h fun y32 hy33 h=>JO.call E E E E (zP x0 q4 _ hy33) E [0,1,2,3,4,5] E E fun _ _=>aB aA 3 [] [] [(14,.v (.bool (!y32))),(15,.cd [(14,false)] (.v (.agg #[.int .i64 x1.1,.slice a28 x1.2.length c29])))] _ E ⟨(Es E),E⟩ ?_
  obtain ⟨y34,hy35,-,h⟩:=aV h
  refine bI E E E E (fun q57=>uK x1 a28 c29 _ (hy35 q57)) E [6] E E (aB aA 4 [] [] [(19,.v (.bool (bif (!y32) then true else (!y34)))),(20,.cd [(19,false)] (.v (.agg #[.int .i64 x2.1,.int .i64 x2.2])))] _ E ⟨(Es E),E⟩ ?_)
  obtain ⟨y37,hy38,-,h⟩:=aV h
  refine bI E E E E (fun q58=>aEu x2 _ (hy38 q58)) E [] E E (aB aA 12 [] [] [(33,.v (.bool (bif (bif (bif (!y32) then true else (!y34)) then true else (!y37)) then true else (bif (!(decide (x0.2.1=0))) then (!(decide (x0.2.1=1))) else false))))] _ E ⟨⟨E,V⟩,E⟩ (aD E ?_))
  refine aK E h (fun h=>?_) (fun h=>?_)
  ·
   refine aL aA 4 [] [] [(7,.v (I 0)),(8,.v (.bool false))] (.new 11 46 bF .nil) ⟨(Es E),(Bs E E)⟩ E E ?_
   cases h
   refine aX (.int .i64) Sl.nil E E (aX (.sl (.int .i64)) Sl.nil E E (aX (.pair (.sl (.int .i64)) (.int .i64)) Sl.nil E E (aX (.int .i64) Sl.nil E E (aX (.int .i64) Sl.nil E E (aX (.int .i64) Sl.nil E E (JS.ret aA (none,0,none,0,none,0,none,0,none,0,none,0) V E E [5,4,3,2,1,0] E))))))
  refine JS.skip (JS.seq (JS.region (aB aA 3 [] [] [(36,.v (.agg (aI x0 q4).toArray)),(37,.v (.agg #[.int .i64 x1.1,.slice a28 x1.2.length c29])),(38,.v (.agg #[.int .i64 x2.1,.int .i64 x2.2]))] _ E ⟨(Es E),E⟩ ?_)))
  obtain ⟨⟨y40,y41⟩,hy42,h⟩:=aE h
  refine JO.call E E E E (aGc x0 x1 x2 q4 a28 c29 _ hy42) E [0,1,2,3,4,5,6] E E fun q43 _=>aP aA 6 [] [39] [(9,.bp 39 0),(10,.v (I y41))] (.new 11 46 bF (.new 39 46 (aI y40 q43) .nil)) E ⟨(Es E),(Bs E E)⟩ (aD E (JS.seq (aC aA 2 [(43,.v (.bool (decide (y41<0))))] ⟨⟨E,V⟩,E⟩ E E ?_)))
  refine aK E h (fun h=>?_) (fun h=>?_)
  ·
   refine aL aA 4 [] [] [(7,.v (I 0)),(8,.v (.bool false))] (.new 11 46 bF .nil) ⟨(Es E),(Bs E E)⟩ E E ?_
   cases h
   refine aX (.int .i64) Sl.nil E E (aX (.sl (.int .i64)) Sl.nil E E (aX (.pair (.sl (.int .i64)) (.int .i64)) Sl.nil E E (aX (.int .i64) Sl.nil E E (aX (.int .i64) Sl.nil E E (aX (.int .i64) Sl.nil E E (JS.ret aA (none,0,none,0,none,0,none,0,none,0,none,0) V E E [5,4,3,2,1,0] E))))))
  refine JS.skip (aL aA 5 [] [] [(7,.v (I y41)),(8,.v (.bool true))] (.new 11 46 (aI y40 q43) .nil) ⟨(Es E),(Bs E E)⟩ E E ?_)
  cases h
  exact JS.ret aA q43 V E E [0,0,0,0,0,0] E

def mU (x0:EdQ):Option (EdQ×Int):=
  (aG (cH x0) fun (y26:EdQ)=>
  (aG (eQ y26) fun (y40:EdQ)=>
  (aG (dK x0.2.2.1) fun (y42:List Int×Int)=>
  some ((y40.1,3,(y26.2.2.1.1,y40.2.2.1.2),y40.2.2.2.1,y40.2.2.2.2.1,y40.2.2.2.2.2.1,y40.2.2.2.2.2.2.1,y40.2.2.2.2.2.2.2.1,y40.2.2.2.2.2.2.2.2.1,0,y26.2.2.2.2.2.2.2.2.2.2.1,y26.2.2.2.2.2.2.2.2.2.2.2.1,y40.2.2.2.2.2.2.2.2.2.2.2.2.1,(y26.2.2.2.2.2.2.2.2.2.2.2.2.2.1.1,y40.2.2.2.2.2.2.2.2.2.2.2.2.2.1.2),y26.2.2.2.2.2.2.2.2.2.2.2.2.2.2.1,y40.2.2.2.2.2.2.2.2.2.2.2.2.2.2.2.1,y42),0))))

theorem aEr (x0:EdQ) (q2:P6) (r:EdQ×Int) (h:mU x0=some r):
  FC Tryz.prog 193 [.agg (cC x0 q2).toArray] (bW x0 q2 []) (fun _:P6=>True) (fun q=>.tuple #[.agg (aI r.1 q).toArray,.int .i64 r.2]) (fun q=>(bW r.1 q [])):=
 by
  refine FC.of (T:=TTx) Tryz.call193 Tryz.func193 E E fun w0=>?_
  unfold mU at h
  refine aL aA 3 [] [7,8] [(1,.bp 7 0),(2,.bp 8 0)] (.new 7 46 (aI x0 q2) (.new 8 46 bF .nil)) ⟨(Es E),(Bs E E)⟩ E E (JS.seq (JS.region (aB aA 1 [] [] [(5,.v (.agg (aI x0 q2).toArray))] _ E ⟨⟨E,V⟩,E⟩ ?_)))
  refine bnw h fun y26 hy27 h=>JO.call E E E E (dU x0 q2 _ hy27) E [0,1,2,3,4,5] E E fun q28 _=>bnw h fun y40 hy41 h=>JO.call E E E E (oS y26 q28 _ hy41) E [6,7,8,9,10,11] E E fun _ _=>aP aA 2 [] [31] [(4,.bp 31 0)] (.new 7 46 (aI x0 q2) (.new 8 46 bF (.new 31 46 (aI (y40.1,y40.2.1,(y26.2.2.1.1,y40.2.2.1.2),y40.2.2.2.1,(Q4 y40).1,(Q4 y40).2.1,(Q4 y40).2.2.1,(Q4 y40).2.2.2.1,(Q8 y40).1,(Q8 y40).2.1,(Q8 y26).2.2.1,(Q8 y26).2.2.2.1,(Q12 y40).1,((Q12 y26).2.1.1,(Q12 y40).2.1.2),(Q12 y26).2.2.1,(Q12 y40).2.2.2.1,((Q16 y26).1,(Q16 y40).2)) q28) .nil))) E ⟨⟨E,V⟩,(Bs E E)⟩ (aD E (aL aA 2 [] [] [] (.new 7 46 (aI x0 q2) (.new 8 46 bF (.new 31 46 (aI (y40.1,3,(y26.2.2.1.1,y40.2.2.1.2),y40.2.2.2.1,(Q4 y40).1,(Q4 y40).2.1,(Q4 y40).2.2.1,(Q4 y40).2.2.2.1,(Q8 y40).1,(Q8 y40).2.1,(Q8 y26).2.2.1,(Q8 y26).2.2.2.1,(Q12 y40).1,((Q12 y26).2.1.1,(Q12 y40).2.1.2),(Q12 y26).2.2.1,(Q12 y40).2.2.2.1,((Q16 y26).1,(Q16 y40).2)) q28) .nil))) ⟨V,(Bs E E)⟩ E E (JS.seq (JS.region (aB aA 2 [] [] [(10,.v (.agg #[.slice q2.1 x0.2.2.1.1.length q2.2.1,.int .i64 x0.2.2.1.2]))] _ E ⟨⟨E,V⟩,E⟩ ?_)))))
  refine bnw h fun y42 hy43 h=>JO.call E E E E (fG x0.2.2.1 q2.1 q2.2.1 _ hy43) E [0] E E ?_
  rintro ⟨a44,c45⟩ -
  refine aP aA 2 [] [] [] (.new 8 46 bF (.new 31 46 (aI (y40.1,3,(y26.2.2.1.1,y40.2.2.1.2),y40.2.2.2.1,(Q4 y40).1,(Q4 y40).2.1,(Q4 y40).2.2.1,(Q4 y40).2.2.2.1,(Q8 y40).1,(Q8 y40).2.1,(Q8 y26).2.2.1,(Q8 y26).2.2.2.1,(Q12 y40).1,((Q12 y26).2.1.1,(Q12 y40).2.1.2),(Q12 y26).2.2.1,(Q12 y40).2.2.2.1,y42) (q28.1,q28.2.1,q28.2.2.1,q28.2.2.2.1,(Q4 q28).1,(Q4 q28).2.1,(Q4 q28).2.2.1,(Q4 q28).2.2.2.1,(Q8 q28).1,(Q8 q28).2.1,a44,c45)) .nil)) E ⟨V,(Bs E E)⟩ (aD E (aL aA 2 [] [] [] (.new 8 46 bF (.new 31 46 (aI (y40.1,3,(y26.2.2.1.1,y40.2.2.1.2),y40.2.2.2.1,(Q4 y40).1,(Q4 y40).2.1,(Q4 y40).2.2.1,(Q4 y40).2.2.2.1,(Q8 y40).1,0,(Q8 y26).2.2.1,(Q8 y26).2.2.2.1,(Q12 y40).1,((Q12 y26).2.1.1,(Q12 y40).2.1.2),(Q12 y26).2.2.1,(Q12 y40).2.2.2.1,y42) (q28.1,q28.2.1,q28.2.2.1,q28.2.2.2.1,(Q4 q28).1,(Q4 q28).2.1,(Q4 q28).2.2.1,(Q4 q28).2.2.2.1,(Q8 q28).1,(Q8 q28).2.1,a44,c45)) .nil)) ⟨V,(Bs E E)⟩ E E (aL aA 3 [] [] [(3,.v (I 0))] (.new 8 46 (aI (y40.1,3,(y26.2.2.1.1,y40.2.2.1.2),y40.2.2.2.1,(Q4 y40).1,(Q4 y40).2.1,(Q4 y40).2.2.1,(Q4 y40).2.2.2.1,(Q8 y40).1,0,(Q8 y26).2.2.1,(Q8 y26).2.2.2.1,(Q12 y40).1,((Q12 y26).2.1.1,(Q12 y40).2.1.2),(Q12 y26).2.2.1,(Q12 y40).2.2.2.1,y42) (q28.1,q28.2.1,q28.2.2.1,q28.2.2.2.1,(Q4 q28).1,(Q4 q28).2.1,(Q4 q28).2.2.1,(Q4 q28).2.2.2.1,(Q8 q28).1,(Q8 q28).2.1,a44,c45)) .nil) ⟨⟨E,V⟩,(Bs E E)⟩ E E ?_)))
  cases h
  exact JS.ret aA (q28.1,q28.2.1,q28.2.2.1,q28.2.2.2.1,(Q4 q28).1,(Q4 q28).2.1,(Q4 q28).2.2.1,(Q4 q28).2.2.2.1,(Q8 q28).1,(Q8 q28).2.1,a44,c45) V E E [1,1,1,1,1,0] E

def pC (x0:List (List Int×Int)):Option ((List (List Int×Int))×(List Int×Int)×Bool):=
  (aG (nW x0) fun (y6:Bool)=>
  (bif (bif (!y6) then true else (decide ((x0.length:Int)=0))) then
  some ([],([],0),false)
  else
  (aG (iY x0) fun (y8:List (List Int×Int))=>
  (aN (0≤(0:Int)∧(0:Int)≤(W ((x0.length:Int) - 1))∧(W ((x0.length:Int) - 1))≤(y8.length:Int)) <|
  (aN (0≤(W ((x0.length:Int) - 1))∧(W ((x0.length:Int) - 1))<(y8.length:Int)) <|
  some ((List.take (Int.toNat (W ((x0.length:Int) - 1))) y8),((at' y8 (W ((x0.length:Int) - 1))).1,(at' y8 (W ((x0.length:Int) - 1))).2),true))))))

theorem aGf (x0:List (List Int×Int)) (a2:Option Addr) (c3:Nat) (r:(List (List Int×Int))×(List Int×Int)×Bool) (h:pC x0=some r):
  FC Tryz.prog 256 [.agg #[.slice a2 x0.length c3]] [⟨(.pair (.sl (.int .i64)) (.int .i64)),⟨a2,x0.length,c3⟩,x0⟩] (fun _:Option Addr×Nat×Option Addr×Nat=>True) (fun q=>.tuple #[.agg #[.slice q.1 r.1.length q.2.1],.agg #[.slice q.2.2.1 r.2.1.1.length q.2.2.2,.int .i64 r.2.1.2],.bool r.2.2]) (fun q=>[⟨(.pair (.sl (.int .i64)) (.int .i64)),⟨q.1,r.1.length,q.2.1⟩,r.1⟩,⟨(.int .i64),⟨q.2.2.1,r.2.1.1.length,q.2.2.2⟩,r.2.1.1⟩]):=
 by
  refine FC.of (T:=TTx) Tryz.call256 Tryz.func256 E E fun w0=>?_
  unfold pC at h
  refine aL aA 4 [] [2,3,4] [(1,.bp 2 0),(2,.bp 3 0),(3,.bp 4 0)] (.new 2 44 [.slice a2 x0.length c3] (.new 3 44 [.slice none 0 0] (.new 4 38 [.slice none 0 0,.int .i64 0] .nil))) ⟨(Es E),(Bs E E)⟩ E E (aC aA 4 [(5,.v (I (x0.length:Int)))] ⟨⟨E,V⟩,E⟩ E E (JS.seq (JS.seq (JS.region (aB aA 1 [] [] [(10,.v (.agg #[.slice a2 x0.length c3]))] _ E ⟨⟨E,V⟩,E⟩ ?_)))))
  refine bnw h fun y6 hy7 h=>JO.call E E E E (xZ x0 a2 c3 _ hy7) E [0] E E fun _ _=>aB aA 5 [] [] [(16,.v (.bool (bif (!y6) then true else (decide ((x0.length:Int)=0)))))] _ E ⟨⟨E,V⟩,E⟩ (aD E ?_)
  refine aK E h (fun h=>?_) (fun h=>?_)
  ·
   refine aL aA 5 [] [] [(4,.v (.bool false))] (.new 3 44 [.slice none 0 0] (.new 4 38 [.slice none 0 0,.int .i64 0] .nil)) ⟨⟨E,V⟩,(Bs E E)⟩ E E ?_
   cases h
   refine aX (.pair (.sl (.int .i64)) (.int .i64)) Sl.nil E E (aX (.int .i64) Sl.nil E E (JS.ret aA (none,0,none,0) V E E [1,0] E))
  refine JS.skip (JS.seq (JS.region (aB aA 1 [] [] [(19,.v (.agg #[.slice a2 x0.length c3]))] _ E ⟨⟨E,V⟩,E⟩ ?_)))
  refine bnw h fun y8 hy9 h=>JO.call E E E E (uX x0 a2 c3 _ hy9) E [0] E E ?_
  rintro ⟨a10,c11⟩ -
  refine aP aA 2 [] [12] [(6,.bp 12 0)] (.new 3 44 [.slice none 0 0] (.new 4 38 [.slice none 0 0,.int .i64 0] (.new 12 44 [.slice a10 y8.length c11] .nil))) E ⟨⟨E,V⟩,(Bs E E)⟩ (aD E (JS.seq ?_))
  obtain ⟨g12,h⟩:=aH h
  obtain ⟨g17,h⟩:=aH h
  obtain ⟨a14,c15,hu16⟩:=aPc (⟨a10,y8.length,c11⟩:Sl) 2 y8 (W ((x0.length:Int) - 1)) rfl ⟨g12.2.1,g12.2.2⟩
  refine vM (id:=0) (uW [0] E (Int.toNat (W ((x0.length:Int) - 1))) (at' y8 (W ((x0.length:Int) - 1))) E ?_)
  intro a18 c19 l20 hl21
  obtain rfl:([.slice a18 ((at' y8 (W ((x0.length:Int) - 1))).1).length c19,.int .i64 (at' y8 (W ((x0.length:Int) - 1))).2]:List Value)=l20:=Option.some.inj hl21
  refine vN (cD 1 E fun hs28=>?_)
  refine bB E (.new 12 44 [.slice a10 y8.length c11] .nil) [1] [13,14] ⟨E,E,E,E,V⟩ E (fun be24=>?_)
  refine bR aA aF true 6 [0,1,2,3,6,7,8,9,10] E (by kernel_rfl) [(W ((x0.length:Int) - 1)),(W ((x0.length:Int) - 1))] [(22,.v (.slice a10 y8.length c11)),(24,.v (I (W ((x0.length:Int) - 1)))),(31,.ep ⟨a10,y8.length,c11⟩ (Int.toNat (W ((x0.length:Int) - 1))*2))] ⟨E,E,E,E,V⟩ [1] E E ⟨⟨V,E⟩,⟨V,E⟩,(hs28.cast (fQ _ _ _)).ix g17,(Es E)⟩ (uF aA aF 11 E (by kernel_rfl) E E E E E 0 E E (Int.toNat (W ((x0.length:Int) - 1))) 0 (Sum.inr [.slice a18 ((at' y8 (W ((x0.length:Int) - 1))).1).length c19,.int .i64 (at' y8 (W ((x0.length:Int) - 1))).2]) ⟨mQ (bD g17),E⟩ E E E ⟨E,E,E,E,V⟩ [1] E (dB aA aF 4 E (by kernel_rfl) E E E E E E (0:Int) (W ((x0.length:Int) - 1)) E E ⟨g12.1,g12.2.1,g12.2.2,(hs28.cast (fQ _ _ _)).cap,hu16⟩ E (bR aA aF true 3 [5] E (by kernel_rfl) [] [(26,.v (.agg #[.slice a14 (List.take (Int.toNat (W ((x0.length:Int) - 1))) y8).length c15]))] ⟨E,E,E,E,V⟩ [1] E E ⟨E,V⟩ (JA.one 12 (by kernel_rfl) (aY aA E E E E E E E E (aR ⟨E,E,E,E,V⟩ [1] E (JA.one 13 (by kernel_rfl) (aY aA E E E E E E E E (aM E (aS aA aF 0 [14] E (by kernel_rfl) [] [(4,.v (.bool true))] E ⟨E,V⟩ (bE (by kernel_rfl) (aW (B':=(.new 3 44 [.slice a14 (List.take (Int.toNat (W ((x0.length:Int) - 1))) y8).length c15] (.new 4 38 [.slice a18 ((at' y8 (W ((x0.length:Int) - 1))).1).length c19,.int .i64 (at' y8 (W ((x0.length:Int) - 1))).2] .nil))) (Bs E E) (aS0 [0] E (by omega) _ hu16 ?_)))))))))))))
  cases h
  exact JS.ret aA (a14,c15,a18,c19) V E E [0,0] E

def rI (x0:EdQ):Option (EdQ×Int):=
  (aG (pC x0.2.2.2.2.2.2.2.2.2.2.2.1) fun (y26,y27,y28)=>
  (bif (!y28) then
  (aG (dG x0) fun (y34,y35)=>
  some (y34,y35))
  else
  (aG (cH x0) fun (y49:EdQ)=>
  (aG (eQ y49) fun (y63:EdQ)=>
  (aG (kS (y63.1,y63.2.1,y27,y63.2.2.2.1,y63.2.2.2.2.1,y63.2.2.2.2.2.1,y63.2.2.2.2.2.2.1,y63.2.2.2.2.2.2.2.1,y63.2.2.2.2.2.2.2.2.1,0,y49.2.2.2.2.2.2.2.2.2.2.1,y26,y63.2.2.2.2.2.2.2.2.2.2.2.2.1,(y49.2.2.2.2.2.2.2.2.2.2.2.2.2.1.1,y63.2.2.2.2.2.2.2.2.2.2.2.2.2.1.2),y49.2.2.2.2.2.2.2.2.2.2.2.2.2.2.1,y63.2.2.2.2.2.2.2.2.2.2.2.2.2.2.2.1,(y49.2.2.2.2.2.2.2.2.2.2.2.2.2.2.2.2.1,y63.2.2.2.2.2.2.2.2.2.2.2.2.2.2.2.2.2))) fun (y65:EdQ)=>
  some ((y65.1,y65.2.1,(y27.1,y65.2.2.1.2),y65.2.2.2.1,y65.2.2.2.2.1,y65.2.2.2.2.2.1,y65.2.2.2.2.2.2.1,y65.2.2.2.2.2.2.2.1,y65.2.2.2.2.2.2.2.2.1,y65.2.2.2.2.2.2.2.2.2.1,y49.2.2.2.2.2.2.2.2.2.2.1,y26,y65.2.2.2.2.2.2.2.2.2.2.2.2.1,(y49.2.2.2.2.2.2.2.2.2.2.2.2.2.1.1,y65.2.2.2.2.2.2.2.2.2.2.2.2.2.1.2),y49.2.2.2.2.2.2.2.2.2.2.2.2.2.2.1,y65.2.2.2.2.2.2.2.2.2.2.2.2.2.2.2.1,(y49.2.2.2.2.2.2.2.2.2.2.2.2.2.2.2.2.1,y65.2.2.2.2.2.2.2.2.2.2.2.2.2.2.2.2.2)),0))))))

theorem aIg (x0:EdQ) (q2:P6) (r:EdQ×Int) (h:rI x0=some r):
  FC Tryz.prog 192 [.agg (cC x0 q2).toArray] (bW x0 q2 []) (fun _:P6=>True) (fun q=>.tuple #[.agg (aI r.1 q).toArray,.int .i64 r.2]) (fun q=>(bW r.1 q [])):=
 by
  refine FC.of (T:=TTx) Tryz.call192 Tryz.func192 E E fun w0=>?_
  unfold rI at h
  refine aL aA 3 [] [7,8] [(1,.bp 7 0),(2,.bp 8 0)] (.new 7 46 (aI x0 q2) (.new 8 46 bF .nil)) ⟨(Es E),(Bs E E)⟩ E E (JS.seq (JS.region (aB aA 2 [] [] [(10,.v (.agg #[.slice (Q4 q2).1 (Q8 x0).2.2.2.1.length (Q4 q2).2.1]))] _ E ⟨⟨E,V⟩,E⟩ ?_)))
  obtain ⟨⟨y26,y27,y28⟩,hy29,h⟩:=aE h
  refine JO.call E E E E (aGf (Q8 x0).2.2.2.1 (Q4 q2).1 (Q4 q2).2.1 _ hy29) E [2] E E ?_
  rintro ⟨a30,c31,a32,c33⟩ -
  refine aP aA 9 [] [19,20] [(4,.bp 19 0),(5,.bp 20 0),(6,.v (.bool y28))] (.new 7 46 (aI x0 q2) (.new 8 46 bF (.new 19 44 [.slice a30 y26.length c31] (.new 20 38 [.slice a32 y27.1.length c33,.int .i64 y27.2] .nil)))) E ⟨(Es E),(Bs E E)⟩ (aD E (JS.seq (aC aA 2 [(16,.v (.bool (!y28)))] ⟨⟨E,V⟩,E⟩ E E ?_)))
  refine aK E h (fun h=>?_) (fun h=>?_)
  ·
   refine JS.seq (JS.region (aB aA 1 [] [] [(17,.v (.agg (aI x0 q2).toArray))] _ E ⟨⟨E,V⟩,E⟩ ?_))
   obtain ⟨⟨y34,y35⟩,hy36,h⟩:=aE h
   refine JO.call E E E E (fF x0 q2 _ hy36) E [0,1,2,3,4,5] E E fun q37 _=>aP aA 4 [] [] [(3,.v (I y35))] (.new 8 46 (aI y34 q37) .nil) E ⟨⟨E,V⟩,(Bs E E)⟩ (aD E ?_)
   cases h
   exact JS.ret aA q37 V E E [0,0,0,0,0,0] E
  refine JS.skip (JS.seq (JS.region (aB aA 1 [] [] [(21,.v (.agg (aI x0 q2).toArray))] _ E ⟨⟨E,V⟩,E⟩ ?_)))
  refine bnw h fun y49 hy50 h=>JO.call E E E E (dU x0 q2 _ hy50) E [0,1,2,3,4,5] E E fun q51 _=>bnw h fun y63 hy64 h=>JO.call E E E E (oS y49 q51 _ hy64) E [6,7,8,9,10,11] E E fun _ _=>aP aA 2 [] [64] [(7,.bp 64 0)] (.new 8 46 bF (.new 19 44 [.slice a30 y26.length c31] (.new 20 38 [.slice a32 y27.1.length c33,.int .i64 y27.2] (.new 64 46 (aI (y63.1,y63.2.1,(y49.2.2.1.1,y63.2.2.1.2),y63.2.2.2.1,(Q4 y63).1,(Q4 y63).2.1,(Q4 y63).2.2.1,(Q4 y63).2.2.2.1,(Q8 y63).1,(Q8 y63).2.1,(Q8 y49).2.2.1,(Q8 y49).2.2.2.1,(Q12 y63).1,((Q12 y49).2.1.1,(Q12 y63).2.1.2),(Q12 y49).2.2.1,(Q12 y63).2.2.2.1,((Q16 y49).1,(Q16 y63).2)) q51) .nil)))) E ⟨⟨E,V⟩,(Bs E E)⟩ (aD E (aL aA 3 [] [] [] (.new 8 46 bF (.new 20 38 [.slice a32 y27.1.length c33,.int .i64 y27.2] (.new 64 46 (aI (y63.1,y63.2.1,(y49.2.2.1.1,y63.2.2.1.2),y63.2.2.2.1,(Q4 y63).1,(Q4 y63).2.1,(Q4 y63).2.2.1,(Q4 y63).2.2.2.1,(Q8 y63).1,(Q8 y63).2.1,(Q8 y49).2.2.1,y26,(Q12 y63).1,((Q12 y49).2.1.1,(Q12 y63).2.1.2),(Q12 y49).2.2.1,(Q12 y63).2.2.2.1,((Q16 y49).1,(Q16 y63).2)) (q51.1,q51.2.1,q51.2.2.1,q51.2.2.2.1,a30,c31,(Q4 q51).2.2)) .nil))) ⟨V,(Bs E E)⟩ E E (aL aA 3 [] [] [] (.new 8 46 bF (.new 64 46 (aI (y63.1,y63.2.1,y27,y63.2.2.2.1,(Q4 y63).1,(Q4 y63).2.1,(Q4 y63).2.2.1,(Q4 y63).2.2.2.1,(Q8 y63).1,(Q8 y63).2.1,(Q8 y49).2.2.1,y26,(Q12 y63).1,((Q12 y49).2.1.1,(Q12 y63).2.1.2),(Q12 y49).2.2.1,(Q12 y63).2.2.2.1,((Q16 y49).1,(Q16 y63).2)) (a32,c33,q51.2.2.1,q51.2.2.2.1,a30,c31,(Q4 q51).2.2)) .nil)) ⟨V,(Bs E E)⟩ E E (aL aA 2 [] [] [] (.new 8 46 bF (.new 64 46 (aI (y63.1,y63.2.1,y27,y63.2.2.2.1,(Q4 y63).1,(Q4 y63).2.1,(Q4 y63).2.2.1,(Q4 y63).2.2.2.1,(Q8 y63).1,0,(Q8 y49).2.2.1,y26,(Q12 y63).1,((Q12 y49).2.1.1,(Q12 y63).2.1.2),(Q12 y49).2.2.1,(Q12 y63).2.2.2.1,((Q16 y49).1,(Q16 y63).2)) (a32,c33,q51.2.2.1,q51.2.2.2.1,a30,c31,(Q4 q51).2.2)) .nil)) ⟨V,(Bs E E)⟩ E E (JS.seq (JS.region (aB aA 1 [] [] [(29,.v (.agg (aI (y63.1,y63.2.1,y27,y63.2.2.2.1,(Q4 y63).1,(Q4 y63).2.1,(Q4 y63).2.2.1,(Q4 y63).2.2.2.1,(Q8 y63).1,0,(Q8 y49).2.2.1,y26,(Q12 y63).1,((Q12 y49).2.1.1,(Q12 y63).2.1.2),(Q12 y49).2.2.1,(Q12 y63).2.2.2.1,((Q16 y49).1,(Q16 y63).2)) (a32,c33,q51.2.2.1,q51.2.2.2.1,a30,c31,(Q4 q51).2.2)).toArray))] _ E ⟨⟨E,V⟩,E⟩ ?_)))))))
  refine bnw h fun y65 hy66 h=>JO.call E E E E (wU (y63.1,y63.2.1,y27,y63.2.2.2.1,(Q4 y63).1,(Q4 y63).2.1,(Q4 y63).2.2.1,(Q4 y63).2.2.2.1,(Q8 y63).1,0,(Q8 y49).2.2.1,y26,(Q12 y63).1,((Q12 y49).2.1.1,(Q12 y63).2.1.2),(Q12 y49).2.2.1,(Q12 y63).2.2.2.1,((Q16 y49).1,(Q16 y63).2)) (a32,c33,q51.2.2.1,q51.2.2.2.1,a30,c31,(Q4 q51).2.2) _ hy66) E [13,7,12,9,10,11] E E fun _ _=>aP aA 2 [] [] [(3,.v (I 0))] (.new 8 46 (aI (y65.1,y65.2.1,(y27.1,y65.2.2.1.2),y65.2.2.2.1,(Q4 y65).1,(Q4 y65).2.1,(Q4 y65).2.2.1,(Q4 y65).2.2.2.1,(Q8 y65).1,(Q8 y65).2.1,(Q8 y49).2.2.1,y26,(Q12 y65).1,((Q12 y49).2.1.1,(Q12 y65).2.1.2),(Q12 y49).2.2.1,(Q12 y65).2.2.2.1,((Q16 y49).1,(Q16 y65).2)) (a32,c33,q51.2.2.1,q51.2.2.2.1,a30,c31,(Q4 q51).2.2)) .nil) E ⟨⟨E,V⟩,(Bs E E)⟩ (aD E ?_)
  cases h
  exact JS.ret aA (a32,c33,q51.2.2.1,q51.2.2.2.1,a30,c31,(Q4 q51).2.2) V E E [7,1,5,2,2,2] E

def pF (x0:List Int×Int):Option ((List Int×Int)×Bool):=
  (aG (dE x0) fun (y6:Bool)=>
  (bif (bif (bif (!y6) then true else (decide ((x0.1.length:Int)<2))) then true else (decide (x0.2=0))) then
  some (([],0),false)
  else
  (aU (fun (x9:Int)=>
  (aN (0≤(0:Int)∧(0:Int)≤(W (x9 - 1))∧(W (x9 - 1))≤(x0.1.length:Int)) <|
  (aN (0≤x9∧x9≤(W (x9+1))∧(W (x9+1))≤(x0.1.length:Int)) <|
  (aN (0≤(W (x9 - 1))∧(W (x9 - 1))≤x9∧x9≤(x0.1.length:Int)) <|
  (aG (cW (bN x0.1 (0:Int) (W (x9 - 1))) (bN x0.1 x9 (W (x9+1))) (bN x0.1 (W (x9 - 1)) x9)) fun (y25:List Int)=>
  (aN (0≤(W (x9+1))∧(W (x9+1))≤(x0.1.length:Int)∧(x0.1.length:Int)≤(x0.1.length:Int)) <|
  (aG (cW y25 (bN x0.1 (W (x9+1)) (x0.1.length:Int)) ([]:List Int)) fun (y33:List Int)=>
  some ((y33,(W (x9+1))),true)))))))) fun j10=>
  (bif (decide (x0.2=(x0.1.length:Int))) then
  j10 (W (x0.2 - 1))
  else
  j10 x0.2))))

theorem aGj (x0:List Int×Int) (a2:Option Addr) (c3:Nat) (r:(List Int×Int)×Bool) (h:pF x0=some r):
  FC Tryz.prog 191 [.agg #[.slice a2 x0.1.length c3,.int .i64 x0.2]] [⟨(.int .i64),⟨a2,x0.1.length,c3⟩,x0.1⟩] (fun _:Option Addr×Nat=>True) (fun q=>.tuple #[.agg #[.slice q.1 r.1.1.length q.2,.int .i64 r.1.2],.bool r.2]) (fun q=>[⟨(.int .i64),⟨q.1,r.1.1.length,q.2⟩,r.1.1⟩]):=
 by
  refine FC.of (T:=TTx) Tryz.call191 Tryz.func191 E E fun w0=>?_
  unfold pF at h
  refine aL aA 3 [] [2,3] [(1,.bp 2 0),(2,.bp 3 0)] (.new 2 38 [.slice a2 x0.1.length c3,.int .i64 x0.2] (.new 3 38 [.slice none 0 0,.int .i64 0] .nil)) ⟨(Es E),(Bs E E)⟩ E E (JS.seq (JS.seq (JS.region (aB aA 1 [] [] [(5,.v (.agg #[.slice a2 x0.1.length c3,.int .i64 x0.2]))] _ E ⟨⟨E,V⟩,E⟩ ?_))))
  refine bnw h fun y6 hy7 h=>JO.call E E E E (eO x0 a2 c3 _ hy7) E [0] E E fun _ _=>aB aA 12 [] [] [(18,.v (.bool (bif (bif (!y6) then true else (decide ((x0.1.length:Int)<2))) then true else (decide (x0.2=0)))))] _ E ⟨⟨E,V⟩,E⟩ (aD E ?_)
  refine aK E h (fun h=>?_) (fun h=>?_)
  ·
   refine aL aA 3 [] [] [(3,.v (.bool false))] (.new 3 38 [.slice none 0 0,.int .i64 0] .nil) ⟨⟨E,V⟩,(Bs E E)⟩ E E ?_
   cases h
   refine aX (.int .i64) Sl.nil E E (JS.ret aA (none,0) V E E [0] E)
  refine JS.skip (aC aA 3 [(4,.v (I x0.2))] ⟨⟨E,V⟩,E⟩ E E ?_)
  obtain ⟨j10,hj46,h⟩:=aQ h
  refine dM (ι:=Int) ⟨fun z=>j10 z=some r,fun z=>[(1,.bp 2 0),(2,.bp 3 0),(4,.v (I z))],fun z=>(.new 2 38 [.slice a2 x0.1.length c3,.int .i64 x0.2] (.new 3 38 [.slice none 0 0,.int .i64 0] .nil)),fun z=>[⟨(.int .i64),⟨a2,x0.1.length,c3⟩,x0.1⟩],fun z=>[],fun z=>0⟩ ?_ ?_
  ·
   refine aC aA 5 [(26,.v (.bool (decide (x0.2=(x0.1.length:Int)))))] ⟨⟨E,V⟩,E⟩ E E ?_
   refine aK E h (fun h=>?_) (fun h=>?_)
   ·
    refine bZ aA 3 [(W (x0.2 - 1))] [] [(4,.v (I (W (x0.2 - 1))))] _ ⟨⟨V,E⟩,⟨E,V⟩,E⟩ E E (aT (W (x0.2 - 1)) h (Es E) (Bs E E) [0] E [] E)
   refine JS.skip (aT x0.2 h (Es E) (Bs E E) [0] E [] E)
  rintro x9 h
  subst hj46
  refine JS.seq ?_
  obtain ⟨g12,h⟩:=aH h
  obtain ⟨g17,h⟩:=aH h
  obtain ⟨g21,h⟩:=aH h
  obtain ⟨y25,hy26,h⟩:=aE h
  obtain ⟨g29,h⟩:=aH h
  refine bnw h fun y33 hy34 h=>iC 0 E (0:Int) (W (x9 - 1)) fun a13 c14 hu15=>iC 1 E x9 (W (x9+1)) fun a18 c19 hu20=>iC 2 E (W (x9 - 1)) x9 fun a22 c23 hu24=>iC 3 E (W (x9+1)) (x0.1.length:Int) fun a30 c31 hu32=>cD 4 E fun hs45=>?_
  refine bB E (.new 2 38 [.slice a2 x0.1.length c3,.int .i64 x0.2] .nil) [] [23,26,27,28] ⟨E,E,E,E,V⟩ E (fun be39=>?_)
  refine bR aA aF true 11 [0,1,2,3,5,6,7,8,9,11,12,13,14,15,18,19,20,21] E (by kernel_rfl) [(W (x9 - 1)),(W (x9+1)),(W (x9 - 1)),(W (x9+1))] [(30,.v (.slice a2 x0.1.length c3)),(32,.v (I (W (x9 - 1)))),(35,.v (.slice a2 x0.1.length c3)),(36,.v (I x9)),(38,.v (I (W (x9+1)))),(41,.v (.slice a2 x0.1.length c3)),(43,.v (I (W (x9 - 1)))),(44,.v (I x9)),(48,.v (.slice a2 x0.1.length c3)),(50,.v (I (W (x9+1))))] ⟨E,E,E,E,V⟩ [] E E ⟨⟨V,E⟩,⟨V,E⟩,⟨V,E⟩,⟨V,E⟩,(Es E)⟩ (aS aA aF 9 [24,25] E (by kernel_rfl) [(W (x9+1))] [(54,.v (I (W (x9+1))))] E ⟨⟨V,E⟩,⟨E,V⟩⟩ (dB aA aF 4 E (by kernel_rfl) E E E E E E (0:Int) (W (x9 - 1)) E E ⟨g12.1,g12.2.1,g12.2.2,hs45.cap,hu15 g12⟩ E (dB aA aF 10 E (by kernel_rfl) E E E E E E x9 (W (x9+1)) E E ⟨g17.1,g17.2.1,g17.2.2,hs45.cap,hu20 g17⟩ E (dB aA aF 16 E (by kernel_rfl) E E E E E E (W (x9 - 1)) x9 E E ⟨g21.1,g21.2.1,g21.2.2,hs45.cap,hu24 g21⟩ E (dB aA aF 22 E (by kernel_rfl) E E E E E E (W (x9+1)) (x0.1.length:Int) E E ⟨g29.1,g29.2.1,g29.2.2,hs45.cap,hu32 g29⟩ E (JA.one 17 (by kernel_rfl) (JK.call E E E E (fH (bN x0.1 (0:Int) (W (x9 - 1))) (bN x0.1 x9 (W (x9+1))) (bN x0.1 (W (x9 - 1)) x9) a13 c14 a18 c19 a22 c23 _ hy26) E [3,2,1] E E ?_)))))))
  rintro ⟨a27,c28⟩ -
  refine aR ⟨E,E,E,E,V⟩ [] E (JA.one 23 (by kernel_rfl) (zV (.int .i64) Sl.nil E E (JK.call E E E E (fH y25 (bN x0.1 (W (x9+1)) (x0.1.length:Int)) ([]:List Int) a27 c28 a30 c31 none 0 _ hy34) E [6,1,0] E E ?_)))
  rintro ⟨a35,c36⟩ -
  refine aM E (aS aA aF 2 [26] E (by kernel_rfl) [] [(55,.v (.agg #[.slice a35 y33.length c36,.int .i64 (W (x9+1))]))] E ⟨E,V⟩ (JA.one 27 (by kernel_rfl) (aY aA E E E E E E E E (aM E (aS aA aF 0 [28] E (by kernel_rfl) [] [(3,.v (.bool true))] E ⟨E,V⟩ (bE (by kernel_rfl) (aW (B':=(.new 3 38 [.slice a35 y33.length c36,.int .i64 (W (x9+1))] .nil)) (Bs E E) ?_)))))))
  cases h
  exact JS.ret aA (a35,c36) V E E [0] E

def gJ (x0:List (List Int)):Option (List Int):=
  (aG (kZ x0) fun (y6:Bool)=>
  (bif (bif (!y6) then true else (decide ((x0.length:Int)=0))) then
  some ([])
  else
  (aN (0≤(0:Int)∧0<(x0.length:Int)) <|
  (aN (([]:List Int).length+(at' x0 0).length≤536870912) <|
  some (([]:List Int) ++ (at' x0 0))))))

theorem sG (x0:List (List Int)) (a2:Option Addr) (c3:Nat) (r:List Int) (h:gJ x0=some r):
  FC Tryz.prog 250 [.agg #[.slice a2 x0.length c3]] [⟨(.sl (.int .i64)),⟨a2,x0.length,c3⟩,x0⟩] (fun _:Option Addr×Nat=>True) (fun q=>.slice q.1 r.length q.2) (fun q=>[⟨(.int .i64),⟨q.1,r.length,q.2⟩,r⟩]):=
 by
  refine FC.of (T:=TTx) Tryz.call250 Tryz.func250 E E fun w0=>?_
  unfold gJ at h
  refine aL aA 2 [] [2] [(1,.bp 2 0)] (.new 2 41 [.slice a2 x0.length c3] .nil) ⟨⟨E,V⟩,(Bs E E)⟩ E E (JS.seq (JS.seq (JS.region (aB aA 1 [] [] [(3,.v (.agg #[.slice a2 x0.length c3]))] _ E ⟨⟨E,V⟩,E⟩ ?_))))
  refine bnw h fun y6 hy7 h=>JO.call E E E E (uJ x0 a2 c3 _ hy7) E [0] E E fun _ _=>aB aA 7 [] [] [(11,.v (.bool (bif (!y6) then true else (decide ((x0.length:Int)=0)))))] _ E ⟨⟨E,V⟩,E⟩ (aD E ?_)
  refine aK E h (fun h=>?_) (fun h=>?_)
  ·
   refine aC aA 1 [(2,.v (.slice none 0 0))] ⟨⟨E,V⟩,E⟩ E E ?_
   cases h
   refine aX (.int .i64) Sl.nil E E (JS.ret aA (none,0) V E E [0] E)
  refine JS.skip (JS.seq (JS.region ?_))
  refine jH E (JK.buildSlice aA E E E E E E E E E E E [] E (.int .i64) [] ⟨E,E⟩ E E fun a8=>jG ?_)
  refine bJ 0 E fun hs20=>?_
  obtain ⟨g10,h⟩:=aH h
  refine aB aA 4 [] [] [(16,.ep ⟨a2,x0.length,c3⟩ (Int.toNat 0*1))] _ E ⟨hs20.ix g10,hs20.fa g10,⟨E,V⟩,E⟩ (eU 0 E (Int.toNat 0) (at' x0 0) E fun a11 c12 ys13 hl14 hy15=>cP aA E E E E E E 0 E E (Int.toNat 0) 0 (Sl.v ⟨a11,(at' x0 0).length,c12⟩) ⟨hy15 (kG g10),E⟩ E E E ?_)
  obtain ⟨g16,h⟩:=aH h
  refine fP aA E E E E ⟨E,E,E,E,V,E,E,E,E⟩ E E E [0] E 1 E g16 E fun a17 c18=>aB aA 1 [] [] [(2,.v (.slice a17 (([]:List Int) ++ (at' x0 0)).length c18))] _ E ⟨⟨E,V⟩,E⟩ (aD E ?_)
  cases h
  exact JS.ret aA (a17,c18) V E E [0] E

def rH (x0:EdQ):Option (EdQ×Int):=
  (aG (gJ x0.2.2.2.2.2.2.2.2.2.2.1) fun (y26:List Int)=>
  (bif (decide ((y26.length:Int)=0)) then
  (aG (dG x0) fun (y30,y31)=>
  some (y30,y31))
  else
  (aG (nU x0 y26 3) fun (y45,y46)=>
  some (y45,y46))))

theorem aIf (x0:EdQ) (q2:P6) (r:EdQ×Int) (h:rH x0=some r):
  FC Tryz.prog 190 [.agg (cC x0 q2).toArray] (bW x0 q2 []) (fun _:P6=>True) (fun q=>.tuple #[.agg (aI r.1 q).toArray,.int .i64 r.2]) (fun q=>(bW r.1 q [])):=
 by
  refine FC.of (T:=TTx) Tryz.call190 Tryz.func190 E E fun w0=>?_
  unfold rH at h
  refine aL aA 3 [] [7,8] [(1,.bp 7 0),(2,.bp 8 0)] (.new 7 46 (aI x0 q2) (.new 8 46 bF .nil)) ⟨(Es E),(Bs E E)⟩ E E (JS.seq (JS.region (aB aA 2 [] [] [(6,.v (.agg #[.slice q2.2.2.1 (Q8 x0).2.2.1.length q2.2.2.2.1]))] _ E ⟨⟨E,V⟩,E⟩ ?_)))
  refine bnw h fun y26 hy27 h=>JO.call E E E E (sG (Q8 x0).2.2.1 q2.2.2.1 q2.2.2.2.1 _ hy27) E [1] E E ?_
  rintro ⟨a28,c29⟩ -
  refine aB aA 1 [] [] [(4,.v (.slice a28 y26.length c29))] _ E ⟨⟨E,V⟩,E⟩ (aD E (JS.seq (aC aA 3 [(10,.v (.bool (decide ((y26.length:Int)=0))))] ⟨⟨E,V⟩,E⟩ E E ?_)))
  refine aK E h (fun h=>?_) (fun h=>?_)
  ·
   refine JS.seq (JS.region (aB aA 1 [] [] [(11,.v (.agg (aI x0 q2).toArray))] _ E ⟨⟨E,V⟩,E⟩ ?_))
   obtain ⟨⟨y30,y31⟩,hy32,h⟩:=aE h
   refine JO.call E E E E (fF x0 q2 _ hy32) E [0,1,2,3,4,5] E E fun q33 _=>aP aA 4 [] [] [(3,.v (I y31))] (.new 8 46 (aI y30 q33) .nil) E ⟨⟨E,V⟩,(Bs E E)⟩ (aD E ?_)
   cases h
   exact JS.ret aA q33 V E E [0,0,0,0,0,0] E
  refine JS.skip (JS.seq (JS.region (aB aA 2 [] [] [(15,.v (.agg (aI x0 q2).toArray)),(16,.v (.slice a28 y26.length c29))] _ E ⟨(Es E),E⟩ ?_)))
  obtain ⟨⟨y45,y46⟩,hy47,h⟩:=aE h
  refine JO.call E E E E (xX x0 y26 3 q2 a28 c29 _ hy47) E [0,1,2,3,4,5,6] E E fun q48 _=>aP aA 4 [] [] [(3,.v (I y46))] (.new 8 46 (aI y45 q48) .nil) E ⟨⟨E,V⟩,(Bs E E)⟩ (aD E ?_)
  cases h
  exact JS.ret aA q48 V E E [0,0,0,0,0,0] E

def rL (x0:EdQ) (x1:Int×List (List UInt8)) (x2:Int):Option (EdQ×Int):=
  (aG (rJ x0) fun (y32:Int)=>
  (bif (decide (x2=97)) then
  (aG (eF x0 0) fun (y34,y35)=>
  some (y34,y35))
  else
  (bif (decide (x2=101)) then
  (aG (eF x0 (x0.2.2.1.1.length:Int)) fun (y49,y50)=>
  some (y49,y50))
  else
  (bif (decide (x2=98)) then
  (aG (eF x0 (W (x0.2.2.1.2 - y32))) fun (y64,y65)=>
  some (y64,y65))
  else
  (bif (decide (x2=102)) then
  (aG (eF x0 (W (x0.2.2.1.2+y32))) fun (y79,y80)=>
  some (y79,y80))
  else
  (bif (decide (x2=112)) then
  (aG (iT x0 x1 (-1)) fun (y94,y95)=>
  some (y94,y95))
  else
  (bif (decide (x2=110)) then
  (aG (iT x0 x1 1) fun (y109,y110)=>
  some (y109,y110))
  else
  (bif (decide (x2=107)) then
  (aG (gF x0 x0.2.2.1.2 (x0.2.2.1.1.length:Int) 1) fun (y124,y125)=>
  some (y124,y125))
  else
  (bif (decide (x2=121)) then
  (aG (rH x0) fun (y139,y140)=>
  some (y139,y140))
  else
  (bif (decide (x2=116)) then
  (aG (pF x0.2.2.1) fun (y154,y155)=>
  (aG (dX x0 y154 y155 0) fun (y159,y160)=>
  some (y159,y160)))
  else
  (bif (decide (x2=95)) then
  (aG (rI x0) fun (y174,y175)=>
  some (y174,y175))
  else
  (bif (decide (x2=114)) then
  (aG (mU x0) fun (y189,y190)=>
  some (y189,y190))
  else
  (aG (dG x0) fun (y204,y205)=>
  some (y204,y205))))))))))))))

theorem aIi (x0:EdQ) (x1:Int×List (List UInt8)) (x2:Int) (q4:P6) (a28:Option Addr) (c29:Nat) (r:EdQ×Int) (h:rL x0 x1 x2=some r):
  FC Tryz.prog 111 [.agg (cC x0 q4).toArray,.agg #[.int .i64 x1.1,.slice a28 x1.2.length c29],.int .i64 x2] (bW x0 q4 [⟨.str,⟨a28,x1.2.length,c29⟩,x1.2⟩]) (fun _:P6=>True) (fun q=>.tuple #[.agg (aI r.1 q).toArray,.int .i64 r.2]) (fun q=>(bW r.1 q [])):=
 by
  refine FC.of (T:=TTx) Tryz.call111 Tryz.func111 E E fun w0=>?_
  unfold rL at h
  refine aL aA 4 [] [8,9,10] [(3,.bp 8 0),(4,.bp 9 0),(6,.bp 10 0)] (.new 8 46 (aI x0 q4) (.new 9 50 [.int .i64 x1.1,.slice a28 x1.2.length c29] (.new 10 46 bF .nil))) ⟨(Es E),(Bs E E)⟩ E E (JS.seq (JS.region (aB aA 1 [] [] [(12,.v (.agg (aI x0 q4).toArray))] _ E ⟨⟨E,V⟩,E⟩ ?_)))
  refine bnw h fun y32 hy33 h=>JO.call E E E E (zO x0 q4 _ hy33) E [0,1,2,3,4,5] E E fun _ _=>aB aA 1 [] [] [(8,.v (I y32))] _ E ⟨⟨E,V⟩,E⟩ (aD E (aC aA 5 [(9,.v (I (x0.2.2.1.1.length:Int)))] ⟨⟨E,V⟩,E⟩ E E (JS.seq (aC aA 1 [(18,.v (I x2))] ⟨⟨E,V⟩,E⟩ E E (JS.block (aC aA 2 [(19,.v (.bool (decide (x2=97))))] ⟨⟨E,V⟩,E⟩ E E ?_))))))
  refine aK E h (fun h=>?_) (fun h=>?_)
  ·
   refine JS.seq (JS.region (aB aA 1 [] [] [(21,.v (.agg (aI x0 q4).toArray))] _ E ⟨⟨E,V⟩,E⟩ ?_))
   obtain ⟨⟨y34,y35⟩,hy36,h⟩:=aE h
   refine JO.call E E E E (gW x0 0 q4 _ hy36) E [0,1,2,3,4,5] E E fun q37 _=>aP aA 4 [] [] [(7,.v (I y35))] (.new 10 46 (aI y34 q37) .nil) E ⟨⟨E,V⟩,(Bs E E)⟩ (aD E ?_)
   cases h
   exact JS.ret aA q37 V E E [0,0,0,0,0,0] E
  refine aC aA 2 [(25,.v (.bool (decide (x2=101))))] ⟨⟨E,V⟩,E⟩ E E ?_
  refine aK E h (fun h=>?_) (fun h=>?_)
  ·
   refine JS.seq (JS.region (aB aA 2 [] [] [(27,.v (.agg (aI x0 q4).toArray)),(28,.v (I (x0.2.2.1.1.length:Int)))] _ E ⟨(Es E),E⟩ ?_))
   obtain ⟨⟨y49,y50⟩,hy51,h⟩:=aE h
   refine JO.call E E E E (gW x0 (x0.2.2.1.1.length:Int) q4 _ hy51) E [0,1,2,3,4,5] E E fun q52 _=>aP aA 4 [] [] [(7,.v (I y50))] (.new 10 46 (aI y49 q52) .nil) E ⟨⟨E,V⟩,(Bs E E)⟩ (aD E ?_)
   cases h
   exact JS.ret aA q52 V E E [0,0,0,0,0,0] E
  refine aC aA 2 [(32,.v (.bool (decide (x2=98))))] ⟨⟨E,V⟩,E⟩ E E ?_
  refine aK E h (fun h=>?_) (fun h=>?_)
  ·
   refine JS.seq (JS.region (aB aA 6 [(W (x0.2.2.1.2 - y32))] [] [(34,.v (.agg (aI x0 q4).toArray)),(39,.v (I (W (x0.2.2.1.2 - y32))))] _ E ⟨⟨V,E⟩,(Es E),E⟩ ?_))
   obtain ⟨⟨y64,y65⟩,hy66,h⟩:=aE h
   refine JO.call E E E E (gW x0 (W (x0.2.2.1.2 - y32)) q4 _ hy66) E [0,1,2,3,4,5] E E fun q67 _=>aP aA 4 [] [] [(7,.v (I y65))] (.new 10 46 (aI y64 q67) .nil) E ⟨⟨E,V⟩,(Bs E E)⟩ (aD E ?_)
   cases h
   exact JS.ret aA q67 V E E [0,0,0,0,0,0] E
  refine aC aA 2 [(43,.v (.bool (decide (x2=102))))] ⟨⟨E,V⟩,E⟩ E E ?_
  refine aK E h (fun h=>?_) (fun h=>?_)
  ·
   refine JS.seq (JS.region (aB aA 6 [(W (x0.2.2.1.2+y32))] [] [(45,.v (.agg (aI x0 q4).toArray)),(50,.v (I (W (x0.2.2.1.2+y32))))] _ E ⟨⟨V,E⟩,(Es E),E⟩ ?_))
   obtain ⟨⟨y79,y80⟩,hy81,h⟩:=aE h
   refine JO.call E E E E (gW x0 (W (x0.2.2.1.2+y32)) q4 _ hy81) E [0,1,2,3,4,5] E E fun q82 _=>aP aA 4 [] [] [(7,.v (I y80))] (.new 10 46 (aI y79 q82) .nil) E ⟨⟨E,V⟩,(Bs E E)⟩ (aD E ?_)
   cases h
   exact JS.ret aA q82 V E E [0,0,0,0,0,0] E
  refine aC aA 2 [(54,.v (.bool (decide (x2=112))))] ⟨⟨E,V⟩,E⟩ E E ?_
  refine aK E h (fun h=>?_) (fun h=>?_)
  ·
   refine JS.seq (JS.region (aB aA 2 [] [] [(56,.v (.agg (aI x0 q4).toArray)),(57,.v (.agg #[.int .i64 x1.1,.slice a28 x1.2.length c29]))] _ E ⟨(Es E),E⟩ ?_))
   obtain ⟨⟨y94,y95⟩,hy96,h⟩:=aE h
   refine JO.call E E E E (sF x0 x1 (-1) q4 a28 c29 _ hy96) E [0,1,2,3,4,5,6] E E fun q97 _=>aP aA 4 [] [] [(7,.v (I y95))] (.new 10 46 (aI y94 q97) .nil) E ⟨⟨E,V⟩,(Bs E E)⟩ (aD E ?_)
   cases h
   exact JS.ret aA q97 V E E [0,0,0,0,0,0] E
  refine aC aA 2 [(61,.v (.bool (decide (x2=110))))] ⟨⟨E,V⟩,E⟩ E E ?_
  refine aK E h (fun h=>?_) (fun h=>?_)
  ·
   refine JS.seq (JS.region (aB aA 2 [] [] [(63,.v (.agg (aI x0 q4).toArray)),(64,.v (.agg #[.int .i64 x1.1,.slice a28 x1.2.length c29]))] _ E ⟨(Es E),E⟩ ?_))
   obtain ⟨⟨y109,y110⟩,hy111,h⟩:=aE h
   refine JO.call E E E E (sF x0 x1 1 q4 a28 c29 _ hy111) E [0,1,2,3,4,5,6] E E fun q112 _=>aP aA 4 [] [] [(7,.v (I y110))] (.new 10 46 (aI y109 q112) .nil) E ⟨⟨E,V⟩,(Bs E E)⟩ (aD E ?_)
   cases h
   exact JS.ret aA q112 V E E [0,0,0,0,0,0] E
  refine aC aA 2 [(68,.v (.bool (decide (x2=107))))] ⟨⟨E,V⟩,E⟩ E E ?_
  refine aK E h (fun h=>?_) (fun h=>?_)
  ·
   refine JS.seq (JS.region (aB aA 5 [] [] [(70,.v (.agg (aI x0 q4).toArray)),(73,.v (I x0.2.2.1.2)),(74,.v (I (x0.2.2.1.1.length:Int)))] _ E ⟨(Es E),E⟩ ?_))
   obtain ⟨⟨y124,y125⟩,hy126,h⟩:=aE h
   refine JO.call E E E E (oR x0 x0.2.2.1.2 (x0.2.2.1.1.length:Int) 1 q4 _ hy126) E [0,1,2,3,4,5] E E fun q127 _=>aP aA 4 [] [] [(7,.v (I y125))] (.new 10 46 (aI y124 q127) .nil) E ⟨⟨E,V⟩,(Bs E E)⟩ (aD E ?_)
   cases h
   exact JS.ret aA q127 V E E [0,0,0,0,0,0] E
  refine aC aA 2 [(78,.v (.bool (decide (x2=121))))] ⟨⟨E,V⟩,E⟩ E E ?_
  refine aK E h (fun h=>?_) (fun h=>?_)
  ·
   refine JS.seq (JS.region (aB aA 1 [] [] [(80,.v (.agg (aI x0 q4).toArray))] _ E ⟨⟨E,V⟩,E⟩ ?_))
   obtain ⟨⟨y139,y140⟩,hy141,h⟩:=aE h
   refine JO.call E E E E (aIf x0 q4 _ hy141) E [0,1,2,3,4,5] E E fun q142 _=>aP aA 4 [] [] [(7,.v (I y140))] (.new 10 46 (aI y139 q142) .nil) E ⟨⟨E,V⟩,(Bs E E)⟩ (aD E ?_)
   cases h
   exact JS.ret aA q142 V E E [0,0,0,0,0,0] E
  refine aC aA 2 [(84,.v (.bool (decide (x2=116))))] ⟨⟨E,V⟩,E⟩ E E ?_
  refine aK E h (fun h=>?_) (fun h=>?_)
  ·
   refine JS.seq (JS.region (aB aA 2 [] [] [(88,.v (.agg #[.slice q4.1 x0.2.2.1.1.length q4.2.1,.int .i64 x0.2.2.1.2]))] _ E ⟨⟨E,V⟩,E⟩ ?_))
   obtain ⟨⟨y154,y155⟩,hy156,h⟩:=aE h
   refine JO.call E E E E (aGj x0.2.2.1 q4.1 q4.2.1 _ hy156) E [0] E E ?_
   rintro ⟨a157,c158⟩ -
   refine aP aA 6 [] [187] [(10,.bp 187 0),(11,.v (.bool y155))] (.new 8 46 (aI x0 q4) (.new 10 46 bF (.new 187 38 [.slice a157 y154.1.length c158,.int .i64 y154.2] .nil))) E ⟨(Es E),(Bs E E)⟩ (aD E (JS.seq (JS.region (aB aA 3 [] [] [(92,.v (.agg (aI x0 q4).toArray)),(93,.v (.agg #[.slice a157 y154.1.length c158,.int .i64 y154.2])),(94,.v (.bool y155))] _ E ⟨(Es E),E⟩ ?_))))
   obtain ⟨⟨y159,y160⟩,hy161,h⟩:=aE h
   refine JO.call E E E E (kK x0 y154 y155 0 q4 a157 c158 _ hy161) E [0,1,2,3,4,5,7] E E fun q162 _=>aP aA 4 [] [] [(7,.v (I y160))] (.new 10 46 (aI y159 q162) .nil) E ⟨⟨E,V⟩,(Bs E E)⟩ (aD E ?_)
   cases h
   exact JS.ret aA q162 V E E [0,0,0,0,0,0] E
  refine aC aA 2 [(98,.v (.bool (decide (x2=95))))] ⟨⟨E,V⟩,E⟩ E E ?_
  refine aK E h (fun h=>?_) (fun h=>?_)
  ·
   refine JS.seq (JS.region (aB aA 1 [] [] [(100,.v (.agg (aI x0 q4).toArray))] _ E ⟨⟨E,V⟩,E⟩ ?_))
   obtain ⟨⟨y174,y175⟩,hy176,h⟩:=aE h
   refine JO.call E E E E (aIg x0 q4 _ hy176) E [0,1,2,3,4,5] E E fun q177 _=>aP aA 4 [] [] [(7,.v (I y175))] (.new 10 46 (aI y174 q177) .nil) E ⟨⟨E,V⟩,(Bs E E)⟩ (aD E ?_)
   cases h
   exact JS.ret aA q177 V E E [0,0,0,0,0,0] E
  refine aC aA 2 [(104,.v (.bool (decide (x2=114))))] ⟨⟨E,V⟩,E⟩ E E ?_
  refine aK E h (fun h=>?_) (fun h=>?_)
  ·
   refine JS.seq (JS.region (aB aA 1 [] [] [(106,.v (.agg (aI x0 q4).toArray))] _ E ⟨⟨E,V⟩,E⟩ ?_))
   obtain ⟨⟨y189,y190⟩,hy191,h⟩:=aE h
   refine JO.call E E E E (aEr x0 q4 _ hy191) E [0,1,2,3,4,5] E E fun q192 _=>aP aA 4 [] [] [(7,.v (I y190))] (.new 10 46 (aI y189 q192) .nil) E ⟨⟨E,V⟩,(Bs E E)⟩ (aD E ?_)
   cases h
   exact JS.ret aA q192 V E E [0,0,0,0,0,0] E
  refine JS.skip (aZ (JS.seq (JS.region (aB aA 1 [] [] [(110,.v (.agg (aI x0 q4).toArray))] _ E ⟨⟨E,V⟩,E⟩ ?_))))
  obtain ⟨⟨y204,y205⟩,hy206,h⟩:=aE h
  refine JO.call E E E E (fF x0 q4 _ hy206) E [0,1,2,3,4,5] E E fun q207 _=>aP aA 4 [] [] [(7,.v (I y205))] (.new 10 46 (aI y204 q207) .nil) E ⟨⟨E,V⟩,(Bs E E)⟩ (aD E ?_)
  cases h
  exact JS.ret aA q207 V E E [0,0,0,0,0,0] E

def jM (x0:List Int) (j28:Int→Option Int) (k19:Int→Option Int):Int→Option Int:=fun x9=>
  (aN (((decide (0<x9))=true)→0≤(W (x9 - 1))∧(W (x9 - 1))<(x0.length:Int)) <|
  (bU ((decide (0<x9))=true) (fM (at' x0 (W (x9 - 1)))) (0:Int) fun (y15:Int)=>
  (bif (bif (decide (0<x9)) then (!(decide (y15=1))) else false) then
  k19 (W (x9 - 1))
  else
  j28 x9)))

def jL (x0:List Int) (j54:Int→Option Int) (k45:Int→Option Int):Int→Option Int:=fun x35=>
  (aN (((decide (0<x35))=true)→0≤(W (x35 - 1))∧(W (x35 - 1))<(x0.length:Int)) <|
  (bU ((decide (0<x35))=true) (fM (at' x0 (W (x35 - 1)))) (0:Int) fun (y41:Int)=>
  (bif (bif (decide (0<x35)) then (decide (y41=1)) else false) then
  k45 (W (x35 - 1))
  else
  j54 x35)))

def pB (x0:List Int) (x1:Int):Option Int:=
  (aG (dA x1 (x0.length:Int)) fun (y7:Int)=>
  (aU (fun (x27:Int)=>
  (aU (fun (x53:Int)=>
  some x53) fun j54=>
  (bC (jL x0 j54) bM x27))) fun j28=>
  (bC (jM x0 j28) bM y7)))

theorem aGe (x0:List Int) (x1:Int) (a3:Option Addr) (c4:Nat) (r:Int) (h:pB x0 x1=some r):
  FC Tryz.prog 189 [.slice a3 x0.length c4,.int .i64 x1] [⟨(.int .i64),⟨a3,x0.length,c4⟩,x0⟩] (fun _:Unit=>True) (fun _=>.int .i64 r) (fun _=>[]):=
 by
  refine FC.of (T:=TTx) Tryz.call189 Tryz.func189 E E fun w0=>?_
  unfold pB at h
  refine aC aA 1 [] ⟨V,E⟩ E E (JS.seq (JS.region (aB aA 3 [] [] [(5,.v (I x1)),(7,.v (I (x0.length:Int)))] _ E ⟨(Es E),E⟩ ?_)))
  refine bnw h fun y7 hy8 h=>JO.call E E E E (cE x1 (x0.length:Int) _ hy8) E [] E E fun _ _=>aB aA 1 [] [] [(1,.v (I y7))] _ E ⟨⟨E,V⟩,E⟩ (aD E (JS.seq ?_))
  obtain ⟨j28,hj76,h⟩:=aQ h
  refine bA (ι:=Int) ⟨fun z=>j28 z=some r,fun z=>[(0,.v (.slice a3 x0.length c4)),(1,.v (I z))],fun z=>.nil,fun z=>[⟨(.int .i64),⟨a3,x0.length,c4⟩,x0⟩],fun z=>[],fun z=>0⟩ ?_ ?_
  ·
   refine JS.loop (ι:=Nat×Int) ⟨fun z=>bC (jM x0 j28) z.1 z.2=some r,fun z=>[(0,.v (.slice a3 x0.length c4)),(1,.v (I z.2))],fun z=>.nil,fun z=>[⟨(.int .i64),⟨a3,x0.length,c4⟩,x0⟩],fun z=>[],fun z=>z.1⟩ (bM,y7) h (Es E) V [0] E [] E ?_
   rintro ⟨n20,x9⟩ h
   obtain ⟨n20,rfl,h⟩:=bH h
   rw [jM] at h
   refine JS.seq (JS.seq (JS.region (bJ 0 E fun hs64=>?_)))
   obtain ⟨g12,h⟩:=aH h
   refine aB aA 7 [(W (x9 - 1))] [] [(11,.v (.bool (decide (0<x9)))),(15,.cd [(11,true)] (.ep ⟨a3,x0.length,c4⟩ (Int.toNat (W (x9 - 1))*1)))] _ E ⟨(fun q63=>⟨V,E⟩),(fun q65=>hs64.ix (g12 q65)),(Es E),E⟩ (JO.load aA E E E E E E E 0 E E (Int.toNat (W (x9 - 1))) 0 (at' x0 (W (x9 - 1))) (fun q66=>⟨bD (g12 q66),E⟩) E E ?_)
   obtain ⟨y15,hy16,-,h⟩:=aV h
   refine bI E E E E (fun q67=>oT (at' x0 (W (x9 - 1))) _ (hy16 q67)) E [] E E (aB aA 2 [] [] [(19,.v (.bool (bif (decide (0<x9)) then (!(decide (y15=1))) else false)))] _ E ⟨⟨E,V⟩,E⟩ (aD E ?_))
   refine aK E h (fun h=>?_) (fun h=>?_)
   ·
    refine JS.skip (JS.block (bZ aA 3 [(W (x9 - 1))] [] [(1,.v (I (W (x9 - 1))))] _ ⟨⟨V,E⟩,⟨E,V⟩,E⟩ E E (aZ (bQ (n20,(W (x9 - 1))) h (Nat.lt_succ_self _) (Es E) V [0] E [] E))))
   refine JS.exit E (aT x9 h (Es E) V [0] E [] E)
  rintro x27 h
  subst hj76
  refine JS.seq ?_
  obtain ⟨j54,hj75,h⟩:=aQ h
  refine bA (ι:=Int) ⟨fun z=>j54 z=some r,fun z=>[(1,.v (I z))],fun z=>.nil,fun z=>[],fun z=>[],fun z=>0⟩ ?_ ?_
  ·
   refine JS.loop (ι:=Nat×Int) ⟨fun z=>bC (jL x0 j54) z.1 z.2=some r,fun z=>[(0,.v (.slice a3 x0.length c4)),(1,.v (I z.2))],fun z=>.nil,fun z=>[⟨(.int .i64),⟨a3,x0.length,c4⟩,x0⟩],fun z=>[],fun z=>z.1⟩ (bM,x27) h (Es E) V [0] E [] E ?_
   rintro ⟨n46,x35⟩ h
   obtain ⟨n46,rfl,h⟩:=bH h
   rw [jL] at h
   refine JS.seq (JS.seq (JS.region (bJ 0 E fun hs70=>?_)))
   obtain ⟨g38,h⟩:=aH h
   refine aB aA 7 [(W (x35 - 1))] [] [(24,.v (.bool (decide (0<x35)))),(28,.cd [(24,true)] (.ep ⟨a3,x0.length,c4⟩ (Int.toNat (W (x35 - 1))*1)))] _ E ⟨(fun q69=>⟨V,E⟩),(fun q71=>hs70.ix (g38 q71)),(Es E),E⟩ (JO.load aA E E E E E E E 0 E E (Int.toNat (W (x35 - 1))) 0 (at' x0 (W (x35 - 1))) (fun q72=>⟨bD (g38 q72),E⟩) E E ?_)
   obtain ⟨y41,hy42,-,h⟩:=aV h
   refine bI E E E E (fun q73=>oT (at' x0 (W (x35 - 1))) _ (hy42 q73)) E [] E E (aB aA 2 [] [] [(32,.v (.bool (bif (decide (0<x35)) then (decide (y41=1)) else false)))] _ E ⟨⟨E,V⟩,E⟩ (aD E ?_))
   refine aK E h (fun h=>?_) (fun h=>?_)
   ·
    refine JS.skip (JS.block (bZ aA 3 [(W (x35 - 1))] [] [(1,.v (I (W (x35 - 1))))] _ ⟨⟨V,E⟩,⟨E,V⟩,E⟩ E E (aZ (bQ (n46,(W (x35 - 1))) h (Nat.lt_succ_self _) (Es E) V [0] E [] E))))
   refine JS.exit E (aT x35 h ⟨E,V⟩ V [] E [] E)
  rintro x53 h
  subst hj75
  refine aC aA 2 [(4,.v (I x53))] ⟨⟨E,V⟩,E⟩ E E ?_
  cases h
  exact JS.ret aA () V E E [] E

def mW (x0:List Int) (j26:Int→Option Int) (k18:Int→Option Int):Int→Option Int:=fun x9=>
  (aN (((decide (x9<(x0.length:Int)))=true)→0≤x9∧x9<(x0.length:Int)) <|
  (bU ((decide (x9<(x0.length:Int)))=true) (fM (at' x0 x9)) (0:Int) fun (y14:Int)=>
  (bif (bif (decide (x9<(x0.length:Int))) then (!(decide (y14=1))) else false) then
  k18 (W (x9+1))
  else
  j26 x9)))

def mV (x0:List Int) (j49:Int→Option Int) (k41:Int→Option Int):Int→Option Int:=fun x32=>
  (aN (((decide (x32<(x0.length:Int)))=true)→0≤x32∧x32<(x0.length:Int)) <|
  (bU ((decide (x32<(x0.length:Int)))=true) (fM (at' x0 x32)) (0:Int) fun (y37:Int)=>
  (bif (bif (decide (x32<(x0.length:Int))) then (decide (y37=1)) else false) then
  k41 (W (x32+1))
  else
  j49 x32)))

def tP (x0:List Int) (x1:Int):Option Int:=
  (aG (dA x1 (x0.length:Int)) fun (y7:Int)=>
  (aU (fun (x25:Int)=>
  (aU (fun (x48:Int)=>
  some x48) fun j49=>
  (bC (mV x0 j49) bM x25))) fun j26=>
  (bC (mW x0 j26) bM y7)))

theorem aKf (x0:List Int) (x1:Int) (a3:Option Addr) (c4:Nat) (r:Int) (h:tP x0 x1=some r):
  FC Tryz.prog 188 [.slice a3 x0.length c4,.int .i64 x1] [⟨(.int .i64),⟨a3,x0.length,c4⟩,x0⟩] (fun _:Unit=>True) (fun _=>.int .i64 r) (fun _=>[]):=
 by
  refine FC.of (T:=TTx) Tryz.call188 Tryz.func188 E E fun w0=>?_
  unfold tP at h
  refine aC aA 1 [] ⟨V,E⟩ E E (JS.seq (JS.region (aB aA 3 [] [] [(5,.v (I x1)),(7,.v (I (x0.length:Int)))] _ E ⟨(Es E),E⟩ ?_)))
  refine bnw h fun y7 hy8 h=>JO.call E E E E (cE x1 (x0.length:Int) _ hy8) E [] E E fun _ _=>aB aA 1 [] [] [(1,.v (I y7))] _ E ⟨⟨E,V⟩,E⟩ (aD E (JS.seq ?_))
  obtain ⟨j26,hj68,h⟩:=aQ h
  refine bA (ι:=Int) ⟨fun z=>j26 z=some r,fun z=>[(0,.v (.slice a3 x0.length c4)),(1,.v (I z))],fun z=>.nil,fun z=>[⟨(.int .i64),⟨a3,x0.length,c4⟩,x0⟩],fun z=>[],fun z=>0⟩ ?_ ?_
  ·
   refine JS.loop (ι:=Nat×Int) ⟨fun z=>bC (mW x0 j26) z.1 z.2=some r,fun z=>[(0,.v (.slice a3 x0.length c4)),(1,.v (I z.2))],fun z=>.nil,fun z=>[⟨(.int .i64),⟨a3,x0.length,c4⟩,x0⟩],fun z=>[],fun z=>z.1⟩ (bM,y7) h (Es E) V [0] E [] E ?_
   rintro ⟨n19,x9⟩ h
   obtain ⟨n19,rfl,h⟩:=bH h
   rw [mW] at h
   refine JS.seq (JS.seq (JS.region (bJ 0 E fun hs57=>?_)))
   obtain ⟨g11,h⟩:=aH h
   refine aB aA 8 [] [] [(13,.v (.bool (decide (x9<(x0.length:Int))))),(16,.cd [(13,true)] (.ep ⟨a3,x0.length,c4⟩ (Int.toNat x9*1)))] _ E ⟨(fun q58=>hs57.ix (g11 q58)),(Es E),E⟩ (JO.load aA E E E E E E E 0 E E (Int.toNat x9) 0 (at' x0 x9) (fun q59=>⟨bD (g11 q59),E⟩) E E ?_)
   obtain ⟨y14,hy15,-,h⟩:=aV h
   refine bI E E E E (fun q60=>oT (at' x0 x9) _ (hy15 q60)) E [] E E (aB aA 2 [] [] [(20,.v (.bool (bif (decide (x9<(x0.length:Int))) then (!(decide (y14=1))) else false)))] _ E ⟨⟨E,V⟩,E⟩ (aD E ?_))
   refine aK E h (fun h=>?_) (fun h=>?_)
   ·
    refine JS.skip (JS.block (bZ aA 3 [(W (x9+1))] [] [(1,.v (I (W (x9+1))))] _ ⟨⟨V,E⟩,⟨E,V⟩,E⟩ E E (aZ (bQ (n19,(W (x9+1))) h (Nat.lt_succ_self _) (Es E) V [0] E [] E))))
   refine JS.exit E (aT x9 h (Es E) V [0] E [] E)
  rintro x25 h
  subst hj68
  refine JS.seq ?_
  obtain ⟨j49,hj67,h⟩:=aQ h
  refine bA (ι:=Int) ⟨fun z=>j49 z=some r,fun z=>[(1,.v (I z))],fun z=>.nil,fun z=>[],fun z=>[],fun z=>0⟩ ?_ ?_
  ·
   refine JS.loop (ι:=Nat×Int) ⟨fun z=>bC (mV x0 j49) z.1 z.2=some r,fun z=>[(0,.v (.slice a3 x0.length c4)),(1,.v (I z.2))],fun z=>.nil,fun z=>[⟨(.int .i64),⟨a3,x0.length,c4⟩,x0⟩],fun z=>[],fun z=>z.1⟩ (bM,x25) h (Es E) V [0] E [] E ?_
   rintro ⟨n42,x32⟩ h
   obtain ⟨n42,rfl,h⟩:=bH h
   rw [mV] at h
   refine JS.seq (JS.seq (JS.region (bJ 0 E fun hs62=>?_)))
   obtain ⟨g34,h⟩:=aH h
   refine aB aA 8 [] [] [(27,.v (.bool (decide (x32<(x0.length:Int))))),(30,.cd [(27,true)] (.ep ⟨a3,x0.length,c4⟩ (Int.toNat x32*1)))] _ E ⟨(fun q63=>hs62.ix (g34 q63)),(Es E),E⟩ (JO.load aA E E E E E E E 0 E E (Int.toNat x32) 0 (at' x0 x32) (fun q64=>⟨bD (g34 q64),E⟩) E E ?_)
   obtain ⟨y37,hy38,-,h⟩:=aV h
   refine bI E E E E (fun q65=>oT (at' x0 x32) _ (hy38 q65)) E [] E E (aB aA 2 [] [] [(34,.v (.bool (bif (decide (x32<(x0.length:Int))) then (decide (y37=1)) else false)))] _ E ⟨⟨E,V⟩,E⟩ (aD E ?_))
   refine aK E h (fun h=>?_) (fun h=>?_)
   ·
    refine JS.skip (JS.block (bZ aA 3 [(W (x32+1))] [] [(1,.v (I (W (x32+1))))] _ ⟨⟨V,E⟩,⟨E,V⟩,E⟩ E E (aZ (bQ (n42,(W (x32+1))) h (Nat.lt_succ_self _) (Es E) V [0] E [] E))))
   refine JS.exit E (aT x32 h ⟨E,V⟩ V [] E [] E)
  rintro x48 h
  subst hj67
  refine aC aA 2 [(4,.v (I x48))] ⟨⟨E,V⟩,E⟩ E E ?_
  cases h
  exact JS.ret aA () V E E [] E

def kP (x0:EdQ) (x1:Int) (x2:Bool) (j82:Int→Option Int) (k76:(Int×Int)→Option Int):(Int×Int)→Option Int:=fun (x28,x29)=>
  (bif (decide (x29<x1)) then
  (aU (fun (x67:Int)=>
  k76 (x67,(W (x29+1)))) fun j68=>
  (bif x2 then
  (aG (tP x0.2.2.1.1 x28) fun (y62:Int)=>
  j68 y62)
  else
  (aG (pB x0.2.2.1.1 x28) fun (y64:Int)=>
  j68 y64)))
  else
  j82 x28)

def gE (x0:EdQ) (x1:Int) (x2:Bool):Option Int:=
  (aU (fun (x81:Int)=>
  some x81) fun j82=>
  (bC (kP x0 x1 x2 j82) bM (x0.2.2.1.2,0)))

theorem lY (x0:EdQ) (x1:Int) (x2:Bool) (q4:P6) (r:Int) (h:gE x0 x1 x2=some r):
  FC Tryz.prog 109 [.agg (cC x0 q4).toArray,.int .i64 x1,.bool x2] (bW x0 q4 []) (fun _:Unit=>True) (fun _=>.int .i64 r) (fun _=>[]):=
 by
  refine FC.of (T:=TTx) Tryz.call109 Tryz.func109 E E fun w0=>?_
  unfold gE at h
  refine aL aA 2 [] [7] [(3,.bp 7 0)] (.new 7 46 (aI x0 q4) .nil) ⟨⟨E,V⟩,(Bs E E)⟩ E E (aC aA 4 [(7,.v (I x0.2.2.1.2))] ⟨⟨E,V⟩,E⟩ E E (JS.seq (aC aA 1 [(8,.v (I 0))] ⟨⟨E,V⟩,E⟩ E E ?_)))
  obtain ⟨j82,hj90,h⟩:=aQ h
  refine bA (ι:=Int) ⟨fun z=>j82 z=some r,fun z=>[(7,.v (I z))],fun z=>.nil,fun z=>[],fun z=>[],fun z=>0⟩ ?_ ?_
  ·
   refine JS.loop (ι:=Nat×Int×Int) ⟨fun z=>bC (kP x0 x1 x2 j82) z.1 z.2=some r,fun z=>[(1,.v (I x1)),(2,.v (.bool x2)),(3,.bp 7 0),(7,.v (I z.2.1)),(8,.v (I z.2.2))],fun z=>(.new 7 46 (aI x0 q4) .nil),fun z=>(bW x0 q4 []),fun z=>[],fun z=>z.1⟩ (bM,x0.2.2.1.2,0) h (Es E) (Bs E E) [0,1,2,3,4,5] E [] E ?_
   rintro ⟨n77,x28,x29⟩ h
   obtain ⟨n77,rfl,h⟩:=bH h
   rw [kP] at h
   refine JS.seq (aC aA 3 [(14,.v (.bool (decide (x29<x1))))] ⟨⟨E,V⟩,E⟩ E E ?_)
   refine aK E h (fun h=>?_) (fun h=>?_)
   ·
    refine JS.skip (JS.seq ?_)
    obtain ⟨j68,hj88,h⟩:=aQ h
    refine bA (ι:=Int) ⟨fun z=>j68 z=some r,fun z=>[(1,.v (I x1)),(2,.v (.bool x2)),(3,.bp 7 0),(7,.v (I z)),(8,.v (I x29))],fun z=>(.new 7 46 (aI x0 q4) .nil),fun z=>(bW x0 q4 []),fun z=>[],fun z=>0⟩ ?_ ?_
    ·
     refine aC aA 1 [(17,.v (.bool x2))] ⟨⟨E,V⟩,E⟩ E E ?_
     refine aK E h (fun h=>?_) (fun h=>?_)
     ·
      refine JS.region (aB aA 4 [] [] [(20,.v (.slice q4.1 x0.2.2.1.1.length q4.2.1)),(21,.v (I x28))] _ E ⟨(Es E),E⟩ ?_)
      obtain ⟨y62,hy63,h⟩:=aE h
      refine JO.call E E E E (aKf x0.2.2.1.1 x28 q4.1 q4.2.1 _ hy63) E [0] E E fun _ _=>aB aA 1 [] [] [(7,.v (I y62))] _ E ⟨⟨E,V⟩,E⟩ (aD E (aZ (aT y62 h (Es E) (Bs E E) [0,1,2,3,4,5] E [] E)))
     refine JS.region (aB aA 4 [] [] [(25,.v (.slice q4.1 x0.2.2.1.1.length q4.2.1)),(26,.v (I x28))] _ E ⟨(Es E),E⟩ ?_)
     obtain ⟨y64,hy65,h⟩:=aE h
     refine JO.call E E E E (aGe x0.2.2.1.1 x28 q4.1 q4.2.1 _ hy65) E [0] E E fun _ _=>aB aA 1 [] [] [(7,.v (I y64))] _ E ⟨⟨E,V⟩,E⟩ (aD E (aZ (aT y64 h (Es E) (Bs E E) [0,1,2,3,4,5] E [] E)))
    rintro x67 h
    subst hj88
    refine bZ aA 3 [(W (x29+1))] [] [(8,.v (I (W (x29+1))))] _ ⟨⟨V,E⟩,⟨E,V⟩,E⟩ E E (bQ (n77,x67,(W (x29+1))) h (Nat.lt_succ_self _) (Es E) (Bs E E) [0,1,2,3,4,5] E [] E)
   refine JS.exit E (aT x28 h ⟨E,V⟩ V [] E [] E)
  rintro x81 h
  subst hj90
  refine aC aA 2 [(6,.v (I x81))] ⟨⟨E,V⟩,E⟩ E E ?_
  cases h
  exact JS.ret aA () V E E [] E

def jN (x2:Int) (x3:Int) (j104:(List Int)→Option ((List Int×Int)×Bool)) (k87:(List Int×Bool×Int)→Option ((List Int×Int)×Bool)):(List Int×Bool×Int)→Option ((List Int×Int)×Bool):=fun (x15,x18,x19)=>
  (bif (decide (x19<x2)) then
  (aU (fun ((x47,x50):List Int×Bool)=>
  k87 (x47,x50,(W (x19+1)))) fun j51=>
  (aN (0≤x19∧x19<(x15.length:Int)) <|
  (aN (((decide (97≤(at' x15 x19)))=true)→0≤x19∧x19<(x15.length:Int)) <|
  (aN (0≤x19∧x19<(x15.length:Int)) <|
  (aN (((decide (65≤(at' x15 x19)))=true)→0≤x19∧x19<(x15.length:Int)) <|
  (bif (bif (!(bif (decide (97≤(at' x15 x19))) then (decide ((at' x15 x19)≤122)) else false)) then (!(bif (decide (65≤(at' x15 x19))) then (decide ((at' x15 x19)≤90)) else false)) else false) then
  j51 (x15,x18)
  else
  (aU (fun (x36:List Int)=>
  (bif (bif (!(bif (decide (x3=1)) then true else (bif (decide (x3=2)) then x18 else false))) then (bif (decide (65≤(at' x15 x19))) then (decide ((at' x15 x19)≤90)) else false) else false) then
  (aN (0≤x19∧x19<(x36.length:Int)) <|
  (aN (0≤x19∧x19<(x36.length:Int)) <|
  j51 ((List.set x36 (Int.toNat x19) (W ((at' x36 x19)+32))),false)))
  else
  j51 (x36,false))) fun j39=>
  (bif (bif (bif (decide (x3=1)) then true else (bif (decide (x3=2)) then x18 else false)) then (bif (decide (97≤(at' x15 x19))) then (decide ((at' x15 x19)≤122)) else false) else false) then
  (aN (0≤x19∧x19<(x15.length:Int)) <|
  (aN (0≤x19∧x19<(x15.length:Int)) <|
  j39 (List.set x15 (Int.toNat x19) (W ((at' x15 x19) - 32)))))
  else
  j39 x15))))))))
  else
  j104 x15)

def pG (x0:List Int×Int) (x1:Int) (x2:Int) (x3:Int):Option ((List Int×Int)×Bool):=
  (aG (oI x0 x1 x2) fun (y9:Bool)=>
  (bif (bif (bif (!y9) then true else (decide (x3<0))) then true else (decide (2<x3))) then
  some (([],0),false)
  else
  (aG (cW x0.1 ([]:List Int) ([]:List Int)) fun (y11:List Int)=>
  (aU (fun (x101:List Int)=>
  some ((x101,x2),true)) fun j104=>
  (bC (jN x2 x3 j104) bM (y11,true,x1))))))

theorem uZ (x0:List Int×Int) (x1:Int) (x2:Int) (x3:Int) (a5:Option Addr) (c6:Nat) (r:(List Int×Int)×Bool) (h:pG x0 x1 x2 x3=some r):
  FC Tryz.prog 252 [.agg #[.slice a5 x0.1.length c6,.int .i64 x0.2],.int .i64 x1,.int .i64 x2,.int .i64 x3] [⟨(.int .i64),⟨a5,x0.1.length,c6⟩,x0.1⟩] (fun _:Option Addr×Nat=>True) (fun q=>.tuple #[.agg #[.slice q.1 r.1.1.length q.2,.int .i64 r.1.2],.bool r.2]) (fun q=>[⟨(.int .i64),⟨q.1,r.1.1.length,q.2⟩,r.1.1⟩]):=
 by
  refine FC.of (T:=TTx) Tryz.call252 Tryz.func252 E E fun w0=>?_
  unfold pG at h
  refine aL aA 3 [] [2,3] [(4,.bp 2 0),(8,.bp 3 0)] (.new 2 38 [.slice a5 x0.1.length c6,.int .i64 x0.2] (.new 3 38 [.slice none 0 0,.int .i64 0] .nil)) ⟨(Es E),(Bs E E)⟩ E E (JS.seq (JS.seq (JS.region (aB aA 3 [] [] [(16,.v (.agg #[.slice a5 x0.1.length c6,.int .i64 x0.2])),(17,.v (I x1)),(18,.v (I x2))] _ E ⟨(Es E),E⟩ ?_))))
  refine bnw h fun y9 hy10 h=>JO.call E E E E (aBo x0 x1 x2 a5 c6 _ hy10) E [0] E E fun _ _=>aB aA 9 [] [] [(28,.v (.bool (bif (bif (!y9) then true else (decide (x3<0))) then true else (decide (2<x3)))))] _ E ⟨⟨E,V⟩,E⟩ (aD E ?_)
  refine aK E h (fun h=>?_) (fun h=>?_)
  ·
   refine aL aA 3 [] [] [(9,.v (.bool false))] (.new 3 38 [.slice none 0 0,.int .i64 0] .nil) ⟨⟨E,V⟩,(Bs E E)⟩ E E ?_
   cases h
   refine aX (.int .i64) Sl.nil E E (JS.ret aA (none,0) V E E [0] E)
  refine JS.skip (JS.seq (JS.region (aB aA 2 [] [] [(31,.v (.slice a5 x0.1.length c6))] _ E ⟨⟨E,V⟩,E⟩ ?_)))
  refine bnw h fun y11 hy12 h=>zU (.int .i64) Sl.nil E E (zU (.int .i64) Sl.nil E E (JO.call E E E E (fH x0.1 ([]:List Int) ([]:List Int) a5 c6 none 0 none 0 _ hy12) E [2,1,0] E E ?_))
  rintro ⟨a13,c14⟩ -
  refine aB aA 1 [] [] [(10,.v (.slice a13 y11.length c14))] _ E ⟨⟨E,V⟩,E⟩ (aD E (aC aA 1 [(11,.v (.bool true))] ⟨⟨E,V⟩,E⟩ E E (JS.seq (aC aA 2 [(12,.v (I x1))] ⟨⟨E,V⟩,E⟩ E E ?_))))
  obtain ⟨j104,hj131,h⟩:=aQ h
  refine bA (ι:=List Int×Option Addr×Nat) ⟨fun z=>j104 z.1=some r,fun z=>[(2,.v (I x2)),(8,.bp 3 0),(10,.v (.slice z.2.1 z.1.length z.2.2))],fun z=>(.new 3 38 [.slice none 0 0,.int .i64 0] .nil),fun z=>[],fun z=>[⟨(.int .i64),⟨z.2.1,z.1.length,z.2.2⟩,z.1⟩],fun z=>0⟩ ?_ ?_
  ·
   refine JS.loop (ι:=Nat×List Int×Bool×Int×Option Addr×Nat) ⟨fun z=>bC (jN x2 x3 j104) z.1 (z.2.1,z.2.2.1,z.2.2.2.1)=some r,fun z=>[(2,.v (I x2)),(3,.v (I x3)),(8,.bp 3 0),(10,.v (.slice (Q4 z).1 z.2.1.length (Q4 z).2)),(11,.v (.bool z.2.2.1)),(12,.v (I z.2.2.2.1))],fun z=>(.new 3 38 [.slice none 0 0,.int .i64 0] .nil),fun z=>[],fun z=>[⟨(.int .i64),⟨(Q4 z).1,z.2.1.length,(Q4 z).2⟩,z.2.1⟩],fun z=>z.1⟩ (bM,y11,true,x1,a13,c14) h (Es E) (Bs E E) [] E [0] E ?_
   rintro ⟨n88,x15,x18,x19,a16,c17⟩ h
   obtain ⟨n88,rfl,h⟩:=bH h
   rw [jN] at h
   refine JS.seq (aC aA 3 [(36,.v (.bool (decide (x19<x2))))] ⟨⟨E,V⟩,E⟩ E E ?_)
   refine aK E h (fun h=>?_) (fun h=>?_)
   ·
    refine JS.skip (JS.seq ?_)
    obtain ⟨j51,hj129,h⟩:=aQ h
    refine bA (ι:=List Int×Bool×Option Addr×Nat) ⟨fun z=>j51 (z.1,z.2.1)=some r,fun z=>[(2,.v (I x2)),(3,.v (I x3)),(8,.bp 3 0),(10,.v (.slice z.2.2.1 z.1.length z.2.2.2)),(11,.v (.bool z.2.1)),(12,.v (I x19))],fun z=>(.new 3 38 [.slice none 0 0,.int .i64 0] .nil),fun z=>[],fun z=>[⟨(.int .i64),⟨z.2.2.1,z.1.length,z.2.2.2⟩,z.1⟩],fun z=>0⟩ ?_ ?_
    ·
     refine JS.seq (JS.region (bJ 0 E fun hs119=>?_))
     obtain ⟨g25,h⟩:=aH h
     refine aB aA 3 [] [] [(41,.ep ⟨a16,x15.length,c17⟩ (Int.toNat x19*1))] _ E ⟨hs119.ix g25,⟨E,V⟩,E⟩ (JO.load aA E E E E E E E 0 E E (Int.toNat x19) 0 (at' x15 x19) ⟨bD g25,E⟩ E E ?_)
     obtain ⟨g26,h⟩:=aH h
     refine aB aA 5 [] [] [(44,.v (.bool (decide (97≤(at' x15 x19))))),(47,.cd [(44,true)] (.ep ⟨a16,x15.length,c17⟩ (Int.toNat x19*1)))] _ E ⟨(fun q120=>hs119.ix (g26 q120)),(Es E),E⟩ (JO.load aA E E E E E E E 0 E E (Int.toNat x19) 0 (at' x15 x19) (fun q121=>⟨bD (g26 q121),E⟩) E E (aB aA 3 [] [] [(13,.v (.bool (bif (decide (97≤(at' x15 x19))) then (decide ((at' x15 x19)≤122)) else false)))] _ E ⟨⟨E,V⟩,E⟩ (aD E (JS.seq (JS.region ?_)))))
     obtain ⟨g29,h⟩:=aH h
     refine aB aA 3 [] [] [(53,.ep ⟨a16,x15.length,c17⟩ (Int.toNat x19*1))] _ E ⟨hs119.ix g29,⟨E,V⟩,E⟩ (JO.load aA E E E E E E E 0 E E (Int.toNat x19) 0 (at' x15 x19) ⟨bD g29,E⟩ E E ?_)
     obtain ⟨g30,h⟩:=aH h
     refine aB aA 5 [] [] [(56,.v (.bool (decide (65≤(at' x15 x19))))),(59,.cd [(56,true)] (.ep ⟨a16,x15.length,c17⟩ (Int.toNat x19*1)))] _ E ⟨(fun q122=>hs119.ix (g30 q122)),(Es E),E⟩ (JO.load aA E E E E E E E 0 E E (Int.toNat x19) 0 (at' x15 x19) (fun q123=>⟨bD (g30 q123),E⟩) E E (aB aA 3 [] [] [(14,.v (.bool (bif (decide (65≤(at' x15 x19))) then (decide ((at' x15 x19)≤90)) else false)))] _ E ⟨⟨E,V⟩,E⟩ (aD E (JS.seq (aC aA 6 [(68,.v (.bool (bif (!(bif (decide (97≤(at' x15 x19))) then (decide ((at' x15 x19)≤122)) else false)) then (!(bif (decide (65≤(at' x15 x19))) then (decide ((at' x15 x19)≤90)) else false)) else false)))] ⟨⟨E,V⟩,E⟩ E E ?_)))))
     refine aK E h (fun h=>?_) (fun h=>?_)
     ·
      refine JS.exit E (aT (x15,x18,a16,c17) h (Es E) (Bs E E) [] E [0] E)
     refine JS.skip (aC aA 10 [(15,.v (.bool (bif (decide (x3=1)) then true else (bif (decide (x3=2)) then x18 else false))))] ⟨⟨E,V⟩,E⟩ E E (aC aA 1 [(11,.v (.bool false))] ⟨⟨E,V⟩,E⟩ E E ?_))
     obtain ⟨j39,hj127,h⟩:=aQ h
     refine dM (ι:=List Int×Option Addr×Nat) ⟨fun z=>j39 z.1=some r,fun z=>[(2,.v (I x2)),(3,.v (I x3)),(8,.bp 3 0),(10,.v (.slice z.2.1 z.1.length z.2.2)),(11,.v (.bool false)),(12,.v (I x19)),(14,.v (.bool (bif (decide (65≤(at' x15 x19))) then (decide ((at' x15 x19)≤90)) else false))),(15,.v (.bool (bif (decide (x3=1)) then true else (bif (decide (x3=2)) then x18 else false))))],fun z=>(.new 3 38 [.slice none 0 0,.int .i64 0] .nil),fun z=>[],fun z=>[⟨(.int .i64),⟨z.2.1,z.1.length,z.2.2⟩,z.1⟩],fun z=>0⟩ ?_ ?_
     ·
      refine aC aA 4 [(81,.v (.bool (bif (bif (decide (x3=1)) then true else (bif (decide (x3=2)) then x18 else false)) then (bif (decide (97≤(at' x15 x19))) then (decide ((at' x15 x19)≤122)) else false) else false)))] ⟨⟨E,V⟩,E⟩ E E ?_
      refine aK E h (fun h=>?_) (fun h=>?_)
      ·
       refine JS.region ?_
       obtain ⟨g33,h⟩:=aH h
       refine aB aA 5 [] [] [(82,.v (.slice a16 x15.length c17)),(83,.v (I x19)),(86,.ep ⟨a16,x15.length,c17⟩ (Int.toNat x19*1))] _ E ⟨hs119.ix g33,(Es E),E⟩ (JO.load aA E E E E E E E 0 E E (Int.toNat x19) 0 (at' x15 x19) ⟨bD g33,E⟩ E E ?_)
       obtain ⟨g34,h⟩:=aH h
       refine aB aA 2 [(W ((at' x15 x19) - 32))] [] [(88,.v (I (W ((at' x15 x19) - 32)))),(89,.ep ⟨a16,x15.length,c17⟩ (Int.toNat x19*1))] _ E ⟨⟨V,E⟩,hs119.ix g34,(Es E),E⟩ (kD aA E E E E E E E E E [0] (fs:=[]) E (Int.toNat x19) 0 (at' x15 x19) (W ((at' x15 x19) - 32)) ⟨bD g34,E⟩ ⟨E,E,E⟩ (aD E (aT ((List.set x15 (Int.toNat x19) (W ((at' x15 x19) - 32))),a16,c17) h ⟨E,E,E,(by simp only [List.length_set,List.length_replicate,bY,dN,oP,oO];rfl),E,E,E,E,V⟩ (Bs E E) [] E [0] (by simp only [List.length_set,List.length_replicate,bY,dN,oP,oO];rfl))))
      refine JS.skip (aT (x15,a16,c17) h (Es E) (Bs E E) [] E [0] E)
     rintro ⟨x36,a37,c38⟩ h
     subst hj127
     refine aC aA 5 [(94,.v (.bool (bif (!(bif (decide (x3=1)) then true else (bif (decide (x3=2)) then x18 else false))) then (bif (decide (65≤(at' x15 x19))) then (decide ((at' x15 x19)≤90)) else false) else false)))] ⟨⟨E,V⟩,E⟩ E E ?_
     refine aK E h (fun h=>?_) (fun h=>?_)
     ·
      refine JS.region (bJ 0 E fun hs125=>?_)
      obtain ⟨g42,h⟩:=aH h
      refine aB aA 5 [] [] [(95,.v (.slice a37 x36.length c38)),(96,.v (I x19)),(99,.ep ⟨a37,x36.length,c38⟩ (Int.toNat x19*1))] _ E ⟨hs125.ix g42,(Es E),E⟩ (JO.load aA E E E E E E E 0 E E (Int.toNat x19) 0 (at' x36 x19) ⟨bD g42,E⟩ E E ?_)
      obtain ⟨g43,h⟩:=aH h
      refine aB aA 2 [(W ((at' x36 x19)+32))] [] [(101,.v (I (W ((at' x36 x19)+32)))),(102,.ep ⟨a37,x36.length,c38⟩ (Int.toNat x19*1))] _ E ⟨⟨V,E⟩,hs125.ix g43,(Es E),E⟩ (kD aA E E E E E E E E E [0] (fs:=[]) E (Int.toNat x19) 0 (at' x36 x19) (W ((at' x36 x19)+32)) ⟨bD g43,E⟩ ⟨E,E,E⟩ (aD E (aZ (aT ((List.set x36 (Int.toNat x19) (W ((at' x36 x19)+32))),false,a37,c38) h ⟨E,E,E,(by simp only [List.length_set,List.length_replicate,bY,dN,oP,oO];rfl),E,E,V⟩ (Bs E E) [] E [0] (by simp only [List.length_set,List.length_replicate,bY,dN,oP,oO];rfl)))))
     refine JS.skip (aZ (aT (x36,false,a37,c38) h (Es E) (Bs E E) [] E [0] E))
    rintro ⟨x47,x50,a48,c49⟩ h
    subst hj129
    refine bZ aA 3 [(W (x19+1))] [] [(12,.v (I (W (x19+1))))] _ ⟨⟨V,E⟩,⟨E,V⟩,E⟩ E E (bQ (n88,x47,x50,(W (x19+1)),a48,c49) h (Nat.lt_succ_self _) (Es E) (Bs E E) [] E [0] E)
   refine JS.exit E (aT (x15,a16,c17) h (Es E) (Bs E E) [] E [0] E)
  rintro ⟨x101,a102,c103⟩ h
  subst hj131
  refine aL aA 5 [] [] [(9,.v (.bool true))] (.new 3 38 [.slice a102 x101.length c103,.int .i64 x2] .nil) ⟨⟨E,V⟩,(Bs E E)⟩ E E ?_
  cases h
  exact JS.ret aA (a102,c103) V E E [0] E

def kR (x0:EdQ) (x1:Int):Option (EdQ×Int):=
  (aU (fun ((x35,x36,x39):Bool×List Int×Int)=>
  (aG (dX x0 (x36,x39) x35 0) fun (y41,y42)=>
  some (y41,y42))) fun j40=>
  (aG (gE x0 1 true) fun (y27:Int)=>
  (aG (pG x0.2.2.1 x0.2.2.1.2 y27 x1) fun (y29,y30)=>
  j40 (y30,y29.1,y29.2))))

theorem wT (x0:EdQ) (x1:Int) (q3:P6) (r:EdQ×Int) (h:kR x0 x1=some r):
  FC Tryz.prog 185 [.agg (cC x0 q3).toArray,.int .i64 x1] (bW x0 q3 []) (fun _:P6=>True) (fun q=>.tuple #[.agg (aI r.1 q).toArray,.int .i64 r.2]) (fun q=>(bW r.1 q [])):=
 by
  refine FC.of (T:=TTx) Tryz.call185 Tryz.func185 E E fun w0=>?_
  unfold kR at h
  refine aL aA 3 [] [7,8] [(2,.bp 7 0),(4,.bp 8 0)] (.new 7 46 (aI x0 q3) (.new 8 46 bF .nil)) ⟨(Es E),(Bs E E)⟩ E E (JS.seq ?_)
  obtain ⟨j40,hj57,h⟩:=aQ h
  refine mK (ι:=Bool×List Int×Int×Option Addr×Nat) ⟨fun z=>j40 (z.1,z.2.1,z.2.2.1)=some r,fun z=>[(2,.bp 7 0),(4,.bp 8 0),(6,.bp 17 0),(7,.v (.bool z.1))],fun z=>(.new 7 46 (aI x0 q3) (.new 8 46 bF (.new 17 38 [.slice z.2.2.2.1 z.2.1.length (Q4 z),.int .i64 z.2.2.1] .nil))),fun z=>(bW x0 q3 []),fun z=>[⟨(.int .i64),⟨z.2.2.2.1,z.2.1.length,(Q4 z)⟩,z.2.1⟩],fun z=>0⟩ ?_ ?_
  ·
   obtain ⟨y27,hy28,h⟩:=aE h
   obtain ⟨⟨y29,y30⟩,hy31,h⟩:=aE h
   refine bB E (.new 7 46 (aI x0 q3) .nil) [] [8,9,10,11,13,14] ⟨E,E,E,E,V⟩ E (fun be34=>?_)
   refine bR aA aF true 8 [0,1,2,3,4,5,7] E (by kernel_rfl) [] [(10,.v (.agg #[.slice q3.1 x0.2.2.1.1.length q3.2.1,.int .i64 x0.2.2.1.2])),(13,.v (I x0.2.2.1.2)),(14,.v (.agg (aI x0 q3).toArray)),(16,.v (I x1))] ⟨E,E,E,E,V⟩ [] E E (Es E) ?_
   refine JA.all (rs:=[6,12]) (by kernel_rfl) E (List.forall_mem_cons.2 ⟨?_,List.forall_mem_cons.2 ⟨?_,(fun _ hx=>absurd hx List.not_mem_nil)⟩⟩)
   ·
    refine JK.call E E E E (lY x0 1 true q3 _ hy28) E [0,1,2,3,4,5] E E fun _ _=>aR ⟨E,E,E,E,V⟩ [] E ?_
    refine JA.all (rs:=[8,12]) (by kernel_rfl) E (List.forall_mem_cons.2 ⟨?_,List.forall_mem_cons.2 ⟨?_,(fun _ hx=>absurd hx List.not_mem_nil)⟩⟩)
    ·
     refine JK.call E E E E (uZ x0.2.2.1 x0.2.2.1.2 y27 x1 q3.1 q3.2.1 _ hy31) E [0] E E ?_
     rintro ⟨a32,c33⟩ -
     refine aM E (aS aA aF 3 [9,10,11] E (by kernel_rfl) [] [(18,.v (.agg #[.slice a32 y29.1.length c33,.int .i64 y29.2])),(19,.v (.bool y30))] E (Es E) (JA.one 12 (by kernel_rfl) (JK.alloc aA E E E E E 17 E (cK _ E) (aR ⟨E,E,E,E,V⟩ [] E (JA.one 13 (by kernel_rfl) (aY aA E E E E E E E E (aM E (aS aA aF 0 [14] E (by kernel_rfl) [] [(7,.v (.bool y30))] E ⟨E,V⟩ (bE (by kernel_rfl) (aW (B':=(.new 7 46 (aI x0 q3) (.new 8 46 bF (.new 17 38 [.slice a32 y29.1.length c33,.int .i64 y29.2] .nil)))) (Bs E E) (aT (y30,y29.1,y29.2,a32,c33) h (Es E) (Bs E E) [0,1,2,3,4,5] E [0] E)))))))))))
    refine JK.alloc aA E E E E E 17 E (cK _ E) (aR ⟨E,E,E,E,V⟩ [] E (JA.one 8 (by kernel_rfl) (JK.call E E E E (uZ x0.2.2.1 x0.2.2.1.2 y27 x1 q3.1 q3.2.1 _ hy31) E [0] E E ?_)))
    rintro ⟨a32,c33⟩ -
    refine aM E (aS aA aF 2 [9,10,11] E (by kernel_rfl) [] [(18,.v (.agg #[.slice a32 y29.1.length c33,.int .i64 y29.2])),(19,.v (.bool y30))] E (Es E) (JA.one 13 (by kernel_rfl) (aY aA E E E E E E E E (aM E (aS aA aF 0 [14] E (by kernel_rfl) [] [(7,.v (.bool y30))] E ⟨E,V⟩ (bE (by kernel_rfl) (aW (B':=(.new 7 46 (aI x0 q3) (.new 8 46 bF (.new 17 38 [.slice a32 y29.1.length c33,.int .i64 y29.2] .nil)))) (Bs E E) (aT (y30,y29.1,y29.2,a32,c33) h (Es E) (Bs E E) [0,1,2,3,4,5] E [0] E))))))))
   refine JK.alloc aA E E E E E 17 E (cK _ E) (aR ⟨E,E,E,E,V⟩ [] E (JA.one 6 (by kernel_rfl) (JK.call E E E E (lY x0 1 true q3 _ hy28) E [0,1,2,3,4,5] E E fun _ _=>aR ⟨E,E,E,E,V⟩ [] E (JA.one 8 (by kernel_rfl) (JK.call E E E E (uZ x0.2.2.1 x0.2.2.1.2 y27 x1 q3.1 q3.2.1 _ hy31) E [0] E E ?_)))))
   rintro ⟨a32,c33⟩ -
   refine aM E (aS aA aF 2 [9,10,11] E (by kernel_rfl) [] [(18,.v (.agg #[.slice a32 y29.1.length c33,.int .i64 y29.2])),(19,.v (.bool y30))] E (Es E) (JA.one 13 (by kernel_rfl) (aY aA E E E E E E E E (aM E (aS aA aF 0 [14] E (by kernel_rfl) [] [(7,.v (.bool y30))] E ⟨E,V⟩ (bE (by kernel_rfl) (aW (B':=(.new 7 46 (aI x0 q3) (.new 8 46 bF (.new 17 38 [.slice a32 y29.1.length c33,.int .i64 y29.2] .nil)))) (Bs E E) (aT (y30,y29.1,y29.2,a32,c33) h (Es E) (Bs E E) [0,1,2,3,4,5] E [0] E))))))))
  rintro ⟨x35,x36,x39,a37,c38⟩ h
  subst hj57
  refine JS.seq (JS.region (aB aA 3 [] [] [(20,.v (.agg (aI x0 q3).toArray)),(21,.v (.agg #[.slice a37 x36.length c38,.int .i64 x39])),(22,.v (.bool x35))] _ E ⟨(Es E),E⟩ ?_))
  obtain ⟨⟨y41,y42⟩,hy43,h⟩:=aE h
  refine JO.call E E E E (kK x0 (x36,x39) x35 0 q3 a37 c38 _ hy43) E [0,1,2,3,4,5,6] E E fun q44 _=>aP aA 4 [] [] [(5,.v (I y42))] (.new 8 46 (aI y41 q44) .nil) E ⟨⟨E,V⟩,(Bs E E)⟩ (aD E ?_)
  cases h
  exact JS.ret aA q44 V E E [0,0,0,0,0,0] E

def mG (x0:List (List Int)):Option (List (List Int)):=
  (aG (kZ x0) fun (y6:Bool)=>
  (bif (!y6) then
  some ([])
  else
  (aG (kW x0) fun (y8:List (List Int))=>
  (bif (decide ((y8.length:Int)=0)) then
  some y8
  else
  (aU (fun (x36:List (List Int))=>
  some x36) fun j39=>
  (aN (0≤(1:Int)∧(1:Int)≤(y8.length:Int)∧(y8.length:Int)≤(y8.length:Int)) <|
  (aN (y8.length≤536870912) <|
  (aN (0≤(0:Int)∧0<(y8.length:Int)) <|
  (aN (y8.length≤536870912) <|
  j39 (List.drop 1 y8 ++ [(at' y8 0)]))))))))))

theorem aGh (x0:List (List Int)) (a2:Option Addr) (c3:Nat) (r:List (List Int)) (h:mG x0=some r):
  FC Tryz.prog 251 [.agg #[.slice a2 x0.length c3]] [⟨(.sl (.int .i64)),⟨a2,x0.length,c3⟩,x0⟩] (fun _:Option Addr×Nat=>True) (fun q=>.agg #[.slice q.1 r.length q.2]) (fun q=>[⟨(.sl (.int .i64)),⟨q.1,r.length,q.2⟩,r⟩]):=
 by
  refine FC.of (T:=TTx) Tryz.call251 Tryz.func251 E E fun w0=>?_
  unfold mG at h
  refine aL aA 2 [] [2,3] [(1,.bp 2 0),(2,.bp 3 0)] (.new 2 41 [.slice a2 x0.length c3] (.new 3 41 [.slice none 0 0] .nil)) ⟨(Es E),(Bs E E)⟩ E E (JS.seq (JS.seq (JS.region (aB aA 1 [] [] [(4,.v (.agg #[.slice a2 x0.length c3]))] _ E ⟨⟨E,V⟩,E⟩ ?_))))
  refine bnw h fun y6 hy7 h=>JO.call E E E E (uJ x0 a2 c3 _ hy7) E [0] E E fun _ _=>aB aA 1 [] [] [(6,.v (.bool (!y6)))] _ E ⟨⟨E,V⟩,E⟩ (aD E ?_)
  refine aK E h (fun h=>?_) (fun h=>?_)
  ·
   refine aL aA 2 [] [] [] (.new 3 41 [.slice none 0 0] .nil) ⟨V,(Bs E E)⟩ E E ?_
   cases h
   refine aX (.sl (.int .i64)) Sl.nil E E (JS.ret aA (none,0) V E E [0] E)
  refine JS.skip (JS.seq (JS.region (aB aA 1 [] [] [(8,.v (.agg #[.slice a2 x0.length c3]))] _ E ⟨⟨E,V⟩,E⟩ ?_)))
  refine bnw h fun y8 hy9 h=>JO.call E E E E (wW x0 a2 c3 _ hy9) E [0] E E ?_
  rintro ⟨a10,c11⟩ -
  refine aP aA 2 [] [11] [(3,.bp 11 0)] (.new 3 41 [.slice none 0 0] (.new 11 41 [.slice a10 y8.length c11] .nil)) E ⟨⟨E,V⟩,(Bs E E)⟩ (aD E (JS.seq (aC aA 4 [(13,.v (.bool (decide ((y8.length:Int)=0))))] ⟨⟨E,V⟩,E⟩ E E ?_)))
  refine aK E h (fun h=>?_) (fun h=>?_)
  ·
   refine aL aA 2 [] [] [] (.new 3 41 [.slice a10 y8.length c11] .nil) ⟨V,(Bs E E)⟩ E E ?_
   cases h
   exact JS.ret aA (a10,c11) V E E [0] E
  refine JS.skip (JS.seq ?_)
  obtain ⟨j39,hj52,h⟩:=aQ h
  refine mK (ι:=List (List Int)×Option Addr×Nat) ⟨fun z=>j39 z.1=some r,fun z=>[(2,.bp 3 0)],fun z=>(.new 3 41 [.slice z.2.1 z.1.length z.2.2] .nil),fun z=>[],fun z=>[⟨(.sl (.int .i64)),⟨z.2.1,z.1.length,z.2.2⟩,z.1⟩],fun z=>0⟩ ?_ ?_
  ·
   obtain ⟨g13,h⟩:=aH h
   obtain ⟨g15,h⟩:=aH h
   obtain ⟨g18,h⟩:=aH h
   obtain ⟨g27,h⟩:=aH h
   refine aHx 0 E (Int.toNat 0) (at' y8 0) E (by omega) fun a19 c20 l21 zs22 hl23 hz24 h025=>?_
   obtain rfl:([.slice a19 (at' y8 0).length c20]:List Value)=l21:=Option.some.inj hl23
   refine cD 1 E fun hs51=>?_
   refine bB E (.new 11 41 [.slice a10 y8.length c11] .nil) [1] [10,11,12] ⟨E,E,E,E,V⟩ E (fun be32=>?_)
   refine bR aA aF true 11 [1,2] E (by kernel_rfl) [] [(17,.v (.slice a10 y8.length c11))] ⟨E,E,E,E,V⟩ [1] E E ⟨E,V⟩ (aS aA aF 10 [5] E (by kernel_rfl) [] [(20,.bp 11 0)] E ⟨E,V⟩ (bR aA aF true 8 [6,7] E (by kernel_rfl) [] [(22,.ep ⟨a10,y8.length,c11⟩ (Int.toNat 0*1))] ⟨E,E,E,E,V⟩ [1] E E ⟨(hs51.cast (aB6 hz24)).ix g18,⟨E,V⟩⟩ (uF aA aF 8 E (by kernel_rfl) E E E E E 0 E E (Int.toNat 0) 0 ((at' y8 0),[.slice a19 (at' y8 0).length c20]) ⟨h025,E⟩ E E E ⟨E,E,E,E,V⟩ [1] E (dB aA aF 3 E (by kernel_rfl) E E E E E E (1:Int) (y8.length:Int) E E ⟨g13.1,g13.2.1,g13.2.2,(hs51.cast (aB6 hz24)).cap,(E:(wO ⟨a10,y8.length,c11⟩ 1 1 y8.length)=(wO ⟨a10,y8.length,c11⟩ 1 1 y8.length))⟩ E ?_))))
   refine JA.all (rs:=[0,9]) (by kernel_rfl) E (List.forall_mem_cons.2 ⟨?_,List.forall_mem_cons.2 ⟨?_,(fun _ hx=>absurd hx List.not_mem_nil)⟩⟩)
   ·
    refine JK.buildSlice aA E E E E E E E E E E E [] E (.sl (.int .i64)) [] ⟨E,E⟩ E E fun a12=>aR ⟨E,E,E,E,V⟩ [2] E ?_
    refine JA.all (rs:=[4,9]) (by kernel_rfl) E (List.forall_mem_cons.2 ⟨?_,List.forall_mem_cons.2 ⟨?_,(fun _ hx=>absurd hx List.not_mem_nil)⟩⟩)
    ·
     refine aJe 0 E E (uE aA E E E E ⟨E,E,E,E,V,E,E,E,E⟩ E 1 y8.length E 0 E 2 E ⟨by omega,by rw [← hz24,List.length_map]⟩ (by simp only [List.length_nil];omega) E fun a16 c17=>aR ⟨E,E,E,E,V⟩ [2] E (JA.one 9 (by kernel_rfl) (JK.buildSlice aA E E E E E E E E E E E [] E (.alt (.sl (.int .i64))) [Sum.inr [.slice a19 (at' y8 0).length c20]] ⟨E,E,E⟩ E E fun a26=>aR ⟨E,E,E,E,V⟩ [3] E (JA.one 10 (by kernel_rfl) (rZ aA E E E E ⟨E,E,E,E,V,E,E,E,E⟩ E E [1,0] E (by have:=congrArg List.length hz24;simp [aBw] at this ⊢;omega) E (List.drop 1 y8 ++ [(at' y8 0)]).length (by rw [← hz24];simp [aBw]) fun a28 c29=>aM E (aS aA aF 1 [11] E (by kernel_rfl) [] [(26,.v (.agg #[.slice a28 (List.drop 1 y8 ++ [(at' y8 0)]).length c29]))] E ⟨E,V⟩ (JA.one 12 (by kernel_rfl) (aY aA E E E E E E E E (aM E (bE (by kernel_rfl) (aW (B':=(.new 3 41 [.slice a28 (List.drop 1 y8 ++ [(at' y8 0)]).length c29] .nil)) (Bs E E) (wH [0,0] E hz24 h025 E (aT ((List.drop 1 y8 ++ [(at' y8 0)]),a28,c29) h ⟨E,V⟩ (Bs E E) [] E [0] E)))))))))))))
    refine JK.buildSlice aA E E E E E E E E E E E [] E (.alt (.sl (.int .i64))) [Sum.inr [.slice a19 (at' y8 0).length c20]] ⟨E,E,E⟩ E E fun a26=>aR ⟨E,E,E,E,V⟩ [3] E (JA.one 4 (by kernel_rfl) (aJe 1 E E (uE aA E E E E ⟨E,E,E,E,V,E,E,E,E⟩ E 1 y8.length E 0 E 3 E ⟨by omega,by rw [← hz24,List.length_map]⟩ (by simp only [List.length_nil];omega) E fun a16 c17=>aR ⟨E,E,E,E,V⟩ [3] E (JA.one 10 (by kernel_rfl) (rZ aA E E E E ⟨E,E,E,E,V,E,E,E,E⟩ E E [0,0] E (by have:=congrArg List.length hz24;simp [aBw] at this ⊢;omega) E (List.drop 1 y8 ++ [(at' y8 0)]).length (by rw [← hz24];simp [aBw]) fun a28 c29=>aM E (aS aA aF 1 [11] E (by kernel_rfl) [] [(26,.v (.agg #[.slice a28 (List.drop 1 y8 ++ [(at' y8 0)]).length c29]))] E ⟨E,V⟩ (JA.one 12 (by kernel_rfl) (aY aA E E E E E E E E (aM E (bE (by kernel_rfl) (aW (B':=(.new 3 41 [.slice a28 (List.drop 1 y8 ++ [(at' y8 0)]).length c29] .nil)) (Bs E E) (wH [0,0] E hz24 h025 E (aT ((List.drop 1 y8 ++ [(at' y8 0)]),a28,c29) h ⟨E,V⟩ (Bs E E) [] E [0] E)))))))))))))
   refine JK.buildSlice aA E E E E E E E E E E E [] E (.alt (.sl (.int .i64))) [Sum.inr [.slice a19 (at' y8 0).length c20]] ⟨E,E,E⟩ E E fun a26=>aR ⟨E,E,E,E,V⟩ [2] E (JA.one 0 (by kernel_rfl) (JK.buildSlice aA E E E E E E E E E E E [] E (.sl (.int .i64)) [] ⟨E,E⟩ E E fun a12=>aR ⟨E,E,E,E,V⟩ [3] E (JA.one 4 (by kernel_rfl) (aJe 0 E E (uE aA E E E E ⟨E,E,E,E,V,E,E,E,E⟩ E 1 y8.length E 0 E 3 E ⟨by omega,by rw [← hz24,List.length_map]⟩ (by simp only [List.length_nil];omega) E fun a16 c17=>aR ⟨E,E,E,E,V⟩ [3] E (JA.one 10 (by kernel_rfl) (rZ aA E E E E ⟨E,E,E,E,V,E,E,E,E⟩ E E [0,0] E (by have:=congrArg List.length hz24;simp [aBw] at this ⊢;omega) E (List.drop 1 y8 ++ [(at' y8 0)]).length (by rw [← hz24];simp [aBw]) fun a28 c29=>aM E (aS aA aF 1 [11] E (by kernel_rfl) [] [(26,.v (.agg #[.slice a28 (List.drop 1 y8 ++ [(at' y8 0)]).length c29]))] E ⟨E,V⟩ (JA.one 12 (by kernel_rfl) (aY aA E E E E E E E E (aM E (bE (by kernel_rfl) (aW (B':=(.new 3 41 [.slice a28 (List.drop 1 y8 ++ [(at' y8 0)]).length c29] .nil)) (Bs E E) (wH [0,0] E hz24 h025 E (aT ((List.drop 1 y8 ++ [(at' y8 0)]),a28,c29) h ⟨E,V⟩ (Bs E E) [] E [0] E)))))))))))))))
  rintro ⟨x36,a37,c38⟩ h
  subst hj52
  cases h
  exact JS.ret aA (a37,c38) V E E [0] E

def iI (x0:EdQ):Option (EdQ×Int):=
  (aG (gJ x0.2.2.2.2.2.2.2.2.2.2.1) fun (y26:List Int)=>
  (aN (((bif (bif (!(decide (x0.2.2.2.2.2.2.2.2.2.1=3))) then true else (decide ((y26.length:Int)=0))) then true else (decide (x0.2.2.1.2<(y26.length:Int))))=false)→0≤(W (x0.2.2.1.2 - (y26.length:Int)))∧(W (x0.2.2.1.2 - (y26.length:Int)))≤x0.2.2.1.2∧x0.2.2.1.2≤(x0.2.2.1.1.length:Int)) <|
  (bU ((bif (bif (!(decide (x0.2.2.2.2.2.2.2.2.2.1=3))) then true else (decide ((y26.length:Int)=0))) then true else (decide (x0.2.2.1.2<(y26.length:Int))))=false) (kU (bN x0.2.2.1.1 (W (x0.2.2.1.2 - (y26.length:Int))) x0.2.2.1.2) y26) false fun (y37:Bool)=>
  (bif (bif (bif (bif (!(decide (x0.2.2.2.2.2.2.2.2.2.1=3))) then true else (decide ((y26.length:Int)=0))) then true else (decide (x0.2.2.1.2<(y26.length:Int)))) then true else (!y37)) then
  (aG (dG x0) fun (y40,y41)=>
  some (y40,y41))
  else
  (aG (lA x0.2.2.1 (W (x0.2.2.1.2 - (y26.length:Int))) x0.2.2.1.2) fun (y55,y56,y57)=>
  (aG (mG x0.2.2.2.2.2.2.2.2.2.2.1) fun (y63:List (List Int))=>
  (aU (fun ((x77,x78,x81):Bool×List Int×Int)=>
  (bif (!x77) then
  (aG (dG x0) fun (y83,y84)=>
  some (y83,y84))
  else
  (aG (cH x0) fun (y98:EdQ)=>
  (aG (dX (y98.1,y98.2.1,y98.2.2.1,y98.2.2.2.1,y98.2.2.2.2.1,y98.2.2.2.2.2.1,y98.2.2.2.2.2.2.1,y98.2.2.2.2.2.2.2.1,y98.2.2.2.2.2.2.2.2.1,y98.2.2.2.2.2.2.2.2.2.1,y63,y98.2.2.2.2.2.2.2.2.2.2.2.1,y98.2.2.2.2.2.2.2.2.2.2.2.2.1,y98.2.2.2.2.2.2.2.2.2.2.2.2.2.1,y98.2.2.2.2.2.2.2.2.2.2.2.2.2.2.1,y98.2.2.2.2.2.2.2.2.2.2.2.2.2.2.2.1,y98.2.2.2.2.2.2.2.2.2.2.2.2.2.2.2.2) (x78,x81) true 3) fun (y112,y113)=>
  some (y112,y113))))) fun j82=>
  (aG (gJ y63) fun (y67:List Int)=>
  (aG (oJ y55 y67) fun (y71,y72)=>
  j82 (y72,y71.1,y71.2))))))))))

theorem aBm (x0:EdQ) (q2:P6) (r:EdQ×Int) (h:iI x0=some r):
  FC Tryz.prog 184 [.agg (cC x0 q2).toArray] (bW x0 q2 []) (fun _:P6=>True) (fun q=>.tuple #[.agg (aI r.1 q).toArray,.int .i64 r.2]) (fun q=>(bW r.1 q [])):=
 by
  refine FC.of (T:=TTx) Tryz.call184 Tryz.func184 E E fun w0=>?_
  unfold iI at h
  refine aL aA 3 [] [7,8] [(1,.bp 7 0),(2,.bp 8 0)] (.new 7 46 (aI x0 q2) (.new 8 46 bF .nil)) ⟨(Es E),(Bs E E)⟩ E E (JS.seq (JS.region (aB aA 2 [] [] [(14,.v (.agg #[.slice q2.2.2.1 (Q8 x0).2.2.1.length q2.2.2.2.1]))] _ E ⟨⟨E,V⟩,E⟩ ?_)))
  refine bnw h fun y26 hy27 h=>JO.call E E E E (sG (Q8 x0).2.2.1 q2.2.2.1 q2.2.2.2.1 _ hy27) E [1] E E ?_
  rintro ⟨a28,c29⟩ -
  refine aB aA 1 [] [] [(4,.v (.slice a28 y26.length c29))] _ E ⟨⟨E,V⟩,E⟩ (aD E (aC aA 4 [(5,.v (I x0.2.2.1.2))] ⟨⟨E,V⟩,E⟩ E E (JS.seq (JS.seq (JS.region (aB aA 23 [(W (x0.2.2.1.2 - (y26.length:Int)))] [] [(33,.v (.bool (bif (bif (!(decide ((Q8 x0).2.1=3))) then true else (decide ((y26.length:Int)=0))) then true else (decide (x0.2.2.1.2<(y26.length:Int)))))),(36,.cd [(33,false)] (.v (.slice q2.1 x0.2.2.1.1.length q2.2.1))),(40,.cd [(33,false)] (.v (I (W (x0.2.2.1.2 - (y26.length:Int)))))),(41,.cd [(33,false)] (.v (I x0.2.2.1.2)))] _ E ⟨(fun q130=>⟨V,E⟩),(Es E),E⟩ ?_))))))
  obtain ⟨g31,h⟩:=aH h
  refine aOw 0 E (W (x0.2.2.1.2 - (y26.length:Int))) x0.2.2.1.2 fun a32 c33 hu34=>bJ 1 E fun hs131=>aHy aA E E E E E E E (W (x0.2.2.1.2 - (y26.length:Int))) x0.2.2.1.2 E E (fun q132=>⟨(g31 q132).1,(g31 q132).2.1,(g31 q132).2.2,hs131.cap,hu34 (g31 q132)⟩) E (aB aA 1 [] [] [(43,.cd [(33,false)] (.v (.slice a28 y26.length c29)))] _ E ⟨⟨E,V⟩,E⟩ ?_)
  obtain ⟨y37,hy38,-,h⟩:=aV h
  refine bI E E E E (fun q133=>wV (bN x0.2.2.1.1 (W (x0.2.2.1.2 - (y26.length:Int))) x0.2.2.1.2) y26 a32 c33 a28 c29 _ (hy38 q133)) E [0,7] E E (aB aA 2 [] [] [(46,.v (.bool (bif (bif (bif (!(decide ((Q8 x0).2.1=3))) then true else (decide ((y26.length:Int)=0))) then true else (decide (x0.2.2.1.2<(y26.length:Int)))) then true else (!y37))))] _ E ⟨⟨E,V⟩,E⟩ (aD E ?_))
  refine aK E h (fun h=>?_) (fun h=>?_)
  ·
   refine JS.seq (JS.region (aB aA 1 [] [] [(47,.v (.agg (aI x0 q2).toArray))] _ E ⟨⟨E,V⟩,E⟩ ?_))
   obtain ⟨⟨y40,y41⟩,hy42,h⟩:=aE h
   refine JO.call E E E E (fF x0 q2 _ hy42) E [1,2,3,4,5,6] E E fun q43 _=>aP aA 4 [] [] [(3,.v (I y41))] (.new 8 46 (aI y40 q43) .nil) E ⟨⟨E,V⟩,(Bs E E)⟩ (aD E ?_)
   cases h
   exact JS.ret aA q43 V E E [0,0,0,0,0,0] E
  refine JS.skip (JS.seq (JS.region (aB aA 7 [(W (x0.2.2.1.2 - (y26.length:Int)))] [] [(53,.v (.agg #[.slice q2.1 x0.2.2.1.1.length q2.2.1,.int .i64 x0.2.2.1.2])),(57,.v (I (W (x0.2.2.1.2 - (y26.length:Int))))),(58,.v (I x0.2.2.1.2))] _ E ⟨⟨V,E⟩,(Es E),E⟩ ?_)))
  obtain ⟨⟨y55,y56,y57⟩,hy58,h⟩:=aE h
  refine JO.call E E E E (fI x0.2.2.1 (W (x0.2.2.1.2 - (y26.length:Int))) x0.2.2.1.2 q2.1 q2.2.1 _ hy58) E [1] E E ?_
  rintro ⟨a59,c60,a61,c62⟩ -
  refine aP aA 8 [] [52] [(6,.bp 52 0)] (.new 7 46 (aI x0 q2) (.new 8 46 bF (.new 52 38 [.slice a59 y55.1.length c60,.int .i64 y55.2] .nil))) E ⟨⟨E,V⟩,(Bs E E)⟩ (aD E (JS.seq (JS.region (aB aA 2 [] [] [(64,.v (.agg #[.slice q2.2.2.1 (Q8 x0).2.2.1.length q2.2.2.2.1]))] _ E ⟨⟨E,V⟩,E⟩ ?_))))
  refine bnw h fun y63 hy64 h=>JO.call E E E E (aGh (Q8 x0).2.2.1 q2.2.2.1 q2.2.2.2.1 _ hy64) E [2] E E ?_
  rintro ⟨a65,c66⟩ -
  refine aP aA 2 [] [58] [(9,.bp 58 0)] (.new 7 46 (aI x0 q2) (.new 8 46 bF (.new 52 38 [.slice a59 y55.1.length c60,.int .i64 y55.2] (.new 58 41 [.slice a65 y63.length c66] .nil)))) E ⟨⟨E,V⟩,(Bs E E)⟩ (aD E (JS.seq ?_))
  obtain ⟨j82,hj135,h⟩:=aQ h
  refine mK (ι:=Bool×List Int×Int×Option Addr×Nat) ⟨fun z=>j82 (z.1,z.2.1,z.2.2.1)=some r,fun z=>[(1,.bp 7 0),(2,.bp 8 0),(9,.bp 58 0),(10,.bp 70 0),(11,.v (.bool z.1))],fun z=>(.new 7 46 (aI x0 q2) (.new 8 46 bF (.new 58 41 [.slice a65 y63.length c66] (.new 70 38 [.slice z.2.2.2.1 z.2.1.length (Q4 z),.int .i64 z.2.2.1] .nil)))),fun z=>(bW x0 q2 []),fun z=>[⟨(.int .i64),⟨z.2.2.2.1,z.2.1.length,(Q4 z)⟩,z.2.1⟩,⟨(.sl (.int .i64)),⟨a65,y63.length,c66⟩,y63⟩],fun z=>0⟩ ?_ ?_
  ·
   obtain ⟨y67,hy68,h⟩:=aE h
   obtain ⟨⟨y71,y72⟩,hy73,h⟩:=aE h
   refine bB E (.new 52 38 [.slice a59 y55.1.length c60,.int .i64 y55.2] (.new 58 41 [.slice a65 y63.length c66] .nil)) [] [3,4,5,6,8,9] ⟨E,E,E,E,E,E,E,E,V⟩ E (fun be76=>?_)
   refine bR aA aF true 8 [0,1] E (by kernel_rfl) [] [(67,.v (.agg #[.slice a59 y55.1.length c60,.int .i64 y55.2])),(68,.v (.agg #[.slice a65 y63.length c66]))] ⟨E,E,E,E,E,E,E,E,V⟩ [] E E (Es E) ?_
   refine JA.all (rs:=[2,7]) (by kernel_rfl) E (List.forall_mem_cons.2 ⟨?_,List.forall_mem_cons.2 ⟨?_,(fun _ hx=>absurd hx List.not_mem_nil)⟩⟩)
   ·
    refine JK.call E E E E (sG y63 a65 c66 _ hy68) E [7] E E ?_
    rintro ⟨a69,c70⟩ -
    refine aR ⟨E,E,E,E,E,E,E,E,V⟩ [] E ?_
    refine JA.all (rs:=[3,7]) (by kernel_rfl) E (List.forall_mem_cons.2 ⟨?_,List.forall_mem_cons.2 ⟨?_,(fun _ hx=>absurd hx List.not_mem_nil)⟩⟩)
    ·
     refine JK.call E E E E (sH y55 y67 a59 c60 a69 c70 _ hy73) E [9,7] E E ?_
     rintro ⟨a74,c75⟩ -
     refine aM E (aS aA aF 3 [4,5,6] E (by kernel_rfl) [] [(71,.v (.agg #[.slice a74 y71.1.length c75,.int .i64 y71.2])),(72,.v (.bool y72))] E (Es E) (JA.one 7 (by kernel_rfl) (JK.alloc aA E E E E E 70 E (cK _ E) (aR ⟨E,E,E,E,E,E,E,E,V⟩ [] E (JA.one 8 (by kernel_rfl) (aY aA E E E E E E E E (aM E (aS aA aF 0 [9] E (by kernel_rfl) [] [(11,.v (.bool y72))] E ⟨E,V⟩ (bE (by kernel_rfl) (aW (B':=(.new 7 46 (aI x0 q2) (.new 8 46 bF (.new 58 41 [.slice a65 y63.length c66] (.new 70 38 [.slice a74 y71.1.length c75,.int .i64 y71.2] .nil))))) (Bs E E) (aT (y72,y71.1,y71.2,a74,c75) h (Es E) (Bs E E) [1,2,3,4,5,6] E [0,1] E)))))))))))
    refine JK.alloc aA E E E E E 70 E (cK _ E) (aR ⟨E,E,E,E,E,E,E,E,V⟩ [] E (JA.one 3 (by kernel_rfl) (JK.call E E E E (sH y55 y67 a59 c60 a69 c70 _ hy73) E [9,7] E E ?_)))
    rintro ⟨a74,c75⟩ -
    refine aM E (aS aA aF 2 [4,5,6] E (by kernel_rfl) [] [(71,.v (.agg #[.slice a74 y71.1.length c75,.int .i64 y71.2])),(72,.v (.bool y72))] E (Es E) (JA.one 8 (by kernel_rfl) (aY aA E E E E E E E E (aM E (aS aA aF 0 [9] E (by kernel_rfl) [] [(11,.v (.bool y72))] E ⟨E,V⟩ (bE (by kernel_rfl) (aW (B':=(.new 7 46 (aI x0 q2) (.new 8 46 bF (.new 58 41 [.slice a65 y63.length c66] (.new 70 38 [.slice a74 y71.1.length c75,.int .i64 y71.2] .nil))))) (Bs E E) (aT (y72,y71.1,y71.2,a74,c75) h (Es E) (Bs E E) [1,2,3,4,5,6] E [0,1] E))))))))
   refine JK.alloc aA E E E E E 70 E (cK _ E) (aR ⟨E,E,E,E,E,E,E,E,V⟩ [] E (JA.one 2 (by kernel_rfl) (JK.call E E E E (sG y63 a65 c66 _ hy68) E [7] E E ?_)))
   rintro ⟨a69,c70⟩ -
   refine aR ⟨E,E,E,E,E,E,E,E,V⟩ [] E (JA.one 3 (by kernel_rfl) (JK.call E E E E (sH y55 y67 a59 c60 a69 c70 _ hy73) E [9,7] E E ?_))
   rintro ⟨a74,c75⟩ -
   refine aM E (aS aA aF 2 [4,5,6] E (by kernel_rfl) [] [(71,.v (.agg #[.slice a74 y71.1.length c75,.int .i64 y71.2])),(72,.v (.bool y72))] E (Es E) (JA.one 8 (by kernel_rfl) (aY aA E E E E E E E E (aM E (aS aA aF 0 [9] E (by kernel_rfl) [] [(11,.v (.bool y72))] E ⟨E,V⟩ (bE (by kernel_rfl) (aW (B':=(.new 7 46 (aI x0 q2) (.new 8 46 bF (.new 58 41 [.slice a65 y63.length c66] (.new 70 38 [.slice a74 y71.1.length c75,.int .i64 y71.2] .nil))))) (Bs E E) (aT (y72,y71.1,y71.2,a74,c75) h (Es E) (Bs E E) [1,2,3,4,5,6] E [0,1] E))))))))
  rintro ⟨x77,x78,x81,a79,c80⟩ h
  subst hj135
  refine JS.seq (aC aA 2 [(74,.v (.bool (!x77)))] ⟨⟨E,V⟩,E⟩ E E ?_)
  refine aK E h (fun h=>?_) (fun h=>?_)
  ·
   refine JS.seq (JS.region (aB aA 1 [] [] [(75,.v (.agg (aI x0 q2).toArray))] _ E ⟨⟨E,V⟩,E⟩ ?_))
   obtain ⟨⟨y83,y84⟩,hy85,h⟩:=aE h
   refine JO.call E E E E (fF x0 q2 _ hy85) E [0,1,2,3,4,5] E E fun q86 _=>aP aA 4 [] [] [(3,.v (I y84))] (.new 8 46 (aI y83 q86) .nil) E ⟨⟨E,V⟩,(Bs E E)⟩ (aD E ?_)
   cases h
   exact JS.ret aA q86 V E E [0,0,0,0,0,0] E
  refine JS.skip (JS.seq (JS.region (aB aA 1 [] [] [(79,.v (.agg (aI x0 q2).toArray))] _ E ⟨⟨E,V⟩,E⟩ ?_)))
  refine bnw h fun y98 hy99 h=>JO.call E E E E (dU x0 q2 _ hy99) E [0,1,2,3,4,5] E E fun q100 _=>aP aA 2 [] [120] [(12,.bp 120 0)] (.new 8 46 bF (.new 58 41 [.slice a65 y63.length c66] (.new 70 38 [.slice a79 x78.length c80,.int .i64 x81] (.new 120 46 (aI y98 q100) .nil)))) E ⟨⟨E,V⟩,(Bs E E)⟩ (aD E (aL aA 3 [] [] [] (.new 8 46 bF (.new 70 38 [.slice a79 x78.length c80,.int .i64 x81] (.new 120 46 (aI (U10 y98 y63) (q100.1,q100.2.1,a65,c66,(Q4 q100))) .nil))) ⟨V,(Bs E E)⟩ E E (JS.seq (JS.region (aB aA 2 [] [] [(83,.v (.agg (aI (U10 y98 y63) (q100.1,q100.2.1,a65,c66,(Q4 q100))).toArray)),(84,.v (.agg #[.slice a79 x78.length c80,.int .i64 x81]))] _ E ⟨(Es E),E⟩ ?_)))))
  obtain ⟨⟨y112,y113⟩,hy114,h⟩:=aE h
  refine JO.call E E E E (kK (U10 y98 y63) (x78,x81) true 3 (q100.1,q100.2.1,a65,c66,(Q4 q100)) a79 c80 _ hy114) E [6,13,8,9,10,11,12] E E fun q115 _=>aP aA 4 [] [] [(3,.v (I y113))] (.new 8 46 (aI y112 q115) .nil) E ⟨⟨E,V⟩,(Bs E E)⟩ (aD E ?_)
  cases h
  exact JS.ret aA q115 V E E [0,0,0,0,0,0] E

def rK (x0:EdQ) (x1:Int):Option (EdQ×Int):=
  (bif (bif (decide (48≤x1)) then (decide (x1≤57)) else false) then
  (aG (cH x0) fun (y27:EdQ)=>
  (aG (dA (W ((W ((W (x0.2.2.2.1*10))+x1)) - 48)) 999) fun (y41:Int)=>
  some ((y27.1,y27.2.1,y27.2.2.1,y41,y27.2.2.2.2.1,y27.2.2.2.2.2.1,y27.2.2.2.2.2.2.1,y27.2.2.2.2.2.2.2.1,y27.2.2.2.2.2.2.2.2.1,y27.2.2.2.2.2.2.2.2.2.1,y27.2.2.2.2.2.2.2.2.2.2.1,y27.2.2.2.2.2.2.2.2.2.2.2.1,y27.2.2.2.2.2.2.2.2.2.2.2.2.1,y27.2.2.2.2.2.2.2.2.2.2.2.2.2.1,y27.2.2.2.2.2.2.2.2.2.2.2.2.2.2.1,y27.2.2.2.2.2.2.2.2.2.2.2.2.2.2.2.1,y27.2.2.2.2.2.2.2.2.2.2.2.2.2.2.2.2),0)))
  else
  (aG (rJ x0) fun (y43:Int)=>
  (bif (decide (x1=98)) then
  (aG (gE x0 y43 false) fun (y45:Int)=>
  (aG (eF x0 y45) fun (y47,y48)=>
  some (y47,y48)))
  else
  (bif (decide (x1=102)) then
  (aG (gE x0 y43 true) fun (y63:Int)=>
  (aG (eF x0 y63) fun (y65,y66)=>
  some (y65,y66)))
  else
  (bif (decide (x1=100)) then
  (aG (gE x0 y43 true) fun (y81:Int)=>
  (aG (gF x0 x0.2.2.1.2 y81 1) fun (y83,y84)=>
  some (y83,y84)))
  else
  (bif (decide (x1=121)) then
  (aG (iI x0) fun (y99,y100)=>
  some (y99,y100))
  else
  (bif (decide (x1=117)) then
  (aG (kR x0 1) fun (y114,y115)=>
  some (y114,y115))
  else
  (bif (decide (x1=108)) then
  (aG (kR x0 0) fun (y129,y130)=>
  some (y129,y130))
  else
  (bif (decide (x1=99)) then
  (aG (kR x0 2) fun (y144,y145)=>
  some (y144,y145))
  else
  (aG (dG x0) fun (y159,y160)=>
  some (y159,y160)))))))))))

theorem aIh (x0:EdQ) (x1:Int) (q3:P6) (r:EdQ×Int) (h:rK x0 x1=some r):
  FC Tryz.prog 107 [.agg (cC x0 q3).toArray,.int .i64 x1] (bW x0 q3 []) (fun _:P6=>True) (fun q=>.tuple #[.agg (aI r.1 q).toArray,.int .i64 r.2]) (fun q=>(bW r.1 q [])):=
 by
  refine FC.of (T:=TTx) Tryz.call107 Tryz.func107 E E fun w0=>?_
  unfold rK at h
  refine aL aA 3 [] [7,8] [(2,.bp 7 0),(4,.bp 8 0)] (.new 7 46 (aI x0 q3) (.new 8 46 bF .nil)) ⟨(Es E),(Bs E E)⟩ E E (JS.seq (aC aA 6 [(13,.v (.bool (bif (decide (48≤x1)) then (decide (x1≤57)) else false)))] ⟨⟨E,V⟩,E⟩ E E ?_))
  refine aK E h (fun h=>?_) (fun h=>?_)
  ·
   refine JS.seq (JS.region (aB aA 1 [] [] [(14,.v (.agg (aI x0 q3).toArray))] _ E ⟨⟨E,V⟩,E⟩ ?_))
   refine bnw h fun y27 hy28 h=>JO.call E E E E (dU x0 q3 _ hy28) E [0,1,2,3,4,5] E E fun q29 _=>aP aA 2 [] [29] [(6,.bp 29 0)] (.new 7 46 (aI x0 q3) (.new 8 46 bF (.new 29 46 (aI y27 q29) .nil))) E ⟨⟨E,V⟩,(Bs E E)⟩ (aD E (JS.seq (JS.region (aB aA 6 [(W (x0.2.2.2.1*10)),(W ((W (x0.2.2.2.1*10))+x1)),(W ((W ((W (x0.2.2.2.1*10))+x1)) - 48))] [] [(21,.v (I (W ((W ((W (x0.2.2.2.1*10))+x1)) - 48))))] _ E ⟨⟨V,E⟩,⟨V,E⟩,⟨V,E⟩,⟨E,V⟩,E⟩ ?_))))
   refine bnw h fun y41 hy42 h=>JO.call E E E E (cE (W ((W ((W (x0.2.2.2.1*10))+x1)) - 48)) 999 _ hy42) E [] E E fun _ _=>aP aA 2 [] [] [] (.new 8 46 bF (.new 29 46 (aI (U3 y27 y41) q29) .nil)) E ⟨V,(Bs E E)⟩ (aD E (aL aA 3 [] [] [(5,.v (I 0))] (.new 8 46 (aI (U3 y27 y41) q29) .nil) ⟨⟨E,V⟩,(Bs E E)⟩ E E ?_))
   cases h
   exact JS.ret aA q29 V E E [0,0,0,0,0,0] E
  refine JS.skip (JS.seq (JS.region (aB aA 1 [] [] [(25,.v (.agg (aI x0 q3).toArray))] _ E ⟨⟨E,V⟩,E⟩ ?_)))
  refine bnw h fun y43 hy44 h=>JO.call E E E E (zO x0 q3 _ hy44) E [0,1,2,3,4,5] E E fun _ _=>aB aA 1 [] [] [(7,.v (I y43))] _ E ⟨⟨E,V⟩,E⟩ (aD E (JS.seq (aC aA 1 [(27,.v (I x1))] ⟨⟨E,V⟩,E⟩ E E (JS.block (aC aA 2 [(28,.v (.bool (decide (x1=98))))] ⟨⟨E,V⟩,E⟩ E E ?_)))))
  refine aK E h (fun h=>?_) (fun h=>?_)
  ·
   refine JS.seq ?_
   obtain ⟨y45,hy46,h⟩:=aE h
   obtain ⟨⟨y47,y48⟩,hy49,h⟩:=aE h
   refine bB E (.new 7 46 (aI x0 q3) .nil) [] [4,5,6,7,8] ⟨E,E,E,E,V⟩ E (fun be62=>?_)
   refine bR aA aF true 6 [0,1,2] E (by kernel_rfl) [] [(30,.v (.agg (aI x0 q3).toArray)),(31,.v (.agg (aI x0 q3).toArray)),(32,.v (I y43))] ⟨E,E,E,E,V⟩ [] E E (Es E) (JA.one 3 (by kernel_rfl) (JK.call E E E E (lY x0 y43 false q3 _ hy46) E [0,1,2,3,4,5] E E fun _ _=>aR ⟨E,E,E,E,V⟩ [] E (JA.one 4 (by kernel_rfl) (JK.call E E E E (gW x0 y45 q3 _ hy49) E [0,1,2,3,4,5] E E ?_))))
   rintro q50 -
   refine aM E (aS aA aF 2 [5,6] E (by kernel_rfl) [] [(35,.v (.agg (aI y47 q50).toArray)),(36,.v (I y48))] E (Es E) (JA.one 7 (by kernel_rfl) (aY aA E E E E E E E E (aM E (aS aA aF 0 [8] E (by kernel_rfl) [] [(5,.v (I y48))] E ⟨E,V⟩ (bE (by kernel_rfl) (aW (B':=(.new 8 46 (aI y47 q50) .nil)) (Bs E E) ?_)))))))
   cases h
   exact JS.ret aA q50 V E E [0,0,0,0,0,0] E
  refine aC aA 2 [(37,.v (.bool (decide (x1=102))))] ⟨⟨E,V⟩,E⟩ E E ?_
  refine aK E h (fun h=>?_) (fun h=>?_)
  ·
   refine JS.seq ?_
   obtain ⟨y63,hy64,h⟩:=aE h
   obtain ⟨⟨y65,y66⟩,hy67,h⟩:=aE h
   refine bB E (.new 7 46 (aI x0 q3) .nil) [] [4,5,6,7,8] ⟨E,E,E,E,V⟩ E (fun be80=>?_)
   refine bR aA aF true 6 [0,1,2] E (by kernel_rfl) [] [(39,.v (.agg (aI x0 q3).toArray)),(40,.v (.agg (aI x0 q3).toArray)),(41,.v (I y43))] ⟨E,E,E,E,V⟩ [] E E (Es E) (JA.one 3 (by kernel_rfl) (JK.call E E E E (lY x0 y43 true q3 _ hy64) E [0,1,2,3,4,5] E E fun _ _=>aR ⟨E,E,E,E,V⟩ [] E (JA.one 4 (by kernel_rfl) (JK.call E E E E (gW x0 y63 q3 _ hy67) E [0,1,2,3,4,5] E E ?_))))
   rintro q68 -
   refine aM E (aS aA aF 2 [5,6] E (by kernel_rfl) [] [(44,.v (.agg (aI y65 q68).toArray)),(45,.v (I y66))] E (Es E) (JA.one 7 (by kernel_rfl) (aY aA E E E E E E E E (aM E (aS aA aF 0 [8] E (by kernel_rfl) [] [(5,.v (I y66))] E ⟨E,V⟩ (bE (by kernel_rfl) (aW (B':=(.new 8 46 (aI y65 q68) .nil)) (Bs E E) ?_)))))))
   cases h
   exact JS.ret aA q68 V E E [0,0,0,0,0,0] E
  refine aC aA 2 [(46,.v (.bool (decide (x1=100))))] ⟨⟨E,V⟩,E⟩ E E ?_
  refine aK E h (fun h=>?_) (fun h=>?_)
  ·
   refine JS.seq ?_
   obtain ⟨y81,hy82,h⟩:=aE h
   obtain ⟨⟨y83,y84⟩,hy85,h⟩:=aE h
   refine bB E (.new 7 46 (aI x0 q3) .nil) [] [7,8,9,10,11] ⟨E,E,E,E,V⟩ E (fun be98=>?_)
   refine bR aA aF true 6 [0,1,2,3,4,5] E (by kernel_rfl) [] [(48,.v (.agg (aI x0 q3).toArray)),(51,.v (I x0.2.2.1.2)),(52,.v (.agg (aI x0 q3).toArray)),(53,.v (I y43))] ⟨E,E,E,E,V⟩ [] E E (Es E) (JA.one 6 (by kernel_rfl) (JK.call E E E E (lY x0 y43 true q3 _ hy82) E [0,1,2,3,4,5] E E fun _ _=>aR ⟨E,E,E,E,V⟩ [] E (JA.one 7 (by kernel_rfl) (JK.call E E E E (oR x0 x0.2.2.1.2 y81 1 q3 _ hy85) E [0,1,2,3,4,5] E E ?_))))
   rintro q86 -
   refine aM E (aS aA aF 2 [8,9] E (by kernel_rfl) [] [(56,.v (.agg (aI y83 q86).toArray)),(57,.v (I y84))] E (Es E) (JA.one 10 (by kernel_rfl) (aY aA E E E E E E E E (aM E (aS aA aF 0 [11] E (by kernel_rfl) [] [(5,.v (I y84))] E ⟨E,V⟩ (bE (by kernel_rfl) (aW (B':=(.new 8 46 (aI y83 q86) .nil)) (Bs E E) ?_)))))))
   cases h
   exact JS.ret aA q86 V E E [0,0,0,0,0,0] E
  refine aC aA 2 [(58,.v (.bool (decide (x1=121))))] ⟨⟨E,V⟩,E⟩ E E ?_
  refine aK E h (fun h=>?_) (fun h=>?_)
  ·
   refine JS.seq (JS.region (aB aA 1 [] [] [(60,.v (.agg (aI x0 q3).toArray))] _ E ⟨⟨E,V⟩,E⟩ ?_))
   obtain ⟨⟨y99,y100⟩,hy101,h⟩:=aE h
   refine JO.call E E E E (aBm x0 q3 _ hy101) E [0,1,2,3,4,5] E E fun q102 _=>aP aA 4 [] [] [(5,.v (I y100))] (.new 8 46 (aI y99 q102) .nil) E ⟨⟨E,V⟩,(Bs E E)⟩ (aD E ?_)
   cases h
   exact JS.ret aA q102 V E E [0,0,0,0,0,0] E
  refine aC aA 2 [(64,.v (.bool (decide (x1=117))))] ⟨⟨E,V⟩,E⟩ E E ?_
  refine aK E h (fun h=>?_) (fun h=>?_)
  ·
   refine JS.seq (JS.region (aB aA 1 [] [] [(66,.v (.agg (aI x0 q3).toArray))] _ E ⟨⟨E,V⟩,E⟩ ?_))
   obtain ⟨⟨y114,y115⟩,hy116,h⟩:=aE h
   refine JO.call E E E E (wT x0 1 q3 _ hy116) E [0,1,2,3,4,5] E E fun q117 _=>aP aA 4 [] [] [(5,.v (I y115))] (.new 8 46 (aI y114 q117) .nil) E ⟨⟨E,V⟩,(Bs E E)⟩ (aD E ?_)
   cases h
   exact JS.ret aA q117 V E E [0,0,0,0,0,0] E
  refine aC aA 2 [(70,.v (.bool (decide (x1=108))))] ⟨⟨E,V⟩,E⟩ E E ?_
  refine aK E h (fun h=>?_) (fun h=>?_)
  ·
   refine JS.seq (JS.region (aB aA 1 [] [] [(72,.v (.agg (aI x0 q3).toArray))] _ E ⟨⟨E,V⟩,E⟩ ?_))
   obtain ⟨⟨y129,y130⟩,hy131,h⟩:=aE h
   refine JO.call E E E E (wT x0 0 q3 _ hy131) E [0,1,2,3,4,5] E E fun q132 _=>aP aA 4 [] [] [(5,.v (I y130))] (.new 8 46 (aI y129 q132) .nil) E ⟨⟨E,V⟩,(Bs E E)⟩ (aD E ?_)
   cases h
   exact JS.ret aA q132 V E E [0,0,0,0,0,0] E
  refine aC aA 2 [(76,.v (.bool (decide (x1=99))))] ⟨⟨E,V⟩,E⟩ E E ?_
  refine aK E h (fun h=>?_) (fun h=>?_)
  ·
   refine JS.seq (JS.region (aB aA 1 [] [] [(78,.v (.agg (aI x0 q3).toArray))] _ E ⟨⟨E,V⟩,E⟩ ?_))
   obtain ⟨⟨y144,y145⟩,hy146,h⟩:=aE h
   refine JO.call E E E E (wT x0 2 q3 _ hy146) E [0,1,2,3,4,5] E E fun q147 _=>aP aA 4 [] [] [(5,.v (I y145))] (.new 8 46 (aI y144 q147) .nil) E ⟨⟨E,V⟩,(Bs E E)⟩ (aD E ?_)
   cases h
   exact JS.ret aA q147 V E E [0,0,0,0,0,0] E
  refine JS.skip (aZ (JS.seq (JS.region (aB aA 1 [] [] [(82,.v (.agg (aI x0 q3).toArray))] _ E ⟨⟨E,V⟩,E⟩ ?_))))
  obtain ⟨⟨y159,y160⟩,hy161,h⟩:=aE h
  refine JO.call E E E E (fF x0 q3 _ hy161) E [0,1,2,3,4,5] E E fun q162 _=>aP aA 4 [] [] [(5,.v (I y160))] (.new 8 46 (aI y159 q162) .nil) E ⟨⟨E,V⟩,(Bs E E)⟩ (aD E ?_)
  cases h
  exact JS.ret aA q162 V E E [0,0,0,0,0,0] E

def pI (x0:EdQ) (x1:Int×List (List UInt8)) (x2:Int×Int):Option (EdQ×Int):=
  (aG (pJ x0) fun (y32:Bool)=>
  (bU ((!y32)=false) (lB x1) false fun (y34:Bool)=>
  (bU ((bif (!y32) then true else (!y34))=false) (sX x2) false fun (y37:Bool)=>
  (bif (bif (bif (bif (!y32) then true else (!y34)) then true else (!y37)) then true else (!(decide (x0.2.1=0)))) then
  some ((false,0,([],0),0,0,0,0,0,0,0,[],[],0,([],0),[],0,([],0)),0)
  else
  (aG (pE x0 x1 x2) fun (y40,y41,y42)=>
  (bif y42 then
  some (y40,y41)
  else
  (bif (decide (x2.1=3)) then
  (aG (rK x0 x2.2) fun (y56,y57)=>
  some (y56,y57))
  else
  (bif (decide (x2.1=15)) then
  (aG (rJ x0) fun (y71:Int)=>
  (aG (gE x0 y71 false) fun (y73:Int)=>
  (aG (gF x0 y73 x0.2.2.1.2 2) fun (y75,y76)=>
  some (y75,y76))))
  else
  (bif (decide (x2.1=2)) then
  (aG (rL x0 x1 x2.2) fun (y91,y92)=>
  some (y91,y92))
  else
  (aG (dG x0) fun (y106,y107)=>
  some (y106,y107)))))))))))

theorem mO (x0:EdQ) (x1:Int×List (List UInt8)) (x2:Int×Int) (q4:P6) (a28:Option Addr) (c29:Nat) (r:EdQ×Int) (h:pI x0 x1 x2=some r):
  FC Tryz.prog 37 [.agg (cC x0 q4).toArray,.agg #[.int .i64 x1.1,.slice a28 x1.2.length c29],.agg #[.int .i64 x2.1,.int .i64 x2.2]] (bW x0 q4 [⟨.str,⟨a28,x1.2.length,c29⟩,x1.2⟩]) (fun _:P6=>True) (fun q=>.tuple #[.agg (aI r.1 q).toArray,.int .i64 r.2]) (fun q=>(bW r.1 q [])):=
 by
  refine FC.of (T:=TTx) Tryz.call37 Tryz.func37 E E fun w0=>?_
  unfold pI at h
  refine aL aA 5 [] [8,9,10,11] [(3,.bp 8 0),(4,.bp 9 0),(5,.bp 10 0),(6,.bp 11 0)] (.new 8 46 (aI x0 q4) (.new 9 50 [.int .i64 x1.1,.slice a28 x1.2.length c29] (.new 10 64 [.int .i64 x2.1,.int .i64 x2.2] (.new 11 46 bF .nil)))) ⟨(Es E),(Bs E E)⟩ E E (JS.seq (JS.seq (JS.region (aB aA 1 [] [] [(11,.v (.agg (aI x0 q4).toArray))] _ E ⟨⟨E,V⟩,E⟩ ?_))))
  refine bnw h fun y32 hy33 h=>JO.call E E E E (zP x0 q4 _ hy33) E [0,1,2,3,4,5] E E fun _ _=>aB aA 3 [] [] [(14,.v (.bool (!y32))),(15,.cd [(14,false)] (.v (.agg #[.int .i64 x1.1,.slice a28 x1.2.length c29])))] _ E ⟨(Es E),E⟩ ?_
  obtain ⟨y34,hy35,-,h⟩:=aV h
  refine bI E E E E (fun q126=>uK x1 a28 c29 _ (hy35 q126)) E [6] E E (aB aA 4 [] [] [(19,.v (.bool (bif (!y32) then true else (!y34)))),(20,.cd [(19,false)] (.v (.agg #[.int .i64 x2.1,.int .i64 x2.2])))] _ E ⟨(Es E),E⟩ ?_)
  obtain ⟨y37,hy38,-,h⟩:=aV h
  refine bI E E E E (fun q127=>aEu x2 _ (hy38 q127)) E [] E E (aB aA 7 [] [] [(28,.v (.bool (bif (bif (bif (!y32) then true else (!y34)) then true else (!y37)) then true else (!(decide (x0.2.1=0))))))] _ E ⟨⟨E,V⟩,E⟩ (aD E ?_))
  refine aK E h (fun h=>?_) (fun h=>?_)
  ·
   refine aL aA 3 [] [] [(7,.v (I 0))] (.new 11 46 bF .nil) ⟨⟨E,V⟩,(Bs E E)⟩ E E ?_
   cases h
   refine aX (.int .i64) Sl.nil E E (aX (.sl (.int .i64)) Sl.nil E E (aX (.pair (.sl (.int .i64)) (.int .i64)) Sl.nil E E (aX (.int .i64) Sl.nil E E (aX (.int .i64) Sl.nil E E (aX (.int .i64) Sl.nil E E (JS.ret aA (none,0,none,0,none,0,none,0,none,0,none,0) V E E [5,4,3,2,1,0] E))))))
  refine JS.skip (JS.seq (JS.region (aB aA 3 [] [] [(31,.v (.agg (aI x0 q4).toArray)),(32,.v (.agg #[.int .i64 x1.1,.slice a28 x1.2.length c29])),(33,.v (.agg #[.int .i64 x2.1,.int .i64 x2.2]))] _ E ⟨(Es E),E⟩ ?_)))
  obtain ⟨⟨y40,y41,y42⟩,hy43,h⟩:=aE h
  refine JO.call E E E E (aGi x0 x1 x2 q4 a28 c29 _ hy43) E [0,1,2,3,4,5,6] E E fun q44 _=>aP aA 8 [] [40] [(8,.bp 40 0),(9,.v (I y41)),(10,.v (.bool y42))] (.new 8 46 (aI x0 q4) (.new 9 50 [.int .i64 x1.1,.slice a28 x1.2.length c29] (.new 10 64 [.int .i64 x2.1,.int .i64 x2.2] (.new 11 46 bF (.new 40 46 (aI y40 q44) .nil))))) E ⟨(Es E),(Bs E E)⟩ (aD E (JS.seq (aC aA 1 [(38,.v (.bool y42))] ⟨⟨E,V⟩,E⟩ E E ?_)))
  refine aK E h (fun h=>?_) (fun h=>?_)
  ·
   refine aL aA 4 [] [] [(7,.v (I y41))] (.new 11 46 (aI y40 q44) .nil) ⟨⟨E,V⟩,(Bs E E)⟩ E E ?_
   cases h
   exact JS.ret aA q44 V E E [0,0,0,0,0,0] E
  refine JS.skip (JS.seq (aC aA 2 [(42,.v (I x2.1))] ⟨⟨E,V⟩,E⟩ E E (JS.block (aC aA 2 [(43,.v (.bool (decide (x2.1=3))))] ⟨⟨E,V⟩,E⟩ E E ?_))))
  refine aK E h (fun h=>?_) (fun h=>?_)
  ·
   refine JS.seq (JS.region (aB aA 3 [] [] [(45,.v (.agg (aI x0 q4).toArray)),(47,.v (I x2.2))] _ E ⟨(Es E),E⟩ ?_))
   obtain ⟨⟨y56,y57⟩,hy58,h⟩:=aE h
   refine JO.call E E E E (aIh x0 x2.2 q4 _ hy58) E [0,1,2,3,4,5] E E fun q59 _=>aP aA 4 [] [] [(7,.v (I y57))] (.new 11 46 (aI y56 q59) .nil) E ⟨⟨E,V⟩,(Bs E E)⟩ (aD E ?_)
   cases h
   exact JS.ret aA q59 V E E [0,0,0,0,0,0] E
  refine aC aA 2 [(51,.v (.bool (decide (x2.1=15))))] ⟨⟨E,V⟩,E⟩ E E ?_
  refine aK E h (fun h=>?_) (fun h=>?_)
  ·
   refine JS.seq ?_
   obtain ⟨y71,hy72,h⟩:=aE h
   obtain ⟨y73,hy74,h⟩:=aE h
   obtain ⟨⟨y75,y76⟩,hy77,h⟩:=aE h
   refine bB E (.new 8 46 (aI x0 q4) .nil) [] [8,9,10,11,12] ⟨E,E,E,E,V⟩ E (fun be90=>?_)
   refine bR aA aF true 7 [0,1,2,5,6,7] E (by kernel_rfl) [] [(53,.v (.agg (aI x0 q4).toArray)),(54,.v (.agg (aI x0 q4).toArray)),(55,.v (.agg (aI x0 q4).toArray)),(60,.v (I x0.2.2.1.2))] ⟨E,E,E,E,V⟩ [] E E (Es E) (JA.one 3 (by kernel_rfl) (JK.call E E E E (zO x0 q4 _ hy72) E [0,1,2,3,4,5] E E fun _ _=>aR ⟨E,E,E,E,V⟩ [] E (JA.one 4 (by kernel_rfl) (JK.call E E E E (lY x0 y71 false q4 _ hy74) E [0,1,2,3,4,5] E E fun _ _=>aR ⟨E,E,E,E,V⟩ [] E (JA.one 8 (by kernel_rfl) (JK.call E E E E (oR x0 y73 x0.2.2.1.2 2 q4 _ hy77) E [0,1,2,3,4,5] E E ?_))))))
   rintro q78 -
   refine aM E (aS aA aF 2 [9,10] E (by kernel_rfl) [] [(62,.v (.agg (aI y75 q78).toArray)),(63,.v (I y76))] E (Es E) (JA.one 11 (by kernel_rfl) (aY aA E E E E E E E E (aM E (aS aA aF 0 [12] E (by kernel_rfl) [] [(7,.v (I y76))] E ⟨E,V⟩ (bE (by kernel_rfl) (aW (B':=(.new 11 46 (aI y75 q78) .nil)) (Bs E E) ?_)))))))
   cases h
   exact JS.ret aA q78 V E E [0,0,0,0,0,0] E
  refine aC aA 2 [(64,.v (.bool (decide (x2.1=2))))] ⟨⟨E,V⟩,E⟩ E E ?_
  refine aK E h (fun h=>?_) (fun h=>?_)
  ·
   refine JS.seq (JS.region (aB aA 4 [] [] [(66,.v (.agg (aI x0 q4).toArray)),(67,.v (.agg #[.int .i64 x1.1,.slice a28 x1.2.length c29])),(69,.v (I x2.2))] _ E ⟨(Es E),E⟩ ?_))
   obtain ⟨⟨y91,y92⟩,hy93,h⟩:=aE h
   refine JO.call E E E E (aIi x0 x1 x2.2 q4 a28 c29 _ hy93) E [0,1,2,3,4,5,6] E E fun q94 _=>aP aA 4 [] [] [(7,.v (I y92))] (.new 11 46 (aI y91 q94) .nil) E ⟨⟨E,V⟩,(Bs E E)⟩ (aD E ?_)
   cases h
   exact JS.ret aA q94 V E E [0,0,0,0,0,0] E
  refine JS.skip (aZ (JS.seq (JS.region (aB aA 1 [] [] [(73,.v (.agg (aI x0 q4).toArray))] _ E ⟨⟨E,V⟩,E⟩ ?_))))
  obtain ⟨⟨y106,y107⟩,hy108,h⟩:=aE h
  refine JO.call E E E E (fF x0 q4 _ hy108) E [0,1,2,3,4,5] E E fun q109 _=>aP aA 4 [] [] [(7,.v (I y107))] (.new 11 46 (aI y106 q109) .nil) E ⟨⟨E,V⟩,(Bs E E)⟩ (aD E ?_)
  cases h
  exact JS.ret aA q109 V E E [0,0,0,0,0,0] E

def cT (x0:Int) (x1:Int) (x2:Int):Option Bool:=
  some (bif (decide (x1≤x0)) then (decide (x0≤x2)) else false)

theorem dV (x0:Int) (x1:Int) (x2:Int) (r:Bool) (h:cT x0 x1 x2=some r) :
  FC Tryz.prog 99 [.int .i64 x0,.int .i64 x1,.int .i64 x2] [] (fun _:Unit=>True) (fun _=>.bool r) (fun _=>[]):=
 by
  refine FC.of (T:=TTx) Tryz.call99 Tryz.func99 E E fun w0=>?_
  unfold cT at h
  refine aC aA 1 [] ⟨V,E⟩ E E (aC aA 9 [(6,.v (.bool (bif (decide (x1≤x0)) then (decide (x0≤x2)) else false)))] ⟨⟨E,V⟩,E⟩ E E ?_)
  cases h
  exact JS.ret aA () V E E [] E

def lS (x0:Int):Option Bool:=
  (aG (cT x0 0 1114111) fun (y2:Bool)=>
  (bU (y2=true) (cT x0 55296 57343) false fun (y4:Bool)=>
  some (bif y2 then (!y4) else false)))

theorem aDd (x0:Int) (r:Bool) (h:lS x0=some r) :
  FC Tryz.prog 141 [.int .i64 x0] [] (fun _:Unit=>True) (fun _=>.bool r) (fun _=>[]):=
 by
  refine FC.of (T:=TTx) Tryz.call141 Tryz.func141 E E fun w0=>?_
  unfold lS at h
  refine aC aA 1 [] ⟨V,E⟩ E E (JS.seq (JS.region (aB aA 1 [] [] [(3,.v (I x0))] _ E ⟨⟨E,V⟩,E⟩ ?_)))
  refine bnw h fun y2 hy3 h=>JO.call E E E E (dV x0 0 1114111 _ hy3) E [] E E fun _ _=>aB aA 2 [] [] [(5,.v (.bool y2)),(6,.cd [(5,true)] (.v (I x0)))] _ E ⟨(Es E),E⟩ ?_
  obtain ⟨y4,hy5,-,h⟩:=aV h
  refine bI E E E E (fun q7=>dV x0 55296 57343 _ (hy5 q7)) E [] E E (aB aA 3 [] [] [(2,.v (.bool (bif y2 then (!y4) else false)))] _ E ⟨⟨E,V⟩,E⟩ (aD E ?_))
  cases h
  exact JS.ret aA () V E E [] E

def dS (x0:Int):Option Bool:=
  (aG (lS x0) fun (y2:Bool)=>
  (bU ((bif y2 then (decide (32≤x0)) else false)=true) (cT x0 127 159) false fun (y4:Bool)=>
  some (bif (bif y2 then (decide (32≤x0)) else false) then (!y4) else false)))

theorem kM (x0:Int) (r:Bool) (h:dS x0=some r) :
  FC Tryz.prog 57 [.int .i64 x0] [] (fun _:Unit=>True) (fun _=>.bool r) (fun _=>[]):=
 by
  refine FC.of (T:=TTx) Tryz.call57 Tryz.func57 E E fun w0=>?_
  unfold dS at h
  refine aC aA 1 [] ⟨V,E⟩ E E (JS.seq (JS.region (aB aA 1 [] [] [(3,.v (I x0))] _ E ⟨⟨E,V⟩,E⟩ ?_)))
  refine bnw h fun y2 hy3 h=>JO.call E E E E (aDd x0 _ hy3) E [] E E fun _ _=>aB aA 6 [] [] [(9,.v (.bool (bif y2 then (decide (32≤x0)) else false))),(10,.cd [(9,true)] (.v (I x0)))] _ E ⟨(Es E),E⟩ ?_
  obtain ⟨y4,hy5,-,h⟩:=aV h
  refine bI E E E E (fun q7=>dV x0 127 159 _ (hy5 q7)) E [] E E (aB aA 3 [] [] [(2,.v (.bool (bif (bif y2 then (decide (32≤x0)) else false) then (!y4) else false)))] _ E ⟨⟨E,V⟩,E⟩ (aD E ?_))
  cases h
  exact JS.ret aA () V E E [] E

def lP (x0:Int):Option Bool:=
  (aG (dS x0) fun (y2:Bool)=>
  some (bif (bif y2 then true else (decide (x0=9))) then true else (decide (x0=10))))

theorem aDv (x0:Int) (r:Bool) (h:lP x0=some r) :
  FC Tryz.prog 248 [.int .i64 x0] [] (fun _:Unit=>True) (fun _=>.bool r) (fun _=>[]):=
 by
  refine FC.of (T:=TTx) Tryz.call248 Tryz.func248 E E fun w0=>?_
  unfold lP at h
  refine aC aA 1 [] ⟨V,E⟩ E E (JS.seq (JS.region (aB aA 1 [] [] [(3,.v (I x0))] _ E ⟨⟨E,V⟩,E⟩ ?_)))
  refine bnw h fun y2 hy3 h=>JO.call E E E E (kM x0 _ hy3) E [] E E fun _ _=>aB aA 9 [] [] [(2,.v (.bool (bif (bif y2 then true else (decide (x0=9))) then true else (decide (x0=10)))))] _ E ⟨⟨E,V⟩,E⟩ (aD E ?_)
  cases h
  exact JS.ret aA () V E E [] E

def dL (x0:List Int) (j20:Unit→Option Bool) (k14:Int→Option Bool):Int→Option Bool:=fun x6=>
  (bif (decide (x6<(x0.length:Int))) then
  (aN (0≤x6∧x6<(x0.length:Int)) <|
  (bU ((decide (400≤x6))=false) (lP (at' x0 x6)) false fun (y9:Bool)=>
  (bif (bif (decide (400≤x6)) then true else (!y9)) then
  some false
  else
  k14 (W (x6+1)))))
  else
  j20 ())

def dY (x0:List Int):Option Bool:=
  (aU (fun (_:Unit)=>
  some true) fun j20=>
  (bC (dL x0 j20) bM 0))

theorem nQ (x0:List Int) (a2:Option Addr) (c3:Nat) (r:Bool) (h:dY x0=some r):
  FC Tryz.prog 179 [.slice a2 x0.length c3] [⟨(.int .i64),⟨a2,x0.length,c3⟩,x0⟩] (fun _:Unit=>True) (fun _=>.bool r) (fun _=>[]):=
 by
  refine FC.of (T:=TTx) Tryz.call179 Tryz.func179 E E fun w0=>?_
  unfold dY at h
  refine aC aA 1 [] ⟨V,E⟩ E E (JS.seq (aC aA 3 [(5,.v (.slice a2 x0.length c3)),(6,.v (I (x0.length:Int))),(7,.v (I 0))] ⟨(Es E),E⟩ E E ?_))
  obtain ⟨j20,hj30,h⟩:=aQ h
  refine bA (ι:=Unit) ⟨fun _=>j20 ()=some r,fun _=>[],fun _=>.nil,fun _=>[],fun _=>[],fun _=>0⟩ ?_ ?_
  ·
   refine JS.loop (ι:=Nat×Int) ⟨fun z=>bC (dL x0 j20) z.1 z.2=some r,fun z=>[(5,.v (.slice a2 x0.length c3)),(6,.v (I (x0.length:Int))),(7,.v (I z.2))],fun z=>.nil,fun z=>[⟨(.int .i64),⟨a2,x0.length,c3⟩,x0⟩],fun z=>[],fun z=>z.1⟩ (bM,0) h (Es E) V [0] E [] E ?_
   rintro ⟨n15,x6⟩ h
   obtain ⟨n15,rfl,h⟩:=bH h
   rw [dL] at h
   refine aC aA 1 [(8,.v (.bool (decide (x6<(x0.length:Int)))))] ⟨⟨E,V⟩,E⟩ E E (JS.seq ?_)
   refine aK E h (fun h=>?_) (fun h=>?_)
   ·
    refine JS.skip (JS.seq (JS.block (JS.seq (JS.region (bJ 0 E fun hs26=>?_)))))
    obtain ⟨g8,h⟩:=aH h
    refine aB aA 2 [] [] [(9,.v (I x6)),(10,.ep ⟨a2,x0.length,c3⟩ (Int.toNat x6*1))] _ E ⟨hs26.ix g8,(Es E),E⟩ (JO.load aA E E E E E E E 0 E E (Int.toNat x6) 0 (at' x0 x6) ⟨bD g8,E⟩ E E (aB aA 2 [] [] [(3,.v (I x6)),(4,.v (I (at' x0 x6)))] _ E ⟨(Es E),E⟩ (aD E (JS.seq (JS.region (aB aA 4 [] [] [(14,.v (.bool (decide (400≤x6)))),(15,.cd [(14,false)] (.v (I (at' x0 x6))))] _ E ⟨(Es E),E⟩ ?_))))))
    obtain ⟨y9,hy10,-,h⟩:=aV h
    refine bI E E E E (fun q27=>aDv (at' x0 x6) _ (hy10 q27)) E [] E E (aB aA 2 [] [] [(18,.v (.bool (bif (decide (400≤x6)) then true else (!y9))))] _ E ⟨⟨E,V⟩,E⟩ (aD E ?_))
    refine aK E h (fun h=>?_) (fun h=>?_)
    ·
     refine aC aA 1 [(2,.v (.bool false))] ⟨⟨E,V⟩,E⟩ E E ?_
     cases h
     exact JS.ret aA () V E E [] E
    refine JS.skip (aZ (bZ aA 2 [(W (x6+1))] [] [(7,.v (I (W (x6+1))))] _ ⟨⟨V,E⟩,⟨E,V⟩,E⟩ E E (bQ (n15,(W (x6+1))) h (Nat.lt_succ_self _) (Es E) V [0] E [] E)))
   refine JS.exit E (aT () h V V [] E [] E)
  rintro _ h
  subst hj30
  refine aC aA 1 [(2,.v (.bool true))] ⟨⟨E,V⟩,E⟩ E E ?_
  cases h
  exact JS.ret aA () V E E [] E

def dJ (x0:List Int×Int):Option Bool:=
  (aG (dY x0.1) fun (y6:Bool)=>
  (bU (y6=true) (cT x0.2 0 (x0.1.length:Int)) false fun (y8:Bool)=>
  some (bif y6 then y8 else false)))

theorem fK (x0:List Int×Int) (a2:Option Addr) (c3:Nat) (r:Bool) (h:dJ x0=some r):
  FC Tryz.prog 98 [.agg #[.slice a2 x0.1.length c3,.int .i64 x0.2]] [⟨(.int .i64),⟨a2,x0.1.length,c3⟩,x0.1⟩] (fun _:Unit=>True) (fun _=>.bool r) (fun _=>[]):=
 by
  refine FC.of (T:=TTx) Tryz.call98 Tryz.func98 E E fun w0=>?_
  unfold dJ at h
  refine aL aA 2 [] [2] [(1,.bp 2 0)] (.new 2 38 [.slice a2 x0.1.length c3,.int .i64 x0.2] .nil) ⟨⟨E,V⟩,(Bs E E)⟩ E E (JS.seq (JS.region (aB aA 2 [] [] [(4,.v (.slice a2 x0.1.length c3))] _ E ⟨⟨E,V⟩,E⟩ ?_)))
  refine bnw h fun y6 hy7 h=>JO.call E E E E (nQ x0.1 a2 c3 _ hy7) E [0] E E fun _ _=>aB aA 6 [] [] [(6,.v (.bool y6)),(8,.cd [(6,true)] (.v (I x0.2))),(11,.cd [(6,true)] (.v (I (x0.1.length:Int))))] _ E ⟨(Es E),E⟩ ?_
  obtain ⟨y8,hy9,-,h⟩:=aV h
  refine bI E E E E (fun q11=>dV x0.2 0 (x0.1.length:Int) _ (hy9 q11)) E [] E E (aB aA 2 [] [] [(2,.v (.bool (bif y6 then y8 else false)))] _ E ⟨⟨E,V⟩,E⟩ (aD E ?_))
  cases h
  exact JS.ret aA () V E E [] E

def oL (x0:List Int×Int):Option Bool:=
  some (bif (decide (0<(x0.1.length:Int))) then (decide (x0.2=(x0.1.length:Int))) else false)

theorem aBr (x0:List Int×Int) (a2:Option Addr) (c3:Nat) (r:Bool) (h:oL x0=some r):
  FC Tryz.prog 180 [.agg #[.slice a2 x0.1.length c3,.int .i64 x0.2]] [⟨(.int .i64),⟨a2,x0.1.length,c3⟩,x0.1⟩] (fun _:Unit=>True) (fun _=>.bool r) (fun _=>[]):=
 by
  refine FC.of (T:=TTx) Tryz.call180 Tryz.func180 E E fun w0=>?_
  unfold oL at h
  refine aL aA 2 [] [2] [(1,.bp 2 0)] (.new 2 38 [.slice a2 x0.1.length c3,.int .i64 x0.2] .nil) ⟨⟨E,V⟩,(Bs E E)⟩ E E (aC aA 13 [(2,.v (.bool (bif (decide (0<(x0.1.length:Int))) then (decide (x0.2=(x0.1.length:Int))) else false)))] ⟨⟨E,V⟩,E⟩ E E ?_)
  cases h
  exact JS.ret aA () V E E [] E

def lM (x0:Int) (x1:List UInt8) (j11:Unit→Option Bool) (k7:Int→Option Bool):Int→Option Bool:=fun x3=>
  (bif (decide (x3<(x1.length:Int))) then
  (aN (0≤x3∧x3<(x1.length:Int)) <|
  (bif (decide (((at' x1 x3).toNat:Int)=x0)) then
  some true
  else
  k7 (W (x3+1))))
  else
  j11 ())

def oM (x0:Int) (x1:List UInt8):Option Bool:=
  (aU (fun (_:Unit)=>
  some false) fun j11=>
  (bC (lM x0 x1 j11) bM 0))

theorem aBs (x0:Int) (x1:List UInt8) (r:Bool) (h:oM x0 x1=some r) :
  FC Tryz.prog 181 [.int .i64 x0,.string (bs x1)] [] (fun _:Unit=>True) (fun _=>.bool r) (fun _=>[]):=
 by
  refine FC.of (T:=TTx) Tryz.call181 Tryz.func181 E E fun w0=>?_
  unfold oM at h
  refine aC aA 1 [] ⟨V,E⟩ E E (JS.seq (aC aA 1 [(5,.v (I 0))] ⟨⟨E,V⟩,E⟩ E E ?_))
  obtain ⟨j11,hj17,h⟩:=aQ h
  refine bA (ι:=Unit) ⟨fun _=>j11 ()=some r,fun _=>[],fun _=>.nil,fun _=>[],fun _=>[],fun _=>0⟩ ?_ ?_
  ·
   refine JS.loop (ι:=Nat×Int) ⟨fun z=>bC (lM x0 x1 j11) z.1 z.2=some r,fun z=>[(0,.v (I x0)),(1,.v (.string (bs x1))),(5,.v (I z.2))],fun z=>.nil,fun z=>[],fun z=>[],fun z=>z.1⟩ (bM,0) h (Es E) V [] E [] E ?_
   rintro ⟨n8,x3⟩ h
   obtain ⟨n8,rfl,h⟩:=bH h
   rw [lM] at h
   refine JS.seq (aC aA 4 [(9,.v (.bool (decide (x3<(x1.length:Int)))))] ⟨⟨E,V⟩,E⟩ E E ?_)
   refine aK E h (fun h=>?_) (fun h=>?_)
   ·
    refine JS.skip (JS.seq (JS.block (JS.seq (JS.region ?_))))
    obtain ⟨g4,h⟩:=aH h
    refine aB aA 6 [((at' x1 x3).toNat:Int)] [] [(17,.v (.bool (decide (((at' x1 x3).toNat:Int)=x0))))] _ E ⟨g4,⟨V,aFx _⟩,⟨E,V⟩,E⟩ (aD E ?_)
    refine aK E h (fun h=>?_) (fun h=>?_)
    ·
     refine aC aA 1 [(4,.v (.bool true))] ⟨⟨E,V⟩,E⟩ E E ?_
     cases h
     exact JS.ret aA () V E E [] E
    refine JS.skip (aZ (bZ aA 3 [(W (x3+1))] [] [(5,.v (I (W (x3+1))))] _ ⟨⟨V,E⟩,⟨E,V⟩,E⟩ E E (bQ (n8,(W (x3+1))) h (Nat.lt_succ_self _) (Es E) V [] E [] E)))
   refine JS.exit E (aT () h V V [] E [] E)
  rintro _ h
  subst hj17
  refine aC aA 1 [(4,.v (.bool false))] ⟨⟨E,V⟩,E⟩ E E ?_
  cases h
  exact JS.ret aA () V E E [] E

def uA (x0:EdQ):Option Bool:=
  (aU (fun (_:Unit)=>
  (bU ((decide (x0.2.1=2))=true) (oL x0.2.2.1) false fun (y44:Bool)=>
  (bif (bif (decide (x0.2.1=2)) then y44 else false) then
  some false
  else
  (bif (bif (bif (!(decide (x0.2.1=2))) then (bif (bif (!(decide (x0.2.2.2.2.1=0))) then true else (!(decide (x0.2.2.2.2.2.2.1=0)))) then true else (!(decide (x0.2.2.2.2.2.1=0)))) else false) then true else (bif (decide (x0.2.2.2.2.1=0)) then (!(decide (x0.2.2.2.2.2.1=0))) else false)) then
  some false
  else
  (bU ((decide (x0.2.2.2.2.1=0))=false) (oM x0.2.2.2.2.1 ([100,99,121]:List UInt8)) false fun (y47:Bool)=>
  (bU ((decide (x0.2.2.2.2.2.2.1=0))=false∧(bif (decide (x0.2.2.2.2.1=0)) then true else y47)=true) (oM x0.2.2.2.2.2.2.1 ([102,70,116,84,114]:List UInt8)) false fun (y50:Bool)=>
  some (bif (bif (decide (x0.2.2.2.2.1=0)) then true else y47) then (bif (decide (x0.2.2.2.2.2.2.1=0)) then true else y50) else false))))))) fun j36=>
  (bif (decide (x0.2.1=0)) then
  (bif x0.1 then
  some false
  else
  j36 ())
  else
  (aU (fun (x28:Bool)=>
  (bif x28 then
  (bif (!x0.1) then
  some false
  else
  j36 ())
  else
  (bif (decide (x0.2.1=3)) then
  j36 ()
  else
  some false))) fun j29=>
  (bif (decide (x0.2.1=1)) then
  j29 (decide (x0.2.1=1))
  else
  j29 (decide (x0.2.1=2))))))

theorem aKr (x0:EdQ) (q2:P6) (r:Bool) (h:uA x0=some r):
  FC Tryz.prog 100 [.agg (cC x0 q2).toArray] (bW x0 q2 []) (fun _:Unit=>True) (fun _=>.bool r) (fun _=>[]):=
 by
  refine FC.of (T:=TTx) Tryz.call100 Tryz.func100 E E fun w0=>?_
  unfold uA at h
  refine aL aA 2 [] [7] [(1,.bp 7 0)] (.new 7 46 (aI x0 q2) .nil) ⟨⟨E,V⟩,(Bs E E)⟩ E E (JS.seq (aC aA 2 [(4,.v (I x0.2.1))] ⟨⟨E,V⟩,E⟩ E E ?_))
  obtain ⟨j36,hj70,h⟩:=aQ h
  refine bA (ι:=Unit) ⟨fun _=>j36 ()=some r,fun _=>[(1,.bp 7 0)],fun _=>(.new 7 46 (aI x0 q2) .nil),fun _=>(bW x0 q2 []),fun _=>[],fun _=>0⟩ ?_ ?_
  ·
   refine aC aA 2 [(5,.v (.bool (decide (x0.2.1=0))))] ⟨⟨E,V⟩,E⟩ E E ?_
   refine aK E h (fun h=>?_) (fun h=>?_)
   ·
    refine aC aA 2 [(8,.v (.bool x0.1))] ⟨⟨E,V⟩,E⟩ E E ?_
    refine aK E h (fun h=>?_) (fun h=>?_)
    ·
     refine aC aA 1 [(2,.v (.bool false))] ⟨⟨E,V⟩,E⟩ E E ?_
     cases h
     exact JS.ret aA () V E E [] E
    refine JS.skip (aZ (aT () h ⟨E,V⟩ (Bs E E) [0,1,2,3,4,5] E [] E))
   obtain ⟨j29,hj62,h⟩:=aQ h
   refine dM (ι:=Bool) ⟨fun z=>j29 z=some r,fun z=>[(1,.bp 7 0),(4,.v (I x0.2.1)),(9,.v (.bool z))],fun z=>(.new 7 46 (aI x0 q2) .nil),fun z=>(bW x0 q2 []),fun z=>[],fun z=>0⟩ ?_ ?_
   ·
    refine aC aA 2 [(9,.v (.bool (decide (x0.2.1=1))))] ⟨⟨E,V⟩,E⟩ E E ?_
    refine aK E h (fun h=>?_) (fun h=>?_)
    ·
     refine JS.skip (aT (decide (x0.2.1=1)) h (Es E) (Bs E E) [0,1,2,3,4,5] E [] E)
    refine vL aA 2 [(9,.v (.bool (decide (x0.2.1=2))))] ⟨⟨E,V⟩,E⟩ E E (aT (decide (x0.2.1=2)) h (Es E) (Bs E E) [0,1,2,3,4,5] E [] E)
   rintro x28 h
   subst hj62
   refine aK E h (fun h=>?_) (fun h=>?_)
   ·
    refine aC aA 3 [(14,.v (.bool (!x0.1)))] ⟨⟨E,V⟩,E⟩ E E ?_
    refine aK E h (fun h=>?_) (fun h=>?_)
    ·
     refine aC aA 1 [(2,.v (.bool false))] ⟨⟨E,V⟩,E⟩ E E ?_
     cases h
     exact JS.ret aA () V E E [] E
    refine JS.skip (aZ (aT () h ⟨E,V⟩ (Bs E E) [0,1,2,3,4,5] E [] E))
   refine aC aA 2 [(15,.v (.bool (decide (x0.2.1=3))))] ⟨⟨E,V⟩,E⟩ E E ?_
   refine aK E h (fun h=>?_) (fun h=>?_)
   ·
    refine JS.skip (aZ (aT () h ⟨E,V⟩ (Bs E E) [0,1,2,3,4,5] E [] E))
   refine aC aA 1 [(2,.v (.bool false))] ⟨⟨E,V⟩,E⟩ E E ?_
   cases h
   exact JS.ret aA () V E E [] E
  rintro _ h
  subst hj70
  refine JS.seq (JS.seq (JS.region (aB aA 6 [] [] [(20,.v (.bool (decide (x0.2.1=2)))),(22,.cd [(20,true)] (.v (.agg #[.slice q2.1 x0.2.2.1.1.length q2.2.1,.int .i64 x0.2.2.1.2])))] _ E ⟨(Es E),E⟩ ?_)))
  obtain ⟨y44,hy45,-,h⟩:=aV h
  refine bI E E E E (fun q64=>aBr x0.2.2.1 q2.1 q2.2.1 _ (hy45 q64)) E [0] E E (aB aA 1 [] [] [(24,.v (.bool (bif (decide (x0.2.1=2)) then y44 else false)))] _ E ⟨⟨E,V⟩,E⟩ (aD E ?_))
  refine aK E h (fun h=>?_) (fun h=>?_)
  ·
   refine aC aA 1 [(2,.v (.bool false))] ⟨⟨E,V⟩,E⟩ E E ?_
   cases h
   exact JS.ret aA () V E E [] E
  refine JS.skip (JS.seq (aC aA 28 [(52,.v (.bool (bif (bif (!(decide (x0.2.1=2))) then (bif (bif (!(decide ((Q4 x0).1=0))) then true else (!(decide ((Q4 x0).2.2.1=0)))) then true else (!(decide ((Q4 x0).2.1=0)))) else false) then true else (bif (decide ((Q4 x0).1=0)) then (!(decide ((Q4 x0).2.1=0))) else false))))] ⟨⟨E,V⟩,E⟩ E E ?_))
  refine aK E h (fun h=>?_) (fun h=>?_)
  ·
   refine aC aA 1 [(2,.v (.bool false))] ⟨⟨E,V⟩,E⟩ E E ?_
   cases h
   exact JS.ret aA () V E E [] E
  refine JS.skip (JS.seq (JS.region (aB aA 6 [] [] [(56,.v (.bool (decide ((Q4 x0).1=0)))),(58,.cd [(56,false)] (.v (I (Q4 x0).1)))] _ E ⟨(Es E),E⟩ ?_)))
  obtain ⟨y47,hy48,-,h⟩:=aV h
  refine bI E E E E (fun q65=>aBs (Q4 x0).1 ([100,99,121]:List UInt8) _ (hy48 q65)) E [] E E (aB aA 8 [] [] [(61,.v (.bool (bif (decide ((Q4 x0).1=0)) then true else y47))),(65,.cd [(61,true)] (.v (.bool (decide ((Q4 x0).2.2.1=0))))),(67,.cd [(65,false),(61,true)] (.v (I (Q4 x0).2.2.1)))] _ E ⟨(Es E),E⟩ ?_)
  obtain ⟨y50,hy51,-,h⟩:=aV h
  refine bI E E E E (fun q66 q67=>aBs (Q4 x0).2.2.1 ([102,70,116,84,114]:List UInt8) _ (hy51 ⟨q66,q67⟩)) E [] E E (aB aA 3 [] [] [(2,.v (.bool (bif (bif (decide ((Q4 x0).1=0)) then true else y47) then (bif (decide ((Q4 x0).2.2.1=0)) then true else y50) else false)))] _ E ⟨⟨E,V⟩,E⟩ (aD E ?_))
  cases h
  exact JS.ret aA () V E E [] E

def nK (x0:List (List Int)) (j32:Unit→Option Bool) (k26:Int→Option Bool):Int→Option Bool:=fun x6=>
  (bif (decide (x6<(x0.length:Int))) then
  (aN (0≤x6∧x6<(x0.length:Int)) <|
  (bU ((decide (((at' x0 x6).length:Int)=0))=false) (dY (at' x0 x6)) false fun (y17:Bool)=>
  (bif (bif (decide (((at' x0 x6).length:Int)=0)) then true else (!y17)) then
  some false
  else
  k26 (W (x6+1)))))
  else
  j32 ())

def lT (x0:List (List Int)):Option Bool:=
  (aU (fun (_:Unit)=>
  some (decide ((x0.length:Int)≤6))) fun j32=>
  (bC (nK x0 j32) bM 0))

theorem uO (x0:List (List Int)) (a2:Option Addr) (c3:Nat) (r:Bool) (h:lT x0=some r):
  FC Tryz.prog 101 [.agg #[.slice a2 x0.length c3]] [⟨(.sl (.int .i64)),⟨a2,x0.length,c3⟩,x0⟩] (fun _:Unit=>True) (fun _=>.bool r) (fun _=>[]):=
 by
  refine FC.of (T:=TTx) Tryz.call101 Tryz.func101 E E fun w0=>?_
  unfold lT at h
  refine aL aA 2 [] [2] [(1,.bp 2 0)] (.new 2 41 [.slice a2 x0.length c3] .nil) ⟨⟨E,V⟩,(Bs E E)⟩ E E (JS.seq (aC aA 4 [(6,.v (.slice a2 x0.length c3)),(7,.v (I (x0.length:Int))),(8,.v (I 0))] ⟨(Es E),E⟩ E E ?_))
  obtain ⟨j32,hj42,h⟩:=aQ h
  refine bA (ι:=Unit) ⟨fun _=>j32 ()=some r,fun _=>[(1,.bp 2 0)],fun _=>(.new 2 41 [.slice a2 x0.length c3] .nil),fun _=>[⟨(.sl (.int .i64)),⟨a2,x0.length,c3⟩,x0⟩],fun _=>[],fun _=>0⟩ ?_ ?_
  ·
   refine JS.loop (ι:=Nat×Int) ⟨fun z=>bC (nK x0 j32) z.1 z.2=some r,fun z=>[(1,.bp 2 0),(6,.v (.slice a2 x0.length c3)),(7,.v (I (x0.length:Int))),(8,.v (I z.2))],fun z=>(.new 2 41 [.slice a2 x0.length c3] .nil),fun z=>[⟨(.sl (.int .i64)),⟨a2,x0.length,c3⟩,x0⟩],fun z=>[],fun z=>z.1⟩ (bM,0) h (Es E) (Bs E E) [0] E [] E ?_
   rintro ⟨n27,x6⟩ h
   obtain ⟨n27,rfl,h⟩:=bH h
   rw [nK] at h
   refine aC aA 1 [(9,.v (.bool (decide (x6<(x0.length:Int)))))] ⟨⟨E,V⟩,E⟩ E E (JS.seq ?_)
   refine aK E h (fun h=>?_) (fun h=>?_)
   ·
    refine JS.skip (JS.seq (JS.block (JS.seq (JS.region (bJ 0 E fun hs38=>?_)))))
    obtain ⟨g11,h⟩:=aH h
    refine aB aA 1 [] [] [(10,.ep ⟨a2,x0.length,c3⟩ (Int.toNat x6*1))] _ E ⟨hs38.ix g11,⟨E,V⟩,E⟩ (eU 0 E (Int.toNat x6) (at' x0 x6) E fun a12 c13 ys14 hl15 hy16=>cP aA E E E E E E 0 E E (Int.toNat x6) 0 (Sl.v ⟨a12,(at' x0 x6).length,c13⟩) ⟨hy16 (kG g11),E⟩ E E E (aP aA 2 [] [16] [(4,.bp 16 0)] (.new 2 41 [.slice a2 x0.length c3] (.new 16 174 [.slice a12 (at' x0 x6).length c13] .nil)) E ⟨⟨E,V⟩,(Bs E E)⟩ (aD E (JS.seq (JS.region (aB aA 7 [] [] [(16,.v (.bool (decide (((at' x0 x6).length:Int)=0)))),(18,.cd [(16,false)] (.v (.slice a12 (at' x0 x6).length c13)))] _ E ⟨(Es E),E⟩ ?_))))))
    obtain ⟨y17,hy18,-,h⟩:=aV h
    refine bI E E E E (fun q39=>nQ (at' x0 x6) a12 c13 _ (hy18 q39)) E [1] E E (aB aA 2 [] [] [(21,.v (.bool (bif (decide (((at' x0 x6).length:Int)=0)) then true else (!y17))))] _ E ⟨⟨E,V⟩,E⟩ (aD E ?_))
    refine aK E h (fun h=>?_) (fun h=>?_)
    ·
     refine aC aA 1 [(2,.v (.bool false))] ⟨⟨E,V⟩,E⟩ E E ?_
     cases h
     exact JS.ret aA () V E E [] E
    refine JS.skip (aZ (bZ aA 2 [(W (x6+1))] [] [(8,.v (I (W (x6+1))))] _ ⟨⟨V,E⟩,⟨E,V⟩,E⟩ E E (bQ (n27,(W (x6+1))) h (Nat.lt_succ_self _) (Es E) (Bs E E) [2] E [] E)))
   refine JS.exit E (aT () h ⟨E,V⟩ (Bs E E) [0] E [] E)
  rintro _ h
  subst hj42
  refine aC aA 5 [(2,.v (.bool (decide ((x0.length:Int)≤6))))] ⟨⟨E,V⟩,E⟩ E E ?_
  cases h
  exact JS.ret aA () V E E [] E

def nJ (x0:List (List Int×Int)) (j29:Unit→Option Bool) (k24:Int→Option Bool):Int→Option Bool:=fun x6=>
  (bif (decide (x6<(x0.length:Int))) then
  (aN (0≤x6∧x6<(x0.length:Int)) <|
  (aG (dJ ((at' x0 x6).1,(at' x0 x6).2)) fun (y17:Bool)=>
  (bif (!y17) then
  some false
  else
  k24 (W (x6+1)))))
  else
  j29 ())

def oC (x0:List (List Int×Int)):Option Bool:=
  (aU (fun (_:Unit)=>
  some (decide ((x0.length:Int)≤20))) fun j29=>
  (bC (nJ x0 j29) bM 0))

theorem yH (x0:List (List Int×Int)) (a2:Option Addr) (c3:Nat) (r:Bool) (h:oC x0=some r):
  FC Tryz.prog 102 [.agg #[.slice a2 x0.length c3]] [⟨(.pair (.sl (.int .i64)) (.int .i64)),⟨a2,x0.length,c3⟩,x0⟩] (fun _:Unit=>True) (fun _=>.bool r) (fun _=>[]):=
 by
  refine FC.of (T:=TTx) Tryz.call102 Tryz.func102 E E fun w0=>?_
  unfold oC at h
  refine aL aA 2 [] [2] [(1,.bp 2 0)] (.new 2 44 [.slice a2 x0.length c3] .nil) ⟨⟨E,V⟩,(Bs E E)⟩ E E (JS.seq (aC aA 4 [(6,.v (.slice a2 x0.length c3)),(7,.v (I (x0.length:Int))),(8,.v (I 0))] ⟨(Es E),E⟩ E E ?_))
  obtain ⟨j29,hj37,h⟩:=aQ h
  refine bA (ι:=Unit) ⟨fun _=>j29 ()=some r,fun _=>[(1,.bp 2 0)],fun _=>(.new 2 44 [.slice a2 x0.length c3] .nil),fun _=>[⟨(.pair (.sl (.int .i64)) (.int .i64)),⟨a2,x0.length,c3⟩,x0⟩],fun _=>[],fun _=>0⟩ ?_ ?_
  ·
   refine JS.loop (ι:=Nat×Int) ⟨fun z=>bC (nJ x0 j29) z.1 z.2=some r,fun z=>[(1,.bp 2 0),(6,.v (.slice a2 x0.length c3)),(7,.v (I (x0.length:Int))),(8,.v (I z.2))],fun z=>(.new 2 44 [.slice a2 x0.length c3] .nil),fun z=>[⟨(.pair (.sl (.int .i64)) (.int .i64)),⟨a2,x0.length,c3⟩,x0⟩],fun z=>[],fun z=>z.1⟩ (bM,0) h (Es E) (Bs E E) [0] E [] E ?_
   rintro ⟨n25,x6⟩ h
   obtain ⟨n25,rfl,h⟩:=bH h
   rw [nJ] at h
   refine aC aA 1 [(9,.v (.bool (decide (x6<(x0.length:Int)))))] ⟨⟨E,V⟩,E⟩ E E (JS.seq ?_)
   refine aK E h (fun h=>?_) (fun h=>?_)
   ·
    refine JS.skip (JS.seq (JS.block (JS.seq (JS.region (bJ 0 E fun hs34=>?_)))))
    obtain ⟨g11,h⟩:=aH h
    refine aB aA 1 [] [] [(10,.ep ⟨a2,x0.length,c3⟩ (Int.toNat x6*2))] _ E ⟨hs34.ix g11,⟨E,V⟩,E⟩ (eU 0 E (Int.toNat x6) (at' x0 x6) E fun a12 c13 ys14 hl15 hy16=>cP aA E E E E E E 0 E E (Int.toNat x6) 0 ((Sl.v ⟨a12,((at' x0 x6).1).length,c13⟩),(at' x0 x6).2) ⟨hy16 (kG g11),E⟩ E E E (aP aA 2 [] [16] [(4,.bp 16 0)] (.new 2 44 [.slice a2 x0.length c3] (.new 16 38 [.slice a12 ((at' x0 x6).1).length c13,.int .i64 (at' x0 x6).2] .nil)) E ⟨⟨E,V⟩,(Bs E E)⟩ (aD E (JS.seq (JS.region (aB aA 1 [] [] [(12,.v (.agg #[.slice a12 ((at' x0 x6).1).length c13,.int .i64 (at' x0 x6).2]))] _ E ⟨⟨E,V⟩,E⟩ ?_))))))
    refine bnw h fun y17 hy18 h=>JO.call E E E E (fK ((at' x0 x6).1,(at' x0 x6).2) a12 c13 _ hy18) E [1] E E fun _ _=>aB aA 1 [] [] [(14,.v (.bool (!y17)))] _ E ⟨⟨E,V⟩,E⟩ (aD E ?_)
    refine aK E h (fun h=>?_) (fun h=>?_)
    ·
     refine aC aA 1 [(2,.v (.bool false))] ⟨⟨E,V⟩,E⟩ E E ?_
     cases h
     exact JS.ret aA () V E E [] E
    refine JS.skip (aZ (bZ aA 2 [(W (x6+1))] [] [(8,.v (I (W (x6+1))))] _ ⟨⟨V,E⟩,⟨E,V⟩,E⟩ E E (bQ (n25,(W (x6+1))) h (Nat.lt_succ_self _) (Es E) (Bs E E) [2] E [] E)))
   refine JS.exit E (aT () h ⟨E,V⟩ (Bs E E) [0] E [] E)
  rintro _ h
  subst hj37
  refine aC aA 5 [(2,.v (.bool (decide ((x0.length:Int)≤20))))] ⟨⟨E,V⟩,E⟩ E E ?_
  cases h
  exact JS.ret aA () V E E [] E

def jZ (x0:List Int×Int):Option Bool:=
  some (bif (decide ((x0.1.length:Int)=0)) then (decide (x0.2=0)) else false)

theorem yF (x0:List Int×Int) (a2:Option Addr) (c3:Nat) (r:Bool) (h:jZ x0=some r):
  FC Tryz.prog 103 [.agg #[.slice a2 x0.1.length c3,.int .i64 x0.2]] [⟨(.int .i64),⟨a2,x0.1.length,c3⟩,x0.1⟩] (fun _:Unit=>True) (fun _=>.bool r) (fun _=>[]):=
 by
  refine FC.of (T:=TTx) Tryz.call103 Tryz.func103 E E fun w0=>?_
  unfold jZ at h
  refine aL aA 2 [] [2] [(1,.bp 2 0)] (.new 2 38 [.slice a2 x0.1.length c3,.int .i64 x0.2] .nil) ⟨⟨E,V⟩,(Bs E E)⟩ E E (aC aA 10 [(2,.v (.bool (bif (decide ((x0.1.length:Int)=0)) then (decide (x0.2=0)) else false)))] ⟨⟨E,V⟩,E⟩ E E ?_)
  cases h
  exact JS.ret aA () V E E [] E

def rY (x0:EdQ) (j116:Unit→Option Bool) (k111:Int→Option Bool):Int→Option Bool:=fun x69=>
  (bif (decide (x69<(x0.2.2.2.2.2.2.2.2.2.2.2.2.2.2.1.length:Int))) then
  (aN (0≤x69∧x69<(x0.2.2.2.2.2.2.2.2.2.2.2.2.2.2.1.length:Int)) <|
  (aG (dS (at' x0.2.2.2.2.2.2.2.2.2.2.2.2.2.2.1 x69)) fun (y104:Bool)=>
  (bif (!y104) then
  some false
  else
  k111 (W (x69+1)))))
  else
  j116 ())

def uD (x0:EdQ):Option Bool:=
  (aG (dJ x0.2.2.1) fun (y26:Bool)=>
  (bU ((!y26)=false) (dJ x0.2.2.2.2.2.2.2.2.2.2.2.2.2.1) false fun (y28:Bool)=>
  (bU ((bif (!y26) then true else (!y28))=false) (dJ x0.2.2.2.2.2.2.2.2.2.2.2.2.2.2.2.2) false fun (y31:Bool)=>
  (bU ((bif (bif (!y26) then true else (!y28)) then true else (!y31))=false) (cT x0.2.2.2.1 0 999) false fun (y34:Bool)=>
  (bU ((bif (bif (bif (!y26) then true else (!y28)) then true else (!y31)) then true else (!y34))=false) (cT x0.2.2.2.2.2.1 0 999) false fun (y37:Bool)=>
  (bU ((bif (bif (bif (bif (!y26) then true else (!y28)) then true else (!y31)) then true else (!y34)) then true else (!y37))=false) (uA x0) false fun (y40:Bool)=>
  (bif (bif (bif (bif (bif (bif (!y26) then true else (!y28)) then true else (!y31)) then true else (!y34)) then true else (!y37)) then true else (!y40)) then
  some false
  else
  (bU ((!(decide (x0.2.2.2.2.2.2.2.1=0)))=true∧(bif (decide (x0.2.2.2.2.2.2.2.1=0)) then (!(decide (x0.2.2.2.2.2.2.2.2.1=0))) else false)=false) (dS x0.2.2.2.2.2.2.2.1) false fun (y43:Bool)=>
  (bU ((!y43)=false∧(!(decide (x0.2.2.2.2.2.2.2.1=0)))=true∧(bif (decide (x0.2.2.2.2.2.2.2.1=0)) then (!(decide (x0.2.2.2.2.2.2.2.2.1=0))) else false)=false) (cT x0.2.2.2.2.2.2.2.2.1 0 3) false fun (y47:Bool)=>
  (bif (bif (bif (decide (x0.2.2.2.2.2.2.2.1=0)) then (!(decide (x0.2.2.2.2.2.2.2.2.1=0))) else false) then true else (bif (!(decide (x0.2.2.2.2.2.2.2.1=0))) then (bif (!y43) then true else (!y47)) else false)) then
  some false
  else
  (aG (cT x0.2.2.2.2.2.2.2.2.2.1 0 3) fun (y52:Bool)=>
  (bU ((!y52)=false) (lT x0.2.2.2.2.2.2.2.2.2.2.1) false fun (y54:Bool)=>
  (bU ((bif (!y52) then true else (!y54))=false) (oC x0.2.2.2.2.2.2.2.2.2.2.2.1) false fun (y57:Bool)=>
  (bU ((bif (bif (!y52) then true else (!y54)) then true else (!y57))=false) (cT x0.2.2.2.2.2.2.2.2.2.2.2.2.1 0 1000000060) false fun (y60:Bool)=>
  (bU ((bif (bif (bif (!y52) then true else (!y54)) then true else (!y57)) then true else (!y60))=false) (cT x0.2.2.2.2.2.2.2.2.2.2.2.2.2.2.2.1 0 1000000060) false fun (y63:Bool)=>
  (bif (bif (bif (bif (bif (!y52) then true else (!y54)) then true else (!y57)) then true else (!y60)) then true else (!y63)) then
  some false
  else
  (bU ((decide (x0.2.2.2.2.2.2.2.2.2.2.2.2.1=0))=true) (jZ x0.2.2.2.2.2.2.2.2.2.2.2.2.2.1) false fun (y66:Bool)=>
  (bif (bif (bif (decide (x0.2.2.2.2.2.2.2.2.2.2.2.2.1=0)) then (!y66) else false) then true else (decide (40<(x0.2.2.2.2.2.2.2.2.2.2.2.2.2.2.1.length:Int)))) then
  some false
  else
  (aU (fun (_:Unit)=>
  (bU ((bif (decide ((x0.2.2.2.2.2.2.2.2.2.2.2.2.2.2.1.length:Int)=0)) then (decide (x0.2.2.2.2.2.2.2.2.2.2.2.2.2.2.2.1=0)) else false)=true∧(decide (x0.2.1=3))=false) (jZ x0.2.2.2.2.2.2.2.2.2.2.2.2.2.2.2.2) false fun (y120:Bool)=>
  some (bif (decide (x0.2.1=3)) then true else (bif (bif (decide ((x0.2.2.2.2.2.2.2.2.2.2.2.2.2.2.1.length:Int)=0)) then (decide (x0.2.2.2.2.2.2.2.2.2.2.2.2.2.2.2.1=0)) else false) then y120 else false)))) fun j116=>
  (bC (rY x0 j116) bM 0))))))))))))))))))))

theorem aHg (x0:EdQ) (q2:P6) (r:Bool) (h:uD x0=some r):
  FC Tryz.prog 34 [.agg (cC x0 q2).toArray] (bW x0 q2 []) (fun _:Unit=>True) (fun _=>.bool r) (fun _=>[]):=
 by
  refine FC.of (T:=TTx) Tryz.call34 Tryz.func34 E E fun w0=>?_
  unfold uD at h
  refine aL aA 2 [] [7] [(1,.bp 7 0)] (.new 7 46 (aI x0 q2) .nil) ⟨⟨E,V⟩,(Bs E E)⟩ E E (JS.seq (JS.seq (JS.region (aB aA 2 [] [] [(6,.v (.agg #[.slice q2.1 x0.2.2.1.1.length q2.2.1,.int .i64 x0.2.2.1.2]))] _ E ⟨⟨E,V⟩,E⟩ ?_))))
  refine bnw h fun y26 hy27 h=>JO.call E E E E (fK x0.2.2.1 q2.1 q2.2.1 _ hy27) E [0] E E fun _ _=>aB aA 4 [] [] [(9,.v (.bool (!y26))),(11,.cd [(9,false)] (.v (.agg #[.slice (Q4 q2).2.2.1 (Q12 x0).2.1.1.length (Q4 q2).2.2.2.1,.int .i64 (Q12 x0).2.1.2])))] _ E ⟨(Es E),E⟩ ?_
  obtain ⟨y28,hy29,-,h⟩:=aV h
  refine bI E E E E (fun q129=>fK (Q12 x0).2.1 (Q4 q2).2.2.1 (Q4 q2).2.2.2.1 _ (hy29 q129)) E [3] E E (aB aA 5 [] [] [(15,.v (.bool (bif (!y26) then true else (!y28)))),(17,.cd [(15,false)] (.v (.agg #[.slice (Q8 q2).2.2.1 (Q16 x0).1.length (Q8 q2).2.2.2,.int .i64 (Q16 x0).2])))] _ E ⟨(Es E),E⟩ ?_)
  obtain ⟨y31,hy32,-,h⟩:=aV h
  refine bI E E E E (fun q130=>fK (Q16 x0) (Q8 q2).2.2.1 (Q8 q2).2.2.2 _ (hy32 q130)) E [5] E E (aB aA 5 [] [] [(21,.v (.bool (bif (bif (!y26) then true else (!y28)) then true else (!y31)))),(23,.cd [(21,false)] (.v (I x0.2.2.2.1)))] _ E ⟨(Es E),E⟩ ?_)
  obtain ⟨y34,hy35,-,h⟩:=aV h
  refine bI E E E E (fun q131=>dV x0.2.2.2.1 0 999 _ (hy35 q131)) E [] E E (aB aA 5 [] [] [(27,.v (.bool (bif (bif (bif (!y26) then true else (!y28)) then true else (!y31)) then true else (!y34)))),(29,.cd [(27,false)] (.v (I (Q4 x0).2.1)))] _ E ⟨(Es E),E⟩ ?_)
  obtain ⟨y37,hy38,-,h⟩:=aV h
  refine bI E E E E (fun q132=>dV (Q4 x0).2.1 0 999 _ (hy38 q132)) E [] E E (aB aA 4 [] [] [(33,.v (.bool (bif (bif (bif (bif (!y26) then true else (!y28)) then true else (!y31)) then true else (!y34)) then true else (!y37)))),(34,.cd [(33,false)] (.v (.agg (aI x0 q2).toArray)))] _ E ⟨(Es E),E⟩ ?_)
  obtain ⟨y40,hy41,-,h⟩:=aV h
  refine bI E E E E (fun q133=>aKr x0 q2 _ (hy41 q133)) E [0,1,2,3,4,5] E E (aB aA 2 [] [] [(37,.v (.bool (bif (bif (bif (bif (bif (!y26) then true else (!y28)) then true else (!y31)) then true else (!y34)) then true else (!y37)) then true else (!y40))))] _ E ⟨⟨E,V⟩,E⟩ (aD E ?_))
  refine aK E h (fun h=>?_) (fun h=>?_)
  ·
   refine aC aA 1 [(2,.v (.bool false))] ⟨⟨E,V⟩,E⟩ E E ?_
   cases h
   exact JS.ret aA () V E E [] E
  refine JS.skip (JS.seq (JS.seq (JS.region (aB aA 15 [] [] [(46,.v (.bool (bif (decide ((Q4 x0).2.2.2.1=0)) then (!(decide ((Q8 x0).1=0))) else false))),(50,.cd [(46,false)] (.v (.bool (!(decide ((Q4 x0).2.2.2.1=0)))))),(52,.cd [(50,true),(46,false)] (.v (I (Q4 x0).2.2.2.1)))] _ E ⟨(Es E),E⟩ ?_))))
  obtain ⟨y43,hy44,-,h⟩:=aV h
  refine bI E E E E (fun q134 q135=>kM (Q4 x0).2.2.2.1 _ (hy44 ⟨q134,q135⟩)) E [] E E (aB aA 4 [] [] [(55,.cd [(50,true),(46,false)] (.v (.bool (!y43)))),(57,.cd [(55,false),(50,true),(46,false)] (.v (I (Q8 x0).1)))] _ E ⟨(Es E),E⟩ ?_)
  obtain ⟨y47,hy48,-,h⟩:=aV h
  refine bI E E E E (fun q136 q137 q138=>dV (Q8 x0).1 0 3 _ (hy48 ⟨q136,q137,q138⟩)) E [] E E (aB aA 4 [] [] [(62,.v (.bool (bif (bif (decide ((Q4 x0).2.2.2.1=0)) then (!(decide ((Q8 x0).1=0))) else false) then true else (bif (!(decide ((Q4 x0).2.2.2.1=0))) then (bif (!y43) then true else (!y47)) else false))))] _ E ⟨⟨E,V⟩,E⟩ (aD E ?_))
  refine aK E h (fun h=>?_) (fun h=>?_)
  ·
   refine aC aA 1 [(2,.v (.bool false))] ⟨⟨E,V⟩,E⟩ E E ?_
   cases h
   exact JS.ret aA () V E E [] E
  refine JS.skip (JS.seq (JS.seq (JS.region (aB aA 2 [] [] [(64,.v (I (Q8 x0).2.1))] _ E ⟨⟨E,V⟩,E⟩ ?_))))
  refine bnw h fun y52 hy53 h=>JO.call E E E E (dV (Q8 x0).2.1 0 3 _ hy53) E [] E E fun _ _=>aB aA 4 [] [] [(67,.v (.bool (!y52))),(69,.cd [(67,false)] (.v (.agg #[.slice q2.2.2.1 (Q8 x0).2.2.1.length q2.2.2.2.1])))] _ E ⟨(Es E),E⟩ ?_
  obtain ⟨y54,hy55,-,h⟩:=aV h
  refine bI E E E E (fun q139=>uO (Q8 x0).2.2.1 q2.2.2.1 q2.2.2.2.1 _ (hy55 q139)) E [1] E E (aB aA 5 [] [] [(73,.v (.bool (bif (!y52) then true else (!y54)))),(75,.cd [(73,false)] (.v (.agg #[.slice (Q4 q2).1 (Q8 x0).2.2.2.1.length (Q4 q2).2.1])))] _ E ⟨(Es E),E⟩ ?_)
  obtain ⟨y57,hy58,-,h⟩:=aV h
  refine bI E E E E (fun q140=>yH (Q8 x0).2.2.2.1 (Q4 q2).1 (Q4 q2).2.1 _ (hy58 q140)) E [2] E E (aB aA 5 [] [] [(79,.v (.bool (bif (bif (!y52) then true else (!y54)) then true else (!y57)))),(81,.cd [(79,false)] (.v (I (Q12 x0).1)))] _ E ⟨(Es E),E⟩ ?_)
  obtain ⟨y60,hy61,-,h⟩:=aV h
  refine bI E E E E (fun q141=>dV (Q12 x0).1 0 1000000060 _ (hy61 q141)) E [] E E (aB aA 5 [] [] [(85,.v (.bool (bif (bif (bif (!y52) then true else (!y54)) then true else (!y57)) then true else (!y60)))),(87,.cd [(85,false)] (.v (I (Q12 x0).2.2.2.1)))] _ E ⟨(Es E),E⟩ ?_)
  obtain ⟨y63,hy64,-,h⟩:=aV h
  refine bI E E E E (fun q142=>dV (Q12 x0).2.2.2.1 0 1000000060 _ (hy64 q142)) E [] E E (aB aA 2 [] [] [(90,.v (.bool (bif (bif (bif (bif (!y52) then true else (!y54)) then true else (!y57)) then true else (!y60)) then true else (!y63))))] _ E ⟨⟨E,V⟩,E⟩ (aD E ?_))
  refine aK E h (fun h=>?_) (fun h=>?_)
  ·
   refine aC aA 1 [(2,.v (.bool false))] ⟨⟨E,V⟩,E⟩ E E ?_
   cases h
   exact JS.ret aA () V E E [] E
  refine JS.skip (JS.seq (JS.seq (JS.region (aB aA 6 [] [] [(94,.v (.bool (decide ((Q12 x0).1=0)))),(96,.cd [(94,true)] (.v (.agg #[.slice (Q4 q2).2.2.1 (Q12 x0).2.1.1.length (Q4 q2).2.2.2.1,.int .i64 (Q12 x0).2.1.2])))] _ E ⟨(Es E),E⟩ ?_))))
  obtain ⟨y66,hy67,-,h⟩:=aV h
  refine bI E E E E (fun q143=>yF (Q12 x0).2.1 (Q4 q2).2.2.1 (Q4 q2).2.2.2.1 _ (hy67 q143)) E [3] E E (aB aA 8 [] [] [(105,.v (.bool (bif (bif (decide ((Q12 x0).1=0)) then (!y66) else false) then true else (decide (40<((Q12 x0).2.2.1.length:Int))))))] _ E ⟨⟨E,V⟩,E⟩ (aD E ?_))
  refine aK E h (fun h=>?_) (fun h=>?_)
  ·
   refine aC aA 1 [(2,.v (.bool false))] ⟨⟨E,V⟩,E⟩ E E ?_
   cases h
   exact JS.ret aA () V E E [] E
  refine JS.skip (JS.seq (aC aA 4 [(107,.v (.slice (Q8 q2).1 (Q12 x0).2.2.1.length (Q8 q2).2.1)),(108,.v (I ((Q12 x0).2.2.1.length:Int))),(109,.v (I 0))] ⟨(Es E),E⟩ E E ?_))
  obtain ⟨j116,hj149,h⟩:=aQ h
  refine bA (ι:=Unit) ⟨fun _=>j116 ()=some r,fun _=>[(1,.bp 7 0)],fun _=>(.new 7 46 (aI x0 q2) .nil),fun _=>(bW x0 q2 []),fun _=>[],fun _=>0⟩ ?_ ?_
  ·
   refine JS.loop (ι:=Nat×Int) ⟨fun z=>bC (rY x0 j116) z.1 z.2=some r,fun z=>[(1,.bp 7 0),(107,.v (.slice (Q8 q2).1 (Q12 x0).2.2.1.length (Q8 q2).2.1)),(108,.v (I ((Q12 x0).2.2.1.length:Int))),(109,.v (I z.2))],fun z=>(.new 7 46 (aI x0 q2) .nil),fun z=>[⟨(.int .i64),⟨(Q8 q2).1,(Q12 x0).2.2.1.length,(Q8 q2).2.1⟩,(Q12 x0).2.2.1⟩,⟨(.int .i64),⟨q2.1,x0.2.2.1.1.length,q2.2.1⟩,x0.2.2.1.1⟩,⟨(.sl (.int .i64)),⟨q2.2.2.1,(Q8 x0).2.2.1.length,q2.2.2.2.1⟩,(Q8 x0).2.2.1⟩,⟨(.pair (.sl (.int .i64)) (.int .i64)),⟨(Q4 q2).1,(Q8 x0).2.2.2.1.length,(Q4 q2).2.1⟩,(Q8 x0).2.2.2.1⟩,⟨(.int .i64),⟨(Q4 q2).2.2.1,(Q12 x0).2.1.1.length,(Q4 q2).2.2.2.1⟩,(Q12 x0).2.1.1⟩,⟨(.int .i64),⟨(Q8 q2).2.2.1,(Q16 x0).1.length,(Q8 q2).2.2.2⟩,(Q16 x0).1⟩],fun z=>[],fun z=>z.1⟩ (bM,0) h (Es E) (Bs E E) [4,0,1,2,3,5] E [] E ?_
   rintro ⟨n112,x69⟩ h
   obtain ⟨n112,rfl,h⟩:=bH h
   rw [rY] at h
   refine aC aA 1 [(110,.v (.bool (decide (x69<((Q12 x0).2.2.1.length:Int)))))] ⟨⟨E,V⟩,E⟩ E E (JS.seq ?_)
   refine aK E h (fun h=>?_) (fun h=>?_)
   ·
    refine JS.skip (JS.seq (JS.block (JS.seq (JS.region (bJ 0 E fun hs144=>?_)))))
    obtain ⟨g103,h⟩:=aH h
    refine aB aA 1 [] [] [(111,.ep ⟨(Q8 q2).1,(Q12 x0).2.2.1.length,(Q8 q2).2.1⟩ (Int.toNat x69*1))] _ E ⟨hs144.ix g103,⟨E,V⟩,E⟩ (JO.load aA E E E E E E E 0 E E (Int.toNat x69) 0 (at' (Q12 x0).2.2.1 x69) ⟨bD g103,E⟩ E E (aB aA 1 [] [] [(4,.v (I (at' (Q12 x0).2.2.1 x69)))] _ E ⟨⟨E,V⟩,E⟩ (aD E (JS.seq (JS.region (aB aA 1 [] [] [(113,.v (I (at' (Q12 x0).2.2.1 x69)))] _ E ⟨⟨E,V⟩,E⟩ ?_))))))
    refine bnw h fun y104 hy105 h=>JO.call E E E E (kM (at' (Q12 x0).2.2.1 x69) _ hy105) E [] E E fun _ _=>aB aA 1 [] [] [(115,.v (.bool (!y104)))] _ E ⟨⟨E,V⟩,E⟩ (aD E ?_)
    refine aK E h (fun h=>?_) (fun h=>?_)
    ·
     refine aC aA 1 [(2,.v (.bool false))] ⟨⟨E,V⟩,E⟩ E E ?_
     cases h
     exact JS.ret aA () V E E [] E
    refine JS.skip (aZ (bZ aA 2 [(W (x69+1))] [] [(109,.v (I (W (x69+1))))] _ ⟨⟨V,E⟩,⟨E,V⟩,E⟩ E E (bQ (n112,(W (x69+1))) h (Nat.lt_succ_self _) (Es E) (Bs E E) [0,1,2,3,4,5] E [] E)))
   refine JS.exit E (aT () h ⟨E,V⟩ (Bs E E) [1,2,3,4,0,5] E [] E)
  rintro _ h
  subst hj149
  refine JS.seq (JS.region (aB aA 16 [] [] [(120,.v (.bool (decide (x0.2.1=3)))),(130,.cd [(120,false)] (.v (.bool (bif (decide (((Q12 x0).2.2.1.length:Int)=0)) then (decide ((Q12 x0).2.2.2.1=0)) else false)))),(132,.cd [(130,true),(120,false)] (.v (.agg #[.slice (Q8 q2).2.2.1 (Q16 x0).1.length (Q8 q2).2.2.2,.int .i64 (Q16 x0).2])))] _ E ⟨(Es E),E⟩ ?_))
  obtain ⟨y120,hy121,-,h⟩:=aV h
  refine bI E E E E (fun q147 q148=>yF (Q16 x0) (Q8 q2).2.2.1 (Q8 q2).2.2.2 _ (hy121 ⟨q147,q148⟩)) E [5] E E (aB aA 3 [] [] [(2,.v (.bool (bif (decide (x0.2.1=3)) then true else (bif (bif (decide (((Q12 x0).2.2.1.length:Int)=0)) then (decide ((Q12 x0).2.2.2.1=0)) else false) then y120 else false))))] _ E ⟨⟨E,V⟩,E⟩ (aD E ?_))
  cases h
  exact JS.ret aA () V E E [] E

def nL (x0:Int×List (List UInt8)) (j20:Unit→Option Bool) (k15:Int→Option Bool):Int→Option Bool:=fun x8=>
  (bif (decide (x8<(x0.2.length:Int))) then
  (aN (0≤x8∧x8<(x0.2.length:Int)) <|
  (aG (cT ((at' x0.2 x8).length:Int) 1 1000) fun (y11:Bool)=>
  (bif (!y11) then
  some false
  else
  k15 (W (x8+1)))))
  else
  j20 ())

def oD (x0:Int×List (List UInt8)):Option Bool:=
  (aG (cT x0.1 1 1000000000) fun (y6:Bool)=>
  (bif (bif (!y6) then true else (decide (60<(x0.2.length:Int)))) then
  some false
  else
  (aU (fun (_:Unit)=>
  some true) fun j20=>
  (bC (nL x0 j20) bM 0))))

theorem yI (x0:Int×List (List UInt8)) (a2:Option Addr) (c3:Nat) (r:Bool) (h:oD x0=some r):
  FC Tryz.prog 96 [.agg #[.int .i64 x0.1,.slice a2 x0.2.length c3]] [⟨.str,⟨a2,x0.2.length,c3⟩,x0.2⟩] (fun _:Unit=>True) (fun _=>.bool r) (fun _=>[]):=
 by
  refine FC.of (T:=TTx) Tryz.call96 Tryz.func96 E E fun w0=>?_
  unfold oD at h
  refine aL aA 2 [] [2] [(1,.bp 2 0)] (.new 2 50 [.int .i64 x0.1,.slice a2 x0.2.length c3] .nil) ⟨⟨E,V⟩,(Bs E E)⟩ E E (JS.seq (JS.seq (JS.region (aB aA 2 [] [] [(6,.v (I x0.1))] _ E ⟨⟨E,V⟩,E⟩ ?_))))
  refine bnw h fun y6 hy7 h=>JO.call E E E E (dV x0.1 1 1000000000 _ hy7) E [] E E fun _ _=>aB aA 7 [] [] [(14,.v (.bool (bif (!y6) then true else (decide (60<(x0.2.length:Int))))))] _ E ⟨⟨E,V⟩,E⟩ (aD E ?_)
  refine aK E h (fun h=>?_) (fun h=>?_)
  ·
   refine aC aA 1 [(2,.v (.bool false))] ⟨⟨E,V⟩,E⟩ E E ?_
   cases h
   exact JS.ret aA () V E E [] E
  refine JS.skip (JS.seq (aC aA 4 [(16,.v (.slice a2 x0.2.length c3)),(17,.v (I (x0.2.length:Int))),(18,.v (I 0))] ⟨(Es E),E⟩ E E ?_))
  obtain ⟨j20,hj29,h⟩:=aQ h
  refine bA (ι:=Unit) ⟨fun _=>j20 ()=some r,fun _=>[],fun _=>.nil,fun _=>[],fun _=>[],fun _=>0⟩ ?_ ?_
  ·
   refine JS.loop (ι:=Nat×Int) ⟨fun z=>bC (nL x0 j20) z.1 z.2=some r,fun z=>[(16,.v (.slice a2 x0.2.length c3)),(17,.v (I (x0.2.length:Int))),(18,.v (I z.2))],fun z=>.nil,fun z=>[⟨.str,⟨a2,x0.2.length,c3⟩,x0.2⟩],fun z=>[],fun z=>z.1⟩ (bM,0) h (Es E) V [0] E [] E ?_
   rintro ⟨n16,x8⟩ h
   obtain ⟨n16,rfl,h⟩:=bH h
   rw [nL] at h
   refine aC aA 1 [(19,.v (.bool (decide (x8<(x0.2.length:Int)))))] ⟨⟨E,V⟩,E⟩ E E (JS.seq ?_)
   refine aK E h (fun h=>?_) (fun h=>?_)
   ·
    refine JS.skip (JS.seq (JS.block (JS.seq (JS.region (bJ 0 E fun hs26=>?_)))))
    obtain ⟨g10,h⟩:=aH h
    refine aB aA 1 [] [] [(20,.ep ⟨a2,x0.2.length,c3⟩ (Int.toNat x8*1))] _ E ⟨hs26.ix g10,⟨E,V⟩,E⟩ (JO.load aA E E E E E E E 0 E E (Int.toNat x8) 0 (at' x0.2 x8) ⟨bD g10,E⟩ E E (aB aA 1 [] [] [(4,.v (.string (bs (at' x0.2 x8))))] _ E ⟨⟨E,V⟩,E⟩ (aD E (JS.seq (JS.region (aB aA 2 [] [] [(23,.v (I ((at' x0.2 x8).length:Int)))] _ E ⟨⟨E,V⟩,E⟩ ?_))))))
    refine bnw h fun y11 hy12 h=>JO.call E E E E (dV ((at' x0.2 x8).length:Int) 1 1000 _ hy12) E [] E E fun _ _=>aB aA 1 [] [] [(25,.v (.bool (!y11)))] _ E ⟨⟨E,V⟩,E⟩ (aD E ?_)
    refine aK E h (fun h=>?_) (fun h=>?_)
    ·
     refine aC aA 1 [(2,.v (.bool false))] ⟨⟨E,V⟩,E⟩ E E ?_
     cases h
     exact JS.ret aA () V E E [] E
    refine JS.skip (aZ (bZ aA 2 [(W (x8+1))] [] [(18,.v (I (W (x8+1))))] _ ⟨⟨V,E⟩,⟨E,V⟩,E⟩ E E (bQ (n16,(W (x8+1))) h (Nat.lt_succ_self _) (Es E) V [0] E [] E)))
   refine JS.exit E (aT () h V V [] E [] E)
  rintro _ h
  subst hj29
  refine aC aA 1 [(2,.v (.bool true))] ⟨⟨E,V⟩,E⟩ E E ?_
  cases h
  exact JS.ret aA () V E E [] E

def fN (x0:Int):Option Bool:=
  (aG (cT x0 97 122) fun (y2:Bool)=>
  some y2)

theorem sI (x0:Int) (r:Bool) (h:fN x0=some r) :
  FC Tryz.prog 178 [.int .i64 x0] [] (fun _:Unit=>True) (fun _=>.bool r) (fun _=>[]):=
 by
  refine FC.of (T:=TTx) Tryz.call178 Tryz.func178 E E fun w0=>?_
  unfold fN at h
  refine aC aA 1 [] ⟨V,E⟩ E E (JS.seq (JS.region (aB aA 1 [] [] [(3,.v (I x0))] _ E ⟨⟨E,V⟩,E⟩ ?_)))
  refine bnw h fun y2 hy3 h=>JO.call E E E E (dV x0 97 122 _ hy3) E [] E E fun _ _=>aB aA 1 [] [] [(2,.v (.bool y2))] _ E ⟨⟨E,V⟩,E⟩ (aD E ?_)
  cases h
  exact JS.ret aA () V E E [] E

def wG (x0:Int×Int):Option Bool:=
  (bif (decide (x0.1=1)) then
  (aG (dS x0.2) fun (y2:Bool)=>
  some y2)
  else
  (bif (decide (x0.1=2)) then
  (bU ((decide (x0.2=95))=false) (fN x0.2) false fun (y4:Bool)=>
  some (bif (decide (x0.2=95)) then true else (bif (bif (bif (bif y4 then (!(decide (x0.2=104))) else false) then (!(decide (x0.2=105))) else false) then (!(decide (x0.2=106))) else false) then (!(decide (x0.2=109))) else false)))
  else
  (bif (decide (x0.1=3)) then
  (aG (cT x0.2 33 126) fun (y7:Bool)=>
  some y7)
  else
  (aG (cT x0.1 4 16) fun (y9:Bool)=>
  some (bif y9 then (decide (x0.2=0)) else false)))))

theorem aNb (x0:Int×Int) (r:Bool) (h:wG x0=some r) :
  FC Tryz.prog 97 [.agg #[.int .i64 x0.1,.int .i64 x0.2]] [] (fun _:Unit=>True) (fun _=>.bool r) (fun _=>[]):=
 by
  refine FC.of (T:=TTx) Tryz.call97 Tryz.func97 E E fun w0=>?_
  unfold wG at h
  refine aL aA 2 [] [1] [(1,.bp 1 0)] (.new 1 64 [.int .i64 x0.1,.int .i64 x0.2] .nil) ⟨⟨E,V⟩,(Bs E E)⟩ E E (JS.seq (aC aA 2 [(4,.v (I x0.1))] ⟨⟨E,V⟩,E⟩ E E (JS.block (aC aA 2 [(5,.v (.bool (decide (x0.1=1))))] ⟨⟨E,V⟩,E⟩ E E ?_))))
  refine aK E h (fun h=>?_) (fun h=>?_)
  ·
   refine JS.seq (JS.region (aB aA 2 [] [] [(8,.v (I x0.2))] _ E ⟨⟨E,V⟩,E⟩ ?_))
   refine bnw h fun y2 hy3 h=>JO.call E E E E (kM x0.2 _ hy3) E [] E E fun _ _=>aB aA 1 [] [] [(2,.v (.bool y2))] _ E ⟨⟨E,V⟩,E⟩ (aD E ?_)
   cases h
   exact JS.ret aA () V E E [] E
  refine aC aA 2 [(10,.v (.bool (decide (x0.1=2))))] ⟨⟨E,V⟩,E⟩ E E ?_
  refine aK E h (fun h=>?_) (fun h=>?_)
  ·
   refine JS.seq (JS.region (aB aA 6 [] [] [(15,.v (.bool (decide (x0.2=95)))),(17,.cd [(15,false)] (.v (I x0.2)))] _ E ⟨(Es E),E⟩ ?_))
   obtain ⟨y4,hy5,-,h⟩:=aV h
   refine bI E E E E (fun q14=>sI x0.2 _ (hy5 q14)) E [] E E (aB aA 22 [] [] [(2,.v (.bool (bif (decide (x0.2=95)) then true else (bif (bif (bif (bif y4 then (!(decide (x0.2=104))) else false) then (!(decide (x0.2=105))) else false) then (!(decide (x0.2=106))) else false) then (!(decide (x0.2=109))) else false))))] _ E ⟨⟨E,V⟩,E⟩ (aD E ?_))
   cases h
   exact JS.ret aA () V E E [] E
  refine aC aA 2 [(40,.v (.bool (decide (x0.1=3))))] ⟨⟨E,V⟩,E⟩ E E ?_
  refine aK E h (fun h=>?_) (fun h=>?_)
  ·
   refine JS.seq (JS.region (aB aA 2 [] [] [(43,.v (I x0.2))] _ E ⟨⟨E,V⟩,E⟩ ?_))
   refine bnw h fun y7 hy8 h=>JO.call E E E E (dV x0.2 33 126 _ hy8) E [] E E fun _ _=>aB aA 1 [] [] [(2,.v (.bool y7))] _ E ⟨⟨E,V⟩,E⟩ (aD E ?_)
   cases h
   exact JS.ret aA () V E E [] E
  refine JS.skip (aZ (JS.seq (JS.region (aB aA 2 [] [] [(46,.v (I x0.1))] _ E ⟨⟨E,V⟩,E⟩ ?_))))
  refine bnw h fun y9 hy10 h=>JO.call E E E E (dV x0.1 4 16 _ hy10) E [] E E fun _ _=>aB aA 6 [] [] [(2,.v (.bool (bif y9 then (decide (x0.2=0)) else false)))] _ E ⟨⟨E,V⟩,E⟩ (aD E ?_)
  cases h
  exact JS.ret aA () V E E [] E

def uB (x0:EdQ) (x1:Int×List (List UInt8)) (x2:Int×Int):Option Bool:=
  (aG (uD x0) fun (y32:Bool)=>
  (bU (y32=true) (oD x1) false fun (y34:Bool)=>
  (bU ((bif y32 then y34 else false)=true) (wG x2) false fun (y37:Bool)=>
  some (bif (bif y32 then y34 else false) then y37 else false))))

theorem aKs (x0:EdQ) (x1:Int×List (List UInt8)) (x2:Int×Int) (q4:P6) (a28:Option Addr) (c29:Nat) (r:Bool) (h:uB x0 x1 x2=some r):
  FC Tryz.prog 84 [.agg (cC x0 q4).toArray,.agg #[.int .i64 x1.1,.slice a28 x1.2.length c29],.agg #[.int .i64 x2.1,.int .i64 x2.2]] (bW x0 q4 [⟨.str,⟨a28,x1.2.length,c29⟩,x1.2⟩]) (fun _:Unit=>True) (fun _=>.bool r) (fun _=>[]):=
 by
  refine FC.of (T:=TTx) Tryz.call84 Tryz.func84 E E fun w0=>?_
  unfold uB at h
  refine aL aA 4 [] [8,9,10] [(3,.bp 8 0),(4,.bp 9 0),(5,.bp 10 0)] (.new 8 46 (aI x0 q4) (.new 9 50 [.int .i64 x1.1,.slice a28 x1.2.length c29] (.new 10 64 [.int .i64 x2.1,.int .i64 x2.2] .nil))) ⟨(Es E),(Bs E E)⟩ E E (JS.seq (JS.region (aB aA 1 [] [] [(7,.v (.agg (aI x0 q4).toArray))] _ E ⟨⟨E,V⟩,E⟩ ?_)))
  refine bnw h fun y32 hy33 h=>JO.call E E E E (aHg x0 q4 _ hy33) E [0,1,2,3,4,5] E E fun _ _=>aB aA 2 [] [] [(9,.v (.bool y32)),(10,.cd [(9,true)] (.v (.agg #[.int .i64 x1.1,.slice a28 x1.2.length c29])))] _ E ⟨(Es E),E⟩ ?_
  obtain ⟨y34,hy35,-,h⟩:=aV h
  refine bI E E E E (fun q40=>yI x1 a28 c29 _ (hy35 q40)) E [6] E E (aB aA 3 [] [] [(13,.v (.bool (bif y32 then y34 else false))),(14,.cd [(13,true)] (.v (.agg #[.int .i64 x2.1,.int .i64 x2.2])))] _ E ⟨(Es E),E⟩ ?_)
  obtain ⟨y37,hy38,-,h⟩:=aV h
  refine bI E E E E (fun q41=>aNb x2 _ (hy38 q41)) E [] E E (aB aA 2 [] [] [(6,.v (.bool (bif (bif y32 then y34 else false) then y37 else false)))] _ E ⟨⟨E,V⟩,E⟩ (aD E ?_))
  cases h
  exact JS.ret aA () V E E [] E

def cJ (x0:List Int):Option (List Int):=
  (aN (([]:List Int).length+x0.length≤536870912) <|
  some (([]:List Int) ++ x0))

theorem cZ (x0:List Int) (a2:Option Addr) (c3:Nat) (r:List Int) (h:cJ x0=some r):
  FC Tryz.prog 65 [.slice a2 x0.length c3] [⟨(.int .i64),⟨a2,x0.length,c3⟩,x0⟩] (fun _:Option Addr×Nat=>True) (fun q=>.slice q.1 r.length q.2) (fun q=>[⟨(.int .i64),⟨q.1,r.length,q.2⟩,r⟩]):=
 by
  refine FC.of (T:=TTx) Tryz.call65 Tryz.func65 E E fun w0=>?_
  unfold cJ at h
  refine aC aA 1 [] ⟨V,E⟩ E E (JS.seq (JS.region (aB aA 1 [] [] [(3,.v (.slice a2 x0.length c3))] _ E ⟨⟨E,V⟩,E⟩ ?_)))
  obtain ⟨g6,h⟩:=aH h
  refine aOx (.int .i64) Sl.nil E E (fP aA E E E E ⟨E,E,E,E,V,E,E,E,E⟩ E E E [0] E 0 E g6 E fun a7 c8=>aB aA 1 [] [] [(2,.v (.slice a7 (([]:List Int) ++ x0).length c8))] _ E ⟨⟨E,V⟩,E⟩ (aD E ?_))
  cases h
  exact JS.ret aA (a7,c8) V E E [0] E

def cS (x0:List Int×Int):Option (List Int×Int):=
  (aG (cJ x0.1) fun (y6:List Int)=>
  some (y6,x0.2))

theorem dQ (x0:List Int×Int) (a2:Option Addr) (c3:Nat) (r:List Int×Int) (h:cS x0=some r):
  FC Tryz.prog 64 [.agg #[.slice a2 x0.1.length c3,.int .i64 x0.2]] [⟨(.int .i64),⟨a2,x0.1.length,c3⟩,x0.1⟩] (fun _:Option Addr×Nat=>True) (fun q=>.agg #[.slice q.1 r.1.length q.2,.int .i64 r.2]) (fun q=>[⟨(.int .i64),⟨q.1,r.1.length,q.2⟩,r.1⟩]):=
 by
  refine FC.of (T:=TTx) Tryz.call64 Tryz.func64 E E fun w0=>?_
  unfold cS at h
  refine aL aA 2 [] [2,3] [(1,.bp 2 0),(2,.bp 3 0)] (.new 2 38 [.slice a2 x0.1.length c3,.int .i64 x0.2] (.new 3 38 [.slice none 0 0,.int .i64 0] .nil)) ⟨(Es E),(Bs E E)⟩ E E (JS.seq ?_)
  refine bnw h fun y6 hy7 h=>bB E (.new 2 38 [.slice a2 x0.1.length c3,.int .i64 x0.2] .nil) [] [5,6] ⟨E,E,E,E,V⟩ E (fun be10=>?_)
  refine bR aA aF true 3 [0,1,3,4] E (by kernel_rfl) [] [(4,.v (.slice a2 x0.1.length c3)),(7,.v (I x0.2))] ⟨E,E,E,E,V⟩ [] E E (Es E) (JA.one 2 (by kernel_rfl) (JK.call E E E E (cZ x0.1 a2 c3 _ hy7) E [0] E E ?_))
  rintro ⟨a8,c9⟩ -
  refine aR ⟨E,E,E,E,V⟩ [] E (aS aA aF 1 [5] E (by kernel_rfl) [] [(8,.v (.agg #[.slice a8 y6.length c9,.int .i64 x0.2]))] E ⟨E,V⟩ (JA.one 6 (by kernel_rfl) (aY aA E E E E E E E E (aM E (bE (by kernel_rfl) (aW (B':=(.new 3 38 [.slice a8 y6.length c9,.int .i64 x0.2] .nil)) (Bs E E) ?_))))))
  cases h
  exact JS.ret aA (a8,c9) V E E [0] E

def jX (x0:List (List Int)) (j39:(List (List Int))→Option (List (List Int))) (k32:(Int×List (List Int))→Option (List (List Int))):(Int×List (List Int))→Option (List (List Int)):=fun (x6,x10)=>
  (bif (decide (x6<(x0.length:Int))) then
  (aN (0≤x6∧x6<(x0.length:Int)) <|
  (aG (cJ (at' x0 x6)) fun (y20:List Int)=>
  (aN (x10.length+([y20]:List (List Int)).length≤536870912) <|
  k32 ((W (x6+1)),(x10 ++ ([y20]:List (List Int)))))))
  else
  j39 x10)

def jE (x0:List (List Int)):Option (List (List Int)):=
  (aU (fun (x36:List (List Int))=>
  some x36) fun j39=>
  (bC (jX x0 j39) bM (0,([]:List (List Int)))))

theorem vE (x0:List (List Int)) (a2:Option Addr) (c3:Nat) (r:List (List Int)) (h:jE x0=some r):
  FC Tryz.prog 145 [.agg #[.slice a2 x0.length c3]] [⟨(.sl (.int .i64)),⟨a2,x0.length,c3⟩,x0⟩] (fun _:Option Addr×Nat=>True) (fun q=>.agg #[.slice q.1 r.length q.2]) (fun q=>[⟨(.sl (.int .i64)),⟨q.1,r.length,q.2⟩,r⟩]):=
 by
  refine FC.of (T:=TTx) Tryz.call145 Tryz.func145 E E fun w0=>?_
  unfold jE at h
  refine aL aA 2 [] [2,3] [(1,.bp 2 0),(2,.bp 3 0)] (.new 2 41 [.slice a2 x0.length c3] (.new 3 41 [.slice none 0 0] .nil)) ⟨(Es E),(Bs E E)⟩ E E (aL aA 1 [] [4] [(3,.bp 4 0)] (.new 2 41 [.slice a2 x0.length c3] (.new 3 41 [.slice none 0 0] (.new 4 41 [.slice none 0 0] .nil))) ⟨⟨E,V⟩,(Bs E E)⟩ E E (JS.seq (aC aA 4 [(7,.v (.slice a2 x0.length c3)),(8,.v (I (x0.length:Int))),(9,.v (I 0))] ⟨(Es E),E⟩ E E ?_)))
  obtain ⟨j39,hj45,h⟩:=aQ h
  refine bA (ι:=List (List Int)×Option Addr×Nat) ⟨fun z=>j39 z.1=some r,fun z=>[(2,.bp 3 0),(3,.bp 4 0)],fun z=>(.new 3 41 [.slice none 0 0] (.new 4 41 [.slice z.2.1 z.1.length z.2.2] .nil)),fun z=>[],fun z=>[⟨(.sl (.int .i64)),⟨z.2.1,z.1.length,z.2.2⟩,z.1⟩],fun z=>0⟩ ?_ ?_
  ·
   refine aX (.sl (.int .i64)) Sl.nil E E (JS.loop (ι:=Nat×Int×List (List Int)×Option Addr×Nat) ⟨fun z=>bC (jX x0 j39) z.1 (z.2.1,z.2.2.1)=some r,fun z=>[(2,.bp 3 0),(3,.bp 4 0),(7,.v (.slice a2 x0.length c3)),(8,.v (I (x0.length:Int))),(9,.v (I z.2.1))],fun z=>(.new 3 41 [.slice none 0 0] (.new 4 41 [.slice z.2.2.2.1 z.2.2.1.length (Q4 z)] .nil)),fun z=>[⟨(.sl (.int .i64)),⟨a2,x0.length,c3⟩,x0⟩],fun z=>[⟨(.sl (.int .i64)),⟨z.2.2.2.1,z.2.2.1.length,(Q4 z)⟩,z.2.2.1⟩],fun z=>z.1⟩ (bM,0,([]:List (List Int)),none,0) h (Es E) (Bs E E) [0] E [0] E ?_)
   rintro ⟨n33,x6,x10,a11,c12⟩ h
   obtain ⟨n33,rfl,h⟩:=bH h
   rw [jX] at h
   refine aC aA 1 [(10,.v (.bool (decide (x6<(x0.length:Int)))))] ⟨⟨E,V⟩,E⟩ E E (JS.seq ?_)
   refine aK E h (fun h=>?_) (fun h=>?_)
   ·
    refine JS.skip (JS.seq (JS.block (JS.seq (JS.region (bJ 0 E fun hs43=>?_)))))
    obtain ⟨g14,h⟩:=aH h
    refine aB aA 1 [] [] [(11,.ep ⟨a2,x0.length,c3⟩ (Int.toNat x6*1))] _ E ⟨hs43.ix g14,⟨E,V⟩,E⟩ (eU 0 E (Int.toNat x6) (at' x0 x6) E fun a15 c16 ys17 hl18 hy19=>cP aA E E E E E E 0 E E (Int.toNat x6) 0 (Sl.v ⟨a15,(at' x0 x6).length,c16⟩) ⟨hy19 (kG g14),E⟩ E E E (aP aA 2 [] [22] [(5,.bp 22 0)] (.new 3 41 [.slice none 0 0] (.new 4 41 [.slice a11 x10.length c12] (.new 22 174 [.slice a15 (at' x0 x6).length c16] .nil))) E ⟨⟨E,V⟩,(Bs E E)⟩ (aD E ?_)))
    obtain ⟨y20,hy21,h⟩:=aE h
    obtain ⟨g25,h⟩:=aH h
    refine bB E (.new 4 41 [.slice a11 x10.length c12] (.new 22 174 [.slice a15 (at' x0 x6).length c16] .nil)) [] [7,8,9] ⟨E,E,E,E,E,E,E,E,V⟩ E (fun be28=>?_)
    refine bR aA aF true 6 [0,1,2,3] E (by kernel_rfl) [] [(14,.v (.slice a11 x10.length c12)),(16,.v (.slice a15 (at' x0 x6).length c16))] ⟨E,E,E,E,E,E,E,E,V⟩ [] E E (Es E) (JA.one 4 (by kernel_rfl) (JK.call E E E E (cZ (at' x0 x6) a15 c16 _ hy21) E [1] E E ?_))
    rintro ⟨a22,c23⟩ -
    refine aR ⟨E,E,E,E,E,E,E,E,V⟩ [] E (bR aA aF true 4 [5] E (by kernel_rfl) [] [(18,.v (.agg #[.slice a22 y20.length c23]))] ⟨E,E,E,E,E,E,E,E,V⟩ [] E E ⟨E,V⟩ (JA.one 6 (by kernel_rfl) (JK.buildSlice aA E E E E E E E E E E E [0] E (.sl (.int .i64)) [y20] ⟨E,E,E⟩ E E fun a24=>aR ⟨E,E,E,E,E,E,E,E,V⟩ [] E (JA.one 7 (by kernel_rfl) (gS aA E E E E ⟨E,E,E,E,V,E,E,E,E⟩ E E [1,0] E g25 E fun a26 c27=>aM E (aS aA aF 1 [8] E (by kernel_rfl) [] [(21,.bp 4 0)] E ⟨E,V⟩ (JA.one 9 (by kernel_rfl) (aY aA E E E E E E E E (aM E (bE (by kernel_rfl) (aW (B':=(.new 3 41 [.slice none 0 0] (.new 4 41 [.slice a26 (x10 ++ ([y20]:List (List Int))).length c27] .nil))) (Bs E E) (aZ (bZ aA 2 [(W (x6+1))] [] [(9,.v (I (W (x6+1))))] _ ⟨⟨V,E⟩,⟨E,V⟩,E⟩ E E (bQ (n33,(W (x6+1)),(x10 ++ ([y20]:List (List Int))),a26,c27) h (Nat.lt_succ_self _) (Es E) (Bs E E) [2] E [0] E))))))))))))))
   refine JS.exit E (aT (x10,a11,c12) h (Es E) (Bs E E) [] E [0] E)
  rintro ⟨x36,a37,c38⟩ h
  subst hj45
  refine aL aA 2 [] [] [] (.new 3 41 [.slice a37 x36.length c38] .nil) ⟨V,(Bs E E)⟩ E E ?_
  cases h
  exact JS.ret aA (a37,c38) V E E [0] E

def jW (x0:List (List Int×Int)) (j39:(List (List Int×Int))→Option (List (List Int×Int))) (k32:(Int×(List (List Int×Int)))→Option (List (List Int×Int))):(Int×(List (List Int×Int)))→Option (List (List Int×Int)):=fun (x6,x10)=>
  (bif (decide (x6<(x0.length:Int))) then
  (aN (0≤x6∧x6<(x0.length:Int)) <|
  (aG (cS ((at' x0 x6).1,(at' x0 x6).2)) fun (y20:List Int×Int)=>
  (aN (x10.length+([y20]:List (List Int×Int)).length≤536870912) <|
  k32 ((W (x6+1)),(x10 ++ ([y20]:List (List Int×Int)))))))
  else
  j39 x10)

def jD (x0:List (List Int×Int)):Option (List (List Int×Int)):=
  (aU (fun (x36:List (List Int×Int))=>
  some x36) fun j39=>
  (bC (jW x0 j39) bM (0,([]:List (List Int×Int)))))

theorem vD (x0:List (List Int×Int)) (a2:Option Addr) (c3:Nat) (r:List (List Int×Int)) (h:jD x0=some r):
  FC Tryz.prog 146 [.agg #[.slice a2 x0.length c3]] [⟨(.pair (.sl (.int .i64)) (.int .i64)),⟨a2,x0.length,c3⟩,x0⟩] (fun _:Option Addr×Nat=>True) (fun q=>.agg #[.slice q.1 r.length q.2]) (fun q=>[⟨(.pair (.sl (.int .i64)) (.int .i64)),⟨q.1,r.length,q.2⟩,r⟩]):=
 by
  refine FC.of (T:=TTx) Tryz.call146 Tryz.func146 E E fun w0=>?_
  unfold jD at h
  refine aL aA 2 [] [2,3] [(1,.bp 2 0),(2,.bp 3 0)] (.new 2 44 [.slice a2 x0.length c3] (.new 3 44 [.slice none 0 0] .nil)) ⟨(Es E),(Bs E E)⟩ E E (aL aA 1 [] [4] [(3,.bp 4 0)] (.new 2 44 [.slice a2 x0.length c3] (.new 3 44 [.slice none 0 0] (.new 4 44 [.slice none 0 0] .nil))) ⟨⟨E,V⟩,(Bs E E)⟩ E E (JS.seq (aC aA 4 [(7,.v (.slice a2 x0.length c3)),(8,.v (I (x0.length:Int))),(9,.v (I 0))] ⟨(Es E),E⟩ E E ?_)))
  obtain ⟨j39,hj45,h⟩:=aQ h
  refine bA (ι:=(List (List Int×Int))×Option Addr×Nat) ⟨fun z=>j39 z.1=some r,fun z=>[(2,.bp 3 0),(3,.bp 4 0)],fun z=>(.new 3 44 [.slice none 0 0] (.new 4 44 [.slice z.2.1 z.1.length z.2.2] .nil)),fun z=>[],fun z=>[⟨(.pair (.sl (.int .i64)) (.int .i64)),⟨z.2.1,z.1.length,z.2.2⟩,z.1⟩],fun z=>0⟩ ?_ ?_
  ·
   refine aX (.pair (.sl (.int .i64)) (.int .i64)) Sl.nil E E (JS.loop (ι:=Nat×Int×(List (List Int×Int))×Option Addr×Nat) ⟨fun z=>bC (jW x0 j39) z.1 (z.2.1,z.2.2.1)=some r,fun z=>[(2,.bp 3 0),(3,.bp 4 0),(7,.v (.slice a2 x0.length c3)),(8,.v (I (x0.length:Int))),(9,.v (I z.2.1))],fun z=>(.new 3 44 [.slice none 0 0] (.new 4 44 [.slice z.2.2.2.1 z.2.2.1.length (Q4 z)] .nil)),fun z=>[⟨(.pair (.sl (.int .i64)) (.int .i64)),⟨a2,x0.length,c3⟩,x0⟩],fun z=>[⟨(.pair (.sl (.int .i64)) (.int .i64)),⟨z.2.2.2.1,z.2.2.1.length,(Q4 z)⟩,z.2.2.1⟩],fun z=>z.1⟩ (bM,0,([]:List (List Int×Int)),none,0) h (Es E) (Bs E E) [0] E [0] E ?_)
   rintro ⟨n33,x6,x10,a11,c12⟩ h
   obtain ⟨n33,rfl,h⟩:=bH h
   rw [jW] at h
   refine aC aA 1 [(10,.v (.bool (decide (x6<(x0.length:Int)))))] ⟨⟨E,V⟩,E⟩ E E (JS.seq ?_)
   refine aK E h (fun h=>?_) (fun h=>?_)
   ·
    refine JS.skip (JS.seq (JS.block (JS.seq (JS.region (bJ 0 E fun hs43=>?_)))))
    obtain ⟨g14,h⟩:=aH h
    refine aB aA 1 [] [] [(11,.ep ⟨a2,x0.length,c3⟩ (Int.toNat x6*2))] _ E ⟨hs43.ix g14,⟨E,V⟩,E⟩ (eU 0 E (Int.toNat x6) (at' x0 x6) E fun a15 c16 ys17 hl18 hy19=>cP aA E E E E E E 0 E E (Int.toNat x6) 0 ((Sl.v ⟨a15,((at' x0 x6).1).length,c16⟩),(at' x0 x6).2) ⟨hy19 (kG g14),E⟩ E E E (aP aA 2 [] [22] [(5,.bp 22 0)] (.new 3 44 [.slice none 0 0] (.new 4 44 [.slice a11 x10.length c12] (.new 22 38 [.slice a15 ((at' x0 x6).1).length c16,.int .i64 (at' x0 x6).2] .nil))) E ⟨⟨E,V⟩,(Bs E E)⟩ (aD E ?_)))
    obtain ⟨y20,hy21,h⟩:=aE h
    obtain ⟨g25,h⟩:=aH h
    refine bB E (.new 4 44 [.slice a11 x10.length c12] (.new 22 38 [.slice a15 ((at' x0 x6).1).length c16,.int .i64 (at' x0 x6).2] .nil)) [] [5,6,7] ⟨E,E,E,E,E,E,E,E,V⟩ E (fun be28=>?_)
    refine bR aA aF true 5 [0,1,2] E (by kernel_rfl) [] [(14,.v (.slice a11 x10.length c12)),(15,.v (.agg #[.slice a15 ((at' x0 x6).1).length c16,.int .i64 (at' x0 x6).2]))] ⟨E,E,E,E,E,E,E,E,V⟩ [] E E (Es E) (JA.one 3 (by kernel_rfl) (JK.call E E E E (dQ ((at' x0 x6).1,(at' x0 x6).2) a15 c16 _ hy21) E [1] E E ?_))
    rintro ⟨a22,c23⟩ -
    refine aR ⟨E,E,E,E,E,E,E,E,V⟩ [] E (JA.one 4 (by kernel_rfl) (JK.buildSlice aA E E E E E E E E E E E [0] E (.pair (.sl (.int .i64)) (.int .i64)) [y20] ⟨E,E,E⟩ E E fun a24=>aR ⟨E,E,E,E,E,E,E,E,V⟩ [] E (JA.one 5 (by kernel_rfl) (gS aA E E E E ⟨E,E,E,E,V,E,E,E,E⟩ E E [1,0] E g25 E fun a26 c27=>aM E (aS aA aF 1 [6] E (by kernel_rfl) [] [(19,.bp 4 0)] E ⟨E,V⟩ (JA.one 7 (by kernel_rfl) (aY aA E E E E E E E E (aM E (bE (by kernel_rfl) (aW (B':=(.new 3 44 [.slice none 0 0] (.new 4 44 [.slice a26 (x10 ++ ([y20]:List (List Int×Int))).length c27] .nil))) (Bs E E) (aZ (bZ aA 2 [(W (x6+1))] [] [(9,.v (I (W (x6+1))))] _ ⟨⟨V,E⟩,⟨E,V⟩,E⟩ E E (bQ (n33,(W (x6+1)),(x10 ++ ([y20]:List (List Int×Int))),a26,c27) h (Nat.lt_succ_self _) (Es E) (Bs E E) [2] E [0] E)))))))))))))
   refine JS.exit E (aT (x10,a11,c12) h (Es E) (Bs E E) [] E [0] E)
  rintro ⟨x36,a37,c38⟩ h
  subst hj45
  refine aL aA 2 [] [] [] (.new 3 44 [.slice a37 x36.length c38] .nil) ⟨V,(Bs E E)⟩ E E ?_
  cases h
  exact JS.ret aA (a37,c38) V E E [0] E

def fX (x0:EdQ):Option EdQ:=
  (aG (cS x0.2.2.1) fun (y26:List Int×Int)=>
  (aG (cS x0.2.2.2.2.2.2.2.2.2.2.2.2.2.1) fun (y30:List Int×Int)=>
  (aG (cS x0.2.2.2.2.2.2.2.2.2.2.2.2.2.2.2.2) fun (y34:List Int×Int)=>
  (aG (jE x0.2.2.2.2.2.2.2.2.2.2.1) fun (y39:List (List Int))=>
  (aG (jD x0.2.2.2.2.2.2.2.2.2.2.2.1) fun (y43:List (List Int×Int))=>
  (aG (cJ x0.2.2.2.2.2.2.2.2.2.2.2.2.2.2.1) fun (y48:List Int)=>
  some (x0.1,x0.2.1,y26,x0.2.2.2.1,x0.2.2.2.2.1,x0.2.2.2.2.2.1,x0.2.2.2.2.2.2.1,x0.2.2.2.2.2.2.2.1,x0.2.2.2.2.2.2.2.2.1,x0.2.2.2.2.2.2.2.2.2.1,y39,y43,x0.2.2.2.2.2.2.2.2.2.2.2.2.1,y30,y48,x0.2.2.2.2.2.2.2.2.2.2.2.2.2.2.2.1,y34)))))))

theorem rC (x0:EdQ) (q2:P6) (r:EdQ) (h:fX x0=some r):
  FC Tryz.prog 63 [.agg (cC x0 q2).toArray] (bW x0 q2 []) (fun _:P6=>True) (fun q=>.agg (aI r q).toArray) (fun q=>(bW r q [])):=
 by
  refine FC.of (T:=TTx) Tryz.call63 Tryz.func63 E E fun w0=>?_
  unfold fX at h
  refine aL aA 2 [] [7,8] [(1,.bp 7 0),(2,.bp 8 0)] (.new 7 46 (aI x0 q2) (.new 8 46 bF .nil)) ⟨(Es E),(Bs E E)⟩ E E (JS.seq ?_)
  obtain ⟨y26,hy27,h⟩:=aE h
  obtain ⟨y30,hy31,h⟩:=aE h
  refine bnw h fun y34 hy35 h=>bB E (.new 7 46 (aI x0 q2) .nil) [] [8,9,10,11,12,13,14] ⟨E,E,E,E,V⟩ E (fun be38=>?_)
  refine bR aA aF true 9 [0,1,3,4,6,7] E (by kernel_rfl) [] [(4,.v (.agg #[.slice q2.1 x0.2.2.1.1.length q2.2.1,.int .i64 x0.2.2.1.2])),(7,.v (.agg #[.slice (Q4 q2).2.2.1 (Q12 x0).2.1.1.length (Q4 q2).2.2.2.1,.int .i64 (Q12 x0).2.1.2])),(10,.v (.agg #[.slice (Q8 q2).2.2.1 (Q16 x0).1.length (Q8 q2).2.2.2,.int .i64 (Q16 x0).2]))] ⟨E,E,E,E,V⟩ [] E E (Es E) (JA.one 2 (by kernel_rfl) (JK.call E E E E (dQ x0.2.2.1 q2.1 q2.2.1 _ hy27) E [0] E E ?_))
  rintro ⟨a28,c29⟩ -
  refine aR ⟨E,E,E,E,V⟩ [] E (aS aA aF 7 [9] E (by kernel_rfl) [] [(12,.bp 7 2)] E ⟨E,V⟩ (JA.one 5 (by kernel_rfl) (JK.call E E E E (dQ (Q12 x0).2.1 (Q4 q2).2.2.1 (Q4 q2).2.2.2.1 _ hy31) E [3] E E ?_)))
  rintro ⟨a32,c33⟩ -
  refine aR ⟨E,E,E,E,V⟩ [] E (JA.one 8 (by kernel_rfl) (JK.call E E E E (dQ (Q16 x0) (Q8 q2).2.2.1 (Q8 q2).2.2.2 _ hy35) E [5] E E ?_))
  rintro ⟨a36,c37⟩ -
  refine aM E (JA.one 10 (by kernel_rfl) (aY aA E E E E E E E E (aM E (aS aA aF 3 [11] E (by kernel_rfl) [] [(13,.bp 7 14)] E ⟨E,V⟩ (JA.one 12 (by kernel_rfl) (aY aA E E E E E E E E (aM E (aS aA aF 1 [13] E (by kernel_rfl) [] [(14,.bp 7 18)] E ⟨E,V⟩ (JA.one 14 (by kernel_rfl) (aY aA E E E E E E E E (aM E (bE (by kernel_rfl) (aW (B':=(.new 7 46 (aI (x0.1,x0.2.1,y26,x0.2.2.2.1,(Q4 x0).1,(Q4 x0).2.1,(Q4 x0).2.2.1,(Q4 x0).2.2.2.1,(Q8 x0).1,(Q8 x0).2.1,(Q8 x0).2.2.1,(Q8 x0).2.2.2.1,(Q12 x0).1,y30,(Q12 x0).2.2.1,(Q12 x0).2.2.2.1,y34) (a28,c29,q2.2.2.1,q2.2.2.2.1,(Q4 q2).1,(Q4 q2).2.1,a32,c33,(Q8 q2).1,(Q8 q2).2.1,a36,c37)) (.new 8 46 bF .nil))) (Bs E E) (JS.seq ?_))))))))))))))
  obtain ⟨y39,hy40,h⟩:=aE h
  refine bnw h fun y43 hy44 h=>bB E (.new 7 46 (aI (x0.1,x0.2.1,y26,x0.2.2.2.1,(Q4 x0).1,(Q4 x0).2.1,(Q4 x0).2.2.1,(Q4 x0).2.2.2.1,(Q8 x0).1,(Q8 x0).2.1,(Q8 x0).2.2.1,(Q8 x0).2.2.2.1,(Q12 x0).1,y30,(Q12 x0).2.2.1,(Q12 x0).2.2.2.1,y34) (a28,c29,q2.2.2.1,q2.2.2.2.1,(Q4 q2).1,(Q4 q2).2.1,a32,c33,(Q8 q2).1,(Q8 q2).2.1,a36,c37)) .nil) [] [5,6,7,8,9] ⟨E,E,E,E,V⟩ E (fun be47=>?_)
  refine bR aA aF true 6 [0,1,3,4] E (by kernel_rfl) [] [(16,.v (.agg #[.slice q2.2.2.1 (Q8 x0).2.2.1.length q2.2.2.2.1])),(19,.v (.agg #[.slice (Q4 q2).1 (Q8 x0).2.2.2.1.length (Q4 q2).2.1]))] ⟨E,E,E,E,V⟩ [] E E (Es E) (JA.one 2 (by kernel_rfl) (JK.call E E E E (vE (Q8 x0).2.2.1 q2.2.2.1 q2.2.2.2.1 _ hy40) E [1] E E ?_))
  rintro ⟨a41,c42⟩ -
  refine aR ⟨E,E,E,E,V⟩ [] E (aS aA aF 4 [6] E (by kernel_rfl) [] [(21,.bp 7 11)] E ⟨E,V⟩ (JA.one 5 (by kernel_rfl) (JK.call E E E E (vD (Q8 x0).2.2.2.1 (Q4 q2).1 (Q4 q2).2.1 _ hy44) E [2] E E ?_)))
  rintro ⟨a45,c46⟩ -
  refine aM E (JA.one 7 (by kernel_rfl) (aY aA E E E E E E E E (aM E (aS aA aF 1 [8] E (by kernel_rfl) [] [(22,.bp 7 12)] E ⟨E,V⟩ (JA.one 9 (by kernel_rfl) (aY aA E E E E E E E E (aM E (bE (by kernel_rfl) (aW (B':=(.new 7 46 (aI (x0.1,x0.2.1,y26,x0.2.2.2.1,(Q4 x0).1,(Q4 x0).2.1,(Q4 x0).2.2.1,(Q4 x0).2.2.2.1,(Q8 x0).1,(Q8 x0).2.1,y39,y43,(Q12 x0).1,y30,(Q12 x0).2.2.1,(Q12 x0).2.2.2.1,y34) (a28,c29,a41,c42,a45,c46,a32,c33,(Q8 q2).1,(Q8 q2).2.1,a36,c37)) (.new 8 46 bF .nil))) (Bs E E) (JS.seq (JS.region (aB aA 2 [] [] [(24,.v (.slice (Q8 q2).1 (Q12 x0).2.2.1.length (Q8 q2).2.1))] _ E ⟨⟨E,V⟩,E⟩ ?_))))))))))))
  refine bnw h fun y48 hy49 h=>JO.call E E E E (cZ (Q12 x0).2.2.1 (Q8 q2).1 (Q8 q2).2.1 _ hy49) E [4] E E ?_
  rintro ⟨a50,c51⟩ -
  refine aP aA 2 [] [] [] (.new 7 46 (aI (x0.1,x0.2.1,y26,x0.2.2.2.1,(Q4 x0).1,(Q4 x0).2.1,(Q4 x0).2.2.1,(Q4 x0).2.2.2.1,(Q8 x0).1,(Q8 x0).2.1,y39,y43,(Q12 x0).1,y30,y48,(Q12 x0).2.2.2.1,y34) (a28,c29,a41,c42,a45,c46,a32,c33,a50,c51,a36,c37)) (.new 8 46 bF .nil)) E ⟨V,(Bs E E)⟩ (aD E (aL aA 2 [] [] [] (.new 8 46 (aI (x0.1,x0.2.1,y26,x0.2.2.2.1,(Q4 x0).1,(Q4 x0).2.1,(Q4 x0).2.2.1,(Q4 x0).2.2.2.1,(Q8 x0).1,(Q8 x0).2.1,y39,y43,(Q12 x0).1,y30,y48,(Q12 x0).2.2.2.1,y34) (a28,c29,a41,c42,a45,c46,a32,c33,a50,c51,a36,c37)) .nil) ⟨V,(Bs E E)⟩ E E ?_))
  cases h
  exact JS.ret aA (a28,c29,a41,c42,a45,c46,a32,c33,a50,c51,a36,c37) V E E [5,2,1,2,0,0] E

def eA (x0:EdQ) (x1:Int):Option EdQ:=
  (aG (fX x0) fun (y27:EdQ)=>
  some (y27.1,y27.2.1,y27.2.2.1,0,0,0,0,y27.2.2.2.2.2.2.2.1,y27.2.2.2.2.2.2.2.2.1,x1,y27.2.2.2.2.2.2.2.2.2.2.1,y27.2.2.2.2.2.2.2.2.2.2.2.1,y27.2.2.2.2.2.2.2.2.2.2.2.2.1,y27.2.2.2.2.2.2.2.2.2.2.2.2.2.1,y27.2.2.2.2.2.2.2.2.2.2.2.2.2.2.1,y27.2.2.2.2.2.2.2.2.2.2.2.2.2.2.2.1,y27.2.2.2.2.2.2.2.2.2.2.2.2.2.2.2.2))

theorem oU (x0:EdQ) (x1:Int) (q3:P6) (r:EdQ) (h:eA x0 x1=some r):
  FC Tryz.prog 209 [.agg (cC x0 q3).toArray,.int .i64 x1] (bW x0 q3 []) (fun _:P6=>True) (fun q=>.agg (aI r q).toArray) (fun q=>(bW r q [])):=
 by
  refine FC.of (T:=TTx) Tryz.call209 Tryz.func209 E E fun w0=>?_
  unfold eA at h
  refine aL aA 2 [] [7,8] [(2,.bp 7 0),(4,.bp 8 0)] (.new 7 46 (aI x0 q3) (.new 8 46 bF .nil)) ⟨(Es E),(Bs E E)⟩ E E (JS.seq (JS.region (aB aA 1 [] [] [(6,.v (.agg (aI x0 q3).toArray))] _ E ⟨⟨E,V⟩,E⟩ ?_)))
  refine bnw h fun y27 hy28 h=>JO.call E E E E (rC x0 q3 _ hy28) E [0,1,2,3,4,5] E E fun q29 _=>aP aA 2 [] [29] [(5,.bp 29 0)] (.new 8 46 bF (.new 29 46 (aI y27 q29) .nil)) E ⟨⟨E,V⟩,(Bs E E)⟩ (aD E (aL aA 11 [] [] [] (.new 8 46 bF (.new 29 46 (aI (y27.1,y27.2.1,y27.2.2.1,0,0,0,0,(Q4 y27).2.2.2.1,(Q8 y27).1,x1,(Q8 y27).2.2) q29) .nil)) ⟨V,(Bs E E)⟩ E E (aL aA 2 [] [] [] (.new 8 46 (aI (y27.1,y27.2.1,y27.2.2.1,0,0,0,0,(Q4 y27).2.2.2.1,(Q8 y27).1,x1,(Q8 y27).2.2) q29) .nil) ⟨V,(Bs E E)⟩ E E ?_)))
  cases h
  exact JS.ret aA q29 V E E [0,0,0,0,0,0] E

def qD (x0:Int×List (List UInt8)):Option Int:=
  (aG (oD x0) fun (y6:Bool)=>
  (bif (bif (!y6) then true else (decide ((x0.2.length:Int)=0))) then
  some 0
  else
  some (W ((W (x0.1+(x0.2.length:Int))) - 1))))

theorem aGz (x0:Int×List (List UInt8)) (a2:Option Addr) (c3:Nat) (r:Int) (h:qD x0=some r):
  FC Tryz.prog 156 [.agg #[.int .i64 x0.1,.slice a2 x0.2.length c3]] [⟨.str,⟨a2,x0.2.length,c3⟩,x0.2⟩] (fun _:Unit=>True) (fun _=>.int .i64 r) (fun _=>[]):=
 by
  refine FC.of (T:=TTx) Tryz.call156 Tryz.func156 E E fun w0=>?_
  unfold qD at h
  refine aL aA 2 [] [2] [(1,.bp 2 0)] (.new 2 50 [.int .i64 x0.1,.slice a2 x0.2.length c3] .nil) ⟨⟨E,V⟩,(Bs E E)⟩ E E (JS.seq (JS.seq (JS.region (aB aA 1 [] [] [(3,.v (.agg #[.int .i64 x0.1,.slice a2 x0.2.length c3]))] _ E ⟨⟨E,V⟩,E⟩ ?_))))
  refine bnw h fun y6 hy7 h=>JO.call E E E E (yI x0 a2 c3 _ hy7) E [0] E E fun _ _=>aB aA 7 [] [] [(11,.v (.bool (bif (!y6) then true else (decide ((x0.2.length:Int)=0)))))] _ E ⟨⟨E,V⟩,E⟩ (aD E ?_)
  refine aK E h (fun h=>?_) (fun h=>?_)
  ·
   refine aC aA 1 [(2,.v (I 0))] ⟨⟨E,V⟩,E⟩ E E ?_
   cases h
   exact JS.ret aA () V E E [] E
  refine JS.skip (sD aA 8 [(W (x0.1+(x0.2.length:Int))),(W ((W (x0.1+(x0.2.length:Int))) - 1))] [] [(2,.v (I (W ((W (x0.1+(x0.2.length:Int))) - 1))))] _ ⟨⟨V,E⟩,⟨V,E⟩,⟨E,V⟩,E⟩ E E ?_)
  cases h
  exact JS.ret aA () V E E [] E

def hJ (x0:List Int×Int) (x1:Int):Option (List Int×Int):=
  (aU (fun (x11:Int)=>
  some (x0.1,x11)) fun j12=>
  (bU ((decide (x1=2))=true) (oL x0) false fun (y7:Bool)=>
  (bif (bif (decide (x1=2)) then y7 else false) then
  j12 (W (x0.2 - 1))
  else
  j12 x0.2)))

theorem tK (x0:List Int×Int) (x1:Int) (a3:Option Addr) (c4:Nat) (r:List Int×Int) (h:hJ x0 x1=some r):
  FC Tryz.prog 158 [.agg #[.slice a3 x0.1.length c4,.int .i64 x0.2],.int .i64 x1] [⟨(.int .i64),⟨a3,x0.1.length,c4⟩,x0.1⟩] (fun _:Unit=>True) (fun _=>.agg #[.slice a3 x0.1.length c4,.int .i64 r.2]) (fun _=>[]):=
 by
  refine FC.of (T:=TTx) Tryz.call158 Tryz.func158 E E fun w0=>?_
  unfold hJ at h
  refine aL aA 2 [] [2,3] [(2,.bp 2 0),(4,.bp 3 0)] (.new 2 38 [.slice a3 x0.1.length c4,.int .i64 x0.2] (.new 3 38 [.slice none 0 0,.int .i64 0] .nil)) ⟨(Es E),(Bs E E)⟩ E E ?_
  obtain ⟨j12,hj18,h⟩:=aQ h
  refine dM (ι:=Int) ⟨fun z=>j12 z=some r,fun z=>[(2,.bp 2 0),(4,.bp 3 0)],fun z=>(.new 2 38 [.slice a3 x0.1.length c4,.int .i64 z] (.new 3 38 [.slice none 0 0,.int .i64 0] .nil)),fun z=>[⟨(.int .i64),⟨a3,x0.1.length,c4⟩,x0.1⟩],fun z=>[],fun z=>0⟩ ?_ ?_
  ·
   refine JS.seq (JS.region (aB aA 4 [] [] [(7,.v (.bool (decide (x1=2)))),(8,.cd [(7,true)] (.v (.agg #[.slice a3 x0.1.length c4,.int .i64 x0.2])))] _ E ⟨(Es E),E⟩ ?_))
   obtain ⟨y7,hy8,-,h⟩:=aV h
   refine bI E E E E (fun q16=>aBr x0 a3 c4 _ (hy8 q16)) E [0] E E (aB aA 1 [] [] [(10,.v (.bool (bif (decide (x1=2)) then y7 else false)))] _ E ⟨⟨E,V⟩,E⟩ (aD E ?_))
   refine aK E h (fun h=>?_) (fun h=>?_)
   ·
    refine aC0 aA 5 [(W (x0.2 - 1))] [] [] (.new 2 38 [.slice a3 x0.1.length c4,.int .i64 (W (x0.2 - 1))] (.new 3 38 [.slice none 0 0,.int .i64 0] .nil)) ⟨⟨V,E⟩,V,(Bs E E)⟩ E E (aT (W (x0.2 - 1)) h (Es E) (Bs E E) [0] E [] E)
   refine JS.skip (aT x0.2 h (Es E) (Bs E E) [0] E [] E)
  rintro x11 h
  subst hj18
  refine aL aA 2 [] [] [] (.new 3 38 [.slice a3 x0.1.length c4,.int .i64 x11] .nil) ⟨V,(Bs E E)⟩ E E ?_
  cases h
  exact JS.ret aA () V E E [] E

def lV (x0:Int×List (List UInt8)) (x1:Int):Option (List UInt8×Bool):=
  (aG (oD x0) fun (y7:Bool)=>
  (bU ((!y7)=false) (cT x1 x0.1 (W ((W (x0.1+(x0.2.length:Int))) - 1))) false fun (y11:Bool)=>
  (bif (bif (!y7) then true else (!y11)) then
  some ([],false)
  else
  (aN (0≤(W (x1 - x0.1))∧(W (x1 - x0.1))<(x0.2.length:Int)) <|
  some ((at' x0.2 (W (x1 - x0.1))),true)))))

theorem aIx (x0:Int×List (List UInt8)) (x1:Int) (a3:Option Addr) (c4:Nat) (r:List UInt8×Bool) (h:lV x0 x1=some r):
  FC Tryz.prog 58 [.agg #[.int .i64 x0.1,.slice a3 x0.2.length c4],.int .i64 x1] [⟨.str,⟨a3,x0.2.length,c4⟩,x0.2⟩] (fun _:Unit=>True) (fun _=>.tuple #[.string (bs r.1),.bool r.2]) (fun _=>[]):=
 by
  refine FC.of (T:=TTx) Tryz.call58 Tryz.func58 E E fun w0=>?_
  unfold lV at h
  refine aL aA 3 [] [2] [(2,.bp 2 0)] (.new 2 50 [.int .i64 x0.1,.slice a3 x0.2.length c4] .nil) ⟨⟨E,V⟩,(Bs E E)⟩ E E (JS.seq (JS.seq (JS.region (aB aA 1 [] [] [(6,.v (.agg #[.int .i64 x0.1,.slice a3 x0.2.length c4]))] _ E ⟨⟨E,V⟩,E⟩ ?_))))
  refine bnw h fun y7 hy8 h=>JO.call E E E E (yI x0 a3 c4 _ hy8) E [0] E E fun _ _=>aB aA 12 [(W (x0.1+(x0.2.length:Int))),(W ((W (x0.1+(x0.2.length:Int))) - 1))] [] [(9,.v (.bool (!y7))),(10,.cd [(9,false)] (.v (I x1))),(12,.cd [(9,false)] (.v (I x0.1))),(19,.cd [(9,false)] (.v (I (W ((W (x0.1+(x0.2.length:Int))) - 1)))))] _ E ⟨(fun q17=>⟨V,E⟩),(fun q18=>⟨V,E⟩),(Es E),E⟩ ?_
  obtain ⟨y11,hy12,-,h⟩:=aV h
  refine bI E E E E (fun q19=>dV x1 x0.1 (W ((W (x0.1+(x0.2.length:Int))) - 1)) _ (hy12 q19)) E [] E E (aB aA 2 [] [] [(22,.v (.bool (bif (!y7) then true else (!y11))))] _ E ⟨⟨E,V⟩,E⟩ (aD E ?_))
  refine aK E h (fun h=>?_) (fun h=>?_)
  ·
   refine aC aA 2 [(4,.v (.string (bs []))),(5,.v (.bool false))] ⟨(Es E),E⟩ E E ?_
   cases h
   exact JS.ret aA () V E E [] E
  refine JS.skip (JS.seq (JS.region (bJ 0 E fun hs20=>?_)))
  obtain ⟨g15,h⟩:=aH h
  refine aB aA 7 [(W (x1 - x0.1))] [] [(29,.ep ⟨a3,x0.2.length,c4⟩ (Int.toNat (W (x1 - x0.1))*1))] _ E ⟨⟨V,E⟩,hs20.ix g15,⟨E,V⟩,E⟩ (JO.load aA E E E E E E E 0 E E (Int.toNat (W (x1 - x0.1))) 0 (at' x0.2 (W (x1 - x0.1))) ⟨bD g15,E⟩ E E (aB aA 2 [] [] [(4,.v (.string (bs (at' x0.2 (W (x1 - x0.1)))))),(5,.v (.bool true))] _ E ⟨(Es E),E⟩ (aD E ?_)))
  cases h
  exact JS.ret aA () V E E [] E

def kC (x0:Int):Option (List UInt8):=
  (aG (lS x0) fun (y2:Bool)=>
  (bif (!y2) then
  some ([])
  else
  (bif (decide (x0<128)) then
  some ([(u8 (x0))]:List UInt8)
  else
  (bif (decide (x0<2048)) then
  some ([(u8 ((W (192+(W (Int.tdiv x0 64)))))),(u8 ((W (128+(Int.tmod x0 64)))))]:List UInt8)
  else
  (bif (decide (x0<65536)) then
  some ([(u8 ((W (224+(W (Int.tdiv x0 4096)))))),(u8 ((W (128+(Int.tmod (W (Int.tdiv x0 64)) 64))))),(u8 ((W (128+(Int.tmod x0 64)))))]:List UInt8)
  else
  some ([(u8 ((W (240+(W (Int.tdiv x0 262144)))))),(u8 ((W (128+(Int.tmod (W (Int.tdiv x0 4096)) 64))))),(u8 ((W (128+(Int.tmod (W (Int.tdiv x0 64)) 64))))),(u8 ((W (128+(Int.tmod x0 64)))))]:List UInt8))))))

theorem aE6 (x0:Int) (r:List UInt8) (h:kC x0=some r) :
  FC Tryz.prog 143 [.int .i64 x0] [] (fun _:Option Addr×Nat=>True) (fun q=>.slice q.1 r.length q.2) (fun q=>[⟨.byte,⟨q.1,r.length,q.2⟩,r⟩]):=
 by
  refine FC.of (T:=TTx) Tryz.call143 Tryz.func143 E E fun w0=>?_
  unfold kC at h
  refine aC aA 1 [] ⟨V,E⟩ E E (JS.seq (JS.block (JS.seq (JS.region (aB aA 1 [] [] [(4,.v (I x0))] _ E ⟨⟨E,V⟩,E⟩ ?_)))))
  refine bnw h fun y2 hy3 h=>JO.call E E E E (aDd x0 _ hy3) E [] E E fun _ _=>aB aA 2 [] [] [(3,.v (.bool (!y2)))] _ E ⟨⟨E,V⟩,E⟩ (aD E ?_)
  refine aK E h (fun h=>?_) (fun h=>?_)
  ·
   refine aC aA 1 [(2,.v (.slice none 0 0))] ⟨⟨E,V⟩,E⟩ E E ?_
   cases h
   refine aX .byte Sl.nil E E (JS.ret aA (none,0) V E E [0] E)
  refine aC aA 3 [(7,.v (.bool (decide (x0<128))))] ⟨⟨E,V⟩,E⟩ E E ?_
  refine aK E h (fun h=>?_) (fun h=>?_)
  ·
   refine JS.seq (JS.region (aB aA 2 [((u8 (x0)).toNat:Int)] [] [(11,.v (.int .u8 ((u8 (x0)).toNat:Int)))] _ E ⟨⟨V,eK _⟩,⟨E,V⟩,E⟩ ?_))
   refine jH E (JK.buildSlice aA E E E E E E E E E E E [] E .byte [(u8 (x0))] ⟨E,E⟩ E E fun a4=>jG ?_)
   refine aB aA 1 [] [] [(2,.v (.slice a4 ([(u8 (x0))]:List UInt8).length ([(u8 (x0))]:List UInt8).length))] _ E ⟨⟨E,V⟩,E⟩ (aD E ?_)
   cases h
   exact JS.ret aA (a4,([(u8 (x0))]:List UInt8).length) V E E [0] E
  refine aC aA 3 [(13,.v (.bool (decide (x0<2048))))] ⟨⟨E,V⟩,E⟩ E E ?_
  refine aK E h (fun h=>?_) (fun h=>?_)
  ·
   refine JS.seq (JS.region ?_)
   have g5:(64:Int)≠0:=by decide
   have g6:(64:Int)≠0:=by decide
   refine aB aA 8 [(W (Int.tdiv x0 64)),(W (192+(W (Int.tdiv x0 64)))),((u8 ((W (192+(W (Int.tdiv x0 64)))))).toNat:Int),(W (128+(Int.tmod x0 64))),((u8 ((W (128+(Int.tmod x0 64))))).toNat:Int)] [] [(19,.v (.int .u8 ((u8 ((W (192+(W (Int.tdiv x0 64)))))).toNat:Int))),(23,.v (.int .u8 ((u8 ((W (128+(Int.tmod x0 64))))).toNat:Int)))] _ E ⟨⟨g5,E⟩,⟨V,E⟩,⟨V,eK _⟩,g6,⟨V,E⟩,⟨V,eK _⟩,(Es E),E⟩ ?_
   refine jH E (JK.buildSlice aA E E E E E E E E E E E [] E .byte [(u8 ((W (192+(W (Int.tdiv x0 64)))))),(u8 ((W (128+(Int.tmod x0 64)))))] ⟨E,E⟩ E E fun a7=>jG ?_)
   refine aB aA 1 [] [] [(2,.v (.slice a7 ([(u8 ((W (192+(W (Int.tdiv x0 64)))))),(u8 ((W (128+(Int.tmod x0 64)))))]:List UInt8).length ([(u8 ((W (192+(W (Int.tdiv x0 64)))))),(u8 ((W (128+(Int.tmod x0 64)))))]:List UInt8).length))] _ E ⟨⟨E,V⟩,E⟩ (aD E ?_)
   cases h
   exact JS.ret aA (a7,([(u8 ((W (192+(W (Int.tdiv x0 64)))))),(u8 ((W (128+(Int.tmod x0 64)))))]:List UInt8).length) V E E [0] E
  refine aC aA 3 [(25,.v (.bool (decide (x0<65536))))] ⟨⟨E,V⟩,E⟩ E E ?_
  refine aK E h (fun h=>?_) (fun h=>?_)
  ·
   refine JS.seq (JS.region ?_)
   have g8:(4096:Int)≠0:=by decide
   have g9:(64:Int)≠0:=by decide
   have g10:(64:Int)≠0:=by decide
   have g11:(64:Int)≠0:=by decide
   refine aB aA 13 [(W (Int.tdiv x0 4096)),(W (224+(W (Int.tdiv x0 4096)))),((u8 ((W (224+(W (Int.tdiv x0 4096)))))).toNat:Int),(W (Int.tdiv x0 64)),(W (128+(Int.tmod (W (Int.tdiv x0 64)) 64))),((u8 ((W (128+(Int.tmod (W (Int.tdiv x0 64)) 64))))).toNat:Int),(W (128+(Int.tmod x0 64))),((u8 ((W (128+(Int.tmod x0 64))))).toNat:Int)] [] [(31,.v (.int .u8 ((u8 ((W (224+(W (Int.tdiv x0 4096)))))).toNat:Int))),(36,.v (.int .u8 ((u8 ((W (128+(Int.tmod (W (Int.tdiv x0 64)) 64))))).toNat:Int))),(40,.v (.int .u8 ((u8 ((W (128+(Int.tmod x0 64))))).toNat:Int)))] _ E ⟨⟨g8,E⟩,⟨V,E⟩,⟨V,eK _⟩,⟨g9,E⟩,g10,⟨V,E⟩,⟨V,eK _⟩,g11,⟨V,E⟩,⟨V,eK _⟩,(Es E),E⟩ ?_
   refine jH E (JK.buildSlice aA E E E E E E E E E E E [] E .byte [(u8 ((W (224+(W (Int.tdiv x0 4096)))))),(u8 ((W (128+(Int.tmod (W (Int.tdiv x0 64)) 64))))),(u8 ((W (128+(Int.tmod x0 64)))))] ⟨E,E⟩ E E fun a12=>jG ?_)
   refine aB aA 1 [] [] [(2,.v (.slice a12 ([(u8 ((W (224+(W (Int.tdiv x0 4096)))))),(u8 ((W (128+(Int.tmod (W (Int.tdiv x0 64)) 64))))),(u8 ((W (128+(Int.tmod x0 64)))))]:List UInt8).length ([(u8 ((W (224+(W (Int.tdiv x0 4096)))))),(u8 ((W (128+(Int.tmod (W (Int.tdiv x0 64)) 64))))),(u8 ((W (128+(Int.tmod x0 64)))))]:List UInt8).length))] _ E ⟨⟨E,V⟩,E⟩ (aD E ?_)
   cases h
   exact JS.ret aA (a12,([(u8 ((W (224+(W (Int.tdiv x0 4096)))))),(u8 ((W (128+(Int.tmod (W (Int.tdiv x0 64)) 64))))),(u8 ((W (128+(Int.tmod x0 64)))))]:List UInt8).length) V E E [0] E
  refine JS.skip (aZ (JS.seq (JS.region ?_)))
  have g13:(262144:Int)≠0:=by decide
  have g14:(4096:Int)≠0:=by decide
  have g15:(64:Int)≠0:=by decide
  have g16:(64:Int)≠0:=by decide
  have g17:(64:Int)≠0:=by decide
  have g18:(64:Int)≠0:=by decide
  refine aB aA 18 [(W (Int.tdiv x0 262144)),(W (240+(W (Int.tdiv x0 262144)))),((u8 ((W (240+(W (Int.tdiv x0 262144)))))).toNat:Int),(W (Int.tdiv x0 4096)),(W (128+(Int.tmod (W (Int.tdiv x0 4096)) 64))),((u8 ((W (128+(Int.tmod (W (Int.tdiv x0 4096)) 64))))).toNat:Int),(W (Int.tdiv x0 64)),(W (128+(Int.tmod (W (Int.tdiv x0 64)) 64))),((u8 ((W (128+(Int.tmod (W (Int.tdiv x0 64)) 64))))).toNat:Int),(W (128+(Int.tmod x0 64))),((u8 ((W (128+(Int.tmod x0 64))))).toNat:Int)] [] [(45,.v (.int .u8 ((u8 ((W (240+(W (Int.tdiv x0 262144)))))).toNat:Int))),(50,.v (.int .u8 ((u8 ((W (128+(Int.tmod (W (Int.tdiv x0 4096)) 64))))).toNat:Int))),(55,.v (.int .u8 ((u8 ((W (128+(Int.tmod (W (Int.tdiv x0 64)) 64))))).toNat:Int))),(59,.v (.int .u8 ((u8 ((W (128+(Int.tmod x0 64))))).toNat:Int)))] _ E ⟨⟨g13,E⟩,⟨V,E⟩,⟨V,eK _⟩,⟨g14,E⟩,g15,⟨V,E⟩,⟨V,eK _⟩,⟨g16,E⟩,g17,⟨V,E⟩,⟨V,eK _⟩,g18,⟨V,E⟩,⟨V,eK _⟩,(Es E),E⟩ ?_
  refine jH E (JK.buildSlice aA E E E E E E E E E E E [] E .byte [(u8 ((W (240+(W (Int.tdiv x0 262144)))))),(u8 ((W (128+(Int.tmod (W (Int.tdiv x0 4096)) 64))))),(u8 ((W (128+(Int.tmod (W (Int.tdiv x0 64)) 64))))),(u8 ((W (128+(Int.tmod x0 64)))))] ⟨E,E⟩ E E fun a19=>jG ?_)
  refine aB aA 1 [] [] [(2,.v (.slice a19 ([(u8 ((W (240+(W (Int.tdiv x0 262144)))))),(u8 ((W (128+(Int.tmod (W (Int.tdiv x0 4096)) 64))))),(u8 ((W (128+(Int.tmod (W (Int.tdiv x0 64)) 64))))),(u8 ((W (128+(Int.tmod x0 64)))))]:List UInt8).length ([(u8 ((W (240+(W (Int.tdiv x0 262144)))))),(u8 ((W (128+(Int.tmod (W (Int.tdiv x0 4096)) 64))))),(u8 ((W (128+(Int.tmod (W (Int.tdiv x0 64)) 64))))),(u8 ((W (128+(Int.tmod x0 64)))))]:List UInt8).length))] _ E ⟨⟨E,V⟩,E⟩ (aD E ?_)
  cases h
  exact JS.ret aA (a19,([(u8 ((W (240+(W (Int.tdiv x0 262144)))))),(u8 ((W (128+(Int.tmod (W (Int.tdiv x0 4096)) 64))))),(u8 ((W (128+(Int.tmod (W (Int.tdiv x0 64)) 64))))),(u8 ((W (128+(Int.tmod x0 64)))))]:List UInt8).length) V E E [0] E

def eB (x0:List UInt8) (x1:Int) (x19:Int) (j39:Int→Option (Int×Int)) (k34:(Int×Int)→Option (Int×Int)):(Int×Int)→Option (Int×Int):=fun (x29,x30)=>
  (bif (decide (x30<((bN x0 (W (x1+1)) (W (x1+x19))).length:Int))) then
  (aN (0≤x30∧x30<((bN x0 (W (x1+1)) (W (x1+x19))).length:Int)) <|
  k34 ((W ((W ((W (x29*64))+((at' (bN x0 (W (x1+1)) (W (x1+x19))) x30).toNat:Int))) - 128)),(W (x30+1))))
  else
  j39 x29)

def qB (x0:List UInt8) (x1:Int):Option (Int×Int):=
  (bif (bif (decide (x1<0)) then true else (decide ((x0.length:Int)≤x1))) then
  some (0,0)
  else
  (aN (0≤x1∧x1<(x0.length:Int)) <|
  (aU (fun ((x19,x20):Int×Int)=>
  (bif (decide ((W ((x0.length:Int) - x19))<x1)) then
  some (0,0)
  else
  (aN (0≤(W (x1+1))∧(W (x1+1))≤(W (x1+x19))∧(W (x1+x19))≤(x0.length:Int)) <|
  (aU (fun (x38:Int)=>
  (aG (kC x38) fun (y42:List UInt8)=>
  (aN (0≤x1∧x1≤(W (x1+x19))∧(W (x1+x19))≤(x0.length:Int)) <|
  (bif (!(decide (y42=(bN x0 x1 (W (x1+x19)))))) then
  some (0,0)
  else
  some (x38,x19))))) fun j39=>
  (bC (eB x0 x1 x19 j39) bM (x20,0)))))) fun j21=>
  (bif (decide (((at' x0 x1).toNat:Int)<128)) then
  some (((at' x0 x1).toNat:Int),1)
  else
  (aG (cT ((at' x0 x1).toNat:Int) 192 223) fun (y9:Bool)=>
  (bif y9 then
  j21 (2,(W (((at' x0 x1).toNat:Int) - 192)))
  else
  (aG (cT ((at' x0 x1).toNat:Int) 224 239) fun (y11:Bool)=>
  (bif y11 then
  j21 (3,(W (((at' x0 x1).toNat:Int) - 224)))
  else
  (aG (cT ((at' x0 x1).toNat:Int) 240 247) fun (y13:Bool)=>
  (bif y13 then
  j21 (4,(W (((at' x0 x1).toNat:Int) - 240)))
  else
  some (0,0)))))))))))

theorem aGw (x0:List UInt8) (x1:Int) (a3:Option Addr) (c4:Nat) (r:Int×Int) (h:qB x0 x1=some r):
  FC Tryz.prog 144 [.slice a3 x0.length c4,.int .i64 x1] [⟨.byte,⟨a3,x0.length,c4⟩,x0⟩] (fun _:Unit=>True) (fun _=>.tuple #[.int .i64 r.1,.int .i64 r.2]) (fun _=>[]):=
 by
  refine FC.of (T:=TTx) Tryz.call144 Tryz.func144 E E fun w0=>?_
  unfold qB at h
  refine aC aA 2 [] ⟨V,E⟩ E E (JS.seq (aC aA 8 [(18,.v (.bool (bif (decide (x1<0)) then true else (decide ((x0.length:Int)≤x1)))))] ⟨⟨E,V⟩,E⟩ E E ?_))
  refine aK E h (fun h=>?_) (fun h=>?_)
  ·
   refine aC aA 2 [(4,.v (I 0)),(5,.v (I 0))] ⟨(Es E),E⟩ E E ?_
   cases h
   exact JS.ret aA () V E E [] E
  refine JS.skip (JS.seq (JS.region (bJ 0 E fun hs59=>?_)))
  obtain ⟨g8,h⟩:=aH h
  refine aB aA 3 [] [] [(21,.ep ⟨a3,x0.length,c4⟩ (Int.toNat x1*1))] _ E ⟨hs59.ix g8,⟨E,V⟩,E⟩ (JO.load aA E E E E E E E 0 E E (Int.toNat x1) 0 (at' x0 x1) ⟨bD g8,E⟩ E E (aB aA 2 [((at' x0 x1).toNat:Int)] [] [(6,.v (I ((at' x0 x1).toNat:Int)))] _ E ⟨⟨V,aFx _⟩,⟨E,V⟩,E⟩ (aD E (aC aA 2 [] ⟨V,E⟩ E E (JS.seq ?_)))))
  obtain ⟨j21,hj72,h⟩:=aQ h
  refine bA (ι:=Int×Int) ⟨fun z=>j21 z=some r,fun z=>[(0,.v (.slice a3 x0.length c4)),(1,.v (I x1)),(7,.v (I z.1)),(8,.v (I z.2))],fun z=>.nil,fun z=>[⟨.byte,⟨a3,x0.length,c4⟩,x0⟩],fun z=>[],fun z=>0⟩ ?_ ?_
  ·
   refine aC aA 3 [(24,.v (.bool (decide (((at' x0 x1).toNat:Int)<128))))] ⟨⟨E,V⟩,E⟩ E E ?_
   refine aK E h (fun h=>?_) (fun h=>?_)
   ·
    refine aC aA 3 [(4,.v (I ((at' x0 x1).toNat:Int))),(5,.v (I 1))] ⟨(Es E),E⟩ E E ?_
    cases h
    exact JS.ret aA () V E E [] E
   refine JS.seq (JS.region (aB aA 1 [] [] [(29,.v (I ((at' x0 x1).toNat:Int)))] _ E ⟨⟨E,V⟩,E⟩ ?_))
   refine bnw h fun y9 hy10 h=>JO.call E E E E (dV ((at' x0 x1).toNat:Int) 192 223 _ hy10) E [] E E fun _ _=>aB aA 1 [] [] [(28,.v (.bool y9))] _ E ⟨⟨E,V⟩,E⟩ (aD E ?_)
   refine aK E h (fun h=>?_) (fun h=>?_)
   ·
    refine bZ aA 4 [(W (((at' x0 x1).toNat:Int) - 192))] [] [(7,.v (I 2)),(8,.v (I (W (((at' x0 x1).toNat:Int) - 192))))] _ ⟨⟨V,E⟩,(Es E),E⟩ E E (aZ (aT (2,(W (((at' x0 x1).toNat:Int) - 192))) h (Es E) V [0] E [] E))
   refine JS.seq (JS.region (aB aA 1 [] [] [(34,.v (I ((at' x0 x1).toNat:Int)))] _ E ⟨⟨E,V⟩,E⟩ ?_))
   refine bnw h fun y11 hy12 h=>JO.call E E E E (dV ((at' x0 x1).toNat:Int) 224 239 _ hy12) E [] E E fun _ _=>aB aA 1 [] [] [(33,.v (.bool y11))] _ E ⟨⟨E,V⟩,E⟩ (aD E ?_)
   refine aK E h (fun h=>?_) (fun h=>?_)
   ·
    refine bZ aA 4 [(W (((at' x0 x1).toNat:Int) - 224))] [] [(7,.v (I 3)),(8,.v (I (W (((at' x0 x1).toNat:Int) - 224))))] _ ⟨⟨V,E⟩,(Es E),E⟩ E E (aZ (aT (3,(W (((at' x0 x1).toNat:Int) - 224))) h (Es E) V [0] E [] E))
   refine JS.seq (JS.region (aB aA 1 [] [] [(39,.v (I ((at' x0 x1).toNat:Int)))] _ E ⟨⟨E,V⟩,E⟩ ?_))
   refine bnw h fun y13 hy14 h=>JO.call E E E E (dV ((at' x0 x1).toNat:Int) 240 247 _ hy14) E [] E E fun _ _=>aB aA 1 [] [] [(38,.v (.bool y13))] _ E ⟨⟨E,V⟩,E⟩ (aD E ?_)
   refine aK E h (fun h=>?_) (fun h=>?_)
   ·
    refine bZ aA 4 [(W (((at' x0 x1).toNat:Int) - 240))] [] [(7,.v (I 4)),(8,.v (I (W (((at' x0 x1).toNat:Int) - 240))))] _ ⟨⟨V,E⟩,(Es E),E⟩ E E (aZ (aT (4,(W (((at' x0 x1).toNat:Int) - 240))) h (Es E) V [0] E [] E))
   refine aC aA 2 [(4,.v (I 0)),(5,.v (I 0))] ⟨(Es E),E⟩ E E ?_
   cases h
   exact JS.ret aA () V E E [] E
  rintro ⟨x19,x20⟩ h
  subst hj72
  refine JS.seq (sD aA 6 [(W ((x0.length:Int) - x19))] [] [(48,.v (.bool (decide ((W ((x0.length:Int) - x19))<x1))))] _ ⟨⟨V,E⟩,⟨E,V⟩,E⟩ E E ?_)
  refine aK E h (fun h=>?_) (fun h=>?_)
  ·
   refine aC aA 2 [(4,.v (I 0)),(5,.v (I 0))] ⟨(Es E),E⟩ E E ?_
   cases h
   exact JS.ret aA () V E E [] E
  refine JS.skip (JS.seq (JS.seq (JS.region (aB aA 6 [(W (x1+1)),(W (x1+x19))] [] [(49,.v (.slice a3 x0.length c4)),(51,.v (I (W (x1+1)))),(54,.v (I (W (x1+x19))))] _ E ⟨⟨V,E⟩,⟨V,E⟩,(Es E),E⟩ ?_))))
  obtain ⟨g26,h⟩:=aH h
  refine aFz aA E E E E E E E E 0 E (W (x1+1)) (W (x1+x19)) E E g26 E fun a27 c28=>aB aA 2 [] [] [(56,.v (I ((bN x0 (W (x1+1)) (W (x1+x19))).length:Int))),(57,.v (I 0))] _ E ⟨(Es E),E⟩ (aD E ?_)
  obtain ⟨j39,hj70,h⟩:=aQ h
  refine bA (ι:=Int) ⟨fun z=>j39 z=some r,fun z=>[(0,.v (.slice a3 x0.length c4)),(1,.v (I x1)),(7,.v (I x19)),(8,.v (I z))],fun z=>.nil,fun z=>[⟨.byte,⟨a3,x0.length,c4⟩,x0⟩],fun z=>[],fun z=>0⟩ ?_ ?_
  ·
   refine JS.loop (ι:=Nat×Int×Int) ⟨fun z=>bC (eB x0 x1 x19 j39) z.1 z.2=some r,fun z=>[(0,.v (.slice a3 x0.length c4)),(1,.v (I x1)),(7,.v (I x19)),(8,.v (I z.2.1)),(55,.v (.slice a27 (bN x0 (W (x1+1)) (W (x1+x19))).length c28)),(56,.v (I ((bN x0 (W (x1+1)) (W (x1+x19))).length:Int))),(57,.v (I z.2.2))],fun z=>.nil,fun z=>[⟨.byte,⟨a3,x0.length,c4⟩,x0⟩,⟨.byte,⟨a27,(bN x0 (W (x1+1)) (W (x1+x19))).length,c28⟩,(bN x0 (W (x1+1)) (W (x1+x19)))⟩],fun z=>[],fun z=>z.1⟩ (bM,x20,0) h (Es E) V [1,0] E [] E ?_
   rintro ⟨n35,x29,x30⟩ h
   obtain ⟨n35,rfl,h⟩:=bH h
   rw [eB] at h
   refine aC aA 1 [(58,.v (.bool (decide (x30<((bN x0 (W (x1+1)) (W (x1+x19))).length:Int)))))] ⟨⟨E,V⟩,E⟩ E E (JS.seq ?_)
   refine aK E h (fun h=>?_) (fun h=>?_)
   ·
    refine JS.skip (JS.seq (JS.block (JS.seq (JS.region (bJ 1 E fun hs64=>?_)))))
    obtain ⟨g32,h⟩:=aH h
    refine aB aA 1 [] [] [(59,.ep ⟨a27,(bN x0 (W (x1+1)) (W (x1+x19))).length,c28⟩ (Int.toNat x30*1))] _ E ⟨hs64.ix g32,⟨E,V⟩,E⟩ (JO.load aA E E E E E E E 1 E E (Int.toNat x30) 0 (at' (bN x0 (W (x1+1)) (W (x1+x19))) x30) ⟨bD g32,E⟩ E E (aB aA 1 [] [] [(10,.v (.int .u8 ((at' (bN x0 (W (x1+1)) (W (x1+x19))) x30).toNat:Int)))] _ E ⟨⟨E,V⟩,E⟩ (aD E (bZ aA 7 [(W (x29*64)),((at' (bN x0 (W (x1+1)) (W (x1+x19))) x30).toNat:Int),(W ((W (x29*64))+((at' (bN x0 (W (x1+1)) (W (x1+x19))) x30).toNat:Int))),(W ((W ((W (x29*64))+((at' (bN x0 (W (x1+1)) (W (x1+x19))) x30).toNat:Int))) - 128))] [] [(8,.v (I (W ((W ((W (x29*64))+((at' (bN x0 (W (x1+1)) (W (x1+x19))) x30).toNat:Int))) - 128))))] _ ⟨⟨V,E⟩,⟨V,aFx _⟩,⟨V,E⟩,⟨V,E⟩,⟨E,V⟩,E⟩ E E (aZ (bZ aA 2 [(W (x30+1))] [] [(57,.v (I (W (x30+1))))] _ ⟨⟨V,E⟩,⟨E,V⟩,E⟩ E E (bQ (n35,(W ((W ((W (x29*64))+((at' (bN x0 (W (x1+1)) (W (x1+x19))) x30).toNat:Int))) - 128)),(W (x30+1))) h (Nat.lt_succ_self _) (Es E) V [0,1] E [] E)))))))
   refine JS.exit E (aT x29 h (Es E) V [0] E [] E)
  rintro x38 h
  subst hj70
  refine JS.seq (JS.seq ?_)
  obtain ⟨y42,hy43,h⟩:=aE h
  obtain ⟨g46,h⟩:=aH h
  refine iC 0 E x1 (W (x1+x19)) fun a47 c48 hu49=>cD 1 E fun hs68=>?_
  refine bB E .nil [0] [10] V E (fun be53=>?_)
  refine bR aA aF true 5 [0,3,4,5,6,7] E (by kernel_rfl) [(W (x1+x19))] [(68,.v (I x38)),(71,.v (.slice a3 x0.length c4)),(72,.v (I x1)),(75,.v (I (W (x1+x19))))] V [0] E E ⟨⟨V,E⟩,(Es E)⟩ (dB aA aF 8 E (by kernel_rfl) E E E E E E x1 (W (x1+x19)) E E ⟨g46.1,g46.2.1,g46.2.2,hs68.cap,hu49 g46⟩ E (aF3 aA aF 9 E (by kernel_rfl) E E E E E E E 0 E E V [0] E (JA.one 1 (by kernel_rfl) (JK.call E E E E (aE6 x38 _ hy43) E [] E E ?_))))
  rintro ⟨a44,c45⟩ -
  refine aR V [0] E (JA.one 2 (by kernel_rfl) (aR3 aA E E E E E E E E 2 E E (aR V [0] E (aS aA aF 0 [10] E (by kernel_rfl) [] [(78,.v (.bool (!(decide (y42=(bN x0 x1 (W (x1+x19))))))))] E ⟨E,V⟩ (bE (by kernel_rfl) (aW (B':=.nil) V ?_))))))
  refine aK E h (fun h=>?_) (fun h=>?_)
  ·
   refine aC aA 2 [(4,.v (I 0)),(5,.v (I 0))] ⟨(Es E),E⟩ E E ?_
   cases h
   exact JS.ret aA () V E E [] E
  refine JS.skip (aC aA 4 [(4,.v (I x38)),(5,.v (I x19))] ⟨(Es E),E⟩ E E ?_)
  cases h
  exact JS.ret aA () V E E [] E

def iP (x0:List UInt8) (j29:(List Int)→Option (List Int×Bool)) (k22:(List Int×Int)→Option (List Int×Bool)):(List Int×Int)→Option (List Int×Bool):=fun (x4,x10)=>
  (bif (decide (x10<(x0.length:Int))) then
  (aG (qB x0 x10) fun (y11,y12)=>
  (bif (decide (y12=0)) then
  some ([],false)
  else
  (aN (x4.length+([y11]:List Int).length≤536870912) <|
  k22 ((x4 ++ ([y11]:List Int)),(W (x10+y12))))))
  else
  j29 x4)

def rW (x0:List UInt8):Option (List Int×Bool):=
  (bif (decide (65536<(x0.length:Int))) then
  some ([],false)
  else
  (aU (fun (x26:List Int)=>
  some (x26,true)) fun j29=>
  (bC (iP x0 j29) bM (([]:List Int),0))))

theorem aIv (x0:List UInt8) (r:List Int×Bool) (h:rW x0=some r) :
  FC Tryz.prog 62 [.string (bs x0)] [] (fun _:Option Addr×Nat=>True) (fun q=>.tuple #[.slice q.1 r.1.length q.2,.bool r.2]) (fun q=>[⟨(.int .i64),⟨q.1,r.1.length,q.2⟩,r.1⟩]):=
 by
  refine FC.of (T:=TTx) Tryz.call62 Tryz.func62 E E fun w0=>?_
  unfold rW at h
  refine aC aA 2 [] ⟨V,E⟩ E E (JS.seq (aC aA 3 [(11,.v (.bool (decide (65536<(x0.length:Int)))))] ⟨⟨E,V⟩,E⟩ E E ?_))
  refine aK E h (fun h=>?_) (fun h=>?_)
  ·
   refine aC aA 2 [(2,.v (.slice none 0 0)),(3,.v (.bool false))] ⟨(Es E),E⟩ E E ?_
   cases h
   refine aX (.int .i64) Sl.nil E E (JS.ret aA (none,0) V E E [0] E)
  refine JS.skip (aC aA 1 [(4,.v (.slice none 0 0))] ⟨⟨E,V⟩,E⟩ E E (JS.seq (JS.region (aB aA 1 [] [] [(12,.v (.string (bs x0)))] _ E ⟨⟨E,V⟩,E⟩ (aF0 aA E E E E E E E E E fun a2 c3=>aB aA 1 [] [] [(5,.v (.slice a2 x0.length c3))] _ E ⟨⟨E,V⟩,E⟩ (aD E (JS.seq (aC aA 1 [(6,.v (I 0))] ⟨⟨E,V⟩,E⟩ E E ?_))))))))
  obtain ⟨j29,hj36,h⟩:=aQ h
  refine bA (ι:=List Int×Option Addr×Nat) ⟨fun z=>j29 z.1=some r,fun z=>[(4,.v (.slice z.2.1 z.1.length z.2.2))],fun z=>.nil,fun z=>[],fun z=>[⟨(.int .i64),⟨z.2.1,z.1.length,z.2.2⟩,z.1⟩],fun z=>0⟩ ?_ ?_
  ·
   refine aX (.int .i64) Sl.nil E E (JS.loop (ι:=Nat×List Int×Int×Option Addr×Nat) ⟨fun z=>bC (iP x0 j29) z.1 (z.2.1,z.2.2.1)=some r,fun z=>[(4,.v (.slice z.2.2.2.1 z.2.1.length (Q4 z))),(5,.v (.slice a2 x0.length c3)),(6,.v (I z.2.2.1))],fun z=>.nil,fun z=>[],fun z=>[⟨(.int .i64),⟨z.2.2.2.1,z.2.1.length,(Q4 z)⟩,z.2.1⟩,⟨.byte,⟨a2,x0.length,c3⟩,x0⟩],fun z=>z.1⟩ (bM,([]:List Int),0,none,0) h (Es E) V [] E [0,0] E ?_)
   rintro ⟨n23,x4,x10,a5,c6⟩ h
   obtain ⟨n23,rfl,h⟩:=bH h
   rw [iP] at h
   refine JS.seq (aC aA 4 [(17,.v (.bool (decide (x10<(x0.length:Int)))))] ⟨⟨E,V⟩,E⟩ E E ?_)
   refine aK E h (fun h=>?_) (fun h=>?_)
   ·
    refine JS.skip (JS.block (JS.seq (JS.region (aB aA 2 [] [] [(19,.v (.slice a2 x0.length c3)),(20,.v (I x10))] _ E ⟨(Es E),E⟩ ?_))))
    obtain ⟨⟨y11,y12⟩,hy13,h⟩:=aE h
    refine JO.call E E E E (aGw x0 x10 a2 c3 _ hy13) E [1] E E fun _ _=>aB aA 5 [] [] [(7,.v (I y11)),(8,.v (I y12))] _ E ⟨(Es E),E⟩ (aD E (JS.seq (aC aA 2 [(25,.v (.bool (decide (y12=0))))] ⟨⟨E,V⟩,E⟩ E E ?_)))
    refine aK E h (fun h=>?_) (fun h=>?_)
    ·
     refine aC aA 2 [(2,.v (.slice none 0 0)),(3,.v (.bool false))] ⟨(Es E),E⟩ E E ?_
     cases h
     refine aX (.int .i64) Sl.nil E E (JS.ret aA (none,0) V E E [0] E)
    refine JS.skip (JS.seq (JS.region (aB aA 2 [] [] [(26,.v (.slice a5 x4.length c6)),(27,.v (I y11))] _ E ⟨(Es E),E⟩ ?_)))
    refine jH E (JK.buildSlice aA E E E E E E E E E E E [] E (.int .i64) [y11] ⟨E,E⟩ E E fun a14=>jG ?_)
    obtain ⟨g15,h⟩:=aH h
    refine fP aA E E E E ⟨E,E,E,E,V,E,E,E,E⟩ E E E [1] E 0 E g15 E fun a16 c17=>aB aA 1 [] [] [(4,.v (.slice a16 (x4 ++ ([y11]:List Int)).length c17))] _ E ⟨⟨E,V⟩,E⟩ (aD E (bZ aA 4 [(W (x10+y12))] [] [(6,.v (I (W (x10+y12))))] _ ⟨⟨V,E⟩,⟨E,V⟩,E⟩ E E (aZ (bQ (n23,(x4 ++ ([y11]:List Int)),(W (x10+y12)),a16,c17) h (Nat.lt_succ_self _) (Es E) V [] E [0,1] E))))
   refine JS.exit E (aT (x4,a5,c6) h ⟨E,V⟩ V [] E [0] E)
  rintro ⟨x26,a27,c28⟩ h
  subst hj36
  refine aC aA 3 [(2,.v (.slice a27 x26.length c28)),(3,.v (.bool true))] ⟨(Es E),E⟩ E E ?_
  cases h
  exact JS.ret aA (a27,c28) V E E [0] E

def uC (x0:List UInt8):Option ((List Int×Int)×Bool):=
  (aG (rW x0) fun (y2,y3)=>
  (bU ((!y3)=false) (dJ (y2,(y2.length:Int))) false fun (y7:Bool)=>
  (bif (bif (!y3) then true else (!y7)) then
  some (([],0),false)
  else
  some ((y2,(y2.length:Int)),true))))

theorem aKt (x0:List UInt8) (r:(List Int×Int)×Bool) (h:uC x0=some r) :
  FC Tryz.prog 59 [.string (bs x0)] [] (fun _:Option Addr×Nat=>True) (fun q=>.tuple #[.agg #[.slice q.1 r.1.1.length q.2,.int .i64 r.1.2],.bool r.2]) (fun q=>[⟨(.int .i64),⟨q.1,r.1.1.length,q.2⟩,r.1.1⟩]):=
 by
  refine FC.of (T:=TTx) Tryz.call59 Tryz.func59 E E fun w0=>?_
  unfold uC at h
  refine aL aA 2 [] [1] [(2,.bp 1 0)] (.new 1 38 [.slice none 0 0,.int .i64 0] .nil) ⟨⟨E,V⟩,(Bs E E)⟩ E E (JS.seq (JS.region (aB aA 1 [] [] [(8,.v (.string (bs x0)))] _ E ⟨⟨E,V⟩,E⟩ ?_)))
  obtain ⟨⟨y2,y3⟩,hy4,h⟩:=aE h
  refine JO.call E E E E (aIv x0 _ hy4) E [] E E ?_
  rintro ⟨a5,c6⟩ -
  refine aB aA 5 [] [] [(4,.v (.slice a5 y2.length c6)),(5,.v (.bool y3))] _ E ⟨(Es E),E⟩ (aD E (aL aA 6 [] [8] [(6,.bp 8 0)] (.new 1 38 [.slice none 0 0,.int .i64 0] (.new 8 38 [.slice a5 y2.length c6,.int .i64 (y2.length:Int)] .nil)) ⟨⟨E,V⟩,(Bs E E)⟩ E E (JS.seq (JS.seq (JS.region (aB aA 4 [] [] [(18,.v (.bool (!y3))),(19,.cd [(18,false)] (.v (.agg #[.slice a5 y2.length c6,.int .i64 (y2.length:Int)])))] _ E ⟨(Es E),E⟩ ?_))))))
  obtain ⟨y7,hy8,-,h⟩:=aV h
  refine bI E E E E (fun q11=>fK (y2,(y2.length:Int)) a5 c6 _ (hy8 q11)) E [0] E E (aB aA 2 [] [] [(22,.v (.bool (bif (!y3) then true else (!y7))))] _ E ⟨⟨E,V⟩,E⟩ (aD E ?_))
  refine aK E h (fun h=>?_) (fun h=>?_)
  ·
   refine aL aA 3 [] [] [(3,.v (.bool false))] (.new 1 38 [.slice none 0 0,.int .i64 0] .nil) ⟨⟨E,V⟩,(Bs E E)⟩ E E ?_
   cases h
   refine aX (.int .i64) Sl.nil E E (JS.ret aA (none,0) V E E [0] E)
  refine JS.skip (aL aA 3 [] [] [(3,.v (.bool true))] (.new 1 38 [.slice a5 y2.length c6,.int .i64 (y2.length:Int)] .nil) ⟨⟨E,V⟩,(Bs E E)⟩ E E ?_)
  cases h
  exact JS.ret aA (a5,c6) V E E [0] E

end
end Go.Eng
