/- The walks of the functions that FnExactEmacsKey reaches: what each computes, as a plain function (M_..), and that the model computes it (ok_..). Condition of each: that the plain function answers. -/
import Derived.Test.YtlpgcohnjhomgaaGreatFnExactEmacsKeyWalkB
set_option linter.unusedVariables false
set_option linter.unusedSimpArgs false
namespace Go.Eng
open Go Go.Proofs
noncomputable section

def qP (x0:EdQ) (x1:Int×List (List UInt8)) (x2:Int):Option (EdQ×Bool):=
  (aG (uD x0) fun (y32:Bool)=>
  (bif (bif (!y32) then true else (bif (!(decide (x2=1))) then (!(decide (x2=(-1)))) else false)) then
  some ((false,0,([],0),0,0,0,0,0,0,0,[],[],0,([],0),[],0,([],0)),false)
  else
  (aG (eA x0 0) fun (y34:EdQ)=>
  (aG (qD x1) fun (y48:Int)=>
  (aU (fun (x51:Int)=>
  (bif (bif (bif (decide (x2=1)) then (!(decide (x0.2.2.2.2.2.2.2.2.2.2.2.2.1=0))) else false) then (decide ((W (x51+1))=(W (y48+1)))) else false) then
  (aG (cS x0.2.2.2.2.2.2.2.2.2.2.2.2.2.1) fun (y56:List Int×Int)=>
  (aG (hJ y56 x0.2.1) fun (y60:List Int×Int)=>
  some ((y34.1,y34.2.1,(y56.1,y60.2),y34.2.2.2.1,y34.2.2.2.2.1,y34.2.2.2.2.2.1,y34.2.2.2.2.2.2.1,y34.2.2.2.2.2.2.2.1,y34.2.2.2.2.2.2.2.2.1,y34.2.2.2.2.2.2.2.2.2.1,y34.2.2.2.2.2.2.2.2.2.2.1,[],0,([],0),y34.2.2.2.2.2.2.2.2.2.2.2.2.2.2.1,y34.2.2.2.2.2.2.2.2.2.2.2.2.2.2.2.1,y34.2.2.2.2.2.2.2.2.2.2.2.2.2.2.2.2),true)))
  else
  (aG (lV x1 (W (x51+x2))) fun (y63,y64)=>
  (aG (uC y63) fun (y66,y67)=>
  (bif (bif (!y64) then true else (!y67)) then
  some ((false,0,([],0),0,0,0,0,0,0,0,[],[],0,([],0),[],0,([],0)),false)
  else
  (aU (fun (x72:Int)=>
  (aU (fun ((x80,x83):List Int×Int)=>
  some ((y34.1,y34.2.1,(y66.1,x72),y34.2.2.2.1,y34.2.2.2.2.1,y34.2.2.2.2.2.1,y34.2.2.2.2.2.2.1,y34.2.2.2.2.2.2.2.1,y34.2.2.2.2.2.2.2.2.1,y34.2.2.2.2.2.2.2.2.2.1,y34.2.2.2.2.2.2.2.2.2.2.1,[],(W (x51+x2)),(x80,x83),y34.2.2.2.2.2.2.2.2.2.2.2.2.2.2.1,y34.2.2.2.2.2.2.2.2.2.2.2.2.2.2.2.1,y34.2.2.2.2.2.2.2.2.2.2.2.2.2.2.2.2),true)) fun j84=>
  (bif (decide (x0.2.2.2.2.2.2.2.2.2.2.2.2.1=0)) then
  (aG (cS x0.2.2.1) fun (y75:List Int×Int)=>
  j84 (y75.1,y75.2))
  else
  j84 (y34.2.2.2.2.2.2.2.2.2.2.2.2.2.1.1,y34.2.2.2.2.2.2.2.2.2.2.2.2.2.1.2)))) fun j73=>
  (bif (decide (x0.2.1=2)) then
  j73 0
  else
  j73 y66.2))))))) fun j52=>
  (bif (decide (x0.2.2.2.2.2.2.2.2.2.2.2.2.1=0)) then
  j52 (W (y48+1))
  else
  j52 x0.2.2.2.2.2.2.2.2.2.2.2.2.1))))))

theorem aKu (x0:EdQ) (x1:Int×List (List UInt8)) (x2:Int) (q4:P6) (a28:Option Addr) (c29:Nat) (r:EdQ×Bool) (h:qP x0 x1 x2=some r):
  FC Tryz.prog 247 [.agg (cC x0 q4).toArray,.agg #[.int .i64 x1.1,.slice a28 x1.2.length c29],.int .i64 x2] (bW x0 q4 [⟨.str,⟨a28,x1.2.length,c29⟩,x1.2⟩]) (fun _:Option Addr×Nat×Option Addr×Nat×Option Addr×Nat×Option Addr×Nat×Option Addr×Nat=>True) (fun q=>.tuple #[.agg (aI (U11 r.1 []) (q.1,q.2.1,q.2.2.1,q.2.2.2.1,none,0,(Q4 q))).toArray,.bool r.2]) (fun q=>[⟨(.int .i64),⟨q.1,r.1.2.2.1.1.length,q.2.1⟩,r.1.2.2.1.1⟩,⟨(.sl (.int .i64)),⟨q.2.2.1,r.1.2.2.2.2.2.2.2.2.2.2.1.length,q.2.2.2.1⟩,r.1.2.2.2.2.2.2.2.2.2.2.1⟩,⟨(.int .i64),⟨(Q4 q).1,r.1.2.2.2.2.2.2.2.2.2.2.2.2.2.1.1.length,(Q4 q).2.1⟩,r.1.2.2.2.2.2.2.2.2.2.2.2.2.2.1.1⟩,⟨(.int .i64),⟨(Q4 q).2.2.1,r.1.2.2.2.2.2.2.2.2.2.2.2.2.2.2.1.length,(Q4 q).2.2.2.1⟩,r.1.2.2.2.2.2.2.2.2.2.2.2.2.2.2.1⟩,⟨(.int .i64),⟨(Q8 q).1,r.1.2.2.2.2.2.2.2.2.2.2.2.2.2.2.2.2.1.length,(Q8 q).2⟩,r.1.2.2.2.2.2.2.2.2.2.2.2.2.2.2.2.2.1⟩]):=
 by
  refine FC.of (T:=TTx) Tryz.call247 Tryz.func247 E E fun w0=>?_
  unfold qP at h
  refine aL aA 4 [] [8,9,10] [(3,.bp 8 0),(4,.bp 9 0),(6,.bp 10 0)] (.new 8 46 (aI x0 q4) (.new 9 50 [.int .i64 x1.1,.slice a28 x1.2.length c29] (.new 10 46 bF .nil))) ⟨(Es E),(Bs E E)⟩ E E (JS.seq (JS.seq (JS.region (aB aA 1 [] [] [(15,.v (.agg (aI x0 q4).toArray))] _ E ⟨⟨E,V⟩,E⟩ ?_))))
  refine bnw h fun y32 hy33 h=>JO.call E E E E (aHg x0 q4 _ hy33) E [0,1,2,3,4,5] E E fun _ _=>aB aA 9 [] [] [(25,.v (.bool (bif (!y32) then true else (bif (!(decide (x2=1))) then (!(decide (x2=(-1)))) else false))))] _ E ⟨⟨E,V⟩,E⟩ (aD E ?_)
  refine aK E h (fun h=>?_) (fun h=>?_)
  ·
   refine aL aA 3 [] [] [(7,.v (.bool false))] (.new 10 46 bF .nil) ⟨⟨E,V⟩,(Bs E E)⟩ E E ?_
   cases h
   refine aX (.int .i64) Sl.nil E E (aX (.sl (.int .i64)) Sl.nil E E (aX (.int .i64) Sl.nil E E (aX (.int .i64) Sl.nil E E (aX (.int .i64) Sl.nil E E (JS.ret aA (none,0,none,0,none,0,none,0,none,0) V E E [4,3,2,1,0] E)))))
  refine JS.skip (JS.seq (JS.region (aB aA 1 [] [] [(27,.v (.agg (aI x0 q4).toArray))] _ E ⟨⟨E,V⟩,E⟩ ?_)))
  refine bnw h fun y34 hy35 h=>JO.call E E E E (oU x0 0 q4 _ hy35) E [0,1,2,3,4,5] E E fun q36 _=>aP aA 2 [] [33] [(8,.bp 33 0)] (.new 8 46 (aI x0 q4) (.new 9 50 [.int .i64 x1.1,.slice a28 x1.2.length c29] (.new 10 46 bF (.new 33 46 (aI y34 q36) .nil)))) E ⟨⟨E,V⟩,(Bs E E)⟩ (aD E (aL aA 3 [] [] [] (.new 8 46 (aI x0 q4) (.new 9 50 [.int .i64 x1.1,.slice a28 x1.2.length c29] (.new 10 46 bF (.new 33 46 (aI (U11 y34 []) (q36.1,q36.2.1,q36.2.2.1,q36.2.2.2.1,none,0,(Q4 q36).2.2)) .nil)))) ⟨V,(Bs E E)⟩ E E (JS.seq (JS.region (aB aA 1 [] [] [(31,.v (.agg #[.int .i64 x1.1,.slice a28 x1.2.length c29]))] _ E ⟨⟨E,V⟩,E⟩ ?_)))))
  refine bnw h fun y48 hy49 h=>JO.call E E E E (aGz x1 a28 c29 _ hy49) E [6] E E fun _ _=>aB aA 1 [] [] [(9,.v (I y48))] _ E ⟨⟨E,V⟩,E⟩ (aD E (aC aA 3 [(10,.v (I (Q12 x0).1))] ⟨⟨E,V⟩,E⟩ E E ?_))
  obtain ⟨j52,hj101,h⟩:=aQ h
  refine dM (ι:=Int) ⟨fun z=>j52 z=some r,fun z=>[(2,.v (I x2)),(3,.bp 8 0),(4,.bp 9 0),(6,.bp 10 0),(8,.bp 33 0),(9,.v (I y48)),(10,.v (I z))],fun z=>(.new 8 46 (aI x0 q4) (.new 9 50 [.int .i64 x1.1,.slice a28 x1.2.length c29] (.new 10 46 bF (.new 33 46 (aI (U11 y34 []) (q36.1,q36.2.1,q36.2.2.1,q36.2.2.2.1,none,0,(Q4 q36).2.2)) .nil)))),fun z=>(bW x0 q4 [⟨.str,⟨a28,x1.2.length,c29⟩,x1.2⟩]),fun z=>[⟨(.int .i64),⟨q36.1,y34.2.2.1.1.length,q36.2.1⟩,y34.2.2.1.1⟩,⟨(.sl (.int .i64)),⟨q36.2.2.1,(Q8 y34).2.2.1.length,q36.2.2.2.1⟩,(Q8 y34).2.2.1⟩,⟨(.int .i64),⟨(Q4 q36).2.2.1,(Q12 y34).2.1.1.length,(Q4 q36).2.2.2.1⟩,(Q12 y34).2.1.1⟩,⟨(.int .i64),⟨(Q8 q36).1,(Q12 y34).2.2.1.length,(Q8 q36).2.1⟩,(Q12 y34).2.2.1⟩,⟨(.int .i64),⟨(Q8 q36).2.2.1,(Q16 y34).1.length,(Q8 q36).2.2.2⟩,(Q16 y34).1⟩],fun z=>0⟩ ?_ ?_
  ·
   refine aC aA 2 [(36,.v (.bool (decide ((Q12 x0).1=0))))] ⟨⟨E,V⟩,E⟩ E E ?_
   refine aK E h (fun h=>?_) (fun h=>?_)
   ·
    refine bZ aA 3 [(W (y48+1))] [] [(10,.v (I (W (y48+1))))] _ ⟨⟨V,E⟩,⟨E,V⟩,E⟩ E E (bV (W (y48+1)) h (Es E) (Bs E E) [0,1,2,3,4,5,6] E [0,1,3,4,5] E E)
   refine JS.skip (bV (Q12 x0).1 h (Es E) (Bs E E) [0,1,2,3,4,5,6] E [0,1,3,4,5] E E)
  rintro x51 h
  subst hj101
  refine JS.seq (sD aA 14 [(W (x51+1)),(W (y48+1))] [] [(52,.v (.bool (bif (bif (decide (x2=1)) then (!(decide ((Q12 x0).1=0))) else false) then (decide ((W (x51+1))=(W (y48+1)))) else false)))] _ ⟨(fun q93=>⟨V,E⟩),(fun q94=>⟨V,E⟩),⟨E,V⟩,E⟩ E E ?_)
  refine aK E h (fun h=>?_) (fun h=>?_)
  ·
   refine JS.seq ?_
   obtain ⟨y56,hy57,h⟩:=aE h
   refine bnw h fun y60 hy61 h=>bB E (.new 8 46 (aI x0 q4) .nil) [] [5,6,7] ⟨E,E,E,E,V⟩ E (fun be62=>?_)
   refine bR aA aF true 4 [0,1,3,4] E (by kernel_rfl) [] [(54,.v (.agg #[.slice (Q4 q4).2.2.1 (Q12 x0).2.1.1.length (Q4 q4).2.2.2.1,.int .i64 (Q12 x0).2.1.2])),(57,.v (I x0.2.1))] ⟨E,E,E,E,V⟩ [] E E (Es E) (JA.one 2 (by kernel_rfl) (JK.call E E E E (dQ (Q12 x0).2.1 (Q4 q4).2.2.1 (Q4 q4).2.2.2.1 _ hy57) E [3] E E ?_))
   rintro ⟨a58,c59⟩ -
   refine aR ⟨E,E,E,E,V⟩ [] E (JA.one 5 (by kernel_rfl) (JK.call E E E E (tK y56 x0.2.1 a58 c59 _ hy61) E [7] E E fun _ _=>aM E (aS aA aF 1 [6] E (by kernel_rfl) [] [(59,.bp 33 2)] E ⟨E,V⟩ (JA.one 7 (by kernel_rfl) (aY aA E E E E E E E E (aM E (bE (by kernel_rfl) (aW (B':=(.new 10 46 bF (.new 33 46 (aI (U11 (U2 y34 (y56.1,y60.2)) []) (a58,c59,q36.2.2.1,q36.2.2.2.1,none,0,(Q4 q36).2.2)) .nil))) (Bs E E) (aL aA 5 [] [] [] (.new 10 46 bF (.new 33 46 (aI (U13 (U12 (U11 (U2 y34 (y56.1,y60.2)) []) 0) ([],0)) (a58,c59,q36.2.2.1,q36.2.2.2.1,none,0,none,0,(Q8 q36))) .nil)) ⟨V,(Bs E E)⟩ E E (aL aA 3 [] [] [(7,.v (.bool true))] (.new 10 46 (aI (U13 (U12 (U11 (U2 y34 (y56.1,y60.2)) []) 0) ([],0)) (a58,c59,q36.2.2.1,q36.2.2.2.1,none,0,none,0,(Q8 q36))) .nil) ⟨⟨E,V⟩,(Bs E E)⟩ E E ?_))))))))))
   cases h
   refine aX (.int .i64) Sl.nil E E (JS.ret aA (a58,c59,q36.2.2.1,q36.2.2.2.1,none,0,(Q8 q36)) V E E [1,2,0,2,2] E)
  refine JS.skip (JS.seq (JS.region (aB aA 4 [(W (x51+x2))] [] [(65,.v (.agg #[.int .i64 x1.1,.slice a28 x1.2.length c29])),(68,.v (I (W (x51+x2))))] _ E ⟨⟨V,E⟩,(Es E),E⟩ ?_)))
  obtain ⟨⟨y63,y64⟩,hy65,h⟩:=aE h
  refine JO.call E E E E (aIx x1 (W (x51+x2)) a28 c29 _ hy65) E [6] E E fun _ _=>aB aA 5 [] [] [(11,.v (.string (bs y63))),(12,.v (.bool y64))] _ E ⟨(Es E),E⟩ (aD E (JS.seq (JS.region (aB aA 1 [] [] [(73,.v (.string (bs y63)))] _ E ⟨⟨E,V⟩,E⟩ ?_))))
  obtain ⟨⟨y66,y67⟩,hy68,h⟩:=aE h
  refine JO.call E E E E (aKt y63 _ hy68) E [] E E ?_
  rintro ⟨a69,c70⟩ -
  refine aP aA 6 [] [55] [(13,.bp 55 0),(14,.v (.bool y67))] (.new 8 46 (aI x0 q4) (.new 10 46 bF (.new 33 46 (aI (U11 y34 []) (q36.1,q36.2.1,q36.2.2.1,q36.2.2.2.1,none,0,(Q4 q36).2.2)) (.new 55 38 [.slice a69 y66.1.length c70,.int .i64 y66.2] .nil)))) E ⟨(Es E),(Bs E E)⟩ (aD E (JS.seq (aC aA 6 [(82,.v (.bool (bif (!y64) then true else (!y67))))] ⟨⟨E,V⟩,E⟩ E E ?_)))
  refine aK E h (fun h=>?_) (fun h=>?_)
  ·
   refine aL aA 3 [] [] [(7,.v (.bool false))] (.new 10 46 bF .nil) ⟨⟨E,V⟩,(Bs E E)⟩ E E ?_
   cases h
   refine aX (.int .i64) Sl.nil E E (aX (.sl (.int .i64)) Sl.nil E E (aX (.int .i64) Sl.nil E E (aX (.int .i64) Sl.nil E E (aX (.int .i64) Sl.nil E E (JS.ret aA (none,0,none,0,none,0,none,0,none,0) V E E [4,3,2,1,0] E)))))
  refine JS.skip ?_
  obtain ⟨j73,hj98,h⟩:=aQ h
  refine dM (ι:=Int) ⟨fun z=>j73 z=some r,fun z=>[(2,.v (I x2)),(3,.bp 8 0),(6,.bp 10 0),(8,.bp 33 0),(10,.v (I x51)),(13,.bp 55 0)],fun z=>(.new 8 46 (aI x0 q4) (.new 10 46 bF (.new 33 46 (aI (U11 y34 []) (q36.1,q36.2.1,q36.2.2.1,q36.2.2.2.1,none,0,(Q4 q36).2.2)) (.new 55 38 [.slice a69 y66.1.length c70,.int .i64 z] .nil)))),fun z=>(bW x0 q4 []),fun z=>[⟨(.int .i64),⟨q36.1,y34.2.2.1.1.length,q36.2.1⟩,y34.2.2.1.1⟩,⟨(.sl (.int .i64)),⟨q36.2.2.1,(Q8 y34).2.2.1.length,q36.2.2.2.1⟩,(Q8 y34).2.2.1⟩,⟨(.int .i64),⟨(Q4 q36).2.2.1,(Q12 y34).2.1.1.length,(Q4 q36).2.2.2.1⟩,(Q12 y34).2.1.1⟩,⟨(.int .i64),⟨(Q8 q36).1,(Q12 y34).2.2.1.length,(Q8 q36).2.1⟩,(Q12 y34).2.2.1⟩,⟨(.int .i64),⟨(Q8 q36).2.2.1,(Q16 y34).1.length,(Q8 q36).2.2.2⟩,(Q16 y34).1⟩,⟨(.int .i64),⟨a69,y66.1.length,c70⟩,y66.1⟩],fun z=>0⟩ ?_ ?_
  ·
   refine aC aA 3 [(86,.v (.bool (decide (x0.2.1=2))))] ⟨⟨E,V⟩,E⟩ E E ?_
   refine aK E h (fun h=>?_) (fun h=>?_)
   ·
    refine aC0 aA 2 [] [] [] (.new 8 46 (aI x0 q4) (.new 10 46 bF (.new 33 46 (aI (U11 y34 []) (q36.1,q36.2.1,q36.2.2.1,q36.2.2.2.1,none,0,(Q4 q36).2.2)) (.new 55 38 [.slice a69 y66.1.length c70,.int .i64 0] .nil)))) ⟨V,(Bs E E)⟩ E E (bV 0 h (Es E) (Bs E E) [0,1,2,3,4,5] E [1,2,3,4,5,0] E E)
   refine JS.skip (bV y66.2 h (Es E) (Bs E E) [0,1,2,3,4,5] E [1,2,3,4,5,0] E E)
  rintro x72 h
  subst hj98
  obtain ⟨j84,hj97,h⟩:=aQ h
  refine dM (ι:=List Int×Int×Option Addr×Nat) ⟨fun z=>j84 (z.1,z.2.1)=some r,fun z=>[(2,.v (I x2)),(6,.bp 10 0),(8,.bp 33 0),(10,.v (I x51)),(13,.bp 55 0)],fun z=>(.new 10 46 bF (.new 33 46 (aI (U13 (U11 y34 []) (z.1,z.2.1)) (q36.1,q36.2.1,q36.2.2.1,q36.2.2.2.1,none,0,z.2.2.1,z.2.2.2,(Q8 q36))) (.new 55 38 [.slice a69 y66.1.length c70,.int .i64 x72] .nil))),fun z=>[],fun z=>[⟨(.int .i64),⟨z.2.2.1,z.1.length,z.2.2.2⟩,z.1⟩,⟨(.int .i64),⟨q36.1,y34.2.2.1.1.length,q36.2.1⟩,y34.2.2.1.1⟩,⟨(.sl (.int .i64)),⟨q36.2.2.1,(Q8 y34).2.2.1.length,q36.2.2.2.1⟩,(Q8 y34).2.2.1⟩,⟨(.int .i64),⟨(Q8 q36).1,(Q12 y34).2.2.1.length,(Q8 q36).2.1⟩,(Q12 y34).2.2.1⟩,⟨(.int .i64),⟨(Q8 q36).2.2.1,(Q16 y34).1.length,(Q8 q36).2.2.2⟩,(Q16 y34).1⟩,⟨(.int .i64),⟨a69,y66.1.length,c70⟩,y66.1⟩],fun z=>0⟩ ?_ ?_
  ·
   refine aC aA 3 [(90,.v (.bool (decide ((Q12 x0).1=0))))] ⟨⟨E,V⟩,E⟩ E E ?_
   refine aK E h (fun h=>?_) (fun h=>?_)
   ·
    refine JS.region (aB aA 2 [] [] [(92,.v (.agg #[.slice q4.1 x0.2.2.1.1.length q4.2.1,.int .i64 x0.2.2.1.2]))] _ E ⟨⟨E,V⟩,E⟩ ?_)
    refine bnw h fun y75 hy76 h=>JO.call E E E E (dQ x0.2.2.1 q4.1 q4.2.1 _ hy76) E [0] E E ?_
    rintro ⟨a77,c78⟩ -
    refine aP aA 2 [] [] [] (.new 10 46 bF (.new 33 46 (aI (U13 (U11 y34 []) y75) (q36.1,q36.2.1,q36.2.2.1,q36.2.2.2.1,none,0,a77,c78,(Q8 q36))) (.new 55 38 [.slice a69 y66.1.length c70,.int .i64 x72] .nil))) E ⟨V,(Bs E E)⟩ (aD E (bV (y75.1,y75.2,a77,c78) h (Es E) (Bs E E) [] E [0,1,2,4,5,6] E E))
   refine JS.skip (bV ((Q12 y34).2.1.1,(Q12 y34).2.1.2,(Q4 q36).2.2.1,(Q4 q36).2.2.2.1) h (Es E) (Bs E E) [] E [2,0,1,3,4,5] E E)
  rintro ⟨x80,x83,a81,c82⟩ h
  subst hj97
  refine aL aA 8 [(W (x51+x2))] [] [] (.new 10 46 bF (.new 33 46 (aI (U13 (U12 (U11 (U2 y34 (y66.1,x72)) []) (W (x51+x2))) (x80,x83)) (a69,c70,q36.2.2.1,q36.2.2.2.1,none,0,a81,c82,(Q8 q36))) .nil)) ⟨⟨V,E⟩,V,(Bs E E)⟩ E E (aL aA 3 [] [] [(7,.v (.bool true))] (.new 10 46 (aI (U13 (U12 (U11 (U2 y34 (y66.1,x72)) []) (W (x51+x2))) (x80,x83)) (a69,c70,q36.2.2.1,q36.2.2.2.1,none,0,a81,c82,(Q8 q36))) .nil) ⟨⟨E,V⟩,(Bs E E)⟩ E E ?_)
  cases h
  exact JS.ret aA (a69,c70,q36.2.2.1,q36.2.2.2.1,a81,c82,(Q8 q36)) V E E [5,2,0,1,1] E

def eC (x0:EdQ):Option (EdQ×Int):=
  (aG (eA x0 0) fun (y26:EdQ)=>
  some (y26,1))

theorem gB (x0:EdQ) (q2:P6) (r:EdQ×Int) (h:eC x0=some r):
  FC Tryz.prog 119 [.agg (cC x0 q2).toArray] (bW x0 q2 []) (fun _:P6=>True) (fun q=>.tuple #[.agg (aI r.1 q).toArray,.int .i64 r.2]) (fun q=>(bW r.1 q [])):=
 by
  refine FC.of (T:=TTx) Tryz.call119 Tryz.func119 E E fun w0=>?_
  unfold eC at h
  refine aL aA 3 [] [7,8] [(1,.bp 7 0),(2,.bp 8 0)] (.new 7 46 (aI x0 q2) (.new 8 46 bF .nil)) ⟨(Es E),(Bs E E)⟩ E E (JS.seq (JS.region (aB aA 1 [] [] [(4,.v (.agg (aI x0 q2).toArray))] _ E ⟨⟨E,V⟩,E⟩ ?_)))
  refine bnw h fun y26 hy27 h=>JO.call E E E E (oU x0 0 q2 _ hy27) E [0,1,2,3,4,5] E E fun q28 _=>aP aA 2 [] [] [(3,.v (I 1))] (.new 8 46 (aI y26 q28) .nil) E ⟨⟨E,V⟩,(Bs E E)⟩ (aD E ?_)
  cases h
  exact JS.ret aA q28 V E E [0,0,0,0,0,0] E

def wE (x0:EdQ) (x1:Int×List (List UInt8)) (x2:Int):Option (EdQ×Int):=
  (aG (qP x0 x1 x2) fun (y32,y33)=>
  (bif (!y33) then
  (aG (eC x0) fun (y45,y46)=>
  some (y45,y46))
  else
  some ((y32.1,y32.2.1,y32.2.2.1,y32.2.2.2.1,y32.2.2.2.2.1,y32.2.2.2.2.2.1,y32.2.2.2.2.2.2.1,y32.2.2.2.2.2.2.2.1,y32.2.2.2.2.2.2.2.2.1,y32.2.2.2.2.2.2.2.2.2.1,y32.2.2.2.2.2.2.2.2.2.2.1,[],y32.2.2.2.2.2.2.2.2.2.2.2.2.1,y32.2.2.2.2.2.2.2.2.2.2.2.2.2.1,y32.2.2.2.2.2.2.2.2.2.2.2.2.2.2.1,y32.2.2.2.2.2.2.2.2.2.2.2.2.2.2.2.1,y32.2.2.2.2.2.2.2.2.2.2.2.2.2.2.2.2),0)))

theorem aHf (x0:EdQ) (x1:Int×List (List UInt8)) (x2:Int) (q4:P6) (a28:Option Addr) (c29:Nat) (r:EdQ×Int) (h:wE x0 x1 x2=some r):
  FC Tryz.prog 171 [.agg (cC x0 q4).toArray,.agg #[.int .i64 x1.1,.slice a28 x1.2.length c29],.int .i64 x2] (bW x0 q4 [⟨.str,⟨a28,x1.2.length,c29⟩,x1.2⟩]) (fun _:P6=>True) (fun q=>.tuple #[.agg (aI r.1 q).toArray,.int .i64 r.2]) (fun q=>(bW r.1 q [])):=
 by
  refine FC.of (T:=TTx) Tryz.call171 Tryz.func171 E E fun w0=>?_
  unfold wE at h
  refine aL aA 4 [] [8,9,10] [(3,.bp 8 0),(4,.bp 9 0),(6,.bp 10 0)] (.new 8 46 (aI x0 q4) (.new 9 50 [.int .i64 x1.1,.slice a28 x1.2.length c29] (.new 10 46 bF .nil))) ⟨(Es E),(Bs E E)⟩ E E (JS.seq (JS.region (aB aA 3 [] [] [(11,.v (.agg (aI x0 q4).toArray)),(12,.v (.agg #[.int .i64 x1.1,.slice a28 x1.2.length c29])),(13,.v (I x2))] _ E ⟨(Es E),E⟩ ?_)))
  obtain ⟨⟨y32,y33⟩,hy34,h⟩:=aE h
  refine JO.call E E E E (aKu x0 x1 x2 q4 a28 c29 _ hy34) E [0,1,2,3,4,5,6] E E ?_
  rintro ⟨a35,c36,a37,c38,a39,c40,a41,c42,a43,c44⟩ -
  refine aP aA 6 [] [29] [(8,.bp 29 0),(9,.v (.bool y33))] (.new 8 46 (aI x0 q4) (.new 10 46 bF (.new 29 46 (aI (U11 y32 []) (a35,c36,a37,c38,none,0,a39,c40,a41,c42,a43,c44)) .nil))) E ⟨(Es E),(Bs E E)⟩ (aD E (JS.seq (aC aA 2 [(18,.v (.bool (!y33)))] ⟨⟨E,V⟩,E⟩ E E ?_)))
  refine aK E h (fun h=>?_) (fun h=>?_)
  ·
   refine JS.seq (JS.region (aB aA 1 [] [] [(19,.v (.agg (aI x0 q4).toArray))] _ E ⟨⟨E,V⟩,E⟩ ?_))
   obtain ⟨⟨y45,y46⟩,hy47,h⟩:=aE h
   refine JO.call E E E E (gB x0 q4 _ hy47) E [0,1,2,3,4,5] E E fun q48 _=>aP aA 4 [] [] [(7,.v (I y46))] (.new 10 46 (aI y45 q48) .nil) E ⟨⟨E,V⟩,(Bs E E)⟩ (aD E ?_)
   cases h
   exact JS.ret aA q48 V E E [0,0,0,0,0,0] E
  refine JS.skip (aL aA 3 [] [] [(7,.v (I 0))] (.new 10 46 (aI (U11 y32 []) (a35,c36,a37,c38,none,0,a39,c40,a41,c42,a43,c44)) .nil) ⟨⟨E,V⟩,(Bs E E)⟩ E E ?_)
  cases h
  refine aX (.pair (.sl (.int .i64)) (.int .i64)) Sl.nil E E (JS.ret aA (a35,c36,a37,c38,none,0,a39,c40,a41,c42,a43,c44) V E E [1,1,0,0,0,0] E)

def fW (x0:List Int×Int) (x1:Int):Option (List Int×Int):=
  (aG (cJ x0.1) fun (y7:List Int)=>
  some (y7,(max (0:Int) (min x1 (x0.1.length:Int)))))

theorem oG (x0:List Int×Int) (x1:Int) (a3:Option Addr) (c4:Nat) (r:List Int×Int) (h:fW x0 x1=some r):
  FC Tryz.prog 170 [.agg #[.slice a3 x0.1.length c4,.int .i64 x0.2],.int .i64 x1] [⟨(.int .i64),⟨a3,x0.1.length,c4⟩,x0.1⟩] (fun _:Option Addr×Nat=>True) (fun q=>.agg #[.slice q.1 r.1.length q.2,.int .i64 r.2]) (fun q=>[⟨(.int .i64),⟨q.1,r.1.length,q.2⟩,r.1⟩]):=
 by
  refine FC.of (T:=TTx) Tryz.call170 Tryz.func170 E E fun w0=>?_
  unfold fW at h
  refine aL aA 2 [] [2,3] [(2,.bp 2 0),(4,.bp 3 0)] (.new 2 38 [.slice a3 x0.1.length c4,.int .i64 x0.2] (.new 3 38 [.slice none 0 0,.int .i64 0] .nil)) ⟨(Es E),(Bs E E)⟩ E E (JS.seq ?_)
  refine bnw h fun y7 hy8 h=>bB E (.new 2 38 [.slice a3 x0.1.length c4,.int .i64 x0.2] .nil) [] [9,10] ⟨E,E,E,E,V⟩ E (fun be11=>?_)
  refine bR aA aF true 3 [0,1,3,4,5,6,7,8] E (by kernel_rfl) [] [(6,.v (.slice a3 x0.1.length c4)),(13,.v (I (max (0:Int) (min x1 (x0.1.length:Int)))))] ⟨E,E,E,E,V⟩ [] E E (Es E) (JA.one 2 (by kernel_rfl) (JK.call E E E E (cZ x0.1 a3 c4 _ hy8) E [0] E E ?_))
  rintro ⟨a9,c10⟩ -
  refine aR ⟨E,E,E,E,V⟩ [] E (aS aA aF 1 [9] E (by kernel_rfl) [] [(14,.v (.agg #[.slice a9 y7.length c10,.int .i64 (max (0:Int) (min x1 (x0.1.length:Int)))]))] E ⟨E,V⟩ (JA.one 10 (by kernel_rfl) (aY aA E E E E E E E E (aM E (bE (by kernel_rfl) (aW (B':=(.new 3 38 [.slice a9 y7.length c10,.int .i64 (max (0:Int) (min x1 (x0.1.length:Int)))] .nil)) (Bs E E) ?_))))))
  cases h
  exact JS.ret aA (a9,c10) V E E [0] E

def jV (x0:List Int) (x1:List Int) (j28:Unit→Option Bool) (k20:Int→Option Bool):Int→Option Bool:=fun x11=>
  (bif (decide (x11<(x0.length:Int))) then
  (aN (0≤x11∧x11<(x0.length:Int)) <|
  (aN (0≤x11∧x11<(x1.length:Int)) <|
  (bif (!(decide ((at' x0 x11)=(at' x1 x11)))) then
  some false
  else
  k20 (W (x11+1)))))
  else
  j28 ())

def jC (x0:List Int) (x1:List Int):Option Bool:=
  (bif (!(decide ((x0.length:Int)=(x1.length:Int)))) then
  some false
  else
  (aU (fun (_:Unit)=>
  some true) fun j28=>
  (bC (jV x0 x1 j28) bM 0)))

theorem vC (x0:List Int) (x1:List Int) (a3:Option Addr) (c4:Nat) (a7:Option Addr) (c8:Nat) (r:Bool) (h:jC x0 x1=some r):
  FC Tryz.prog 258 [.slice a3 x0.length c4,.slice a7 x1.length c8] [⟨(.int .i64),⟨a3,x0.length,c4⟩,x0⟩,⟨(.int .i64),⟨a7,x1.length,c8⟩,x1⟩] (fun _:Unit=>True) (fun _=>.bool r) (fun _=>[]):=
 by
  refine FC.of (T:=TTx) Tryz.call258 Tryz.func258 E E fun w0=>?_
  unfold jC at h
  refine aC aA 1 [] ⟨V,E⟩ E E (JS.seq (aC aA 5 [(10,.v (.bool (!(decide ((x0.length:Int)=(x1.length:Int))))))] ⟨⟨E,V⟩,E⟩ E E ?_))
  refine aK E h (fun h=>?_) (fun h=>?_)
  ·
   refine aC aA 1 [(4,.v (.bool false))] ⟨⟨E,V⟩,E⟩ E E ?_
   cases h
   exact JS.ret aA () V E E [] E
  refine JS.skip (JS.seq (aC aA 3 [(12,.v (I (x0.length:Int))),(13,.v (I 0))] ⟨(Es E),E⟩ E E ?_))
  obtain ⟨j28,hj43,h⟩:=aQ h
  refine bA (ι:=Unit) ⟨fun _=>j28 ()=some r,fun _=>[],fun _=>.nil,fun _=>[],fun _=>[],fun _=>0⟩ ?_ ?_
  ·
   refine JS.loop (ι:=Nat×Int) ⟨fun z=>bC (jV x0 x1 j28) z.1 z.2=some r,fun z=>[(0,.v (.slice a3 x0.length c4)),(1,.v (.slice a7 x1.length c8)),(12,.v (I (x0.length:Int))),(13,.v (I z.2))],fun z=>.nil,fun z=>[⟨(.int .i64),⟨a3,x0.length,c4⟩,x0⟩,⟨(.int .i64),⟨a7,x1.length,c8⟩,x1⟩],fun z=>[],fun z=>z.1⟩ (bM,0) h (Es E) V [0,1] E [] E ?_
   rintro ⟨n21,x11⟩ h
   obtain ⟨n21,rfl,h⟩:=bH h
   rw [jV] at h
   refine aC aA 1 [(14,.v (.bool (decide (x11<(x0.length:Int)))))] ⟨⟨E,V⟩,E⟩ E E (JS.seq ?_)
   refine aK E h (fun h=>?_) (fun h=>?_)
   ·
    refine JS.skip (JS.seq (JS.block (aC aA 2 [(5,.v (I x11))] ⟨⟨E,V⟩,E⟩ E E (JS.seq ?_))))
    obtain ⟨g13,h⟩:=aH h
    obtain ⟨g15,h⟩:=aH h
    refine cD 0 E fun hs39=>cD 1 E fun hs40=>hZ E (by kernel_rfl) (eT aA 3 [] [(18,.ep ⟨a3,x0.length,c4⟩ (Int.toNat x11*1))] E ⟨hs39.ix g13,⟨E,V⟩⟩ (JQ.load aA E E E E E E E 0 E E (Int.toNat x11) 0 (at' x0 x11) ⟨bD g13,E⟩ E E (eT aA 3 [] [(22,.ep ⟨a7,x1.length,c8⟩ (Int.toNat x11*1))] E ⟨hs40.ix g15,⟨E,V⟩⟩ (JQ.load aA E E E E E E E 1 E E (Int.toNat x11) 0 (at' x1 x11) ⟨bD g15,E⟩ E E (eT aA 1 [] [(24,.v (.bool (!(decide ((at' x0 x11)=(at' x1 x11))))))] E ⟨E,V⟩ (rB E ?_))))))
    refine aK E h (fun h=>?_) (fun h=>?_)
    ·
     refine aC aA 1 [(4,.v (.bool false))] ⟨⟨E,V⟩,E⟩ E E ?_
     cases h
     exact JS.ret aA () V E E [] E
    refine JS.skip (aZ (bZ aA 2 [(W (x11+1))] [] [(13,.v (I (W (x11+1))))] _ ⟨⟨V,E⟩,⟨E,V⟩,E⟩ E E (bQ (n21,(W (x11+1))) h (Nat.lt_succ_self _) (Es E) V [0,1] E [] E)))
   refine JS.exit E (aT () h V V [] E [] E)
  rintro _ h
  subst hj43
  refine aC aA 1 [(4,.v (.bool true))] ⟨⟨E,V⟩,E⟩ E E ?_
  cases h
  exact JS.ret aA () V E E [] E

def rV (x0:List (List Int×Int)) (x1:List Int×Int):Option ((List (List Int×Int))×Bool):=
  (aG (oC x0) fun (y11:Bool)=>
  (bU ((!y11)=false) (dJ x1) false fun (y13:Bool)=>
  (bif (bif (!y11) then true else (!y13)) then
  some ([],false)
  else
  (aG (jD x0) fun (y16:List (List Int×Int))=>
  (aN (((decide (0<(y16.length:Int)))=true)→0≤(W ((y16.length:Int) - 1))∧(W ((y16.length:Int) - 1))<(y16.length:Int)) <|
  (bU ((decide (0<(y16.length:Int)))=true) (jC ((at' y16 (W ((y16.length:Int) - 1))).1) x1.1) false fun (y30:Bool)=>
  (bif (bif (decide (0<(y16.length:Int))) then y30 else false) then
  some (y16,true)
  else
  (aG (cS x1) fun (y45:List Int×Int)=>
  (aN (y16.length+([y45]:List (List Int×Int)).length≤536870912) <|
  (aU (fun (x58:List (List Int×Int))=>
  some (x58,true)) fun j61=>
  (bif (decide (20<((y16 ++ ([y45]:List (List Int×Int))).length:Int))) then
  (aN (0≤(1:Int)∧(1:Int)≤((y16 ++ ([y45]:List (List Int×Int))).length:Int)∧((y16 ++ ([y45]:List (List Int×Int))).length:Int)≤((y16 ++ ([y45]:List (List Int×Int))).length:Int)) <|
  j61 (bN (y16 ++ ([y45]:List (List Int×Int))) 1 ((y16 ++ ([y45]:List (List Int×Int))).length:Int)))
  else
  j61 (y16 ++ ([y45]:List (List Int×Int))))))))))))))

theorem aIu (x0:List (List Int×Int)) (x1:List Int×Int) (a3:Option Addr) (c4:Nat) (a7:Option Addr) (c8:Nat) (r:(List (List Int×Int))×Bool) (h:rV x0 x1=some r):
  FC Tryz.prog 264 [.agg #[.slice a3 x0.length c4],.agg #[.slice a7 x1.1.length c8,.int .i64 x1.2]] [⟨(.pair (.sl (.int .i64)) (.int .i64)),⟨a3,x0.length,c4⟩,x0⟩,⟨(.int .i64),⟨a7,x1.1.length,c8⟩,x1.1⟩] (fun _:Option Addr×Nat=>True) (fun q=>.tuple #[.agg #[.slice q.1 r.1.length q.2],.bool r.2]) (fun q=>[⟨(.pair (.sl (.int .i64)) (.int .i64)),⟨q.1,r.1.length,q.2⟩,r.1⟩]):=
 by
  refine FC.of (T:=TTx) Tryz.call264 Tryz.func264 E E fun w0=>?_
  unfold rV at h
  refine aL aA 4 [] [3,4,5] [(2,.bp 3 0),(3,.bp 4 0),(4,.bp 5 0)] (.new 3 44 [.slice a3 x0.length c4] (.new 4 38 [.slice a7 x1.1.length c8,.int .i64 x1.2] (.new 5 44 [.slice none 0 0] .nil))) ⟨(Es E),(Bs E E)⟩ E E (JS.seq (JS.seq (JS.region (aB aA 1 [] [] [(8,.v (.agg #[.slice a3 x0.length c4]))] _ E ⟨⟨E,V⟩,E⟩ ?_))))
  refine bnw h fun y11 hy12 h=>JO.call E E E E (yH x0 a3 c4 _ hy12) E [0] E E fun _ _=>aB aA 3 [] [] [(11,.v (.bool (!y11))),(12,.cd [(11,false)] (.v (.agg #[.slice a7 x1.1.length c8,.int .i64 x1.2])))] _ E ⟨(Es E),E⟩ ?_
  obtain ⟨y13,hy14,-,h⟩:=aV h
  refine bI E E E E (fun q66=>fK x1 a7 c8 _ (hy14 q66)) E [1] E E (aB aA 2 [] [] [(15,.v (.bool (bif (!y11) then true else (!y13))))] _ E ⟨⟨E,V⟩,E⟩ (aD E ?_))
  refine aK E h (fun h=>?_) (fun h=>?_)
  ·
   refine aL aA 3 [] [] [(5,.v (.bool false))] (.new 5 44 [.slice none 0 0] .nil) ⟨⟨E,V⟩,(Bs E E)⟩ E E ?_
   cases h
   refine aX (.pair (.sl (.int .i64)) (.int .i64)) Sl.nil E E (JS.ret aA (none,0) V E E [0] E)
  refine JS.skip (JS.seq (JS.region (aB aA 1 [] [] [(17,.v (.agg #[.slice a3 x0.length c4]))] _ E ⟨⟨E,V⟩,E⟩ ?_)))
  refine bnw h fun y16 hy17 h=>JO.call E E E E (vD x0 a3 c4 _ hy17) E [0] E E ?_
  rintro ⟨a18,c19⟩ -
  refine aP aA 2 [] [15] [(6,.bp 15 0)] (.new 4 38 [.slice a7 x1.1.length c8,.int .i64 x1.2] (.new 5 44 [.slice none 0 0] (.new 15 44 [.slice a18 y16.length c19] .nil))) E ⟨⟨E,V⟩,(Bs E E)⟩ (aD E (JS.seq (aC aA 4 [(7,.v (I (y16.length:Int)))] ⟨⟨E,V⟩,E⟩ E E (JS.seq ?_))))
  obtain ⟨g22,h⟩:=aH h
  obtain ⟨y30,hy31,-,h⟩:=aV h
  refine vM (id:=0) (uW [0] E (Int.toNat (W ((y16.length:Int) - 1))) (at' y16 (W ((y16.length:Int) - 1))) E ?_)
  intro a25 c26 l27 hl28
  obtain rfl:([.slice a25 ((at' y16 (W ((y16.length:Int) - 1))).1).length c26,.int .i64 (at' y16 (W ((y16.length:Int) - 1))).2]:List Value)=l27:=Option.some.inj hl28
  refine vN (cD 2 E fun hs80=>hZ E (by kernel_rfl) (eT aA 9 [(W ((y16.length:Int) - 1))] [(24,.v (.bool (decide (0<(y16.length:Int))))),(30,.cd [(24,true)] (.ep ⟨a18,y16.length,c19⟩ (Int.toNat (W ((y16.length:Int) - 1))*2)))] E ⟨(fun q79=>⟨V,E⟩),(fun q81=>(hs80.cast (fQ _ _ _)).ix (g22 q81)),(fun q82=>(hs80.cast (fQ _ _ _)).fa (g22 q82)),(Es E)⟩ (wI aA E E E E E E 2 E E (Int.toNat (W ((y16.length:Int) - 1))) 0 (Sum.inr [.slice a25 ((at' y16 (W ((y16.length:Int) - 1))).1).length c26,.int .i64 (at' y16 (W ((y16.length:Int) - 1))).2]) (fun q83=>⟨mQ (bD (g22 q83)),E⟩) E E E (eT aA 2 [] [(33,.cd [(24,true)] (.v (.slice a7 x1.1.length c8)))] E ⟨E,V⟩ (JQ.call E E E E (fun q84=>vC ((at' y16 (W ((y16.length:Int) - 1))).1) x1.1 a25 c26 a7 c8 _ (hy31 q84)) E [3,1] E E (eT aA 1 [] [(35,.v (.bool (bif (decide (0<(y16.length:Int))) then y30 else false)))] E ⟨E,V⟩ (rB E ?_)))))))
  refine vM (id:=0) (aA9 [0,0] E (at' y16 (W ((y16.length:Int) - 1))) E ⟨E,E,E⟩ (vN ?_))
  refine aK E h (fun h=>?_) (fun h=>?_)
  ·
   refine aL aA 3 [] [] [(5,.v (.bool true))] (.new 5 44 [.slice a18 y16.length c19] .nil) ⟨⟨E,V⟩,(Bs E E)⟩ E E ?_
   cases h
   exact JS.ret aA (a18,c19) V E E [0] E
  refine JS.skip (JS.seq ?_)
  obtain ⟨y45,hy46,h⟩:=aE h
  obtain ⟨g50,h⟩:=aH h
  refine bB E (.new 4 38 [.slice a7 x1.1.length c8,.int .i64 x1.2] (.new 15 44 [.slice a18 y16.length c19] .nil)) [] [5,6,7] ⟨E,E,E,E,E,E,E,E,V⟩ E (fun be53=>?_)
  refine bR aA aF true 5 [0,1,2] E (by kernel_rfl) [] [(38,.v (.slice a18 y16.length c19)),(39,.v (.agg #[.slice a7 x1.1.length c8,.int .i64 x1.2]))] ⟨E,E,E,E,E,E,E,E,V⟩ [] E E (Es E) (JA.one 3 (by kernel_rfl) (JK.call E E E E (dQ x1 a7 c8 _ hy46) E [1] E E ?_))
  rintro ⟨a47,c48⟩ -
  refine aR ⟨E,E,E,E,E,E,E,E,V⟩ [] E (JA.one 4 (by kernel_rfl) (JK.buildSlice aA E E E E E E E E E E E [0] E (.pair (.sl (.int .i64)) (.int .i64)) [y45] ⟨E,E,E⟩ E E fun a49=>aR ⟨E,E,E,E,E,E,E,E,V⟩ [] E (JA.one 5 (by kernel_rfl) (gS aA E E E E ⟨E,E,E,E,V,E,E,E,E⟩ E E [1,0] E g50 E fun a51 c52=>aM E (aS aA aF 1 [6] E (by kernel_rfl) [] [(43,.bp 15 0)] E ⟨E,V⟩ (JA.one 7 (by kernel_rfl) (aY aA E E E E E E E E (aM E (bE (by kernel_rfl) (aW (B':=(.new 5 44 [.slice none 0 0] (.new 15 44 [.slice a51 (y16 ++ ([y45]:List (List Int×Int))).length c52] .nil))) (Bs E E) ?_))))))))))
  obtain ⟨j61,hj86,h⟩:=aQ h
  refine dM (ι:=(List (List Int×Int))×Option Addr×Nat) ⟨fun z=>j61 z.1=some r,fun z=>[(4,.bp 5 0),(6,.bp 15 0)],fun z=>(.new 5 44 [.slice none 0 0] (.new 15 44 [.slice z.2.1 z.1.length z.2.2] .nil)),fun z=>[],fun z=>[⟨(.pair (.sl (.int .i64)) (.int .i64)),⟨z.2.1,z.1.length,z.2.2⟩,z.1⟩],fun z=>0⟩ ?_ ?_
  ·
   refine aC aA 4 [(47,.v (.bool (decide (20<((y16 ++ ([y45]:List (List Int×Int))).length:Int)))))] ⟨⟨E,V⟩,E⟩ E E ?_
   refine aK E h (fun h=>?_) (fun h=>?_)
   ·
    refine JS.region (aB aA 2 [] [] [(49,.v (.slice a51 (y16 ++ ([y45]:List (List Int×Int))).length c52))] _ E ⟨⟨E,V⟩,E⟩ ?_)
    obtain ⟨g54,h⟩:=aH h
    refine xI aA E E E E E E E E [0] E (1:Int) ((y16 ++ ([y45]:List (List Int×Int))).length:Int) E E g54 E fun a55 c56=>aP aA 2 [] [] [] (.new 5 44 [.slice none 0 0] (.new 15 44 [.slice a55 (bN (y16 ++ ([y45]:List (List Int×Int))) 1 ((y16 ++ ([y45]:List (List Int×Int))).length:Int)).length c56] .nil)) E ⟨V,(Bs E E)⟩ (aD E (aT ((bN (y16 ++ ([y45]:List (List Int×Int))) 1 ((y16 ++ ([y45]:List (List Int×Int))).length:Int)),a55,c56) h (Es E) (Bs E E) [] E [0] E))
   refine JS.skip (aT ((y16 ++ ([y45]:List (List Int×Int))),a51,c52) h (Es E) (Bs E E) [] E [0] E)
  rintro ⟨x58,a59,c60⟩ h
  subst hj86
  refine aL aA 3 [] [] [(5,.v (.bool true))] (.new 5 44 [.slice a59 x58.length c60] .nil) ⟨⟨E,V⟩,(Bs E E)⟩ E E ?_
  cases h
  exact JS.ret aA (a59,c60) V E E [0] E

def sQ (x0:EdQ) (x1:List Int×Int) (x2:Int):Option EdQ:=
  (aG (eA x0 x2) fun (y32:EdQ)=>
  (aU (fun (x54:List (List Int×Int))=>
  (aG (cS x1) fun (y59:List Int×Int)=>
  (aG (hJ y59 x0.2.1) fun (y63:List Int×Int)=>
  some (y32.1,y32.2.1,(y59.1,y63.2),y32.2.2.2.1,y32.2.2.2.2.1,y32.2.2.2.2.2.1,y32.2.2.2.2.2.2.1,y32.2.2.2.2.2.2.2.1,y32.2.2.2.2.2.2.2.2.1,y32.2.2.2.2.2.2.2.2.2.1,y32.2.2.2.2.2.2.2.2.2.2.1,x54,y32.2.2.2.2.2.2.2.2.2.2.2.2.1,y32.2.2.2.2.2.2.2.2.2.2.2.2.2.1,y32.2.2.2.2.2.2.2.2.2.2.2.2.2.2.1,y32.2.2.2.2.2.2.2.2.2.2.2.2.2.2.2.1,y32.2.2.2.2.2.2.2.2.2.2.2.2.2.2.2.2)))) fun j57=>
  (aG (jC x1.1 x0.2.2.1.1) fun (y46:Bool)=>
  (bif (bif (!y46) then (!(bif (decide (x2=1)) then (decide (x0.2.2.2.2.2.2.2.2.2.1=1)) else false)) else false) then
  (aG (rV x0.2.2.2.2.2.2.2.2.2.2.2.1 x0.2.2.1) fun (y48,y49)=>
  j57 y48)
  else
  j57 y32.2.2.2.2.2.2.2.2.2.2.2.1))))

theorem aBp (x0:EdQ) (x1:List Int×Int) (x2:Int) (q4:P6) (a28:Option Addr) (c29:Nat) (r:EdQ) (h:sQ x0 x1 x2=some r):
  FC Tryz.prog 203 [.agg (cC x0 q4).toArray,.agg #[.slice a28 x1.1.length c29,.int .i64 x1.2],.int .i64 x2] (bW x0 q4 [⟨(.int .i64),⟨a28,x1.1.length,c29⟩,x1.1⟩]) (fun _:P6=>True) (fun q=>.agg (aI r q).toArray) (fun q=>(bW r q [])):=
 by
  refine FC.of (T:=TTx) Tryz.call203 Tryz.func203 E E fun w0=>?_
  unfold sQ at h
  refine aL aA 3 [] [8,9,10] [(3,.bp 8 0),(4,.bp 9 0),(6,.bp 10 0)] (.new 8 46 (aI x0 q4) (.new 9 38 [.slice a28 x1.1.length c29,.int .i64 x1.2] (.new 10 46 bF .nil))) ⟨(Es E),(Bs E E)⟩ E E (JS.seq (JS.region (aB aA 2 [] [] [(8,.v (.agg (aI x0 q4).toArray)),(9,.v (I x2))] _ E ⟨(Es E),E⟩ ?_)))
  refine bnw h fun y32 hy33 h=>JO.call E E E E (oU x0 x2 q4 _ hy33) E [0,1,2,3,4,5] E E fun q34 _=>aP aA 2 [] [31] [(7,.bp 31 0)] (.new 8 46 (aI x0 q4) (.new 9 38 [.slice a28 x1.1.length c29,.int .i64 x1.2] (.new 10 46 bF (.new 31 46 (aI y32 q34) .nil)))) E ⟨⟨E,V⟩,(Bs E E)⟩ (aD E ?_)
  obtain ⟨j57,hj68,h⟩:=aQ h
  refine dM (ι:=(List (List Int×Int))×Option Addr×Nat) ⟨fun z=>j57 z.1=some r,fun z=>[(3,.bp 8 0),(4,.bp 9 0),(6,.bp 10 0),(7,.bp 31 0)],fun z=>(.new 8 46 (aI x0 q4) (.new 9 38 [.slice a28 x1.1.length c29,.int .i64 x1.2] (.new 10 46 bF (.new 31 46 (aI (U11 y32 z.1) (q34.1,q34.2.1,q34.2.2.1,q34.2.2.2.1,z.2.1,z.2.2,(Q4 q34).2.2)) .nil)))),fun z=>(bW x0 q4 [⟨(.int .i64),⟨a28,x1.1.length,c29⟩,x1.1⟩]),fun z=>[⟨(.pair (.sl (.int .i64)) (.int .i64)),⟨z.2.1,z.1.length,z.2.2⟩,z.1⟩,⟨(.int .i64),⟨q34.1,y32.2.2.1.1.length,q34.2.1⟩,y32.2.2.1.1⟩,⟨(.sl (.int .i64)),⟨q34.2.2.1,(Q8 y32).2.2.1.length,q34.2.2.2.1⟩,(Q8 y32).2.2.1⟩,⟨(.int .i64),⟨(Q4 q34).2.2.1,(Q12 y32).2.1.1.length,(Q4 q34).2.2.2.1⟩,(Q12 y32).2.1.1⟩,⟨(.int .i64),⟨(Q8 q34).1,(Q12 y32).2.2.1.length,(Q8 q34).2.1⟩,(Q12 y32).2.2.1⟩,⟨(.int .i64),⟨(Q8 q34).2.2.1,(Q16 y32).1.length,(Q8 q34).2.2.2⟩,(Q16 y32).1⟩],fun z=>0⟩ ?_ ?_
  ·
   refine JS.seq (JS.region (aB aA 5 [] [] [(12,.v (.slice a28 x1.1.length c29)),(15,.v (.slice q4.1 x0.2.2.1.1.length q4.2.1))] _ E ⟨(Es E),E⟩ ?_))
   refine bnw h fun y46 hy47 h=>JO.call E E E E (vC x1.1 x0.2.2.1.1 a28 c29 q4.1 q4.2.1 _ hy47) E [6,0] E E fun _ _=>aB aA 11 [] [] [(27,.v (.bool (bif (!y46) then (!(bif (decide (x2=1)) then (decide ((Q8 x0).2.1=1)) else false)) else false)))] _ E ⟨⟨E,V⟩,E⟩ (aD E ?_)
   refine aK E h (fun h=>?_) (fun h=>?_)
   ·
    refine JS.region (aB aA 4 [] [] [(30,.v (.agg #[.slice (Q4 q4).1 (Q8 x0).2.2.2.1.length (Q4 q4).2.1])),(32,.v (.agg #[.slice q4.1 x0.2.2.1.1.length q4.2.1,.int .i64 x0.2.2.1.2]))] _ E ⟨(Es E),E⟩ ?_)
    obtain ⟨⟨y48,y49⟩,hy50,h⟩:=aE h
    refine JO.call E E E E (aIu (Q8 x0).2.2.2.1 x0.2.2.1 (Q4 q4).1 (Q4 q4).2.1 q4.1 q4.2.1 _ hy50) E [2,0] E E ?_
    rintro ⟨a51,c52⟩ -
    refine aP aA 5 [] [] [] (.new 8 46 (aI x0 q4) (.new 9 38 [.slice a28 x1.1.length c29,.int .i64 x1.2] (.new 10 46 bF (.new 31 46 (aI (U11 y32 y48) (q34.1,q34.2.1,q34.2.2.1,q34.2.2.2.1,a51,c52,(Q4 q34).2.2)) .nil)))) E ⟨V,(Bs E E)⟩ (aD E (bV (y48,a51,c52) h (Es E) (Bs E E) [0,1,2,3,4,5,6] E [0,1,2,4,5,6] E E))
   refine JS.skip (bV ((Q8 y32).2.2.2.1,(Q4 q34).1,(Q4 q34).2.1) h (Es E) (Bs E E) [0,1,2,3,4,5,6] E [2,0,1,3,4,5] E E)
  rintro ⟨x54,a55,c56⟩ h
  subst hj68
  refine JS.seq ?_
  obtain ⟨y59,hy60,h⟩:=aE h
  refine bnw h fun y63 hy64 h=>bB E (.new 8 46 (aI x0 q4) (.new 9 38 [.slice a28 x1.1.length c29,.int .i64 x1.2] .nil)) [] [4,5,6] ⟨E,E,E,E,E,E,E,E,V⟩ E (fun be65=>?_)
  refine bR aA aF true 4 [0,2,3] E (by kernel_rfl) [] [(37,.v (.agg #[.slice a28 x1.1.length c29,.int .i64 x1.2])),(40,.v (I x0.2.1))] ⟨E,E,E,E,E,E,E,E,V⟩ [] E E (Es E) (JA.one 1 (by kernel_rfl) (JK.call E E E E (dQ x1 a28 c29 _ hy60) E [6] E E ?_))
  rintro ⟨a61,c62⟩ -
  refine aR ⟨E,E,E,E,E,E,E,E,V⟩ [] E (JA.one 4 (by kernel_rfl) (JK.call E E E E (tK y59 x0.2.1 a61 c62 _ hy64) E [7] E E fun _ _=>aM E (aS aA aF 1 [5] E (by kernel_rfl) [] [(42,.bp 31 2)] E ⟨E,V⟩ (JA.one 6 (by kernel_rfl) (aY aA E E E E E E E E (aM E (bE (by kernel_rfl) (aW (B':=(.new 10 46 bF (.new 31 46 (aI (U11 (U2 y32 (y59.1,y63.2)) x54) (a61,c62,q34.2.2.1,q34.2.2.2.1,a55,c56,(Q4 q34).2.2)) .nil))) (Bs E E) (aL aA 2 [] [] [] (.new 10 46 (aI (U11 (U2 y32 (y59.1,y63.2)) x54) (a61,c62,q34.2.2.1,q34.2.2.2.1,a55,c56,(Q4 q34).2.2)) .nil) ⟨V,(Bs E E)⟩ E E ?_)))))))))
  cases h
  exact JS.ret aA (a61,c62,q34.2.2.1,q34.2.2.2.1,a55,c56,(Q4 q34).2.2) V E E [0,2,0,1,1,1] E

def fY (x0:EdQ) (x1:List Int×Int):Option (EdQ×Int):=
  (aG (sQ x0 x1 0) fun (y31:EdQ)=>
  some (y31,0))

theorem oV (x0:EdQ) (x1:List Int×Int) (q3:P6) (a27:Option Addr) (c28:Nat) (r:EdQ×Int) (h:fY x0 x1=some r):
  FC Tryz.prog 169 [.agg (cC x0 q3).toArray,.agg #[.slice a27 x1.1.length c28,.int .i64 x1.2]] (bW x0 q3 [⟨(.int .i64),⟨a27,x1.1.length,c28⟩,x1.1⟩]) (fun _:P6=>True) (fun q=>.tuple #[.agg (aI r.1 q).toArray,.int .i64 r.2]) (fun q=>(bW r.1 q [])):=
 by
  refine FC.of (T:=TTx) Tryz.call169 Tryz.func169 E E fun w0=>?_
  unfold fY at h
  refine aL aA 4 [] [8,9,10] [(2,.bp 8 0),(3,.bp 9 0),(4,.bp 10 0)] (.new 8 46 (aI x0 q3) (.new 9 38 [.slice a27 x1.1.length c28,.int .i64 x1.2] (.new 10 46 bF .nil))) ⟨(Es E),(Bs E E)⟩ E E (JS.seq (JS.region (aB aA 2 [] [] [(6,.v (.agg (aI x0 q3).toArray)),(7,.v (.agg #[.slice a27 x1.1.length c28,.int .i64 x1.2]))] _ E ⟨(Es E),E⟩ ?_)))
  refine bnw h fun y31 hy32 h=>JO.call E E E E (aBp x0 x1 0 q3 a27 c28 _ hy32) E [0,1,2,3,4,5,6] E E fun q33 _=>aP aA 2 [] [] [(5,.v (I 0))] (.new 10 46 (aI y31 q33) .nil) E ⟨⟨E,V⟩,(Bs E E)⟩ (aD E ?_)
  cases h
  exact JS.ret aA q33 V E E [0,0,0,0,0,0] E

def qO (x0:List Int×Int) (x1:Int) (x2:Int):Option Bool:=
  (aG (dJ x0) fun (y8:Bool)=>
  some (bif (bif (bif y8 then (decide (0≤x1)) else false) then (decide (x1≤x2)) else false) then (decide (x2≤(x0.1.length:Int))) else false))

theorem aDc (x0:List Int×Int) (x1:Int) (x2:Int) (a4:Option Addr) (c5:Nat) (r:Bool) (h:qO x0 x1 x2=some r):
  FC Tryz.prog 260 [.agg #[.slice a4 x0.1.length c5,.int .i64 x0.2],.int .i64 x1,.int .i64 x2] [⟨(.int .i64),⟨a4,x0.1.length,c5⟩,x0.1⟩] (fun _:Unit=>True) (fun _=>.bool r) (fun _=>[]):=
 by
  refine FC.of (T:=TTx) Tryz.call260 Tryz.func260 E E fun w0=>?_
  unfold qO at h
  refine aL aA 2 [] [2] [(3,.bp 2 0)] (.new 2 38 [.slice a4 x0.1.length c5,.int .i64 x0.2] .nil) ⟨⟨E,V⟩,(Bs E E)⟩ E E (JS.seq (JS.region (aB aA 1 [] [] [(7,.v (.agg #[.slice a4 x0.1.length c5,.int .i64 x0.2]))] _ E ⟨⟨E,V⟩,E⟩ ?_)))
  refine bnw h fun y8 hy9 h=>JO.call E E E E (fK x0 a4 c5 _ hy9) E [0] E E fun _ _=>aB aA 17 [] [] [(6,.v (.bool (bif (bif (bif y8 then (decide (0≤x1)) else false) then (decide (x1≤x2)) else false) then (decide (x2≤(x0.1.length:Int))) else false)))] _ E ⟨⟨E,V⟩,E⟩ (aD E ?_)
  cases h
  exact JS.ret aA () V E E [] E

def lU (x0:List Int×Int) (x1:Int) (x2:Int):Option ((List Int×Int)×List Int×Bool):=
  (aG (qO x0 x1 x2) fun (y8:Bool)=>
  (bif (!y8) then
  some (([],0),[],false)
  else
  (aU (fun (x32:List Int)=>
  (aU (fun (x41:Int)=>
  (aN (0≤x1∧x1≤x2∧x2≤(x0.1.length:Int)) <|
  (aG (cJ (bN x0.1 x1 x2)) fun (y50:List Int)=>
  some ((x32,x41),y50,true)))) fun j42=>
  (bif (decide (x2≤x0.2)) then
  j42 (W (x0.2 - (W (x2 - x1))))
  else
  (bif (decide (x1<x0.2)) then
  j42 x1
  else
  j42 x0.2)))) fun j35=>
  (aN (0≤(0:Int)∧(0:Int)≤x1∧x1≤(x0.1.length:Int)) <|
  (aG (cJ (bN x0.1 (0:Int) x1)) fun (y15:List Int)=>
  (aN (0≤x2∧x2≤(x0.1.length:Int)∧(x0.1.length:Int)≤(x0.1.length:Int)) <|
  (aN (y15.length+(bN x0.1 x2 (x0.1.length:Int)).length≤536870912) <|
  j35 (y15 ++ (bN x0.1 x2 (x0.1.length:Int))))))))))

theorem wZ (x0:List Int×Int) (x1:Int) (x2:Int) (a4:Option Addr) (c5:Nat) (r:(List Int×Int)×List Int×Bool) (h:lU x0 x1 x2=some r):
  FC Tryz.prog 202 [.agg #[.slice a4 x0.1.length c5,.int .i64 x0.2],.int .i64 x1,.int .i64 x2] [⟨(.int .i64),⟨a4,x0.1.length,c5⟩,x0.1⟩] (fun _:Option Addr×Nat×Option Addr×Nat=>True) (fun q=>.tuple #[.agg #[.slice q.1 r.1.1.length q.2.1,.int .i64 r.1.2],.slice q.2.2.1 r.2.1.length q.2.2.2,.bool r.2.2]) (fun q=>[⟨(.int .i64),⟨q.1,r.1.1.length,q.2.1⟩,r.1.1⟩,⟨(.int .i64),⟨q.2.2.1,r.2.1.length,q.2.2.2⟩,r.2.1⟩]):=
 by
  refine FC.of (T:=TTx) Tryz.call202 Tryz.func202 E E fun w0=>?_
  unfold lU at h
  refine aL aA 4 [] [2,3] [(3,.bp 2 0),(6,.bp 3 0)] (.new 2 38 [.slice a4 x0.1.length c5,.int .i64 x0.2] (.new 3 38 [.slice none 0 0,.int .i64 0] .nil)) ⟨(Es E),(Bs E E)⟩ E E (JS.seq (JS.seq (JS.region (aB aA 3 [] [] [(10,.v (.agg #[.slice a4 x0.1.length c5,.int .i64 x0.2])),(11,.v (I x1)),(12,.v (I x2))] _ E ⟨(Es E),E⟩ ?_))))
  refine bnw h fun y8 hy9 h=>JO.call E E E E (aDc x0 x1 x2 a4 c5 _ hy9) E [0] E E fun _ _=>aB aA 1 [] [] [(14,.v (.bool (!y8)))] _ E ⟨⟨E,V⟩,E⟩ (aD E ?_)
  refine aK E h (fun h=>?_) (fun h=>?_)
  ·
   refine aL aA 4 [] [] [(7,.v (.slice none 0 0)),(8,.v (.bool false))] (.new 3 38 [.slice none 0 0,.int .i64 0] .nil) ⟨(Es E),(Bs E E)⟩ E E ?_
   cases h
   refine aX (.int .i64) Sl.nil E E (aX (.int .i64) Sl.nil E E (JS.ret aA (none,0,none,0) V E E [1,0] E))
  refine JS.skip (JS.seq ?_)
  obtain ⟨j35,hj72,h⟩:=aQ h
  refine mK (ι:=List Int×Option Addr×Nat) ⟨fun z=>j35 z.1=some r,fun z=>[(1,.v (I x1)),(2,.v (I x2)),(3,.bp 2 0),(6,.bp 3 0),(9,.bp 25 0)],fun z=>(.new 2 38 [.slice a4 x0.1.length c5,.int .i64 x0.2] (.new 3 38 [.slice none 0 0,.int .i64 0] (.new 25 38 [.slice z.2.1 z.1.length z.2.2,.int .i64 x0.2] .nil))),fun z=>[⟨(.int .i64),⟨a4,x0.1.length,c5⟩,x0.1⟩],fun z=>[⟨(.int .i64),⟨z.2.1,z.1.length,z.2.2⟩,z.1⟩],fun z=>0⟩ ?_ ?_
  ·
   obtain ⟨g10,h⟩:=aH h
   obtain ⟨y15,hy16,h⟩:=aE h
   obtain ⟨g19,h⟩:=aH h
   obtain ⟨g23,h⟩:=aH h
   refine iC 0 E (0:Int) x1 fun a11 c12 hu13=>iC 1 E x2 (x0.1.length:Int) fun a20 c21 hu22=>cD 2 E fun hs65=>?_
   refine bB E (.new 2 38 [.slice a4 x0.1.length c5,.int .i64 x0.2] .nil) [] [12,14] ⟨E,E,E,E,V⟩ E (fun be28=>?_)
   refine bR aA aF true 7 [0,1,2,5,6,7,10,11] E (by kernel_rfl) [] [(17,.v (.slice a4 x0.1.length c5)),(18,.v (I x1)),(22,.v (.slice a4 x0.1.length c5)),(23,.v (I x2)),(27,.v (I x0.2))] ⟨E,E,E,E,V⟩ [] E E (Es E) (dB aA aF 3 E (by kernel_rfl) E E E E E E (0:Int) x1 E E ⟨g10.1,g10.2.1,g10.2.2,hs65.cap,hu13 g10⟩ E (dB aA aF 8 E (by kernel_rfl) E E E E E E x2 (x0.1.length:Int) E E ⟨g19.1,g19.2.1,g19.2.2,hs65.cap,hu22 g19⟩ E ?_))
   refine JA.all (rs:=[4,13]) (by kernel_rfl) E (List.forall_mem_cons.2 ⟨?_,List.forall_mem_cons.2 ⟨?_,(fun _ hx=>absurd hx List.not_mem_nil)⟩⟩)
   ·
    refine JK.call E E E E (cZ (bN x0.1 (0:Int) x1) a11 c12 _ hy16) E [1] E E ?_
    rintro ⟨a17,c18⟩ -
    refine aR ⟨E,E,E,E,V⟩ [] E ?_
    refine JA.all (rs:=[9,13]) (by kernel_rfl) E (List.forall_mem_cons.2 ⟨?_,List.forall_mem_cons.2 ⟨?_,(fun _ hx=>absurd hx List.not_mem_nil)⟩⟩)
    ·
     refine cY aA E E E E ⟨E,E,E,E,V,E,E,E,E⟩ E E E [0] E 0 E g23 E fun a24 c25=>aR ⟨E,E,E,E,V⟩ [] E (aS aA aF 2 [12] E (by kernel_rfl) [] [(28,.v (.agg #[.slice a24 (y15 ++ (bN x0.1 x2 (x0.1.length:Int))).length c25,.int .i64 x0.2]))] E ⟨E,V⟩ (JA.one 13 (by kernel_rfl) (JK.alloc aA E E E E E 25 E (cK _ E) (aR ⟨E,E,E,E,V⟩ [] E (JA.one 14 (by kernel_rfl) (aY aA E E E E E E E E (aM E (bE (by kernel_rfl) (aW (B':=(.new 2 38 [.slice a4 x0.1.length c5,.int .i64 x0.2] (.new 3 38 [.slice none 0 0,.int .i64 0] (.new 25 38 [.slice a24 (y15 ++ (bN x0.1 x2 (x0.1.length:Int))).length c25,.int .i64 x0.2] .nil)))) (Bs E E) (aT ((y15 ++ (bN x0.1 x2 (x0.1.length:Int))),a24,c25) h (Es E) (Bs E E) [2] E [0] E))))))))))
    refine JK.alloc aA E E E E E 25 E (cK _ E) (aR ⟨E,E,E,E,V⟩ [] E (JA.one 9 (by kernel_rfl) (cY aA E E E E ⟨E,E,E,E,V,E,E,E,E⟩ E E E [0] E 0 E g23 E fun a24 c25=>aR ⟨E,E,E,E,V⟩ [] E (aS aA aF 1 [12] E (by kernel_rfl) [] [(28,.v (.agg #[.slice a24 (y15 ++ (bN x0.1 x2 (x0.1.length:Int))).length c25,.int .i64 x0.2]))] E ⟨E,V⟩ (JA.one 14 (by kernel_rfl) (aY aA E E E E E E E E (aM E (bE (by kernel_rfl) (aW (B':=(.new 2 38 [.slice a4 x0.1.length c5,.int .i64 x0.2] (.new 3 38 [.slice none 0 0,.int .i64 0] (.new 25 38 [.slice a24 (y15 ++ (bN x0.1 x2 (x0.1.length:Int))).length c25,.int .i64 x0.2] .nil)))) (Bs E E) (aT ((y15 ++ (bN x0.1 x2 (x0.1.length:Int))),a24,c25) h (Es E) (Bs E E) [2] E [0] E))))))))))
   refine JK.alloc aA E E E E E 25 E (cK _ E) (aR ⟨E,E,E,E,V⟩ [] E (JA.one 4 (by kernel_rfl) (JK.call E E E E (cZ (bN x0.1 (0:Int) x1) a11 c12 _ hy16) E [1] E E ?_)))
   rintro ⟨a17,c18⟩ -
   refine aR ⟨E,E,E,E,V⟩ [] E (JA.one 9 (by kernel_rfl) (cY aA E E E E ⟨E,E,E,E,V,E,E,E,E⟩ E E E [0] E 0 E g23 E fun a24 c25=>aR ⟨E,E,E,E,V⟩ [] E (aS aA aF 1 [12] E (by kernel_rfl) [] [(28,.v (.agg #[.slice a24 (y15 ++ (bN x0.1 x2 (x0.1.length:Int))).length c25,.int .i64 x0.2]))] E ⟨E,V⟩ (JA.one 14 (by kernel_rfl) (aY aA E E E E E E E E (aM E (bE (by kernel_rfl) (aW (B':=(.new 2 38 [.slice a4 x0.1.length c5,.int .i64 x0.2] (.new 3 38 [.slice none 0 0,.int .i64 0] (.new 25 38 [.slice a24 (y15 ++ (bN x0.1 x2 (x0.1.length:Int))).length c25,.int .i64 x0.2] .nil)))) (Bs E E) (aT ((y15 ++ (bN x0.1 x2 (x0.1.length:Int))),a24,c25) h (Es E) (Bs E E) [2] E [0] E)))))))))
  rintro ⟨x32,a33,c34⟩ h
  subst hj72
  refine JS.seq ?_
  obtain ⟨j42,hj71,h⟩:=aQ h
  refine bA (ι:=Int) ⟨fun z=>j42 z=some r,fun z=>[(1,.v (I x1)),(2,.v (I x2)),(3,.bp 2 0),(6,.bp 3 0),(9,.bp 25 0)],fun z=>(.new 2 38 [.slice a4 x0.1.length c5,.int .i64 x0.2] (.new 3 38 [.slice none 0 0,.int .i64 0] (.new 25 38 [.slice a33 x32.length c34,.int .i64 z] .nil))),fun z=>[⟨(.int .i64),⟨a4,x0.1.length,c5⟩,x0.1⟩],fun z=>[⟨(.int .i64),⟨a33,x32.length,c34⟩,x32⟩],fun z=>0⟩ ?_ ?_
  ·
   refine aC aA 5 [(29,.v (.bool (decide (x2≤x0.2))))] ⟨⟨E,V⟩,E⟩ E E ?_
   refine aK E h (fun h=>?_) (fun h=>?_)
   ·
    refine aC0 aA 8 [(W (x2 - x1)),(W (x0.2 - (W (x2 - x1))))] [] [] (.new 2 38 [.slice a4 x0.1.length c5,.int .i64 x0.2] (.new 3 38 [.slice none 0 0,.int .i64 0] (.new 25 38 [.slice a33 x32.length c34,.int .i64 (W (x0.2 - (W (x2 - x1))))] .nil))) ⟨⟨V,E⟩,⟨V,E⟩,V,(Bs E E)⟩ E E (aZ (aT (W (x0.2 - (W (x2 - x1)))) h (Es E) (Bs E E) [0] E [0] E))
   refine aC aA 5 [(41,.v (.bool (decide (x1<x0.2))))] ⟨⟨E,V⟩,E⟩ E E ?_
   refine aK E h (fun h=>?_) (fun h=>?_)
   ·
    refine aC0 aA 3 [] [] [] (.new 2 38 [.slice a4 x0.1.length c5,.int .i64 x0.2] (.new 3 38 [.slice none 0 0,.int .i64 0] (.new 25 38 [.slice a33 x32.length c34,.int .i64 x1] .nil))) ⟨V,(Bs E E)⟩ E E (aZ (aT x1 h (Es E) (Bs E E) [0] E [0] E))
   refine JS.skip (aZ (aT x0.2 h (Es E) (Bs E E) [0] E [0] E))
  rintro x41 h
  subst hj71
  refine JS.seq ?_
  obtain ⟨g45,h⟩:=aH h
  refine bnw h fun y50 hy51 h=>iC 0 E x1 x2 fun a46 c47 hu48=>cD 1 E fun hs70=>?_
  refine bB E (.new 2 38 [.slice a4 x0.1.length c5,.int .i64 x0.2] (.new 25 38 [.slice a33 x32.length c34,.int .i64 x41] .nil)) [] [7,8,9] ⟨E,E,E,E,E,E,E,E,V⟩ E (fun be56=>?_)
  refine bR aA aF true 5 [0,1,2,3,4] E (by kernel_rfl) [] [(48,.v (.agg #[.slice a33 x32.length c34,.int .i64 x41])),(50,.v (.slice a4 x0.1.length c5)),(51,.v (I x1)),(52,.v (I x2))] ⟨E,E,E,E,E,E,E,E,V⟩ [] E E (Es E) (dB aA aF 5 E (by kernel_rfl) E E E E E E x1 x2 E E ⟨g45.1,g45.2.1,g45.2.2,hs70.cap,hu48 g45⟩ E (JA.one 6 (by kernel_rfl) (JK.call E E E E (cZ (bN x0.1 x1 x2) a46 c47 _ hy51) E [0] E E ?_)))
  rintro ⟨a52,c53⟩ -
  refine aR ⟨E,E,E,E,E,E,E,E,V⟩ [] E (JA.one 7 (by kernel_rfl) (aY aA E E E E E E E E (aM E (aS aA aF 0 [8,9] E (by kernel_rfl) [] [(7,.v (.slice a52 y50.length c53)),(8,.v (.bool true))] E (Es E) (bE (by kernel_rfl) (aW (B':=(.new 3 38 [.slice a33 x32.length c34,.int .i64 x41] .nil)) (Bs E E) ?_))))))
  cases h
  exact JS.ret aA (a33,c34,a52,c53) V E E [1,0] E

def xH (x0:EdQ) (x1:Int) (x2:Int):Option (EdQ×Int):=
  (aG (lU x0.2.2.1 x1 x2) fun (y28,y29,y30)=>
  (bif (bif (!y30) then true else (decide ((y29.length:Int)=0))) then
  (aG (eC x0) fun (y36,y37)=>
  some (y36,y37))
  else
  (aG (fY x0 y28) fun (y51,y52)=>
  some (y51,y52))))

theorem aE5 (x0:EdQ) (x1:Int) (x2:Int) (q4:P6) (r:EdQ×Int) (h:xH x0 x1 x2=some r):
  FC Tryz.prog 168 [.agg (cC x0 q4).toArray,.int .i64 x1,.int .i64 x2] (bW x0 q4 []) (fun _:P6=>True) (fun q=>.tuple #[.agg (aI r.1 q).toArray,.int .i64 r.2]) (fun q=>(bW r.1 q [])):=
 by
  refine FC.of (T:=TTx) Tryz.call168 Tryz.func168 E E fun w0=>?_
  unfold xH at h
  refine aL aA 3 [] [7,8] [(3,.bp 7 0),(6,.bp 8 0)] (.new 7 46 (aI x0 q4) (.new 8 46 bF .nil)) ⟨(Es E),(Bs E E)⟩ E E (JS.seq (JS.region (aB aA 4 [] [] [(13,.v (.agg #[.slice q4.1 x0.2.2.1.1.length q4.2.1,.int .i64 x0.2.2.1.2])),(14,.v (I x1)),(15,.v (I x2))] _ E ⟨(Es E),E⟩ ?_)))
  obtain ⟨⟨y28,y29,y30⟩,hy31,h⟩:=aE h
  refine JO.call E E E E (wZ x0.2.2.1 x1 x2 q4.1 q4.2.1 _ hy31) E [0] E E ?_
  rintro ⟨a32,c33,a34,c35⟩ -
  refine aP aA 8 [] [19] [(8,.bp 19 0),(9,.v (.slice a34 y29.length c35)),(10,.v (.bool y30))] (.new 7 46 (aI x0 q4) (.new 8 46 bF (.new 19 38 [.slice a32 y28.1.length c33,.int .i64 y28.2] .nil))) E ⟨(Es E),(Bs E E)⟩ (aD E (JS.seq (aC aA 7 [(26,.v (.bool (bif (!y30) then true else (decide ((y29.length:Int)=0)))))] ⟨⟨E,V⟩,E⟩ E E ?_)))
  refine aK E h (fun h=>?_) (fun h=>?_)
  ·
   refine JS.seq (JS.region (aB aA 1 [] [] [(27,.v (.agg (aI x0 q4).toArray))] _ E ⟨⟨E,V⟩,E⟩ ?_))
   obtain ⟨⟨y36,y37⟩,hy38,h⟩:=aE h
   refine JO.call E E E E (gB x0 q4 _ hy38) E [0,1,2,3,4,5] E E fun q39 _=>aP aA 4 [] [] [(7,.v (I y37))] (.new 8 46 (aI y36 q39) .nil) E ⟨⟨E,V⟩,(Bs E E)⟩ (aD E ?_)
   cases h
   exact JS.ret aA q39 V E E [0,0,0,0,0,0] E
  refine JS.skip (JS.seq (JS.region (aB aA 2 [] [] [(31,.v (.agg (aI x0 q4).toArray)),(32,.v (.agg #[.slice a32 y28.1.length c33,.int .i64 y28.2]))] _ E ⟨(Es E),E⟩ ?_)))
  obtain ⟨⟨y51,y52⟩,hy53,h⟩:=aE h
  refine JO.call E E E E (oV x0 y28 q4 a32 c33 _ hy53) E [0,1,2,3,4,5,6] E E fun q54 _=>aP aA 4 [] [] [(7,.v (I y52))] (.new 8 46 (aI y51 q54) .nil) E ⟨⟨E,V⟩,(Bs E E)⟩ (aD E ?_)
  cases h
  exact JS.ret aA q54 V E E [0,0,0,0,0,0] E

def hD (x0:Int) (x1:Int):Option Int:=
  some (max (0:Int) (min x0 x1))

theorem yD (x0:Int) (x1:Int) (r:Int) (h:hD x0 x1=some r) :
  FC Tryz.prog 200 [.int .i64 x0,.int .i64 x1] [] (fun _:Unit=>True) (fun _=>.int .i64 r) (fun _=>[]):=
 by
  refine FC.of (T:=TTx) Tryz.call200 Tryz.func200 E E fun w0=>?_
  unfold hD at h
  refine aC aA 1 [] ⟨V,E⟩ E E (aC aA 5 [(4,.v (I (max (0:Int) (min x0 x1))))] ⟨⟨E,V⟩,E⟩ E E ?_)
  cases h
  exact JS.ret aA () V E E [] E

def iU (x0:Int):Option Bool:=
  (aG (cT x0 65 90) fun (y2:Bool)=>
  some y2)

theorem wX (x0:Int) (r:Bool) (h:iU x0=some r) :
  FC Tryz.prog 261 [.int .i64 x0] [] (fun _:Unit=>True) (fun _=>.bool r) (fun _=>[]):=
 by
  refine FC.of (T:=TTx) Tryz.call261 Tryz.func261 E E fun w0=>?_
  unfold iU at h
  refine aC aA 1 [] ⟨V,E⟩ E E (JS.seq (JS.region (aB aA 1 [] [] [(3,.v (I x0))] _ E ⟨⟨E,V⟩,E⟩ ?_)))
  refine bnw h fun y2 hy3 h=>JO.call E E E E (dV x0 65 90 _ hy3) E [] E E fun _ _=>aB aA 1 [] [] [(2,.v (.bool y2))] _ E ⟨⟨E,V⟩,E⟩ (aD E ?_)
  cases h
  exact JS.ret aA () V E E [] E

def lL (x0:Int):Option Bool:=
  (aG (cT x0 48 57) fun (y2:Bool)=>
  some y2)

theorem aBq (x0:Int) (r:Bool) (h:lL x0=some r) :
  FC Tryz.prog 197 [.int .i64 x0] [] (fun _:Unit=>True) (fun _=>.bool r) (fun _=>[]):=
 by
  refine FC.of (T:=TTx) Tryz.call197 Tryz.func197 E E fun w0=>?_
  unfold lL at h
  refine aC aA 1 [] ⟨V,E⟩ E E (JS.seq (JS.region (aB aA 1 [] [] [(3,.v (I x0))] _ E ⟨⟨E,V⟩,E⟩ ?_)))
  refine bnw h fun y2 hy3 h=>JO.call E E E E (dV x0 48 57 _ hy3) E [] E E fun _ _=>aB aA 1 [] [] [(2,.v (.bool y2))] _ E ⟨⟨E,V⟩,E⟩ (aD E ?_)
  cases h
  exact JS.ret aA () V E E [] E

def fO (x0:Int):Option Int:=
  (bif (bif (bif (decide (x0=9)) then true else (decide (x0=10))) then true else (decide (x0=32))) then
  some 0
  else
  (aG (fN x0) fun (y2:Bool)=>
  (bU (y2=false) (iU x0) false fun (y4:Bool)=>
  (bU ((bif y2 then true else y4)=false) (lL x0) false fun (y7:Bool)=>
  (bU ((decide (159<x0))=true∧(bif (bif (bif y2 then true else y4) then true else y7) then true else (decide (x0=95)))=false) (dS x0) false fun (y10:Bool)=>
  (bif (bif (bif (bif (bif y2 then true else y4) then true else y7) then true else (decide (x0=95))) then true else (bif (decide (159<x0)) then y10 else false)) then
  some 1
  else
  some 2))))))

theorem oW (x0:Int) (r:Int) (h:fO x0=some r) :
  FC Tryz.prog 201 [.int .i64 x0] [] (fun _:Unit=>True) (fun _=>.int .i64 r) (fun _=>[]):=
 by
  refine FC.of (T:=TTx) Tryz.call201 Tryz.func201 E E fun w0=>?_
  unfold fO at h
  refine aC aA 1 [] ⟨V,E⟩ E E (JS.seq (JS.block (aC aA 11 [(3,.v (.bool (bif (bif (decide (x0=9)) then true else (decide (x0=10))) then true else (decide (x0=32)))))] ⟨⟨E,V⟩,E⟩ E E ?_)))
  refine aK E h (fun h=>?_) (fun h=>?_)
  ·
   refine aC aA 1 [(2,.v (I 0))] ⟨⟨E,V⟩,E⟩ E E ?_
   cases h
   exact JS.ret aA () V E E [] E
  refine JS.seq (JS.region (aB aA 1 [] [] [(15,.v (I x0))] _ E ⟨⟨E,V⟩,E⟩ ?_))
  refine bnw h fun y2 hy3 h=>JO.call E E E E (sI x0 _ hy3) E [] E E fun _ _=>aB aA 2 [] [] [(17,.v (.bool y2)),(18,.cd [(17,false)] (.v (I x0)))] _ E ⟨(Es E),E⟩ ?_
  obtain ⟨y4,hy5,-,h⟩:=aV h
  refine bI E E E E (fun q16=>wX x0 _ (hy5 q16)) E [] E E (aB aA 3 [] [] [(21,.v (.bool (bif y2 then true else y4))),(22,.cd [(21,false)] (.v (I x0)))] _ E ⟨(Es E),E⟩ ?_)
  obtain ⟨y7,hy8,-,h⟩:=aV h
  refine bI E E E E (fun q17=>aBq x0 _ (hy8 q17)) E [] E E (aB aA 10 [] [] [(29,.v (.bool (bif (bif (bif y2 then true else y4) then true else y7) then true else (decide (x0=95))))),(32,.cd [(29,false)] (.v (.bool (decide (159<x0))))),(33,.cd [(32,true),(29,false)] (.v (I x0)))] _ E ⟨(Es E),E⟩ ?_)
  obtain ⟨y10,hy11,-,h⟩:=aV h
  refine bI E E E E (fun q18 q19=>kM x0 _ (hy11 ⟨q18,q19⟩)) E [] E E (aB aA 3 [] [] [(14,.v (.bool (bif (bif (bif (bif y2 then true else y4) then true else y7) then true else (decide (x0=95))) then true else (bif (decide (159<x0)) then y10 else false))))] _ E ⟨⟨E,V⟩,E⟩ (aD E ?_))
  refine aK E h (fun h=>?_) (fun h=>?_)
  ·
   refine aC aA 1 [(2,.v (I 1))] ⟨⟨E,V⟩,E⟩ E E ?_
   cases h
   exact JS.ret aA () V E E [] E
  refine JS.skip (aZ (aC aA 1 [(2,.v (I 2))] ⟨⟨E,V⟩,E⟩ E E ?_))
  cases h
  exact JS.ret aA () V E E [] E

def lO (x0:List Int) (x1:Int) (x2:Bool):Option Int:=
  (aN (0≤x1∧x1<(x0.length:Int)) <|
  (aG (fO (at' x0 x1)) fun (y10:Int)=>
  (bif (bif x2 then (decide (y10=2)) else false) then
  some 1
  else
  some y10)))

theorem wY (x0:List Int) (x1:Int) (x2:Bool) (a4:Option Addr) (c5:Nat) (r:Int) (h:lO x0 x1 x2=some r):
  FC Tryz.prog 288 [.slice a4 x0.length c5,.int .i64 x1,.bool x2] [⟨(.int .i64),⟨a4,x0.length,c5⟩,x0⟩] (fun _:Unit=>True) (fun _=>.int .i64 r) (fun _=>[]):=
 by
  refine FC.of (T:=TTx) Tryz.call288 Tryz.func288 E E fun w0=>?_
  unfold lO at h
  refine aC aA 1 [] ⟨V,E⟩ E E (JS.seq (JS.region (bJ 0 E fun hs13=>?_)))
  obtain ⟨g9,h⟩:=aH h
  refine aB aA 3 [] [] [(10,.ep ⟨a4,x0.length,c5⟩ (Int.toNat x1*1))] _ E ⟨hs13.ix g9,⟨E,V⟩,E⟩ (JO.load aA E E E E E E E 0 E E (Int.toNat x1) 0 (at' x0 x1) ⟨bD g9,E⟩ E E ?_)
  refine bnw h fun y10 hy11 h=>JO.call E E E E (oW (at' x0 x1) _ hy11) E [] E E fun _ _=>aB aA 1 [] [] [(7,.v (I y10))] _ E ⟨⟨E,V⟩,E⟩ (aD E (JS.seq (aC aA 5 [(17,.v (.bool (bif x2 then (decide (y10=2)) else false)))] ⟨⟨E,V⟩,E⟩ E E ?_)))
  refine aK E h (fun h=>?_) (fun h=>?_)
  ·
   refine aC aA 1 [(6,.v (I 1))] ⟨⟨E,V⟩,E⟩ E E ?_
   cases h
   exact JS.ret aA () V E E [] E
  refine JS.skip (aC aA 2 [(6,.v (I y10))] ⟨⟨E,V⟩,E⟩ E E ?_)
  cases h
  exact JS.ret aA () V E E [] E

def gP (x0:List Int) (x2:Bool) (j22:Int→Option Int) (k16:Int→Option Int):Int→Option Int:=fun x10=>
  (bU ((decide (0<x10))=true) (lO x0 (W (x10 - 1)) x2) (0:Int) fun (y12:Int)=>
  (bif (bif (decide (0<x10)) then (decide (y12=0)) else false) then
  k16 (W (x10 - 1))
  else
  j22 x10))

def gO (x0:List Int) (x2:Bool) (y26:Int) (j40:Int→Option Int) (k34:Int→Option Int):Int→Option Int:=fun x28=>
  (bU ((decide (0<x28))=true) (lO x0 (W (x28 - 1)) x2) (0:Int) fun (y30:Int)=>
  (bif (bif (decide (0<x28)) then (decide (y30=y26)) else false) then
  k34 (W (x28 - 1))
  else
  j40 x28))

def lR (x0:List Int) (x1:Int) (x2:Bool):Option Int:=
  (aG (hD x1 (x0.length:Int)) fun (y8:Int)=>
  (aU (fun (x21:Int)=>
  (bif (decide (x21=0)) then
  some 0
  else
  (aG (lO x0 (W (x21 - 1)) x2) fun (y26:Int)=>
  (aU (fun (x39:Int)=>
  some x39) fun j40=>
  (bC (gO x0 x2 y26 j40) bM x21))))) fun j22=>
  (bC (gP x0 x2 j22) bM y8)))

theorem aDw (x0:List Int) (x1:Int) (x2:Bool) (a4:Option Addr) (c5:Nat) (r:Int) (h:lR x0 x1 x2=some r):
  FC Tryz.prog 246 [.slice a4 x0.length c5,.int .i64 x1,.bool x2] [⟨(.int .i64),⟨a4,x0.length,c5⟩,x0⟩] (fun _:Unit=>True) (fun _=>.int .i64 r) (fun _=>[]):=
 by
  refine FC.of (T:=TTx) Tryz.call246 Tryz.func246 E E fun w0=>?_
  unfold lR at h
  refine aC aA 1 [] ⟨V,E⟩ E E (JS.seq (JS.region (aB aA 3 [] [] [(8,.v (I x1)),(10,.v (I (x0.length:Int)))] _ E ⟨(Es E),E⟩ ?_)))
  refine bnw h fun y8 hy9 h=>JO.call E E E E (yD x1 (x0.length:Int) _ hy9) E [] E E fun _ _=>aB aA 1 [] [] [(1,.v (I y8))] _ E ⟨⟨E,V⟩,E⟩ (aD E (JS.seq ?_))
  obtain ⟨j22,hj55,h⟩:=aQ h
  refine bA (ι:=Int) ⟨fun z=>j22 z=some r,fun z=>[(0,.v (.slice a4 x0.length c5)),(1,.v (I z)),(2,.v (.bool x2))],fun z=>.nil,fun z=>[⟨(.int .i64),⟨a4,x0.length,c5⟩,x0⟩],fun z=>[],fun z=>0⟩ ?_ ?_
  ·
   refine JS.loop (ι:=Nat×Int) ⟨fun z=>bC (gP x0 x2 j22) z.1 z.2=some r,fun z=>[(0,.v (.slice a4 x0.length c5)),(1,.v (I z.2)),(2,.v (.bool x2))],fun z=>.nil,fun z=>[⟨(.int .i64),⟨a4,x0.length,c5⟩,x0⟩],fun z=>[],fun z=>z.1⟩ (bM,y8) h (Es E) V [0] E [] E ?_
   rintro ⟨n17,x10⟩ h
   obtain ⟨n17,rfl,h⟩:=bH h
   rw [gP] at h
   refine JS.seq (JS.seq (JS.region (aB aA 7 [(W (x10 - 1))] [] [(14,.v (.bool (decide (0<x10)))),(15,.cd [(14,true)] (.v (.slice a4 x0.length c5))),(17,.cd [(14,true)] (.v (I (W (x10 - 1))))),(18,.cd [(14,true)] (.v (.bool x2)))] _ E ⟨(fun q47=>⟨V,E⟩),(Es E),E⟩ ?_)))
   obtain ⟨y12,hy13,-,h⟩:=aV h
   refine bI E E E E (fun q48=>wY x0 (W (x10 - 1)) x2 a4 c5 _ (hy13 q48)) E [0] E E (aB aA 2 [] [] [(21,.v (.bool (bif (decide (0<x10)) then (decide (y12=0)) else false)))] _ E ⟨⟨E,V⟩,E⟩ (aD E ?_))
   refine aK E h (fun h=>?_) (fun h=>?_)
   ·
    refine JS.skip (JS.block (bZ aA 3 [(W (x10 - 1))] [] [(1,.v (I (W (x10 - 1))))] _ ⟨⟨V,E⟩,⟨E,V⟩,E⟩ E E (aZ (bQ (n17,(W (x10 - 1))) h (Nat.lt_succ_self _) (Es E) V [0] E [] E))))
   refine JS.exit E (aT x10 h (Es E) V [0] E [] E)
  rintro x21 h
  subst hj55
  refine JS.seq (aC aA 2 [(25,.v (.bool (decide (x21=0))))] ⟨⟨E,V⟩,E⟩ E E ?_)
  refine aK E h (fun h=>?_) (fun h=>?_)
  ·
   refine aC aA 1 [(6,.v (I 0))] ⟨⟨E,V⟩,E⟩ E E ?_
   cases h
   exact JS.ret aA () V E E [] E
  refine JS.skip (JS.seq (JS.region (aB aA 4 [(W (x21 - 1))] [] [(26,.v (.slice a4 x0.length c5)),(28,.v (I (W (x21 - 1)))),(29,.v (.bool x2))] _ E ⟨⟨V,E⟩,(Es E),E⟩ ?_)))
  refine bnw h fun y26 hy27 h=>JO.call E E E E (wY x0 (W (x21 - 1)) x2 a4 c5 _ hy27) E [0] E E fun _ _=>aB aA 1 [] [] [(7,.v (I y26))] _ E ⟨⟨E,V⟩,E⟩ (aD E (JS.seq ?_))
  obtain ⟨j40,hj53,h⟩:=aQ h
  refine bA (ι:=Int) ⟨fun z=>j40 z=some r,fun z=>[(1,.v (I z))],fun z=>.nil,fun z=>[],fun z=>[],fun z=>0⟩ ?_ ?_
  ·
   refine JS.loop (ι:=Nat×Int) ⟨fun z=>bC (gO x0 x2 y26 j40) z.1 z.2=some r,fun z=>[(0,.v (.slice a4 x0.length c5)),(1,.v (I z.2)),(2,.v (.bool x2)),(7,.v (I y26))],fun z=>.nil,fun z=>[⟨(.int .i64),⟨a4,x0.length,c5⟩,x0⟩],fun z=>[],fun z=>z.1⟩ (bM,x21) h (Es E) V [0] E [] E ?_
   rintro ⟨n35,x28⟩ h
   obtain ⟨n35,rfl,h⟩:=bH h
   rw [gO] at h
   refine JS.seq (JS.seq (JS.region (aB aA 7 [(W (x28 - 1))] [] [(33,.v (.bool (decide (0<x28)))),(34,.cd [(33,true)] (.v (.slice a4 x0.length c5))),(36,.cd [(33,true)] (.v (I (W (x28 - 1))))),(37,.cd [(33,true)] (.v (.bool x2)))] _ E ⟨(fun q50=>⟨V,E⟩),(Es E),E⟩ ?_)))
   obtain ⟨y30,hy31,-,h⟩:=aV h
   refine bI E E E E (fun q51=>wY x0 (W (x28 - 1)) x2 a4 c5 _ (hy31 q51)) E [0] E E (aB aA 3 [] [] [(41,.v (.bool (bif (decide (0<x28)) then (decide (y30=y26)) else false)))] _ E ⟨⟨E,V⟩,E⟩ (aD E ?_))
   refine aK E h (fun h=>?_) (fun h=>?_)
   ·
    refine JS.skip (JS.block (bZ aA 3 [(W (x28 - 1))] [] [(1,.v (I (W (x28 - 1))))] _ ⟨⟨V,E⟩,⟨E,V⟩,E⟩ E E (aZ (bQ (n35,(W (x28 - 1))) h (Nat.lt_succ_self _) (Es E) V [0] E [] E))))
   refine JS.exit E (aT x28 h ⟨E,V⟩ V [] E [] E)
  rintro x39 h
  subst hj53
  refine aC aA 2 [(6,.v (I x39))] ⟨⟨E,V⟩,E⟩ E E ?_
  cases h
  exact JS.ret aA () V E E [] E

def rX (x0:List (List Int)) (x1:List Int) (x2:Int):Option (List (List Int)×Bool):=
  (aG (lT x0) fun (y12:Bool)=>
  (bU ((!y12)=false) (cT x2 0 2) false fun (y14:Bool)=>
  (bU ((bif (!y12) then true else (!y14))=false) (dY x1) false fun (y17:Bool)=>
  (bif (bif (bif (!y12) then true else (!y14)) then true else (!y17)) then
  some ([],false)
  else
  (aG (jE x0) fun (y20:List (List Int))=>
  (aU (fun (x73:List (List Int))=>
  some (x73,true)) fun j76=>
  (bif (decide ((x1.length:Int)=0)) then
  j76 y20
  else
  (aN (((bif (decide (x2=0)) then true else (decide ((y20.length:Int)=0)))=false)→0≤(0:Int)∧0<(y20.length:Int)) <|
  (bif (bif (bif (decide (x2=0)) then true else (decide ((y20.length:Int)=0))) then true else (decide (400<(W (((at' y20 0).length:Int)+(x1.length:Int)))))) then
  (aG (cJ x1) fun (y34:List Int)=>
  (aN (([y34]:List (List Int)).length+y20.length≤536870912) <|
  (aN (0≤(0:Int)∧(0:Int)≤(min ((([y34]:List (List Int)) ++ y20).length:Int) 6)∧(min ((([y34]:List (List Int)) ++ y20).length:Int) 6)≤((([y34]:List (List Int)) ++ y20).length:Int)) <|
  j76 (bN (([y34]:List (List Int)) ++ y20) 0 (min ((([y34]:List (List Int)) ++ y20).length:Int) 6)))))
  else
  (bif (decide (x2=1)) then
  (aN (0≤(0:Int)∧0<(y20.length:Int)) <|
  (aN ((at' y20 0).length+x1.length≤536870912) <|
  (aN (0≤(0:Int)∧0<(y20.length:Int)) <|
  j76 (List.set y20 (Int.toNat 0) ((at' y20 0) ++ x1)))))
  else
  (aG (cJ x1) fun (y56:List Int)=>
  (aN (0≤(0:Int)∧0<(y20.length:Int)) <|
  (aN (y56.length+(at' y20 0).length≤536870912) <|
  (aN (0≤(0:Int)∧0<(y20.length:Int)) <|
  j76 (List.set y20 (Int.toNat 0) (y56 ++ (at' y20 0)))))))))))))))))

theorem aIw (x0:List (List Int)) (x1:List Int) (x2:Int) (a4:Option Addr) (c5:Nat) (a8:Option Addr) (c9:Nat) (r:List (List Int)×Bool) (h:rX x0 x1 x2=some r):
  FC Tryz.prog 204 [.agg #[.slice a4 x0.length c5],.slice a8 x1.length c9,.int .i64 x2] [⟨(.sl (.int .i64)),⟨a4,x0.length,c5⟩,x0⟩,⟨(.int .i64),⟨a8,x1.length,c9⟩,x1⟩] (fun _:Option Addr×Nat=>True) (fun q=>.tuple #[.agg #[.slice q.1 r.1.length q.2],.bool r.2]) (fun q=>[⟨(.sl (.int .i64)),⟨q.1,r.1.length,q.2⟩,r.1⟩]):=
 by
  refine FC.of (T:=TTx) Tryz.call204 Tryz.func204 E E fun w0=>?_
  unfold rX at h
  refine aL aA 3 [] [3,4] [(3,.bp 3 0),(6,.bp 4 0)] (.new 3 41 [.slice a4 x0.length c5] (.new 4 41 [.slice none 0 0] .nil)) ⟨(Es E),(Bs E E)⟩ E E (JS.seq (JS.seq (JS.region (aB aA 1 [] [] [(9,.v (.agg #[.slice a4 x0.length c5]))] _ E ⟨⟨E,V⟩,E⟩ ?_))))
  refine bnw h fun y12 hy13 h=>JO.call E E E E (uO x0 a4 c5 _ hy13) E [0] E E fun _ _=>aB aA 3 [] [] [(12,.v (.bool (!y12))),(13,.cd [(12,false)] (.v (I x2)))] _ E ⟨(Es E),E⟩ ?_
  obtain ⟨y14,hy15,-,h⟩:=aV h
  refine bI E E E E (fun q87=>dV x2 0 2 _ (hy15 q87)) E [] E E (aB aA 4 [] [] [(17,.v (.bool (bif (!y12) then true else (!y14)))),(18,.cd [(17,false)] (.v (.slice a8 x1.length c9)))] _ E ⟨(Es E),E⟩ ?_)
  obtain ⟨y17,hy18,-,h⟩:=aV h
  refine bI E E E E (fun q88=>nQ x1 a8 c9 _ (hy18 q88)) E [1] E E (aB aA 2 [] [] [(21,.v (.bool (bif (bif (!y12) then true else (!y14)) then true else (!y17))))] _ E ⟨⟨E,V⟩,E⟩ (aD E ?_))
  refine aK E h (fun h=>?_) (fun h=>?_)
  ·
   refine aL aA 3 [] [] [(7,.v (.bool false))] (.new 4 41 [.slice none 0 0] .nil) ⟨⟨E,V⟩,(Bs E E)⟩ E E ?_
   cases h
   refine aX (.sl (.int .i64)) Sl.nil E E (JS.ret aA (none,0) V E E [0] E)
  refine JS.skip (JS.seq (JS.region (aB aA 1 [] [] [(23,.v (.agg #[.slice a4 x0.length c5]))] _ E ⟨⟨E,V⟩,E⟩ ?_)))
  refine bnw h fun y20 hy21 h=>JO.call E E E E (vE x0 a4 c5 _ hy21) E [0] E E ?_
  rintro ⟨a22,c23⟩ -
  refine aP aA 2 [] [16] [(8,.bp 16 0)] (.new 4 41 [.slice none 0 0] (.new 16 41 [.slice a22 y20.length c23] .nil)) E ⟨⟨E,V⟩,(Bs E E)⟩ (aD E (JS.seq ?_))
  obtain ⟨j76,hj97,h⟩:=aQ h
  refine bA (ι:=List (List Int)×Option Addr×Nat) ⟨fun z=>j76 z.1=some r,fun z=>[(6,.bp 4 0),(8,.bp 16 0)],fun z=>(.new 4 41 [.slice none 0 0] (.new 16 41 [.slice z.2.1 z.1.length z.2.2] .nil)),fun z=>[],fun z=>[⟨(.sl (.int .i64)),⟨z.2.1,z.1.length,z.2.2⟩,z.1⟩],fun z=>0⟩ ?_ ?_
  ·
   refine aC aA 4 [(37,.v (.bool (decide ((x1.length:Int)=0))))] ⟨⟨E,V⟩,E⟩ E E ?_
   refine aK E h (fun h=>?_) (fun h=>?_)
   ·
    refine JS.skip (aZ (aT (y20,a22,c23) h (Es E) (Bs E E) [] E [0] E))
   refine JS.seq (JS.region (bJ 2 E fun hs89=>?_))
   obtain ⟨g25,h⟩:=aH h
   refine aB aA 13 [] [] [(50,.v (.bool (bif (decide (x2=0)) then true else (decide ((y20.length:Int)=0))))),(54,.cd [(50,false)] (.ep ⟨a22,y20.length,c23⟩ (Int.toNat 0*1)))] _ E ⟨(fun q90=>hs89.ix (g25 q90)),(fun q91=>hs89.fa (g25 q91)),(Es E),E⟩ (uW [0] E (Int.toNat 0) (at' y20 0) E fun a28 c29 l30 hl31=>?_)
   obtain rfl:([.slice a28 (at' y20 0).length c29]:List Value)=l30:=Option.some.inj hl31
   refine cP aA E E E E E E 2 E E (Int.toNat 0) 0 (Sum.inr [.slice a28 (at' y20 0).length c29]) (fun q92=>⟨mQ (bD (g25 q92)),E⟩) E E E (aB aA 7 [(W (((at' y20 0).length:Int)+(x1.length:Int)))] [] [(41,.v (.bool (bif (bif (decide (x2=0)) then true else (decide ((y20.length:Int)=0))) then true else (decide (400<(W (((at' y20 0).length:Int)+(x1.length:Int))))))))] _ E ⟨(fun q93=>⟨V,E⟩),⟨E,V⟩,E⟩ (aA9 [0,0] E (at' y20 0) E ⟨E,E,E⟩ (aD E ?_)))
   refine aK E h (fun h=>?_) (fun h=>?_)
   ·
    refine JS.seq ?_
    obtain ⟨y34,hy35,h⟩:=aE h
    obtain ⟨g39,h⟩:=aH h
    refine bB E (.new 16 41 [.slice a22 y20.length c23] .nil) [] [6,7,8] ⟨E,E,E,E,V⟩ E (fun be42=>?_)
    refine bR aA aF true 6 [0,4,5] E (by kernel_rfl) [] [(62,.v (.slice a8 x1.length c9)),(67,.v (.slice a22 y20.length c23))] ⟨E,E,E,E,V⟩ [] E E (Es E) (JA.one 1 (by kernel_rfl) (JK.call E E E E (cZ x1 a8 c9 _ hy35) E [1] E E ?_))
    rintro ⟨a36,c37⟩ -
    refine aR ⟨E,E,E,E,V⟩ [] E (bR aA aF true 4 [2] E (by kernel_rfl) [] [(64,.v (.agg #[.slice a36 y34.length c37]))] ⟨E,E,E,E,V⟩ [] E E ⟨E,V⟩ (JA.one 3 (by kernel_rfl) (JK.buildSlice aA E E E E E E E E E E E [0] E (.sl (.int .i64)) [y34] ⟨E,E,E⟩ E E fun a38=>aR ⟨E,E,E,E,V⟩ [] E (JA.one 6 (by kernel_rfl) (gS aA E E E E ⟨E,E,E,E,V,E,E,E,E⟩ E E [0,0] E g39 E fun a40 c41=>aM E (aS aA aF 1 [7] E (by kernel_rfl) [] [(69,.bp 16 0)] E ⟨E,V⟩ (JA.one 8 (by kernel_rfl) (aY aA E E E E E E E E (aM E (bE (by kernel_rfl) (aW (B':=(.new 4 41 [.slice none 0 0] (.new 16 41 [.slice a40 (([y34]:List (List Int)) ++ y20).length c41] .nil))) (Bs E E) (JS.region (aB aA 6 [] [] [(71,.v (.slice a40 (([y34]:List (List Int)) ++ y20).length c41)),(75,.v (I (min ((([y34]:List (List Int)) ++ y20).length:Int) 6)))] _ E ⟨(Es E),E⟩ ?_)))))))))))))
    obtain ⟨g43,h⟩:=aH h
    refine xI aA E E E E E E E E [0] E (0:Int) (min ((([y34]:List (List Int)) ++ y20).length:Int) 6) E E g43 E fun a44 c45=>aP aA 2 [] [] [] (.new 4 41 [.slice none 0 0] (.new 16 41 [.slice a44 (bN (([y34]:List (List Int)) ++ y20) 0 (min ((([y34]:List (List Int)) ++ y20).length:Int) 6)).length c45] .nil)) E ⟨V,(Bs E E)⟩ (aD E (aZ (aT ((bN (([y34]:List (List Int)) ++ y20) 0 (min ((([y34]:List (List Int)) ++ y20).length:Int) 6)),a44,c45) h (Es E) (Bs E E) [] E [0] E)))
   refine aC aA 3 [(78,.v (.bool (decide (x2=1))))] ⟨⟨E,V⟩,E⟩ E E ?_
   refine aK E h (fun h=>?_) (fun h=>?_)
   ·
    obtain ⟨g46,h⟩:=aH h
    obtain ⟨g51,h⟩:=aH h
    obtain ⟨g54,h⟩:=aH h
    refine vM (id:=0) (uW [0] E (Int.toNat 0) (at' y20 0) E ?_)
    intro a47 c48 l49 hl50
    obtain rfl:([.slice a47 (at' y20 0).length c48]:List Value)=l49:=Option.some.inj hl50
    refine vN ?_
    refine bB E (.new 16 41 [.slice a22 y20.length c23] .nil) [2] [9,10,11] ⟨E,E,E,E,V⟩ E (fun be55=>?_)
    refine bR aA aF true 5 [0,1,2,3,4,5,7] E (by kernel_rfl) [] [(82,.v (.slice a22 y20.length c23)),(86,.ep ⟨a22,y20.length,c23⟩ (Int.toNat 0*1)),(88,.v (.slice a8 x1.length c9))] ⟨E,E,E,E,V⟩ [2] E E ⟨hs89.ix g46,hs89.fa g46,(Es E)⟩ (uF aA aF 6 E (by kernel_rfl) E E E E E 0 E E (Int.toNat 0) 0 (Sum.inr [.slice a47 (at' y20 0).length c48]) ⟨mQ (bD g46),E⟩ E E E ⟨E,E,E,E,V⟩ [2] E (JA.one 8 (by kernel_rfl) (cY aA E E E E ⟨E,E,E,E,V,E,E,E,E⟩ E E E [1] E 1 E g51 E fun a52 c53=>aR ⟨E,E,E,E,V⟩ [3] E (aS aA aF 1 [9,10] E (by kernel_rfl) [] [(91,.ep ⟨a22,y20.length,c23⟩ (Int.toNat 0*1))] E ⟨hs89.ix g54,hs89.fa g54,⟨E,V⟩⟩ (JA.one 11 (by kernel_rfl) (aHz aA E E E E E E E E E [1] E 0 [.slice a52 ((at' y20 0) ++ x1).length c53] (mQ (bD g54)) E ⟨E,E,E⟩ (aM E (bE (by kernel_rfl) (aW (B':=(.new 4 41 [.slice none 0 0] (.new 16 41 [.slice a22 y20.length c23] .nil))) (Bs E E) ?_)))))))))
    refine vM (id:=0) (wJ [0,0] E ((at' y20 0) ++ x1) ⟨E,E,E⟩ (vN ?_))
    refine aZ (aT ((List.set y20 (Int.toNat 0) ((at' y20 0) ++ x1)),a22,c23) h (Es E) ⟨E,E,E,E,E,(congrArg (fun n=>([.slice a22 n c23]:List Value)) (List.length_set.trans E)),E,E,V⟩ [] E [0] (by simp only [List.length_set,List.length_replicate,bY,dN,oP,oO];rfl))
   obtain ⟨y56,hy57,h⟩:=aE h
   obtain ⟨g60,h⟩:=aH h
   obtain ⟨g65,h⟩:=aH h
   obtain ⟨g68,h⟩:=aH h
   refine vM (id:=0) (uW [0] E (Int.toNat 0) (at' y20 0) E ?_)
   intro a61 c62 l63 hl64
   obtain rfl:([.slice a61 (at' y20 0).length c62]:List Value)=l63:=Option.some.inj hl64
   refine vN ?_
   refine bB E (.new 16 41 [.slice a22 y20.length c23] .nil) [2] [10,11,12] ⟨E,E,E,E,V⟩ E (fun be69=>?_)
   refine bR aA aF true 6 [0,1,2,4,5,6,7] E (by kernel_rfl) [] [(26,.v (.slice a22 y20.length c23)),(27,.v (.slice a8 x1.length c9)),(32,.ep ⟨a22,y20.length,c23⟩ (Int.toNat 0*1))] ⟨E,E,E,E,V⟩ [2] E E ⟨hs89.ix g60,hs89.fa g60,(Es E)⟩ (uF aA aF 8 E (by kernel_rfl) E E E E E 0 E E (Int.toNat 0) 0 (Sum.inr [.slice a61 (at' y20 0).length c62]) ⟨mQ (bD g60),E⟩ E E E ⟨E,E,E,E,V⟩ [2] E (JA.one 3 (by kernel_rfl) (JK.call E E E E (cZ x1 a8 c9 _ hy57) E [1] E E ?_)))
   rintro ⟨a58,c59⟩ -
   refine aR ⟨E,E,E,E,V⟩ [3] E (JA.one 9 (by kernel_rfl) (cY aA E E E E ⟨E,E,E,E,V,E,E,E,E⟩ E E E [0] E 4 E g65 E fun a66 c67=>aR ⟨E,E,E,E,V⟩ [3] E (aS aA aF 1 [10,11] E (by kernel_rfl) [] [(36,.ep ⟨a22,y20.length,c23⟩ (Int.toNat 0*1))] E ⟨hs89.ix g68,hs89.fa g68,⟨E,V⟩⟩ (JA.one 12 (by kernel_rfl) (aHz aA E E E E E E E E E [1] E 0 [.slice a66 (y56 ++ (at' y20 0)).length c67] (mQ (bD g68)) E ⟨E,E,E⟩ (aM E (bE (by kernel_rfl) (aW (B':=(.new 4 41 [.slice none 0 0] (.new 16 41 [.slice a22 y20.length c23] .nil))) (Bs E E) ?_))))))))
   refine vM (id:=0) (wJ [0,0] E (y56 ++ (at' y20 0)) ⟨E,E,E⟩ (vN ?_))
   refine aZ (aT ((List.set y20 (Int.toNat 0) (y56 ++ (at' y20 0))),a22,c23) h (Es E) ⟨E,E,E,E,E,(congrArg (fun n=>([.slice a22 n c23]:List Value)) (List.length_set.trans E)),E,E,V⟩ [] E [0] (by simp only [List.length_set,List.length_replicate,bY,dN,oP,oO];rfl))
  rintro ⟨x73,a74,c75⟩ h
  subst hj97
  refine aL aA 3 [] [] [(7,.v (.bool true))] (.new 4 41 [.slice a74 x73.length c75] .nil) ⟨⟨E,V⟩,(Bs E E)⟩ E E ?_
  cases h
  exact JS.ret aA (a74,c75) V E E [0] E

def nI (x0:EdQ) (x1:Int) (x2:Int) (x3:Int):Option (EdQ×Int):=
  (aG (lU x0.2.2.1 x1 x2) fun (y29,y30,y31)=>
  (bif (bif (!y31) then true else (decide ((y30.length:Int)=0))) then
  (aG (eC x0) fun (y37,y38)=>
  some (y37,y38))
  else
  (aU (fun (x53:Int)=>
  (aG (sQ x0 y29 2) fun (y56:EdQ)=>
  (aG (rX x0.2.2.2.2.2.2.2.2.2.2.1 y30 x53) fun (y70,y71)=>
  some ((y56.1,y56.2.1,y56.2.2.1,y56.2.2.2.1,y56.2.2.2.2.1,y56.2.2.2.2.2.1,y56.2.2.2.2.2.2.1,y56.2.2.2.2.2.2.2.1,y56.2.2.2.2.2.2.2.2.1,y56.2.2.2.2.2.2.2.2.2.1,y70,y56.2.2.2.2.2.2.2.2.2.2.2.1,y56.2.2.2.2.2.2.2.2.2.2.2.2.1,y56.2.2.2.2.2.2.2.2.2.2.2.2.2.1,y56.2.2.2.2.2.2.2.2.2.2.2.2.2.2.1,y56.2.2.2.2.2.2.2.2.2.2.2.2.2.2.2.1,y56.2.2.2.2.2.2.2.2.2.2.2.2.2.2.2.2),0)))) fun j54=>
  (bif (!(decide (x0.2.2.2.2.2.2.2.2.2.1=2))) then
  j54 0
  else
  j54 x3))))

theorem vS (x0:EdQ) (x1:Int) (x2:Int) (x3:Int) (q5:P6) (r:EdQ×Int) (h:nI x0 x1 x2 x3=some r):
  FC Tryz.prog 117 [.agg (cC x0 q5).toArray,.int .i64 x1,.int .i64 x2,.int .i64 x3] (bW x0 q5 []) (fun _:P6=>True) (fun q=>.tuple #[.agg (aI r.1 q).toArray,.int .i64 r.2]) (fun q=>(bW r.1 q [])):=
 by
  refine FC.of (T:=TTx) Tryz.call117 Tryz.func117 E E fun w0=>?_
  unfold nI at h
  refine aL aA 3 [] [7,8] [(4,.bp 7 0),(8,.bp 8 0)] (.new 7 46 (aI x0 q5) (.new 8 46 bF .nil)) ⟨(Es E),(Bs E E)⟩ E E (JS.seq (JS.region (aB aA 4 [] [] [(16,.v (.agg #[.slice q5.1 x0.2.2.1.1.length q5.2.1,.int .i64 x0.2.2.1.2])),(17,.v (I x1)),(18,.v (I x2))] _ E ⟨(Es E),E⟩ ?_)))
  obtain ⟨⟨y29,y30,y31⟩,hy32,h⟩:=aE h
  refine JO.call E E E E (wZ x0.2.2.1 x1 x2 q5.1 q5.2.1 _ hy32) E [0] E E ?_
  rintro ⟨a33,c34,a35,c36⟩ -
  refine aP aA 8 [] [19] [(10,.bp 19 0),(11,.v (.slice a35 y30.length c36)),(12,.v (.bool y31))] (.new 7 46 (aI x0 q5) (.new 8 46 bF (.new 19 38 [.slice a33 y29.1.length c34,.int .i64 y29.2] .nil))) E ⟨(Es E),(Bs E E)⟩ (aD E (JS.seq (aC aA 7 [(29,.v (.bool (bif (!y31) then true else (decide ((y30.length:Int)=0)))))] ⟨⟨E,V⟩,E⟩ E E ?_)))
  refine aK E h (fun h=>?_) (fun h=>?_)
  ·
   refine JS.seq (JS.region (aB aA 1 [] [] [(30,.v (.agg (aI x0 q5).toArray))] _ E ⟨⟨E,V⟩,E⟩ ?_))
   obtain ⟨⟨y37,y38⟩,hy39,h⟩:=aE h
   refine JO.call E E E E (gB x0 q5 _ hy39) E [0,1,2,3,4,5] E E fun q40 _=>aP aA 4 [] [] [(9,.v (I y38))] (.new 8 46 (aI y37 q40) .nil) E ⟨⟨E,V⟩,(Bs E E)⟩ (aD E ?_)
   cases h
   exact JS.ret aA q40 V E E [0,0,0,0,0,0] E
  refine JS.skip ?_
  obtain ⟨j54,hj78,h⟩:=aQ h
  refine dM (ι:=Int) ⟨fun z=>j54 z=some r,fun z=>[(3,.v (I z)),(4,.bp 7 0),(8,.bp 8 0),(10,.bp 19 0),(11,.v (.slice a35 y30.length c36))],fun z=>(.new 7 46 (aI x0 q5) (.new 8 46 bF (.new 19 38 [.slice a33 y29.1.length c34,.int .i64 y29.2] .nil))),fun z=>(bW x0 q5 []),fun z=>[⟨(.int .i64),⟨a35,y30.length,c36⟩,y30⟩,⟨(.int .i64),⟨a33,y29.1.length,c34⟩,y29.1⟩],fun z=>0⟩ ?_ ?_
  ·
   refine aC aA 3 [(36,.v (.bool (!(decide ((Q8 x0).2.1=2)))))] ⟨⟨E,V⟩,E⟩ E E ?_
   refine aK E h (fun h=>?_) (fun h=>?_)
   ·
    refine vL aA 1 [(3,.v (I 0))] ⟨⟨E,V⟩,E⟩ E E (aT 0 h (Es E) (Bs E E) [0,1,2,3,4,5] E [1,0] E)
   refine JS.skip (aT x3 h (Es E) (Bs E E) [0,1,2,3,4,5] E [1,0] E)
  rintro x53 h
  subst hj78
  refine JS.seq (JS.region (aB aA 2 [] [] [(37,.v (.agg (aI x0 q5).toArray)),(38,.v (.agg #[.slice a33 y29.1.length c34,.int .i64 y29.2]))] _ E ⟨(Es E),E⟩ ?_))
  refine bnw h fun y56 hy57 h=>JO.call E E E E (aBp x0 y29 2 q5 a33 c34 _ hy57) E [0,1,2,3,4,5,7] E E fun q58 _=>aP aA 2 [] [63] [(13,.bp 63 0)] (.new 7 46 (aI x0 q5) (.new 8 46 bF (.new 63 46 (aI y56 q58) .nil))) E ⟨⟨E,V⟩,(Bs E E)⟩ (aD E (JS.seq (JS.region (aB aA 4 [] [] [(42,.v (.agg #[.slice q5.2.2.1 (Q8 x0).2.2.1.length q5.2.2.2.1])),(43,.v (.slice a35 y30.length c36)),(44,.v (I x53))] _ E ⟨(Es E),E⟩ ?_))))
  obtain ⟨⟨y70,y71⟩,hy72,h⟩:=aE h
  refine JO.call E E E E (aIw (Q8 x0).2.2.1 y30 x53 q5.2.2.1 q5.2.2.2.1 a35 c36 _ hy72) E [1,12] E E ?_
  rintro ⟨a73,c74⟩ -
  refine aP aA 5 [] [] [] (.new 8 46 bF (.new 63 46 (aI (U10 y56 y70) (q58.1,q58.2.1,a73,c74,(Q4 q58))) .nil)) E ⟨V,(Bs E E)⟩ (aD E (aL aA 3 [] [] [(9,.v (I 0))] (.new 8 46 (aI (U10 y56 y70) (q58.1,q58.2.1,a73,c74,(Q4 q58))) .nil) ⟨⟨E,V⟩,(Bs E E)⟩ E E ?_))
  cases h
  exact JS.ret aA (U3 (U2 q58 a73) c74) V E E [1,0,1,1,1,1] E

def nH (x0:EdQ) (x1:Int):Option (EdQ×Int×Bool):=
  (aG (fX x0) fun (y27:EdQ)=>
  (aU (fun ((x95,x96):Int×EdQ)=>
  some (x96,x95,true)) fun j109=>
  (bif (decide (x1=99)) then
  j109 (3,y27)
  else
  (bif (decide (x1=108)) then
  j109 (5,y27)
  else
  (bif (decide (x1=100)) then
  (bif (decide (0<(x0.2.2.1.1.length:Int))) then
  (aG (xH x0 x0.2.2.1.2 (min (W (x0.2.2.1.2+(max x0.2.2.2.1 1))) (x0.2.2.1.1.length:Int))) fun (y41,y42)=>
  j109 (y42,y41))
  else
  j109 (4,y27))
  else
  (bif (decide (x1=117)) then
  (aG (nI x0 0 x0.2.2.1.2 2) fun (y57,y58)=>
  j109 (y58,y57))
  else
  (bif (decide (x1=119)) then
  (aG (lR x0.2.2.1.1 x0.2.2.1.2 true) fun (y72:Int)=>
  (aG (nI x0 y72 x0.2.2.1.2 2) fun (y74,y75)=>
  j109 (y75,y74)))
  else
  some ((false,0,([],0),0,0,0,0,0,0,0,[],[],0,([],0),[],0,([],0)),0,false))))))))

theorem aE1 (x0:EdQ) (x1:Int) (q3:P6) (r:EdQ×Int×Bool) (h:nH x0 x1=some r):
  FC Tryz.prog 167 [.agg (cC x0 q3).toArray,.int .i64 x1] (bW x0 q3 []) (fun _:P6=>True) (fun q=>.tuple #[.agg (aI r.1 q).toArray,.int .i64 r.2.1,.bool r.2.2]) (fun q=>(bW r.1 q [])):=
 by
  refine FC.of (T:=TTx) Tryz.call167 Tryz.func167 E E fun w0=>?_
  unfold nH at h
  refine aL aA 4 [] [7,8] [(2,.bp 7 0),(4,.bp 8 0)] (.new 7 46 (aI x0 q3) (.new 8 46 bF .nil)) ⟨(Es E),(Bs E E)⟩ E E (JS.seq (hZ E (by kernel_rfl) (eT aA 8 [] [(7,.v (I x0.2.2.1.2)),(8,.v (I (max x0.2.2.2.1 1)))] E (Es E) (rB E (JS.seq (JS.region (aB aA 1 [] [] [(17,.v (.agg (aI x0 q3).toArray))] _ E ⟨⟨E,V⟩,E⟩ ?_)))))))
  refine bnw h fun y27 hy28 h=>JO.call E E E E (rC x0 q3 _ hy28) E [0,1,2,3,4,5] E E fun q29 _=>aP aA 3 [] [29] [(9,.bp 29 0)] (.new 7 46 (aI x0 q3) (.new 8 46 bF (.new 29 46 (aI y27 q29) .nil))) E ⟨⟨E,V⟩,(Bs E E)⟩ (aD E (JS.seq (aC aA 1 [(19,.v (I x1))] ⟨⟨E,V⟩,E⟩ E E ?_)))
  obtain ⟨j109,hj123,h⟩:=aQ h
  refine bA (ι:=Int×EdQ×P6) ⟨fun z=>j109 (z.1,z.2.1)=some r,fun z=>[(4,.bp 8 0),(9,.bp 29 0),(10,.v (I z.1))],fun z=>(.new 8 46 bF (.new 29 46 (aI z.2.1 z.2.2) .nil)),fun z=>[],fun z=>(bW z.2.1 z.2.2 []),fun z=>0⟩ ?_ ?_
  ·
   refine aC aA 2 [(21,.v (.bool (decide (x1=99))))] ⟨⟨E,V⟩,E⟩ E E ?_
   refine aK E h (fun h=>?_) (fun h=>?_)
   ·
    refine vL aA 1 [(10,.v (I 3))] ⟨⟨E,V⟩,E⟩ E E (aZ (bV (3,y27,q29) h (Es E) (Bs E E) [] E [0,1,2,3,4,5] E E))
   refine aC aA 2 [(23,.v (.bool (decide (x1=108))))] ⟨⟨E,V⟩,E⟩ E E ?_
   refine aK E h (fun h=>?_) (fun h=>?_)
   ·
    refine vL aA 1 [(10,.v (I 5))] ⟨⟨E,V⟩,E⟩ E E (aZ (bV (5,y27,q29) h (Es E) (Bs E E) [] E [0,1,2,3,4,5] E E))
   refine aC aA 2 [(25,.v (.bool (decide (x1=100))))] ⟨⟨E,V⟩,E⟩ E E ?_
   refine aK E h (fun h=>?_) (fun h=>?_)
   ·
    refine aC aA 1 [(10,.v (I 4))] ⟨⟨E,V⟩,E⟩ E E (aC aA 5 [(31,.v (.bool (decide (0<(x0.2.2.1.1.length:Int)))))] ⟨⟨E,V⟩,E⟩ E E ?_)
    refine aK E h (fun h=>?_) (fun h=>?_)
    ·
     refine JS.region (aB aA 10 [(W (x0.2.2.1.2+(max x0.2.2.2.1 1)))] [] [(33,.v (.agg (aI x0 q3).toArray)),(34,.v (I x0.2.2.1.2)),(42,.v (I (min (W (x0.2.2.1.2+(max x0.2.2.2.1 1))) (x0.2.2.1.1.length:Int))))] _ E ⟨⟨V,E⟩,(Es E),E⟩ ?_)
     obtain ⟨⟨y41,y42⟩,hy43,h⟩:=aE h
     refine JO.call E E E E (aE5 x0 x0.2.2.1.2 (min (W (x0.2.2.1.2+(max x0.2.2.2.1 1))) (x0.2.2.1.1.length:Int)) q3 _ hy43) E [0,1,2,3,4,5] E E fun q44 _=>aP aA 5 [] [] [(10,.v (I y42))] (.new 8 46 bF (.new 29 46 (aI y41 q44) .nil)) E ⟨⟨E,V⟩,(Bs E E)⟩ (aD E (aZ (bV (y42,y41,q44) h (Es E) (Bs E E) [] E [0,1,2,3,4,5] E E)))
    refine JS.skip (aZ (bV (4,y27,q29) h (Es E) (Bs E E) [] E [0,1,2,3,4,5] E E))
   refine aC aA 2 [(46,.v (.bool (decide (x1=117))))] ⟨⟨E,V⟩,E⟩ E E ?_
   refine aK E h (fun h=>?_) (fun h=>?_)
   ·
    refine JS.region (aB aA 2 [] [] [(49,.v (.agg (aI x0 q3).toArray)),(50,.v (I x0.2.2.1.2))] _ E ⟨(Es E),E⟩ ?_)
    obtain ⟨⟨y57,y58⟩,hy59,h⟩:=aE h
    refine JO.call E E E E (vS x0 0 x0.2.2.1.2 2 q3 _ hy59) E [0,1,2,3,4,5] E E fun q60 _=>aP aA 5 [] [] [(10,.v (I y58))] (.new 8 46 bF (.new 29 46 (aI y57 q60) .nil)) E ⟨⟨E,V⟩,(Bs E E)⟩ (aD E (aZ (bV (y58,y57,q60) h (Es E) (Bs E E) [] E [0,1,2,3,4,5] E E)))
   refine aC aA 2 [(54,.v (.bool (decide (x1=119))))] ⟨⟨E,V⟩,E⟩ E E ?_
   refine aK E h (fun h=>?_) (fun h=>?_)
   ·
    obtain ⟨y72,hy73,h⟩:=aE h
    obtain ⟨⟨y74,y75⟩,hy76,h⟩:=aE h
    refine bB E (.new 7 46 (aI x0 q3) .nil) [] [7,8,9,10,11,12] ⟨E,E,E,E,V⟩ E (fun be89=>?_)
    refine bR aA aF true 10 [0,4,6] E (by kernel_rfl) [] [(57,.v (.agg (aI x0 q3).toArray)),(61,.v (I x0.2.2.1.2)),(63,.v (I x0.2.2.1.2))] ⟨E,E,E,E,V⟩ [] E E (Es E) (aS aA aF 9 [1] E (by kernel_rfl) [] [(58,.bp 7 2)] E ⟨E,V⟩ (bR aA aF true 7 [2,3] E (by kernel_rfl) [] [(60,.v (.slice q3.1 x0.2.2.1.1.length q3.2.1))] ⟨E,E,E,E,V⟩ [] E E ⟨E,V⟩ (JA.one 5 (by kernel_rfl) (JK.call E E E E (aDw x0.2.2.1.1 x0.2.2.1.2 true q3.1 q3.2.1 _ hy73) E [0] E E fun _ _=>aR ⟨E,E,E,E,V⟩ [] E (JA.one 7 (by kernel_rfl) (JK.call E E E E (vS x0 y72 x0.2.2.1.2 2 q3 _ hy76) E [0,1,2,3,4,5] E E ?_))))))
    rintro q77 -
    refine aM E (aS aA aF 2 [8,9,10] E (by kernel_rfl) [] [(65,.v (.agg (aI y74 q77).toArray)),(66,.v (I y75))] E (Es E) (JA.one 11 (by kernel_rfl) (aY aA E E E E E E E E (aM E (aS aA aF 0 [12] E (by kernel_rfl) [] [(10,.v (I y75))] E ⟨E,V⟩ (bE (by kernel_rfl) (aW (B':=(.new 8 46 bF (.new 29 46 (aI y74 q77) .nil))) (Bs E E) (aZ (bV (y75,y74,q77) h (Es E) (Bs E E) [] E [0,1,2,3,4,5] E E)))))))))
   refine aL aA 4 [] [] [(5,.v (I 0)),(6,.v (.bool false))] (.new 8 46 bF .nil) ⟨(Es E),(Bs E E)⟩ E E ?_
   cases h
   refine aX (.int .i64) Sl.nil E E (aX (.sl (.int .i64)) Sl.nil E E (aX (.pair (.sl (.int .i64)) (.int .i64)) Sl.nil E E (aX (.int .i64) Sl.nil E E (aX (.int .i64) Sl.nil E E (aX (.int .i64) Sl.nil E E (JS.ret aA (none,0,none,0,none,0,none,0,none,0,none,0) V E E [5,4,3,2,1,0] E))))))
  rintro ⟨x95,x96,q97⟩ h
  subst hj123
  refine aL aA 5 [] [] [(5,.v (I x95)),(6,.v (.bool true))] (.new 8 46 (aI x96 q97) .nil) ⟨(Es E),(Bs E E)⟩ E E ?_
  cases h
  exact JS.ret aA q97 V E E [0,0,0,0,0,0] E

def pY (x0:List Int) (x1:Int) (j21:(List Int)→Option (List Int)) (k15:(List Int×Int)→Option (List Int)):(List Int×Int)→Option (List Int):=fun (x7,x10)=>
  (bif (bif (decide (x10<x1)) then (decide ((x7.length:Int)≤400)) else false) then
  (aN (x7.length+x0.length≤536870912) <|
  k15 ((x7 ++ x0),(W (x10+1))))
  else
  j21 x7)

def sZ (x0:List Int) (x1:Int):Option (List Int):=
  (aU (fun (x18:List Int)=>
  some x18) fun j21=>
  (bC (pY x0 x1 j21) bM (([]:List Int),0)))

theorem aE0 (x0:List Int) (x1:Int) (a3:Option Addr) (c4:Nat) (r:List Int) (h:sZ x0 x1=some r):
  FC Tryz.prog 166 [.slice a3 x0.length c4,.int .i64 x1] [⟨(.int .i64),⟨a3,x0.length,c4⟩,x0⟩] (fun _:Option Addr×Nat=>True) (fun q=>.slice q.1 r.length q.2) (fun q=>[⟨(.int .i64),⟨q.1,r.length,q.2⟩,r⟩]):=
 by
  refine FC.of (T:=TTx) Tryz.call166 Tryz.func166 E E fun w0=>?_
  unfold sZ at h
  refine aC aA 1 [] ⟨V,E⟩ E E (aC aA 1 [(5,.v (.slice none 0 0))] ⟨⟨E,V⟩,E⟩ E E (JS.seq (aC aA 1 [(6,.v (I 0))] ⟨⟨E,V⟩,E⟩ E E ?_)))
  obtain ⟨j21,hj25,h⟩:=aQ h
  refine bA (ι:=List Int×Option Addr×Nat) ⟨fun z=>j21 z.1=some r,fun z=>[(5,.v (.slice z.2.1 z.1.length z.2.2))],fun z=>.nil,fun z=>[],fun z=>[⟨(.int .i64),⟨z.2.1,z.1.length,z.2.2⟩,z.1⟩],fun z=>0⟩ ?_ ?_
  ·
   refine aX (.int .i64) Sl.nil E E (JS.loop (ι:=Nat×List Int×Int×Option Addr×Nat) ⟨fun z=>bC (pY x0 x1 j21) z.1 (z.2.1,z.2.2.1)=some r,fun z=>[(0,.v (.slice a3 x0.length c4)),(1,.v (I x1)),(5,.v (.slice z.2.2.2.1 z.2.1.length (Q4 z))),(6,.v (I z.2.2.1))],fun z=>.nil,fun z=>[⟨(.int .i64),⟨a3,x0.length,c4⟩,x0⟩],fun z=>[⟨(.int .i64),⟨z.2.2.2.1,z.2.1.length,(Q4 z)⟩,z.2.1⟩],fun z=>z.1⟩ (bM,([]:List Int),0,none,0) h (Es E) V [0] E [0] E ?_)
   rintro ⟨n16,x7,x10,a8,c9⟩ h
   obtain ⟨n16,rfl,h⟩:=bH h
   rw [pY] at h
   refine JS.seq (aC aA 8 [(14,.v (.bool (bif (decide (x10<x1)) then (decide ((x7.length:Int)≤400)) else false)))] ⟨⟨E,V⟩,E⟩ E E ?_)
   refine aK E h (fun h=>?_) (fun h=>?_)
   ·
    refine JS.skip (JS.seq (JS.block (JS.region (aB aA 2 [] [] [(17,.v (.slice a8 x7.length c9)),(18,.v (.slice a3 x0.length c4))] _ E ⟨(Es E),E⟩ ?_))))
    obtain ⟨g11,h⟩:=aH h
    refine fP aA E E E E ⟨E,E,E,E,V,E,E,E,E⟩ E E E [0] E 0 E g11 E fun a12 c13=>aB aA 1 [] [] [(5,.v (.slice a12 (x7 ++ x0).length c13))] _ E ⟨⟨E,V⟩,E⟩ (aD E (aZ (bZ aA 3 [(W (x10+1))] [] [(6,.v (I (W (x10+1))))] _ ⟨⟨V,E⟩,⟨E,V⟩,E⟩ E E (bQ (n16,(x7 ++ x0),(W (x10+1)),a12,c13) h (Nat.lt_succ_self _) (Es E) V [0] E [0] E))))
   refine JS.exit E (aT (x7,a8,c9) h ⟨E,V⟩ V [] E [0] E)
  rintro ⟨x18,a19,c20⟩ h
  subst hj25
  refine aC aA 2 [(4,.v (.slice a19 x18.length c20))] ⟨⟨E,V⟩,E⟩ E E ?_
  cases h
  exact JS.ret aA (a19,c20) V E E [0] E

def oN (x0:List Int×Int) (x1:List Int):Option ((List Int×Int)×Bool):=
  (aG (dJ x0) fun (y11:Bool)=>
  (bif (bif (!y11) then true else (decide (400<(x1.length:Int)))) then
  some (([],0),false)
  else
  (aU (fun (x38:List Int)=>
  (aG (dJ (x38,(W (x0.2+(x1.length:Int))))) fun (y45:Bool)=>
  (bif (!y45) then
  some (([],0),false)
  else
  some ((x38,(W (x0.2+(x1.length:Int)))),true)))) fun j41=>
  (aN (0≤(0:Int)∧(0:Int)≤x0.2∧x0.2≤(x0.1.length:Int)) <|
  (aG (cJ (bN x0.1 (0:Int) x0.2)) fun (y18:List Int)=>
  (aN (y18.length+x1.length≤536870912) <|
  (aN (0≤x0.2∧x0.2≤(x0.1.length:Int)∧(x0.1.length:Int)≤(x0.1.length:Int)) <|
  (aN ((y18 ++ x1).length+(bN x0.1 x0.2 (x0.1.length:Int)).length≤536870912) <|
  j41 ((y18 ++ x1) ++ (bN x0.1 x0.2 (x0.1.length:Int)))))))))))

theorem sK (x0:List Int×Int) (x1:List Int) (a3:Option Addr) (c4:Nat) (a7:Option Addr) (c8:Nat) (r:(List Int×Int)×Bool) (h:oN x0 x1=some r):
  FC Tryz.prog 245 [.agg #[.slice a3 x0.1.length c4,.int .i64 x0.2],.slice a7 x1.length c8] [⟨(.int .i64),⟨a3,x0.1.length,c4⟩,x0.1⟩,⟨(.int .i64),⟨a7,x1.length,c8⟩,x1⟩] (fun _:Option Addr×Nat=>True) (fun q=>.tuple #[.agg #[.slice q.1 r.1.1.length q.2,.int .i64 r.1.2],.bool r.2]) (fun q=>[⟨(.int .i64),⟨q.1,r.1.1.length,q.2⟩,r.1.1⟩]):=
 by
  refine FC.of (T:=TTx) Tryz.call245 Tryz.func245 E E fun w0=>?_
  unfold oN at h
  refine aL aA 3 [] [3,4] [(2,.bp 3 0),(4,.bp 4 0)] (.new 3 38 [.slice a3 x0.1.length c4,.int .i64 x0.2] (.new 4 38 [.slice none 0 0,.int .i64 0] .nil)) ⟨(Es E),(Bs E E)⟩ E E (JS.seq (JS.seq (JS.region (aB aA 1 [] [] [(7,.v (.agg #[.slice a3 x0.1.length c4,.int .i64 x0.2]))] _ E ⟨⟨E,V⟩,E⟩ ?_))))
  refine bnw h fun y11 hy12 h=>JO.call E E E E (fK x0 a3 c4 _ hy12) E [0] E E fun _ _=>aB aA 6 [] [] [(14,.v (.bool (bif (!y11) then true else (decide (400<(x1.length:Int))))))] _ E ⟨⟨E,V⟩,E⟩ (aD E ?_)
  refine aK E h (fun h=>?_) (fun h=>?_)
  ·
   refine aL aA 3 [] [] [(5,.v (.bool false))] (.new 4 38 [.slice none 0 0,.int .i64 0] .nil) ⟨⟨E,V⟩,(Bs E E)⟩ E E ?_
   cases h
   refine aX (.int .i64) Sl.nil E E (JS.ret aA (none,0) V E E [0] E)
  refine JS.skip (JS.seq ?_)
  obtain ⟨j41,hj57,h⟩:=aQ h
  refine mK (ι:=List Int×Option Addr×Nat) ⟨fun z=>j41 z.1=some r,fun z=>[(4,.bp 4 0),(6,.bp 30 0)],fun z=>(.new 4 38 [.slice none 0 0,.int .i64 0] (.new 30 38 [.slice z.2.1 z.1.length z.2.2,.int .i64 (W (x0.2+(x1.length:Int)))] .nil)),fun z=>[],fun z=>[⟨(.int .i64),⟨z.2.1,z.1.length,z.2.2⟩,z.1⟩],fun z=>0⟩ ?_ ?_
  ·
   obtain ⟨g13,h⟩:=aH h
   obtain ⟨y18,hy19,h⟩:=aE h
   obtain ⟨g22,h⟩:=aH h
   obtain ⟨g25,h⟩:=aH h
   obtain ⟨g29,h⟩:=aH h
   refine iC 0 E (0:Int) x0.2 fun a14 c15 hu16=>iC 1 E x0.2 (x0.1.length:Int) fun a26 c27 hu28=>cD 2 E fun hs55=>?_
   refine bB E (.new 3 38 [.slice a3 x0.1.length c4,.int .i64 x0.2] .nil) [] [19,21] ⟨E,E,E,E,V⟩ E (fun be34=>?_)
   refine aS aA aF 20 [0,2] E (by kernel_rfl) [] [(16,.bp 3 0),(18,.bp 3 1)] E (Es E) (bR aA aF true 8 [1,3,6,8,9,10,11,14,15,16,17,18] E (by kernel_rfl) [(W (x0.2+(x1.length:Int)))] [(17,.v (.slice a3 x0.1.length c4)),(19,.v (I x0.2)),(22,.v (.slice a7 x1.length c8)),(25,.v (.slice a3 x0.1.length c4)),(27,.v (I x0.2)),(34,.v (I (W (x0.2+(x1.length:Int)))))] ⟨E,E,E,E,V⟩ [] E E ⟨⟨V,E⟩,(Es E)⟩ (dB aA aF 4 E (by kernel_rfl) E E E E E E (0:Int) x0.2 E E ⟨g13.1,g13.2.1,g13.2.2,hs55.cap,hu16 g13⟩ E (dB aA aF 12 E (by kernel_rfl) E E E E E E x0.2 (x0.1.length:Int) E E ⟨g25.1,g25.2.1,g25.2.2,hs55.cap,hu28 g25⟩ E ?_)))
   refine JA.all (rs:=[5,20]) (by kernel_rfl) E (List.forall_mem_cons.2 ⟨?_,List.forall_mem_cons.2 ⟨?_,(fun _ hx=>absurd hx List.not_mem_nil)⟩⟩)
   ·
    refine JK.call E E E E (cZ (bN x0.1 (0:Int) x0.2) a14 c15 _ hy19) E [1] E E ?_
    rintro ⟨a20,c21⟩ -
    refine aR ⟨E,E,E,E,V⟩ [] E ?_
    refine JA.all (rs:=[7,20]) (by kernel_rfl) E (List.forall_mem_cons.2 ⟨?_,List.forall_mem_cons.2 ⟨?_,(fun _ hx=>absurd hx List.not_mem_nil)⟩⟩)
    ·
     refine cY aA E E E E ⟨E,E,E,E,V,E,E,E,E⟩ E E E [0] E 3 E g22 E fun a23 c24=>aR ⟨E,E,E,E,V⟩ [] E ?_
     refine JA.all (rs:=[13,20]) (by kernel_rfl) E (List.forall_mem_cons.2 ⟨?_,List.forall_mem_cons.2 ⟨?_,(fun _ hx=>absurd hx List.not_mem_nil)⟩⟩)
     ·
      refine cY aA E E E E ⟨E,E,E,E,V,E,E,E,E⟩ E E E [0] E 0 E g29 E fun a30 c31=>aR ⟨E,E,E,E,V⟩ [] E (aS aA aF 2 [19] E (by kernel_rfl) [] [(35,.v (.agg #[.slice a30 ((y18 ++ x1) ++ (bN x0.1 x0.2 (x0.1.length:Int))).length c31,.int .i64 (W (x0.2+(x1.length:Int)))]))] E ⟨E,V⟩ (JA.one 20 (by kernel_rfl) (JK.alloc aA E E E E E 30 E (cK _ E) (aR ⟨E,E,E,E,V⟩ [] E (JA.one 21 (by kernel_rfl) (aY aA E E E E E E E E (aM E (bE (by kernel_rfl) (aW (B':=(.new 4 38 [.slice none 0 0,.int .i64 0] (.new 30 38 [.slice a30 ((y18 ++ x1) ++ (bN x0.1 x0.2 (x0.1.length:Int))).length c31,.int .i64 (W (x0.2+(x1.length:Int)))] .nil))) (Bs E E) (aT (((y18 ++ x1) ++ (bN x0.1 x0.2 (x0.1.length:Int))),a30,c31) h (Es E) (Bs E E) [] E [0] E))))))))))
     refine JK.alloc aA E E E E E 30 E (cK _ E) (aR ⟨E,E,E,E,V⟩ [] E (JA.one 13 (by kernel_rfl) (cY aA E E E E ⟨E,E,E,E,V,E,E,E,E⟩ E E E [0] E 0 E g29 E fun a30 c31=>aR ⟨E,E,E,E,V⟩ [] E (aS aA aF 1 [19] E (by kernel_rfl) [] [(35,.v (.agg #[.slice a30 ((y18 ++ x1) ++ (bN x0.1 x0.2 (x0.1.length:Int))).length c31,.int .i64 (W (x0.2+(x1.length:Int)))]))] E ⟨E,V⟩ (JA.one 21 (by kernel_rfl) (aY aA E E E E E E E E (aM E (bE (by kernel_rfl) (aW (B':=(.new 4 38 [.slice none 0 0,.int .i64 0] (.new 30 38 [.slice a30 ((y18 ++ x1) ++ (bN x0.1 x0.2 (x0.1.length:Int))).length c31,.int .i64 (W (x0.2+(x1.length:Int)))] .nil))) (Bs E E) (aT (((y18 ++ x1) ++ (bN x0.1 x0.2 (x0.1.length:Int))),a30,c31) h (Es E) (Bs E E) [] E [0] E))))))))))
    refine JK.alloc aA E E E E E 30 E (cK _ E) (aR ⟨E,E,E,E,V⟩ [] E (JA.one 7 (by kernel_rfl) (cY aA E E E E ⟨E,E,E,E,V,E,E,E,E⟩ E E E [0] E 3 E g22 E fun a23 c24=>aR ⟨E,E,E,E,V⟩ [] E (JA.one 13 (by kernel_rfl) (cY aA E E E E ⟨E,E,E,E,V,E,E,E,E⟩ E E E [0] E 0 E g29 E fun a30 c31=>aR ⟨E,E,E,E,V⟩ [] E (aS aA aF 1 [19] E (by kernel_rfl) [] [(35,.v (.agg #[.slice a30 ((y18 ++ x1) ++ (bN x0.1 x0.2 (x0.1.length:Int))).length c31,.int .i64 (W (x0.2+(x1.length:Int)))]))] E ⟨E,V⟩ (JA.one 21 (by kernel_rfl) (aY aA E E E E E E E E (aM E (bE (by kernel_rfl) (aW (B':=(.new 4 38 [.slice none 0 0,.int .i64 0] (.new 30 38 [.slice a30 ((y18 ++ x1) ++ (bN x0.1 x0.2 (x0.1.length:Int))).length c31,.int .i64 (W (x0.2+(x1.length:Int)))] .nil))) (Bs E E) (aT (((y18 ++ x1) ++ (bN x0.1 x0.2 (x0.1.length:Int))),a30,c31) h (Es E) (Bs E E) [] E [0] E))))))))))))
   refine JK.alloc aA E E E E E 30 E (cK _ E) (aR ⟨E,E,E,E,V⟩ [] E (JA.one 5 (by kernel_rfl) (JK.call E E E E (cZ (bN x0.1 (0:Int) x0.2) a14 c15 _ hy19) E [1] E E ?_)))
   rintro ⟨a20,c21⟩ -
   refine aR ⟨E,E,E,E,V⟩ [] E (JA.one 7 (by kernel_rfl) (cY aA E E E E ⟨E,E,E,E,V,E,E,E,E⟩ E E E [0] E 3 E g22 E fun a23 c24=>aR ⟨E,E,E,E,V⟩ [] E (JA.one 13 (by kernel_rfl) (cY aA E E E E ⟨E,E,E,E,V,E,E,E,E⟩ E E E [0] E 0 E g29 E fun a30 c31=>aR ⟨E,E,E,E,V⟩ [] E (aS aA aF 1 [19] E (by kernel_rfl) [] [(35,.v (.agg #[.slice a30 ((y18 ++ x1) ++ (bN x0.1 x0.2 (x0.1.length:Int))).length c31,.int .i64 (W (x0.2+(x1.length:Int)))]))] E ⟨E,V⟩ (JA.one 21 (by kernel_rfl) (aY aA E E E E E E E E (aM E (bE (by kernel_rfl) (aW (B':=(.new 4 38 [.slice none 0 0,.int .i64 0] (.new 30 38 [.slice a30 ((y18 ++ x1) ++ (bN x0.1 x0.2 (x0.1.length:Int))).length c31,.int .i64 (W (x0.2+(x1.length:Int)))] .nil))) (Bs E E) (aT (((y18 ++ x1) ++ (bN x0.1 x0.2 (x0.1.length:Int))),a30,c31) h (Es E) (Bs E E) [] E [0] E)))))))))))
  rintro ⟨x38,a39,c40⟩ h
  subst hj57
  refine JS.seq (JS.seq (JS.region (aB aA 1 [] [] [(36,.v (.agg #[.slice a39 x38.length c40,.int .i64 (W (x0.2+(x1.length:Int)))]))] _ E ⟨⟨E,V⟩,E⟩ ?_)))
  refine bnw h fun y45 hy46 h=>JO.call E E E E (fK (x38,(W (x0.2+(x1.length:Int)))) a39 c40 _ hy46) E [0] E E fun _ _=>aB aA 1 [] [] [(38,.v (.bool (!y45)))] _ E ⟨⟨E,V⟩,E⟩ (aD E ?_)
  refine aK E h (fun h=>?_) (fun h=>?_)
  ·
   refine aL aA 3 [] [] [(5,.v (.bool false))] (.new 4 38 [.slice none 0 0,.int .i64 0] .nil) ⟨⟨E,V⟩,(Bs E E)⟩ E E ?_
   cases h
   refine aX (.int .i64) Sl.nil E E (JS.ret aA (none,0) V E E [0] E)
  refine JS.skip (aL aA 3 [] [] [(5,.v (.bool true))] (.new 4 38 [.slice a39 x38.length c40,.int .i64 (W (x0.2+(x1.length:Int)))] .nil) ⟨⟨E,V⟩,(Bs E E)⟩ E E ?_)
  cases h
  exact JS.ret aA (a39,c40) V E E [0] E

def oB (x0:EdQ) (x1:List Int) (x2:Int):Option (EdQ×Int):=
  (aG (oN x0.2.2.1 x1) fun (y32,y33)=>
  (bif (!y33) then
  (aG (eC x0) fun (y37,y38)=>
  some (y37,y38))
  else
  (aG (sQ x0 y32 x2) fun (y52:EdQ)=>
  some (y52,0))))

theorem yE (x0:EdQ) (x1:List Int) (x2:Int) (q4:P6) (a28:Option Addr) (c29:Nat) (r:EdQ×Int) (h:oB x0 x1 x2=some r):
  FC Tryz.prog 165 [.agg (cC x0 q4).toArray,.slice a28 x1.length c29,.int .i64 x2] (bW x0 q4 [⟨(.int .i64),⟨a28,x1.length,c29⟩,x1⟩]) (fun _:P6=>True) (fun q=>.tuple #[.agg (aI r.1 q).toArray,.int .i64 r.2]) (fun q=>(bW r.1 q [])):=
 by
  refine FC.of (T:=TTx) Tryz.call165 Tryz.func165 E E fun w0=>?_
  unfold oB at h
  refine aL aA 3 [] [8,9] [(3,.bp 8 0),(6,.bp 9 0)] (.new 8 46 (aI x0 q4) (.new 9 46 bF .nil)) ⟨(Es E),(Bs E E)⟩ E E (JS.seq (JS.region (aB aA 3 [] [] [(12,.v (.agg #[.slice q4.1 x0.2.2.1.1.length q4.2.1,.int .i64 x0.2.2.1.2])),(13,.v (.slice a28 x1.length c29))] _ E ⟨(Es E),E⟩ ?_)))
  obtain ⟨⟨y32,y33⟩,hy34,h⟩:=aE h
  refine JO.call E E E E (sK x0.2.2.1 x1 q4.1 q4.2.1 a28 c29 _ hy34) E [0,6] E E ?_
  rintro ⟨a35,c36⟩ -
  refine aP aA 6 [] [16] [(8,.bp 16 0),(9,.v (.bool y33))] (.new 8 46 (aI x0 q4) (.new 9 46 bF (.new 16 38 [.slice a35 y32.1.length c36,.int .i64 y32.2] .nil))) E ⟨(Es E),(Bs E E)⟩ (aD E (JS.seq (aC aA 2 [(18,.v (.bool (!y33)))] ⟨⟨E,V⟩,E⟩ E E ?_)))
  refine aK E h (fun h=>?_) (fun h=>?_)
  ·
   refine JS.seq (JS.region (aB aA 1 [] [] [(19,.v (.agg (aI x0 q4).toArray))] _ E ⟨⟨E,V⟩,E⟩ ?_))
   obtain ⟨⟨y37,y38⟩,hy39,h⟩:=aE h
   refine JO.call E E E E (gB x0 q4 _ hy39) E [0,1,2,3,4,5] E E fun q40 _=>aP aA 4 [] [] [(7,.v (I y38))] (.new 9 46 (aI y37 q40) .nil) E ⟨⟨E,V⟩,(Bs E E)⟩ (aD E ?_)
   cases h
   exact JS.ret aA q40 V E E [0,0,0,0,0,0] E
  refine JS.skip (JS.seq (JS.region (aB aA 3 [] [] [(23,.v (.agg (aI x0 q4).toArray)),(24,.v (.agg #[.slice a35 y32.1.length c36,.int .i64 y32.2])),(25,.v (I x2))] _ E ⟨(Es E),E⟩ ?_)))
  refine bnw h fun y52 hy53 h=>JO.call E E E E (aBp x0 y32 x2 q4 a35 c36 _ hy53) E [0,1,2,3,4,5,7] E E fun q54 _=>aP aA 2 [] [] [(7,.v (I 0))] (.new 9 46 (aI y52 q54) .nil) E ⟨⟨E,V⟩,(Bs E E)⟩ (aD E ?_)
  cases h
  exact JS.ret aA q54 V E E [0,0,0,0,0,0] E

def oK (x0:EdQ) (x1:Int×List (List UInt8)) (x2:Int×Int):Option (EdQ×Int×Bool):=
  (aU (fun ((x256,x257):Int×EdQ)=>
  some (x257,x256,true)) fun j270=>
  (bif (decide (x2.1=1)) then
  (aG (sZ ([x2.2]:List Int) (max x0.2.2.2.1 1)) fun (y33:List Int)=>
  (aG (oB x0 y33 1) fun (y37,y38)=>
  j270 (y38,y37)))
  else
  (bif (decide (x2.1=6)) then
  (aG (sZ ([9]:List Int) (max x0.2.2.2.1 1)) fun (y54:List Int)=>
  (aG (oB x0 y54 1) fun (y58,y59)=>
  j270 (y59,y58)))
  else
  (bif (decide (x2.1=4)) then
  (aG (fX x0) fun (y74:EdQ)=>
  j270 (2,y74))
  else
  (bif (decide (x2.1=2)) then
  (aG (nH x0 x2.2) fun (y88,y89,y90)=>
  some (y88,y89,y90))
  else
  (bif (decide (x2.1=5)) then
  (aG (xH x0 (max (W (x0.2.2.1.2 - (max x0.2.2.2.1 1))) 0) x0.2.2.1.2) fun (y104,y105)=>
  j270 (y105,y104))
  else
  (bif (decide (x2.1=14)) then
  (aG (xH x0 x0.2.2.1.2 (min (W (x0.2.2.1.2+(max x0.2.2.2.1 1))) (x0.2.2.1.1.length:Int))) fun (y119,y120)=>
  j270 (y120,y119))
  else
  (bif (decide (x2.1=11)) then
  (aG (fW x0.2.2.1 (W (x0.2.2.1.2 - (max x0.2.2.2.1 1)))) fun (y134:List Int×Int)=>
  (aG (fY x0 y134) fun (y138,y139)=>
  j270 (y139,y138)))
  else
  (bif (decide (x2.1=10)) then
  (aG (fW x0.2.2.1 (W (x0.2.2.1.2+(max x0.2.2.2.1 1)))) fun (y154:List Int×Int)=>
  (aG (fY x0 y154) fun (y158,y159)=>
  j270 (y159,y158)))
  else
  (bif (decide (x2.1=12)) then
  (aG (fW x0.2.2.1 0) fun (y174:List Int×Int)=>
  (aG (fY x0 y174) fun (y178,y179)=>
  j270 (y179,y178)))
  else
  (bif (decide (x2.1=13)) then
  (aG (fW x0.2.2.1 (x0.2.2.1.1.length:Int)) fun (y194:List Int×Int)=>
  (aG (fY x0 y194) fun (y198,y199)=>
  j270 (y199,y198)))
  else
  (bif (decide (x2.1=8)) then
  (aG (wE x0 x1 (-1)) fun (y214,y215)=>
  j270 (y215,y214))
  else
  (bif (decide (x2.1=9)) then
  (aG (wE x0 x1 1) fun (y229,y230)=>
  j270 (y230,y229))
  else
  some ((false,0,([],0),0,0,0,0,0,0,0,[],[],0,([],0),[],0,([],0)),0,false))))))))))))))

theorem aE2 (x0:EdQ) (x1:Int×List (List UInt8)) (x2:Int×Int) (q4:P6) (a28:Option Addr) (c29:Nat) (r:EdQ×Int×Bool) (h:oK x0 x1 x2=some r):
  FC Tryz.prog 88 [.agg (cC x0 q4).toArray,.agg #[.int .i64 x1.1,.slice a28 x1.2.length c29],.agg #[.int .i64 x2.1,.int .i64 x2.2]] (bW x0 q4 [⟨.str,⟨a28,x1.2.length,c29⟩,x1.2⟩]) (fun _:P6=>True) (fun q=>.tuple #[.agg (aI r.1 q).toArray,.int .i64 r.2.1,.bool r.2.2]) (fun q=>(bW r.1 q [])):=
 by
  refine FC.of (T:=TTx) Tryz.call88 Tryz.func88 E E fun w0=>?_
  unfold oK at h
  refine aL aA 6 [] [8,9,10,11] [(3,.bp 8 0),(4,.bp 9 0),(5,.bp 10 0),(6,.bp 11 0)] (.new 8 46 (aI x0 q4) (.new 9 50 [.int .i64 x1.1,.slice a28 x1.2.length c29] (.new 10 64 [.int .i64 x2.1,.int .i64 x2.2] (.new 11 46 bF .nil)))) ⟨(Es E),(Bs E E)⟩ E E (JS.seq (hZ E (by kernel_rfl) (eT aA 13 [] [(9,.v (I x0.2.2.1.2)),(10,.v (I (max x0.2.2.2.1 1))),(11,.v (I (x0.2.2.1.1.length:Int)))] E (Es E) (rB E (aL aA 1 [] [12] [(12,.bp 12 0)] (.new 8 46 (aI x0 q4) (.new 9 50 [.int .i64 x1.1,.slice a28 x1.2.length c29] (.new 10 64 [.int .i64 x2.1,.int .i64 x2.2] (.new 11 46 bF (.new 12 46 bF .nil))))) ⟨⟨E,V⟩,(Bs E E)⟩ E E (aC aA 1 [] ⟨V,E⟩ E E (JS.seq (aC aA 2 [(25,.v (I x2.1))] ⟨⟨E,V⟩,E⟩ E E ?_))))))))
  obtain ⟨j270,hj296,h⟩:=aQ h
  refine bA (ι:=Int×EdQ×P6) ⟨fun z=>j270 (z.1,z.2.1)=some r,fun z=>[(6,.bp 11 0),(12,.bp 12 0),(13,.v (I z.1))],fun z=>(.new 11 46 bF (.new 12 46 (aI z.2.1 z.2.2) .nil)),fun z=>[],fun z=>(bW z.2.1 z.2.2 []),fun z=>0⟩ ?_ ?_
  ·
   refine aC aA 2 [(27,.v (.bool (decide (x2.1=1))))] ⟨⟨E,V⟩,E⟩ E E ?_
   refine aK E h (fun h=>?_) (fun h=>?_)
   ·
    obtain ⟨y33,hy34,h⟩:=aE h
    obtain ⟨⟨y37,y38⟩,hy39,h⟩:=aE h
    refine bB E (.new 8 46 (aI x0 q4) (.new 10 64 [.int .i64 x2.1,.int .i64 x2.2] .nil)) [] [6,7,8,9,10,11] ⟨E,E,E,E,E,E,E,E,V⟩ E (fun be52=>?_)
    refine bR aA aF true 10 [0,4] E (by kernel_rfl) [] [(30,.v (.agg (aI x0 q4).toArray)),(34,.v (I (max x0.2.2.2.1 1)))] ⟨E,E,E,E,E,E,E,E,V⟩ [] E E (Es E) (aS aA aF 9 [1] E (by kernel_rfl) [] [(31,.bp 10 1)] E ⟨E,V⟩ (bR aA aF true 8 [2] E (by kernel_rfl) [] [(32,.v (I x2.2))] ⟨E,E,E,E,E,E,E,E,V⟩ [] E E ⟨E,V⟩ (JA.one 3 (by kernel_rfl) (JK.buildSlice aA E E E E E E E E E E E [] E (.int .i64) [x2.2] ⟨E,E⟩ E E fun a32=>aR ⟨E,E,E,E,E,E,E,E,V⟩ [] E (JA.one 5 (by kernel_rfl) (JK.call E E E E (aE0 ([x2.2]:List Int) (max x0.2.2.2.1 1) a32 (([x2.2]:List Int).length) _ hy34) E [7] E E ?_))))))
    rintro ⟨a35,c36⟩ -
    refine aR ⟨E,E,E,E,E,E,E,E,V⟩ [] E (JA.one 6 (by kernel_rfl) (JK.call E E E E (yE x0 y33 1 q4 a35 c36 _ hy39) E [0,1,2,3,4,5,7] E E ?_))
    rintro q40 -
    refine aM E (aS aA aF 2 [7,8,9] E (by kernel_rfl) [] [(37,.v (.agg (aI y37 q40).toArray)),(38,.v (I y38))] E (Es E) (JA.one 10 (by kernel_rfl) (aY aA E E E E E E E E (aM E (aS aA aF 0 [11] E (by kernel_rfl) [] [(13,.v (I y38))] E ⟨E,V⟩ (bE (by kernel_rfl) (aW (B':=(.new 11 46 bF (.new 12 46 (aI y37 q40) .nil))) (Bs E E) (aZ (bV (y38,y37,q40) h (Es E) (Bs E E) [] E [0,1,2,3,4,5] E E)))))))))
   refine aC aA 2 [(39,.v (.bool (decide (x2.1=6))))] ⟨⟨E,V⟩,E⟩ E E ?_
   refine aK E h (fun h=>?_) (fun h=>?_)
   ·
    obtain ⟨y54,hy55,h⟩:=aE h
    obtain ⟨⟨y58,y59⟩,hy60,h⟩:=aE h
    refine bB E (.new 8 46 (aI x0 q4) .nil) [] [4,5,6,7,8,9] ⟨E,E,E,E,V⟩ E (fun be73=>?_)
    refine bR aA aF true 8 [0,2] E (by kernel_rfl) [] [(42,.v (.agg (aI x0 q4).toArray)),(44,.v (I (max x0.2.2.2.1 1)))] ⟨E,E,E,E,V⟩ [] E E (Es E) (JA.one 1 (by kernel_rfl) (JK.buildSlice aA E E E E E E E E E E E [] E (.int .i64) [9] ⟨E,E⟩ E E fun a53=>aR ⟨E,E,E,E,V⟩ [] E (JA.one 3 (by kernel_rfl) (JK.call E E E E (aE0 ([9]:List Int) (max x0.2.2.2.1 1) a53 (([9]:List Int).length) _ hy55) E [7] E E ?_))))
    rintro ⟨a56,c57⟩ -
    refine aR ⟨E,E,E,E,V⟩ [] E (JA.one 4 (by kernel_rfl) (JK.call E E E E (yE x0 y54 1 q4 a56 c57 _ hy60) E [0,1,2,3,4,5,7] E E ?_))
    rintro q61 -
    refine aM E (aS aA aF 2 [5,6,7] E (by kernel_rfl) [] [(47,.v (.agg (aI y58 q61).toArray)),(48,.v (I y59))] E (Es E) (JA.one 8 (by kernel_rfl) (aY aA E E E E E E E E (aM E (aS aA aF 0 [9] E (by kernel_rfl) [] [(13,.v (I y59))] E ⟨E,V⟩ (bE (by kernel_rfl) (aW (B':=(.new 11 46 bF (.new 12 46 (aI y58 q61) .nil))) (Bs E E) (aZ (bV (y59,y58,q61) h (Es E) (Bs E E) [] E [0,1,2,3,4,5] E E)))))))))
   refine aC aA 2 [(49,.v (.bool (decide (x2.1=4))))] ⟨⟨E,V⟩,E⟩ E E ?_
   refine aK E h (fun h=>?_) (fun h=>?_)
   ·
    refine JS.region (aB aA 1 [] [] [(51,.v (.agg (aI x0 q4).toArray))] _ E ⟨⟨E,V⟩,E⟩ ?_)
    refine bnw h fun y74 hy75 h=>JO.call E E E E (rC x0 q4 _ hy75) E [0,1,2,3,4,5] E E fun q76 _=>aP aA 2 [] [] [(13,.v (I 2))] (.new 11 46 bF (.new 12 46 (aI y74 q76) .nil)) E ⟨⟨E,V⟩,(Bs E E)⟩ (aD E (aZ (bV (2,y74,q76) h (Es E) (Bs E E) [] E [0,1,2,3,4,5] E E)))
   refine aC aA 2 [(53,.v (.bool (decide (x2.1=2))))] ⟨⟨E,V⟩,E⟩ E E ?_
   refine aK E h (fun h=>?_) (fun h=>?_)
   ·
    refine JS.seq (JS.region (aB aA 3 [] [] [(55,.v (.agg (aI x0 q4).toArray)),(57,.v (I x2.2))] _ E ⟨(Es E),E⟩ ?_))
    obtain ⟨⟨y88,y89,y90⟩,hy91,h⟩:=aE h
    refine JO.call E E E E (aE1 x0 x2.2 q4 _ hy91) E [0,1,2,3,4,5] E E fun q92 _=>aP aA 6 [] [] [(7,.v (I y89)),(8,.v (.bool y90))] (.new 11 46 (aI y88 q92) .nil) E ⟨(Es E),(Bs E E)⟩ (aD E ?_)
    cases h
    exact JS.ret aA q92 V E E [0,0,0,0,0,0] E
   refine aC aA 2 [(62,.v (.bool (decide (x2.1=5))))] ⟨⟨E,V⟩,E⟩ E E ?_
   refine aK E h (fun h=>?_) (fun h=>?_)
   ·
    refine JS.region (aB aA 6 [(W (x0.2.2.1.2 - (max x0.2.2.2.1 1)))] [] [(65,.v (.agg (aI x0 q4).toArray)),(69,.v (I (max (W (x0.2.2.1.2 - (max x0.2.2.2.1 1))) 0))),(70,.v (I x0.2.2.1.2))] _ E ⟨⟨V,E⟩,(Es E),E⟩ ?_)
    obtain ⟨⟨y104,y105⟩,hy106,h⟩:=aE h
    refine JO.call E E E E (aE5 x0 (max (W (x0.2.2.1.2 - (max x0.2.2.2.1 1))) 0) x0.2.2.1.2 q4 _ hy106) E [0,1,2,3,4,5] E E fun q107 _=>aP aA 5 [] [] [(13,.v (I y105))] (.new 11 46 bF (.new 12 46 (aI y104 q107) .nil)) E ⟨⟨E,V⟩,(Bs E E)⟩ (aD E (aZ (bV (y105,y104,q107) h (Es E) (Bs E E) [] E [0,1,2,3,4,5] E E)))
   refine aC aA 2 [(74,.v (.bool (decide (x2.1=14))))] ⟨⟨E,V⟩,E⟩ E E ?_
   refine aK E h (fun h=>?_) (fun h=>?_)
   ·
    refine JS.region (aB aA 7 [(W (x0.2.2.1.2+(max x0.2.2.2.1 1)))] [] [(77,.v (.agg (aI x0 q4).toArray)),(78,.v (I x0.2.2.1.2)),(83,.v (I (min (W (x0.2.2.1.2+(max x0.2.2.2.1 1))) (x0.2.2.1.1.length:Int))))] _ E ⟨⟨V,E⟩,(Es E),E⟩ ?_)
    obtain ⟨⟨y119,y120⟩,hy121,h⟩:=aE h
    refine JO.call E E E E (aE5 x0 x0.2.2.1.2 (min (W (x0.2.2.1.2+(max x0.2.2.2.1 1))) (x0.2.2.1.1.length:Int)) q4 _ hy121) E [0,1,2,3,4,5] E E fun q122 _=>aP aA 5 [] [] [(13,.v (I y120))] (.new 11 46 bF (.new 12 46 (aI y119 q122) .nil)) E ⟨⟨E,V⟩,(Bs E E)⟩ (aD E (aZ (bV (y120,y119,q122) h (Es E) (Bs E E) [] E [0,1,2,3,4,5] E E)))
   refine aC aA 2 [(87,.v (.bool (decide (x2.1=11))))] ⟨⟨E,V⟩,E⟩ E E ?_
   refine aK E h (fun h=>?_) (fun h=>?_)
   ·
    obtain ⟨y134,hy135,h⟩:=aE h
    obtain ⟨⟨y138,y139⟩,hy140,h⟩:=aE h
    refine bB E (.new 8 46 (aI x0 q4) .nil) [] [7,8,9,10,11,12] ⟨E,E,E,E,V⟩ E (fun be153=>?_)
    refine bR aA aF true 7 [0,1,2,3,4,5] E (by kernel_rfl) [(W (x0.2.2.1.2 - (max x0.2.2.2.1 1)))] [(90,.v (.agg (aI x0 q4).toArray)),(92,.v (.agg #[.slice q4.1 x0.2.2.1.1.length q4.2.1,.int .i64 x0.2.2.1.2])),(95,.v (I (W (x0.2.2.1.2 - (max x0.2.2.2.1 1)))))] ⟨E,E,E,E,V⟩ [] E E ⟨⟨V,E⟩,(Es E)⟩ (JA.one 6 (by kernel_rfl) (JK.call E E E E (oG x0.2.2.1 (W (x0.2.2.1.2 - (max x0.2.2.2.1 1))) q4.1 q4.2.1 _ hy135) E [0] E E ?_))
    rintro ⟨a136,c137⟩ -
    refine aR ⟨E,E,E,E,V⟩ [] E (JA.one 7 (by kernel_rfl) (JK.call E E E E (oV x0 y134 q4 a136 c137 _ hy140) E [0,1,2,3,4,5,7] E E ?_))
    rintro q141 -
    refine aM E (aS aA aF 2 [8,9,10] E (by kernel_rfl) [] [(98,.v (.agg (aI y138 q141).toArray)),(99,.v (I y139))] E (Es E) (JA.one 11 (by kernel_rfl) (aY aA E E E E E E E E (aM E (aS aA aF 0 [12] E (by kernel_rfl) [] [(13,.v (I y139))] E ⟨E,V⟩ (bE (by kernel_rfl) (aW (B':=(.new 11 46 bF (.new 12 46 (aI y138 q141) .nil))) (Bs E E) (aZ (bV (y139,y138,q141) h (Es E) (Bs E E) [] E [0,1,2,3,4,5] E E)))))))))
   refine aC aA 2 [(100,.v (.bool (decide (x2.1=10))))] ⟨⟨E,V⟩,E⟩ E E ?_
   refine aK E h (fun h=>?_) (fun h=>?_)
   ·
    obtain ⟨y154,hy155,h⟩:=aE h
    obtain ⟨⟨y158,y159⟩,hy160,h⟩:=aE h
    refine bB E (.new 8 46 (aI x0 q4) .nil) [] [7,8,9,10,11,12] ⟨E,E,E,E,V⟩ E (fun be173=>?_)
    refine bR aA aF true 7 [0,1,2,3,4,5] E (by kernel_rfl) [(W (x0.2.2.1.2+(max x0.2.2.2.1 1)))] [(103,.v (.agg (aI x0 q4).toArray)),(105,.v (.agg #[.slice q4.1 x0.2.2.1.1.length q4.2.1,.int .i64 x0.2.2.1.2])),(108,.v (I (W (x0.2.2.1.2+(max x0.2.2.2.1 1)))))] ⟨E,E,E,E,V⟩ [] E E ⟨⟨V,E⟩,(Es E)⟩ (JA.one 6 (by kernel_rfl) (JK.call E E E E (oG x0.2.2.1 (W (x0.2.2.1.2+(max x0.2.2.2.1 1))) q4.1 q4.2.1 _ hy155) E [0] E E ?_))
    rintro ⟨a156,c157⟩ -
    refine aR ⟨E,E,E,E,V⟩ [] E (JA.one 7 (by kernel_rfl) (JK.call E E E E (oV x0 y154 q4 a156 c157 _ hy160) E [0,1,2,3,4,5,7] E E ?_))
    rintro q161 -
    refine aM E (aS aA aF 2 [8,9,10] E (by kernel_rfl) [] [(111,.v (.agg (aI y158 q161).toArray)),(112,.v (I y159))] E (Es E) (JA.one 11 (by kernel_rfl) (aY aA E E E E E E E E (aM E (aS aA aF 0 [12] E (by kernel_rfl) [] [(13,.v (I y159))] E ⟨E,V⟩ (bE (by kernel_rfl) (aW (B':=(.new 11 46 bF (.new 12 46 (aI y158 q161) .nil))) (Bs E E) (aZ (bV (y159,y158,q161) h (Es E) (Bs E E) [] E [0,1,2,3,4,5] E E)))))))))
   refine aC aA 2 [(113,.v (.bool (decide (x2.1=12))))] ⟨⟨E,V⟩,E⟩ E E ?_
   refine aK E h (fun h=>?_) (fun h=>?_)
   ·
    obtain ⟨y174,hy175,h⟩:=aE h
    obtain ⟨⟨y178,y179⟩,hy180,h⟩:=aE h
    refine bB E (.new 8 46 (aI x0 q4) .nil) [] [4,5,6,7,8,9] ⟨E,E,E,E,V⟩ E (fun be193=>?_)
    refine bR aA aF true 7 [0,1,2] E (by kernel_rfl) [] [(116,.v (.agg (aI x0 q4).toArray)),(118,.v (.agg #[.slice q4.1 x0.2.2.1.1.length q4.2.1,.int .i64 x0.2.2.1.2]))] ⟨E,E,E,E,V⟩ [] E E (Es E) (JA.one 3 (by kernel_rfl) (JK.call E E E E (oG x0.2.2.1 0 q4.1 q4.2.1 _ hy175) E [0] E E ?_))
    rintro ⟨a176,c177⟩ -
    refine aR ⟨E,E,E,E,V⟩ [] E (JA.one 4 (by kernel_rfl) (JK.call E E E E (oV x0 y174 q4 a176 c177 _ hy180) E [0,1,2,3,4,5,7] E E ?_))
    rintro q181 -
    refine aM E (aS aA aF 2 [5,6,7] E (by kernel_rfl) [] [(121,.v (.agg (aI y178 q181).toArray)),(122,.v (I y179))] E (Es E) (JA.one 8 (by kernel_rfl) (aY aA E E E E E E E E (aM E (aS aA aF 0 [9] E (by kernel_rfl) [] [(13,.v (I y179))] E ⟨E,V⟩ (bE (by kernel_rfl) (aW (B':=(.new 11 46 bF (.new 12 46 (aI y178 q181) .nil))) (Bs E E) (aZ (bV (y179,y178,q181) h (Es E) (Bs E E) [] E [0,1,2,3,4,5] E E)))))))))
   refine aC aA 2 [(123,.v (.bool (decide (x2.1=13))))] ⟨⟨E,V⟩,E⟩ E E ?_
   refine aK E h (fun h=>?_) (fun h=>?_)
   ·
    obtain ⟨y194,hy195,h⟩:=aE h
    obtain ⟨⟨y198,y199⟩,hy200,h⟩:=aE h
    refine bB E (.new 8 46 (aI x0 q4) .nil) [] [5,6,7,8,9,10] ⟨E,E,E,E,V⟩ E (fun be213=>?_)
    refine bR aA aF true 7 [0,1,2,3] E (by kernel_rfl) [] [(126,.v (.agg (aI x0 q4).toArray)),(128,.v (.agg #[.slice q4.1 x0.2.2.1.1.length q4.2.1,.int .i64 x0.2.2.1.2])),(129,.v (I (x0.2.2.1.1.length:Int)))] ⟨E,E,E,E,V⟩ [] E E (Es E) (JA.one 4 (by kernel_rfl) (JK.call E E E E (oG x0.2.2.1 (x0.2.2.1.1.length:Int) q4.1 q4.2.1 _ hy195) E [0] E E ?_))
    rintro ⟨a196,c197⟩ -
    refine aR ⟨E,E,E,E,V⟩ [] E (JA.one 5 (by kernel_rfl) (JK.call E E E E (oV x0 y194 q4 a196 c197 _ hy200) E [0,1,2,3,4,5,7] E E ?_))
    rintro q201 -
    refine aM E (aS aA aF 2 [6,7,8] E (by kernel_rfl) [] [(132,.v (.agg (aI y198 q201).toArray)),(133,.v (I y199))] E (Es E) (JA.one 9 (by kernel_rfl) (aY aA E E E E E E E E (aM E (aS aA aF 0 [10] E (by kernel_rfl) [] [(13,.v (I y199))] E ⟨E,V⟩ (bE (by kernel_rfl) (aW (B':=(.new 11 46 bF (.new 12 46 (aI y198 q201) .nil))) (Bs E E) (aZ (bV (y199,y198,q201) h (Es E) (Bs E E) [] E [0,1,2,3,4,5] E E)))))))))
   refine aC aA 2 [(134,.v (.bool (decide (x2.1=8))))] ⟨⟨E,V⟩,E⟩ E E ?_
   refine aK E h (fun h=>?_) (fun h=>?_)
   ·
    refine JS.region (aB aA 2 [] [] [(137,.v (.agg (aI x0 q4).toArray)),(138,.v (.agg #[.int .i64 x1.1,.slice a28 x1.2.length c29]))] _ E ⟨(Es E),E⟩ ?_)
    obtain ⟨⟨y214,y215⟩,hy216,h⟩:=aE h
    refine JO.call E E E E (aHf x0 x1 (-1) q4 a28 c29 _ hy216) E [0,1,2,3,4,5,6] E E fun q217 _=>aP aA 5 [] [] [(13,.v (I y215))] (.new 11 46 bF (.new 12 46 (aI y214 q217) .nil)) E ⟨⟨E,V⟩,(Bs E E)⟩ (aD E (aZ (bV (y215,y214,q217) h (Es E) (Bs E E) [] E [0,1,2,3,4,5] E E)))
   refine aC aA 2 [(142,.v (.bool (decide (x2.1=9))))] ⟨⟨E,V⟩,E⟩ E E ?_
   refine aK E h (fun h=>?_) (fun h=>?_)
   ·
    refine JS.region (aB aA 2 [] [] [(145,.v (.agg (aI x0 q4).toArray)),(146,.v (.agg #[.int .i64 x1.1,.slice a28 x1.2.length c29]))] _ E ⟨(Es E),E⟩ ?_)
    obtain ⟨⟨y229,y230⟩,hy231,h⟩:=aE h
    refine JO.call E E E E (aHf x0 x1 1 q4 a28 c29 _ hy231) E [0,1,2,3,4,5,6] E E fun q232 _=>aP aA 5 [] [] [(13,.v (I y230))] (.new 11 46 bF (.new 12 46 (aI y229 q232) .nil)) E ⟨⟨E,V⟩,(Bs E E)⟩ (aD E (aZ (bV (y230,y229,q232) h (Es E) (Bs E E) [] E [0,1,2,3,4,5] E E)))
   refine aL aA 4 [] [] [(7,.v (I 0)),(8,.v (.bool false))] (.new 11 46 bF .nil) ⟨(Es E),(Bs E E)⟩ E E ?_
   cases h
   refine aX (.int .i64) Sl.nil E E (aX (.sl (.int .i64)) Sl.nil E E (aX (.pair (.sl (.int .i64)) (.int .i64)) Sl.nil E E (aX (.int .i64) Sl.nil E E (aX (.int .i64) Sl.nil E E (aX (.int .i64) Sl.nil E E (JS.ret aA (none,0,none,0,none,0,none,0,none,0,none,0) V E E [5,4,3,2,1,0] E))))))
  rintro ⟨x256,x257,q258⟩ h
  subst hj296
  refine aL aA 5 [] [] [(7,.v (I x256)),(8,.v (.bool true))] (.new 11 46 (aI x257 q258) .nil) ⟨(Es E),(Bs E E)⟩ E E ?_
  cases h
  exact JS.ret aA q258 V E E [0,0,0,0,0,0] E

def zB (x0:EdQ):Option (EdQ×Int):=
  (aG (eA x0 0) fun (y26:EdQ)=>
  (aG (cS x0.2.2.1) fun (y40:List Int×Int)=>
  some ((y26.1,3,y26.2.2.1,y26.2.2.2.1,y26.2.2.2.2.1,y26.2.2.2.2.2.1,y26.2.2.2.2.2.2.1,y26.2.2.2.2.2.2.2.1,y26.2.2.2.2.2.2.2.2.1,y26.2.2.2.2.2.2.2.2.2.1,y26.2.2.2.2.2.2.2.2.2.2.1,y26.2.2.2.2.2.2.2.2.2.2.2.1,y26.2.2.2.2.2.2.2.2.2.2.2.2.1,y26.2.2.2.2.2.2.2.2.2.2.2.2.2.1,[],0,y40),0)))

theorem aPw (x0:EdQ) (q2:P6) (r:EdQ×Int) (h:zB x0=some r):
  FC Tryz.prog 208 [.agg (cC x0 q2).toArray] (bW x0 q2 []) (fun _:Option Addr×Nat×Option Addr×Nat×Option Addr×Nat×Option Addr×Nat×Option Addr×Nat=>True) (fun q=>.tuple #[.agg (aI (U14 r.1 []) (q.1,q.2.1,q.2.2.1,q.2.2.2.1,(Q4 q).1,(Q4 q).2.1,(Q4 q).2.2.1,(Q4 q).2.2.2.1,none,0,(Q8 q))).toArray,.int .i64 r.2]) (fun q=>[⟨(.int .i64),⟨q.1,r.1.2.2.1.1.length,q.2.1⟩,r.1.2.2.1.1⟩,⟨(.sl (.int .i64)),⟨q.2.2.1,r.1.2.2.2.2.2.2.2.2.2.2.1.length,q.2.2.2.1⟩,r.1.2.2.2.2.2.2.2.2.2.2.1⟩,⟨(.pair (.sl (.int .i64)) (.int .i64)),⟨(Q4 q).1,r.1.2.2.2.2.2.2.2.2.2.2.2.1.length,(Q4 q).2.1⟩,r.1.2.2.2.2.2.2.2.2.2.2.2.1⟩,⟨(.int .i64),⟨(Q4 q).2.2.1,r.1.2.2.2.2.2.2.2.2.2.2.2.2.2.1.1.length,(Q4 q).2.2.2.1⟩,r.1.2.2.2.2.2.2.2.2.2.2.2.2.2.1.1⟩,⟨(.int .i64),⟨(Q8 q).1,r.1.2.2.2.2.2.2.2.2.2.2.2.2.2.2.2.2.1.length,(Q8 q).2⟩,r.1.2.2.2.2.2.2.2.2.2.2.2.2.2.2.2.2.1⟩]):=
 by
  refine FC.of (T:=TTx) Tryz.call208 Tryz.func208 E E fun w0=>?_
  unfold zB at h
  refine aL aA 3 [] [7,8] [(1,.bp 7 0),(2,.bp 8 0)] (.new 7 46 (aI x0 q2) (.new 8 46 bF .nil)) ⟨(Es E),(Bs E E)⟩ E E (JS.seq (JS.region (aB aA 1 [] [] [(5,.v (.agg (aI x0 q2).toArray))] _ E ⟨⟨E,V⟩,E⟩ ?_)))
  refine bnw h fun y26 hy27 h=>JO.call E E E E (oU x0 0 q2 _ hy27) E [0,1,2,3,4,5] E E fun q28 _=>aP aA 2 [] [29] [(4,.bp 29 0)] (.new 7 46 (aI x0 q2) (.new 8 46 bF (.new 29 46 (aI y26 q28) .nil))) E ⟨⟨E,V⟩,(Bs E E)⟩ (aD E (JS.seq (JS.region (aB aA 2 [] [] [(8,.v (.agg #[.slice q2.1 x0.2.2.1.1.length q2.2.1,.int .i64 x0.2.2.1.2]))] _ E ⟨⟨E,V⟩,E⟩ ?_))))
  refine bnw h fun y40 hy41 h=>JO.call E E E E (dQ x0.2.2.1 q2.1 q2.2.1 _ hy41) E [0] E E ?_
  rintro ⟨a42,c43⟩ -
  refine aP aA 8 [] [] [] (.new 8 46 bF (.new 29 46 (aI (y26.1,3,y26.2.2.1,y26.2.2.2.1,(Q4 y26).1,(Q4 y26).2.1,(Q4 y26).2.2.1,(Q4 y26).2.2.2.1,(Q8 y26).1,(Q8 y26).2.1,(Q8 y26).2.2.1,(Q8 y26).2.2.2.1,(Q12 y26).1,(Q12 y26).2.1,[],0,y40) (q28.1,q28.2.1,q28.2.2.1,q28.2.2.2.1,(Q4 q28).1,(Q4 q28).2.1,(Q4 q28).2.2.1,(Q4 q28).2.2.2.1,none,0,a42,c43)) .nil)) E ⟨V,(Bs E E)⟩ (aD E (aL aA 3 [] [] [(3,.v (I 0))] (.new 8 46 (aI (y26.1,3,y26.2.2.1,y26.2.2.2.1,(Q4 y26).1,(Q4 y26).2.1,(Q4 y26).2.2.1,(Q4 y26).2.2.2.1,(Q8 y26).1,(Q8 y26).2.1,(Q8 y26).2.2.1,(Q8 y26).2.2.2.1,(Q12 y26).1,(Q12 y26).2.1,[],0,y40) (q28.1,q28.2.1,q28.2.2.1,q28.2.2.2.1,(Q4 q28).1,(Q4 q28).2.1,(Q4 q28).2.2.1,(Q4 q28).2.2.2.1,none,0,a42,c43)) .nil) ⟨⟨E,V⟩,(Bs E E)⟩ E E ?_))
  cases h
  exact JS.ret aA (q28.1,q28.2.1,q28.2.2.1,q28.2.2.2.1,(Q4 q28).1,(Q4 q28).2.1,(Q4 q28).2.2.1,(Q4 q28).2.2.2.1,a42,c43) V E E [1,1,1,1,0] E

def qA (x0:List (List Int×Int)):Option ((List (List Int×Int))×(List Int×Int)×Bool):=
  (aG (oC x0) fun (y6:Bool)=>
  (bif (bif (!y6) then true else (decide ((x0.length:Int)=0))) then
  some ([],([],0),false)
  else
  (aN (0≤(0:Int)∧(0:Int)≤(W ((x0.length:Int) - 1))∧(W ((x0.length:Int) - 1))≤(x0.length:Int)) <|
  (aG (jD (bN x0 0 (W ((x0.length:Int) - 1)))) fun (y11:List (List Int×Int))=>
  (aN (0≤(W ((x0.length:Int) - 1))∧(W ((x0.length:Int) - 1))<(x0.length:Int)) <|
  (aG (cS ((at' x0 (W ((x0.length:Int) - 1))).1,(at' x0 (W ((x0.length:Int) - 1))).2)) fun (y22:List Int×Int)=>
  some (y11,y22,true)))))))

theorem aGv (x0:List (List Int×Int)) (a2:Option Addr) (c3:Nat) (r:(List (List Int×Int))×(List Int×Int)×Bool) (h:qA x0=some r):
  FC Tryz.prog 265 [.agg #[.slice a2 x0.length c3]] [⟨(.pair (.sl (.int .i64)) (.int .i64)),⟨a2,x0.length,c3⟩,x0⟩] (fun _:Option Addr×Nat×Option Addr×Nat=>True) (fun q=>.tuple #[.agg #[.slice q.1 r.1.length q.2.1],.agg #[.slice q.2.2.1 r.2.1.1.length q.2.2.2,.int .i64 r.2.1.2],.bool r.2.2]) (fun q=>[⟨(.pair (.sl (.int .i64)) (.int .i64)),⟨q.1,r.1.length,q.2.1⟩,r.1⟩,⟨(.int .i64),⟨q.2.2.1,r.2.1.1.length,q.2.2.2⟩,r.2.1.1⟩]):=
 by
  refine FC.of (T:=TTx) Tryz.call265 Tryz.func265 E E fun w0=>?_
  unfold qA at h
  refine aL aA 4 [] [2,3,4] [(1,.bp 2 0),(2,.bp 3 0),(3,.bp 4 0)] (.new 2 44 [.slice a2 x0.length c3] (.new 3 44 [.slice none 0 0] (.new 4 38 [.slice none 0 0,.int .i64 0] .nil))) ⟨(Es E),(Bs E E)⟩ E E (aC aA 4 [(5,.v (I (x0.length:Int)))] ⟨⟨E,V⟩,E⟩ E E (JS.seq (JS.seq (JS.region (aB aA 1 [] [] [(10,.v (.agg #[.slice a2 x0.length c3]))] _ E ⟨⟨E,V⟩,E⟩ ?_)))))
  refine bnw h fun y6 hy7 h=>JO.call E E E E (yH x0 a2 c3 _ hy7) E [0] E E fun _ _=>aB aA 5 [] [] [(16,.v (.bool (bif (!y6) then true else (decide ((x0.length:Int)=0)))))] _ E ⟨⟨E,V⟩,E⟩ (aD E ?_)
  refine aK E h (fun h=>?_) (fun h=>?_)
  ·
   refine aL aA 5 [] [] [(4,.v (.bool false))] (.new 3 44 [.slice none 0 0] (.new 4 38 [.slice none 0 0,.int .i64 0] .nil)) ⟨⟨E,V⟩,(Bs E E)⟩ E E ?_
   cases h
   refine aX (.pair (.sl (.int .i64)) (.int .i64)) Sl.nil E E (aX (.int .i64) Sl.nil E E (JS.ret aA (none,0,none,0) V E E [1,0] E))
  refine JS.skip (JS.seq (JS.region (aB aA 4 [(W ((x0.length:Int) - 1))] [] [(20,.v (.slice a2 x0.length c3)),(22,.v (I (W ((x0.length:Int) - 1))))] _ E ⟨⟨V,E⟩,(Es E),E⟩ ?_)))
  obtain ⟨g8,h⟩:=aH h
  refine aFz aA E E E E E E E E 0 E (0:Int) (W ((x0.length:Int) - 1)) E E g8 E fun a9 c10=>aB aA 1 [] [] [(24,.v (.agg #[.slice a9 (bN x0 0 (W ((x0.length:Int) - 1))).length c10]))] _ E ⟨⟨E,V⟩,E⟩ ?_
  refine bnw h fun y11 hy12 h=>JO.call E E E E (vD (bN x0 0 (W ((x0.length:Int) - 1))) a9 c10 _ hy12) E [0] E E ?_
  rintro ⟨a13,c14⟩ -
  refine aP aA 2 [] [16] [(6,.bp 16 0)] (.new 2 44 [.slice a2 x0.length c3] (.new 3 44 [.slice none 0 0] (.new 4 38 [.slice none 0 0,.int .i64 0] (.new 16 44 [.slice a13 y11.length c14] .nil)))) E ⟨⟨E,V⟩,(Bs E E)⟩ (aD E (JS.seq ?_))
  obtain ⟨g16,h⟩:=aH h
  refine bnw h fun y22 hy23 h=>zC 1 E (Int.toNat (W ((x0.length:Int) - 1))) (at' x0 (W ((x0.length:Int) - 1))) E fun a17 c18 ys19 hl20 hy21=>cD 3 E fun hs32=>?_
  refine bB E (.new 2 44 [.slice a2 x0.length c3] (.new 16 44 [.slice a13 y11.length c14] .nil)) [0] [8,9,10] ⟨E,E,E,E,E,E,E,E,V⟩ E (fun be28=>?_)
  refine bR aA aF true 5 [0,1,2,3,4,5] E (by kernel_rfl) [(W ((x0.length:Int) - 1))] [(26,.v (.agg #[.slice a13 y11.length c14])),(31,.ep ⟨a2,x0.length,c3⟩ (Int.toNat (W ((x0.length:Int) - 1))*2))] ⟨E,E,E,E,E,E,E,E,V⟩ [0] E E ⟨⟨V,E⟩,hs32.ix g16,(Es E)⟩ (uF aA aF 6 E (by kernel_rfl) E E E E E 0 E E (Int.toNat (W ((x0.length:Int) - 1))) 0 ((Sl.v ⟨a17,((at' x0 (W ((x0.length:Int) - 1))).1).length,c18⟩),(at' x0 (W ((x0.length:Int) - 1))).2) ⟨hy21 (kG g16),E⟩ E E E ⟨E,E,E,E,E,E,E,E,V⟩ [0] E (JA.one 7 (by kernel_rfl) (JK.call E E E E (dQ ((at' x0 (W ((x0.length:Int) - 1))).1,(at' x0 (W ((x0.length:Int) - 1))).2) a17 c18 _ hy23) E [1] E E ?_)))
  rintro ⟨a24,c25⟩ -
  refine aR ⟨E,E,E,E,E,E,E,E,V⟩ [0] E (JA.one 8 (by kernel_rfl) (aY aA E E E E E E E E (aM E (JA.one 9 (by kernel_rfl) (aY aA E E E E E E E E (aM E (aS aA aF 0 [10] E (by kernel_rfl) [] [(4,.v (.bool true))] E ⟨E,V⟩ (bE (by kernel_rfl) (aW (B':=(.new 3 44 [.slice a13 y11.length c14] (.new 4 38 [.slice a24 y22.1.length c25,.int .i64 y22.2] .nil))) (Bs E E) ?_)))))))))
  cases h
  exact JS.ret aA (a13,c14,a24,c25) V E E [1,0] E

def zA (x0:EdQ):Option (EdQ×Int):=
  (aG (qA x0.2.2.2.2.2.2.2.2.2.2.2.1) fun (y26,y27,y28)=>
  (bif (!y28) then
  (aG (eC x0) fun (y34,y35)=>
  some (y34,y35))
  else
  (aG (eA x0 0) fun (y49:EdQ)=>
  (aG (hJ y27 x0.2.1) fun (y63:List Int×Int)=>
  some ((y49.1,y49.2.1,(y27.1,y63.2),y49.2.2.2.1,y49.2.2.2.2.1,y49.2.2.2.2.2.1,y49.2.2.2.2.2.2.1,y49.2.2.2.2.2.2.2.1,y49.2.2.2.2.2.2.2.2.1,y49.2.2.2.2.2.2.2.2.2.1,y49.2.2.2.2.2.2.2.2.2.2.1,y26,y49.2.2.2.2.2.2.2.2.2.2.2.2.1,y49.2.2.2.2.2.2.2.2.2.2.2.2.2.1,y49.2.2.2.2.2.2.2.2.2.2.2.2.2.2.1,y49.2.2.2.2.2.2.2.2.2.2.2.2.2.2.2.1,y49.2.2.2.2.2.2.2.2.2.2.2.2.2.2.2.2),0)))))

theorem aPv (x0:EdQ) (q2:P6) (r:EdQ×Int) (h:zA x0=some r):
  FC Tryz.prog 207 [.agg (cC x0 q2).toArray] (bW x0 q2 []) (fun _:P6=>True) (fun q=>.tuple #[.agg (aI r.1 q).toArray,.int .i64 r.2]) (fun q=>(bW r.1 q [])):=
 by
  refine FC.of (T:=TTx) Tryz.call207 Tryz.func207 E E fun w0=>?_
  unfold zA at h
  refine aL aA 3 [] [7,8] [(1,.bp 7 0),(2,.bp 8 0)] (.new 7 46 (aI x0 q2) (.new 8 46 bF .nil)) ⟨(Es E),(Bs E E)⟩ E E (JS.seq (JS.region (aB aA 2 [] [] [(10,.v (.agg #[.slice (Q4 q2).1 (Q8 x0).2.2.2.1.length (Q4 q2).2.1]))] _ E ⟨⟨E,V⟩,E⟩ ?_)))
  obtain ⟨⟨y26,y27,y28⟩,hy29,h⟩:=aE h
  refine JO.call E E E E (aGv (Q8 x0).2.2.2.1 (Q4 q2).1 (Q4 q2).2.1 _ hy29) E [2] E E ?_
  rintro ⟨a30,c31,a32,c33⟩ -
  refine aP aA 9 [] [19,20] [(4,.bp 19 0),(5,.bp 20 0),(6,.v (.bool y28))] (.new 7 46 (aI x0 q2) (.new 8 46 bF (.new 19 44 [.slice a30 y26.length c31] (.new 20 38 [.slice a32 y27.1.length c33,.int .i64 y27.2] .nil)))) E ⟨(Es E),(Bs E E)⟩ (aD E (JS.seq (aC aA 2 [(16,.v (.bool (!y28)))] ⟨⟨E,V⟩,E⟩ E E ?_)))
  refine aK E h (fun h=>?_) (fun h=>?_)
  ·
   refine JS.seq (JS.region (aB aA 1 [] [] [(17,.v (.agg (aI x0 q2).toArray))] _ E ⟨⟨E,V⟩,E⟩ ?_))
   obtain ⟨⟨y34,y35⟩,hy36,h⟩:=aE h
   refine JO.call E E E E (gB x0 q2 _ hy36) E [0,1,2,3,4,5] E E fun q37 _=>aP aA 4 [] [] [(3,.v (I y35))] (.new 8 46 (aI y34 q37) .nil) E ⟨⟨E,V⟩,(Bs E E)⟩ (aD E ?_)
   cases h
   exact JS.ret aA q37 V E E [0,0,0,0,0,0] E
  refine JS.skip (JS.seq (JS.region (aB aA 1 [] [] [(21,.v (.agg (aI x0 q2).toArray))] _ E ⟨⟨E,V⟩,E⟩ ?_)))
  refine bnw h fun y49 hy50 h=>JO.call E E E E (oU x0 0 q2 _ hy50) E [0,1,2,3,4,5] E E fun q51 _=>aP aA 2 [] [62] [(7,.bp 62 0)] (.new 7 46 (aI x0 q2) (.new 8 46 bF (.new 19 44 [.slice a30 y26.length c31] (.new 20 38 [.slice a32 y27.1.length c33,.int .i64 y27.2] (.new 62 46 (aI y49 q51) .nil))))) E ⟨⟨E,V⟩,(Bs E E)⟩ (aD E (JS.seq ?_))
  refine bnw h fun y63 hy64 h=>bB E (.new 7 46 (aI x0 q2) (.new 19 44 [.slice a30 y26.length c31] (.new 20 38 [.slice a32 y27.1.length c33,.int .i64 y27.2] .nil))) [] [7,8] ⟨E,E,E,E,E,E,E,E,E,E,E,E,V⟩ E (fun be65=>?_)
  refine bR aA aF true 5 [0,1,2,4] E (by kernel_rfl) [] [(23,.v (.agg #[.slice a32 y27.1.length c33,.int .i64 y27.2])),(25,.v (I x0.2.1)),(27,.v (.agg #[.slice a30 y26.length c31]))] ⟨E,E,E,E,E,E,E,E,E,E,E,E,V⟩ [] E E (Es E) (JA.one 3 (by kernel_rfl) (JK.call E E E E (tK y27 x0.2.1 a32 c33 _ hy64) E [13] E E fun _ _=>aR ⟨E,E,E,E,E,E,E,E,E,E,E,E,V⟩ [] E (bR aA aF true 3 [5] E (by kernel_rfl) [] [(28,.bp 62 2)] ⟨E,E,E,E,E,E,E,E,E,E,E,E,V⟩ [] E E ⟨E,V⟩ (JA.one 6 (by kernel_rfl) (aY aA E E E E E E E E (aR ⟨E,E,E,E,E,E,E,E,E,E,E,E,V⟩ [] E (aS aA aF 1 [7] E (by kernel_rfl) [] [(29,.bp 62 12)] E ⟨E,V⟩ (JA.one 8 (by kernel_rfl) (aY aA E E E E E E E E (aM E (bE (by kernel_rfl) (aW (B':=(.new 8 46 bF (.new 62 46 (aI (U11 (U2 y49 (y27.1,y63.2)) y26) (a32,c33,q51.2.2.1,q51.2.2.2.1,a30,c31,(Q4 q51).2.2)) .nil))) (Bs E E) (aL aA 3 [] [] [(3,.v (I 0))] (.new 8 46 (aI (U11 (U2 y49 (y27.1,y63.2)) y26) (a32,c33,q51.2.2.1,q51.2.2.2.1,a30,c31,(Q4 q51).2.2)) .nil) ⟨⟨E,V⟩,(Bs E E)⟩ E E ?_)))))))))))))
  cases h
  exact JS.ret aA (a32,c33,q51.2.2.1,q51.2.2.2.1,a30,c31,(Q4 q51).2.2) V E E [7,1,5,2,2,2] E

def qC (x0:List Int×Int):Option ((List Int×Int)×Bool):=
  (aG (dJ x0) fun (y6:Bool)=>
  (bif (bif (bif (!y6) then true else (decide ((x0.1.length:Int)<2))) then true else (decide (x0.2=0))) then
  some (([],0),false)
  else
  (aG (fW x0 (W ((min x0.2 (W ((x0.1.length:Int) - 1)))+1))) fun (y8:List Int×Int)=>
  (aN (0≤(min x0.2 (W ((x0.1.length:Int) - 1)))∧(min x0.2 (W ((x0.1.length:Int) - 1)))<(x0.1.length:Int)) <|
  (aN (0≤(W ((min x0.2 (W ((x0.1.length:Int) - 1))) - 1))∧(W ((min x0.2 (W ((x0.1.length:Int) - 1))) - 1))<(x0.1.length:Int)) <|
  (aN (0≤(W ((min x0.2 (W ((x0.1.length:Int) - 1))) - 1))∧(W ((min x0.2 (W ((x0.1.length:Int) - 1))) - 1))<(y8.1.length:Int)) <|
  (aN (0≤(min x0.2 (W ((x0.1.length:Int) - 1)))∧(min x0.2 (W ((x0.1.length:Int) - 1)))<(y8.1.length:Int)) <|
  some (((List.set (List.set y8.1 (Int.toNat (W ((min x0.2 (W ((x0.1.length:Int) - 1))) - 1))) (at' x0.1 (min x0.2 (W ((x0.1.length:Int) - 1))))) (Int.toNat (min x0.2 (W ((x0.1.length:Int) - 1)))) (at' x0.1 (W ((min x0.2 (W ((x0.1.length:Int) - 1))) - 1)))),y8.2),true))))))))

theorem aGy (x0:List Int×Int) (a2:Option Addr) (c3:Nat) (r:(List Int×Int)×Bool) (h:qC x0=some r):
  FC Tryz.prog 206 [.agg #[.slice a2 x0.1.length c3,.int .i64 x0.2]] [⟨(.int .i64),⟨a2,x0.1.length,c3⟩,x0.1⟩] (fun _:Option Addr×Nat=>True) (fun q=>.tuple #[.agg #[.slice q.1 r.1.1.length q.2,.int .i64 r.1.2],.bool r.2]) (fun q=>[⟨(.int .i64),⟨q.1,r.1.1.length,q.2⟩,r.1.1⟩]):=
 by
  refine FC.of (T:=TTx) Tryz.call206 Tryz.func206 E E fun w0=>?_
  unfold qC at h
  refine aL aA 3 [] [2,3] [(1,.bp 2 0),(2,.bp 3 0)] (.new 2 38 [.slice a2 x0.1.length c3,.int .i64 x0.2] (.new 3 38 [.slice none 0 0,.int .i64 0] .nil)) ⟨(Es E),(Bs E E)⟩ E E (aC aA 4 [(4,.v (I (x0.1.length:Int)))] ⟨⟨E,V⟩,E⟩ E E (JS.seq (JS.seq (JS.region (aB aA 1 [] [] [(10,.v (.agg #[.slice a2 x0.1.length c3,.int .i64 x0.2]))] _ E ⟨⟨E,V⟩,E⟩ ?_)))))
  refine bnw h fun y6 hy7 h=>JO.call E E E E (fK x0 a2 c3 _ hy7) E [0] E E fun _ _=>aB aA 10 [] [] [(21,.v (.bool (bif (bif (!y6) then true else (decide ((x0.1.length:Int)<2))) then true else (decide (x0.2=0)))))] _ E ⟨⟨E,V⟩,E⟩ (aD E ?_)
  refine aK E h (fun h=>?_) (fun h=>?_)
  ·
   refine aL aA 3 [] [] [(3,.v (.bool false))] (.new 3 38 [.slice none 0 0,.int .i64 0] .nil) ⟨⟨E,V⟩,(Bs E E)⟩ E E ?_
   cases h
   refine aX (.int .i64) Sl.nil E E (JS.ret aA (none,0) V E E [0] E)
  refine JS.skip (sD aA 6 [(W ((x0.1.length:Int) - 1))] [] [(5,.v (I (min x0.2 (W ((x0.1.length:Int) - 1)))))] _ ⟨⟨V,E⟩,⟨E,V⟩,E⟩ E E (JS.seq (JS.region (aB aA 3 [(W ((min x0.2 (W ((x0.1.length:Int) - 1)))+1))] [] [(28,.v (.agg #[.slice a2 x0.1.length c3,.int .i64 x0.2])),(30,.v (I (W ((min x0.2 (W ((x0.1.length:Int) - 1)))+1))))] _ E ⟨⟨V,E⟩,(Es E),E⟩ ?_))))
  refine bnw h fun y8 hy9 h=>JO.call E E E E (oG x0 (W ((min x0.2 (W ((x0.1.length:Int) - 1)))+1)) a2 c3 _ hy9) E [0] E E ?_
  rintro ⟨a10,c11⟩ -
  refine aP aA 2 [] [11] [(6,.bp 11 0)] (.new 2 38 [.slice a2 x0.1.length c3,.int .i64 x0.2] (.new 3 38 [.slice none 0 0,.int .i64 0] (.new 11 38 [.slice a10 y8.1.length c11,.int .i64 y8.2] .nil))) E ⟨⟨E,V⟩,(Bs E E)⟩ (aD E (JS.seq ?_))
  obtain ⟨g13,h⟩:=aH h
  obtain ⟨g14,h⟩:=aH h
  obtain ⟨g16,h⟩:=aH h
  obtain ⟨g17,h⟩:=aH h
  refine cD 0 E fun hs24=>cD 1 E fun hs25=>?_
  refine bB E (.new 2 38 [.slice a2 x0.1.length c3,.int .i64 x0.2] (.new 11 38 [.slice a10 y8.1.length c11,.int .i64 y8.2] .nil)) [0] [20,21] ⟨E,E,E,E,E,E,E,E,V⟩ E (fun be20=>?_)
  refine bR aA aF true 6 [0,1,2,3,4,5,6,7,8,9,10,12,13,14,15,16] E (by kernel_rfl) [(W ((min x0.2 (W ((x0.1.length:Int) - 1))) - 1)),(W ((min x0.2 (W ((x0.1.length:Int) - 1))) - 1))] [(33,.v (.slice a10 y8.1.length c11)),(35,.v (I (W ((min x0.2 (W ((x0.1.length:Int) - 1))) - 1)))),(37,.v (.slice a10 y8.1.length c11)),(38,.v (I (min x0.2 (W ((x0.1.length:Int) - 1))))),(42,.ep ⟨a2,x0.1.length,c3⟩ (Int.toNat (min x0.2 (W ((x0.1.length:Int) - 1)))*1)),(48,.ep ⟨a2,x0.1.length,c3⟩ (Int.toNat (W ((min x0.2 (W ((x0.1.length:Int) - 1))) - 1))*1))] ⟨E,E,E,E,E,E,E,E,V⟩ [0] E E ⟨⟨V,E⟩,hs24.ix g13,⟨V,E⟩,hs24.ix g14,(Es E)⟩ (JA.load aA aF 11 E (by kernel_rfl) E E E E E E 0 E E (Int.toNat (min x0.2 (W ((x0.1.length:Int) - 1)))) 0 (at' x0.1 (min x0.2 (W ((x0.1.length:Int) - 1)))) ⟨bD g13,E⟩ E E ⟨E,E,E,E,E,E,E,E,V⟩ [0] E (JA.load aA aF 17 E (by kernel_rfl) E E E E E E 0 E E (Int.toNat (W ((min x0.2 (W ((x0.1.length:Int) - 1))) - 1))) 0 (at' x0.1 (W ((min x0.2 (W ((x0.1.length:Int) - 1))) - 1))) ⟨bD g14,E⟩ E E ⟨E,E,E,E,E,E,E,E,V⟩ [0] E (bR aA aF true 3 [18] E (by kernel_rfl) [] [(50,.ep ⟨a10,y8.1.length,c11⟩ (Int.toNat (W ((min x0.2 (W ((x0.1.length:Int) - 1))) - 1))*1))] ⟨E,E,E,E,E,E,E,E,V⟩ [0] E E ⟨hs25.ix g16,⟨E,V⟩⟩ (JA.one 19 (by kernel_rfl) (wK aA E E E E E E E E E [0] (fs:=[]) E (Int.toNat (W ((min x0.2 (W ((x0.1.length:Int) - 1))) - 1))) 0 (at' y8.1 (W ((min x0.2 (W ((x0.1.length:Int) - 1))) - 1))) (at' x0.1 (min x0.2 (W ((x0.1.length:Int) - 1)))) ⟨bD g16,E⟩ ⟨E,E,E⟩ (aR ⟨E,E,E,E,E,E,E,E,V⟩ [0] E (aS aA aF 1 [20] E (by kernel_rfl) [] [(51,.ep ⟨a10,y8.1.length,c11⟩ (Int.toNat (min x0.2 (W ((x0.1.length:Int) - 1)))*1))] E ⟨hs25.ix g17,⟨E,V⟩⟩ (JA.one 21 (by kernel_rfl) (wK aA E E E E E E E E E [0] (fs:=[]) E (Int.toNat (min x0.2 (W ((x0.1.length:Int) - 1)))) 0 (at' (List.set y8.1 (Int.toNat (W ((min x0.2 (W ((x0.1.length:Int) - 1))) - 1))) (at' x0.1 (min x0.2 (W ((x0.1.length:Int) - 1))))) (min x0.2 (W ((x0.1.length:Int) - 1)))) (at' x0.1 (W ((min x0.2 (W ((x0.1.length:Int) - 1))) - 1))) ⟨vZ (List.length_set.trans E) g17,E⟩ ⟨E,E,E⟩ (aM E (bE (by kernel_rfl) (aW (B':=(.new 3 38 [.slice none 0 0,.int .i64 0] (.new 11 38 [.slice a10 y8.1.length c11,.int .i64 y8.2] .nil))) (Bs E E) (aL aA 3 [] [] [(3,.v (.bool true))] (.new 3 38 [.slice a10 y8.1.length c11,.int .i64 y8.2] .nil) ⟨⟨E,V⟩,(Bs E E)⟩ E E ?_)))))))))))))
  cases h
  exact JS.ret aA (a10,c11) V E (by simp only [List.length_set,List.length_replicate,bY,dN,oP,oO];rfl) [0] (by simp only [List.length_set,List.length_replicate,bY,dN,oP,oO];rfl)

def gQ (x0:List (List Int)):Option (List Int):=
  (aG (lT x0) fun (y6:Bool)=>
  (bif (bif (!y6) then true else (decide ((x0.length:Int)=0))) then
  some ([])
  else
  (aN (0≤(0:Int)∧0<(x0.length:Int)) <|
  (aG (cJ (at' x0 0)) fun (y15:List Int)=>
  some y15))))

theorem sJ (x0:List (List Int)) (a2:Option Addr) (c3:Nat) (r:List Int) (h:gQ x0=some r):
  FC Tryz.prog 257 [.agg #[.slice a2 x0.length c3]] [⟨(.sl (.int .i64)),⟨a2,x0.length,c3⟩,x0⟩] (fun _:Option Addr×Nat=>True) (fun q=>.slice q.1 r.length q.2) (fun q=>[⟨(.int .i64),⟨q.1,r.length,q.2⟩,r⟩]):=
 by
  refine FC.of (T:=TTx) Tryz.call257 Tryz.func257 E E fun w0=>?_
  unfold gQ at h
  refine aL aA 2 [] [2] [(1,.bp 2 0)] (.new 2 41 [.slice a2 x0.length c3] .nil) ⟨⟨E,V⟩,(Bs E E)⟩ E E (JS.seq (JS.seq (JS.region (aB aA 1 [] [] [(3,.v (.agg #[.slice a2 x0.length c3]))] _ E ⟨⟨E,V⟩,E⟩ ?_))))
  refine bnw h fun y6 hy7 h=>JO.call E E E E (uO x0 a2 c3 _ hy7) E [0] E E fun _ _=>aB aA 7 [] [] [(11,.v (.bool (bif (!y6) then true else (decide ((x0.length:Int)=0)))))] _ E ⟨⟨E,V⟩,E⟩ (aD E ?_)
  refine aK E h (fun h=>?_) (fun h=>?_)
  ·
   refine aC aA 1 [(2,.v (.slice none 0 0))] ⟨⟨E,V⟩,E⟩ E E ?_
   cases h
   refine aX (.int .i64) Sl.nil E E (JS.ret aA (none,0) V E E [0] E)
  refine JS.skip (JS.seq (JS.region (bJ 0 E fun hs20=>?_)))
  obtain ⟨g9,h⟩:=aH h
  refine aB aA 4 [] [] [(15,.ep ⟨a2,x0.length,c3⟩ (Int.toNat 0*1))] _ E ⟨hs20.ix g9,hs20.fa g9,⟨E,V⟩,E⟩ (eU 0 E (Int.toNat 0) (at' x0 0) E fun a10 c11 ys12 hl13 hy14=>cP aA E E E E E E 0 E E (Int.toNat 0) 0 (Sl.v ⟨a10,(at' x0 0).length,c11⟩) ⟨hy14 (kG g9),E⟩ E E E ?_)
  refine bnw h fun y15 hy16 h=>JO.call E E E E (cZ (at' x0 0) a10 c11 _ hy16) E [1] E E ?_
  rintro ⟨a17,c18⟩ -
  refine aB aA 1 [] [] [(2,.v (.slice a17 y15.length c18))] _ E ⟨⟨E,V⟩,E⟩ (aD E ?_)
  cases h
  exact JS.ret aA (a17,c18) V E E [0] E

def yZ (x0:EdQ):Option (EdQ×Int):=
  (aG (gQ x0.2.2.2.2.2.2.2.2.2.2.1) fun (y26:List Int)=>
  (bif (decide ((y26.length:Int)=0)) then
  (aG (eC x0) fun (y30,y31)=>
  some (y30,y31))
  else
  (aG (oB x0 y26 3) fun (y45,y46)=>
  some (y45,y46))))

theorem aPu (x0:EdQ) (q2:P6) (r:EdQ×Int) (h:yZ x0=some r):
  FC Tryz.prog 205 [.agg (cC x0 q2).toArray] (bW x0 q2 []) (fun _:P6=>True) (fun q=>.tuple #[.agg (aI r.1 q).toArray,.int .i64 r.2]) (fun q=>(bW r.1 q [])):=
 by
  refine FC.of (T:=TTx) Tryz.call205 Tryz.func205 E E fun w0=>?_
  unfold yZ at h
  refine aL aA 3 [] [7,8] [(1,.bp 7 0),(2,.bp 8 0)] (.new 7 46 (aI x0 q2) (.new 8 46 bF .nil)) ⟨(Es E),(Bs E E)⟩ E E (JS.seq (JS.region (aB aA 2 [] [] [(6,.v (.agg #[.slice q2.2.2.1 (Q8 x0).2.2.1.length q2.2.2.2.1]))] _ E ⟨⟨E,V⟩,E⟩ ?_)))
  refine bnw h fun y26 hy27 h=>JO.call E E E E (sJ (Q8 x0).2.2.1 q2.2.2.1 q2.2.2.2.1 _ hy27) E [1] E E ?_
  rintro ⟨a28,c29⟩ -
  refine aB aA 1 [] [] [(4,.v (.slice a28 y26.length c29))] _ E ⟨⟨E,V⟩,E⟩ (aD E (JS.seq (aC aA 3 [(10,.v (.bool (decide ((y26.length:Int)=0))))] ⟨⟨E,V⟩,E⟩ E E ?_)))
  refine aK E h (fun h=>?_) (fun h=>?_)
  ·
   refine JS.seq (JS.region (aB aA 1 [] [] [(11,.v (.agg (aI x0 q2).toArray))] _ E ⟨⟨E,V⟩,E⟩ ?_))
   obtain ⟨⟨y30,y31⟩,hy32,h⟩:=aE h
   refine JO.call E E E E (gB x0 q2 _ hy32) E [0,1,2,3,4,5] E E fun q33 _=>aP aA 4 [] [] [(3,.v (I y31))] (.new 8 46 (aI y30 q33) .nil) E ⟨⟨E,V⟩,(Bs E E)⟩ (aD E ?_)
   cases h
   exact JS.ret aA q33 V E E [0,0,0,0,0,0] E
  refine JS.skip (JS.seq (JS.region (aB aA 2 [] [] [(15,.v (.agg (aI x0 q2).toArray)),(16,.v (.slice a28 y26.length c29))] _ E ⟨(Es E),E⟩ ?_)))
  obtain ⟨⟨y45,y46⟩,hy47,h⟩:=aE h
  refine JO.call E E E E (yE x0 y26 3 q2 a28 c29 _ hy47) E [0,1,2,3,4,5,6] E E fun q48 _=>aP aA 4 [] [] [(3,.v (I y46))] (.new 8 46 (aI y45 q48) .nil) E ⟨⟨E,V⟩,(Bs E E)⟩ (aD E ?_)
  cases h
  exact JS.ret aA q48 V E E [0,0,0,0,0,0] E

def kB (x0:EdQ) (x1:Int×List (List UInt8)) (x2:Int):Option (EdQ×Int):=
  (bif (zX [(97,12),(101,13),(98,11),(102,10),(112,8),(110,9)] x2) then
  (aG (oK x0 x1 ((zY [(97,12),(101,13),(98,11),(102,10),(112,8),(110,9)] x2),0)) fun (y54,y55,y56)=>
  some (y54,y55))
  else
  (bif (decide (x2=107)) then
  (aG (nI x0 x0.2.2.1.2 (x0.2.2.1.1.length:Int) 1) fun (y70,y71)=>
  some (y70,y71))
  else
  (bif (decide (x2=121)) then
  (aG (yZ x0) fun (y85,y86)=>
  some (y85,y86))
  else
  (bif (decide (x2=116)) then
  (aG (qC x0.2.2.1) fun (y100,y101)=>
  (bif (!y101) then
  (aG (eC x0) fun (y105,y106)=>
  some (y105,y106))
  else
  (aG (fY x0 y100) fun (y120,y121)=>
  some (y120,y121))))
  else
  (bif (decide (x2=95)) then
  (aG (zA x0) fun (y136,y137)=>
  some (y136,y137))
  else
  (bif (decide (x2=114)) then
  (aG (zB x0) fun (y151,y152)=>
  some ((y151.1,y151.2.1,y151.2.2.1,y151.2.2.2.1,y151.2.2.2.2.1,y151.2.2.2.2.2.1,y151.2.2.2.2.2.2.1,y151.2.2.2.2.2.2.2.1,y151.2.2.2.2.2.2.2.2.1,y151.2.2.2.2.2.2.2.2.2.1,y151.2.2.2.2.2.2.2.2.2.2.1,y151.2.2.2.2.2.2.2.2.2.2.2.1,y151.2.2.2.2.2.2.2.2.2.2.2.2.1,y151.2.2.2.2.2.2.2.2.2.2.2.2.2.1,[],y151.2.2.2.2.2.2.2.2.2.2.2.2.2.2.2.1,y151.2.2.2.2.2.2.2.2.2.2.2.2.2.2.2.2),y152))
  else
  (aG (eC x0) fun (y164,y165)=>
  some (y164,y165))))))))

theorem aE4 (x0:EdQ) (x1:Int×List (List UInt8)) (x2:Int) (q4:P6) (a28:Option Addr) (c29:Nat) (r:EdQ×Int) (h:kB x0 x1 x2=some r):
  FC Tryz.prog 118 [.agg (cC x0 q4).toArray,.agg #[.int .i64 x1.1,.slice a28 x1.2.length c29],.int .i64 x2] (bW x0 q4 [⟨.str,⟨a28,x1.2.length,c29⟩,x1.2⟩]) (fun _:P6=>True) (fun q=>.tuple #[.agg (aI r.1 q).toArray,.int .i64 r.2]) (fun q=>(bW r.1 q [])):=
 by
  refine FC.of (T:=TTx) Tryz.call118 Tryz.func118 E E fun w0=>?_
  unfold kB at h
  refine aL aA 4 [] [8,9,10] [(3,.bp 8 0),(4,.bp 9 0),(6,.bp 10 0)] (.new 8 46 (aI x0 q4) (.new 9 50 [.int .i64 x1.1,.slice a28 x1.2.length c29] (.new 10 46 bF .nil))) ⟨(Es E),(Bs E E)⟩ E E (JS.seq (JS.region (JO.makeMap E E E E E fun r32 w33 X34 m35=>JO.insert m35 E E E E Tryz.underlying181 Tryz.underlying3 E E E E fun w36 X37 m38=>JO.insert m38 E E E E Tryz.underlying181 Tryz.underlying3 E E E E fun w39 X40 m41=>JO.insert m41 E E E E Tryz.underlying181 Tryz.underlying3 E E E E fun w42 X43 m44=>JO.insert m44 E E E E Tryz.underlying181 Tryz.underlying3 E E E E fun w45 X46 m47=>JO.insert m47 E E E E Tryz.underlying181 Tryz.underlying3 E E E E fun w48 X49 m50=>JO.insert m50 E E E E Tryz.underlying181 Tryz.underlying3 E E E E fun w51 X52 m53=>aB aA 2 [] [] [(8,.v (.map (some r32)))] _ E ⟨⟨E,V⟩,E⟩ (aD E (JS.seq (JS.seq (JS.region (aB aA 2 [] [] [(19,.v (.map (some r32))),(20,.v (I x2))] _ E ⟨(Es E),E⟩ (aOy m53 E E E E Tryz.underlying181 Tryz.underlying3 (fun _=>by kernel_rfl) E E E (aB aA 5 [] [] [(9,.v (I (zY [(97,12),(101,13),(98,11),(102,10),(112,8),(110,9)] x2))),(10,.v (.bool (zX [(97,12),(101,13),(98,11),(102,10),(112,8),(110,9)] x2)))] _ E ⟨(Es E),E⟩ (aD E (aC aA 1 [(24,.v (.bool (zX [(97,12),(101,13),(98,11),(102,10),(112,8),(110,9)] x2)))] ⟨⟨E,V⟩,E⟩ E E ?_))))))))))))
  refine aK E h (fun h=>?_) (fun h=>?_)
  ·
   refine JS.seq (JS.region (aB aA 4 [] [] [(26,.v (.agg (aI x0 q4).toArray)),(27,.v (.agg #[.int .i64 x1.1,.slice a28 x1.2.length c29])),(29,.v (.agg #[.int .i64 (zY [(97,12),(101,13),(98,11),(102,10),(112,8),(110,9)] x2),.int .i64 0]))] _ E ⟨(Es E),E⟩ ?_))
   obtain ⟨⟨y54,y55,y56⟩,hy57,h⟩:=aE h
   refine JO.call E E E E (aE2 x0 x1 ((zY [(97,12),(101,13),(98,11),(102,10),(112,8),(110,9)] x2),0) q4 a28 c29 _ hy57) E [0,1,2,3,4,5,6] E E fun q58 _=>aP aA 8 [] [55] [(11,.bp 55 0),(12,.v (I y55))] (.new 10 46 bF (.new 55 46 (aI y54 q58) .nil)) E ⟨(Es E),(Bs E E)⟩ (aD E (aL aA 4 [] [] [(7,.v (I y55))] (.new 10 46 (aI y54 q58) .nil) ⟨⟨E,V⟩,(Bs E E)⟩ E E ?_))
   cases h
   exact JS.ret aA q58 V E E [0,0,0,0,0,0] E
  refine JS.skip (JS.seq (aC aA 1 [(36,.v (I x2))] ⟨⟨E,V⟩,E⟩ E E (JS.block (aC aA 2 [(37,.v (.bool (decide (x2=107))))] ⟨⟨E,V⟩,E⟩ E E ?_))))
  refine aK E h (fun h=>?_) (fun h=>?_)
  ·
   refine JS.seq (JS.region (aB aA 8 [] [] [(39,.v (.agg (aI x0 q4).toArray)),(42,.v (I x0.2.2.1.2)),(46,.v (I (x0.2.2.1.1.length:Int)))] _ E ⟨(Es E),E⟩ ?_))
   obtain ⟨⟨y70,y71⟩,hy72,h⟩:=aE h
   refine JO.call E E E E (vS x0 x0.2.2.1.2 (x0.2.2.1.1.length:Int) 1 q4 _ hy72) E [0,1,2,3,4,5] E E fun q73 _=>aP aA 4 [] [] [(7,.v (I y71))] (.new 10 46 (aI y70 q73) .nil) E ⟨⟨E,V⟩,(Bs E E)⟩ (aD E ?_)
   cases h
   exact JS.ret aA q73 V E E [0,0,0,0,0,0] E
  refine aC aA 2 [(50,.v (.bool (decide (x2=121))))] ⟨⟨E,V⟩,E⟩ E E ?_
  refine aK E h (fun h=>?_) (fun h=>?_)
  ·
   refine JS.seq (JS.region (aB aA 1 [] [] [(52,.v (.agg (aI x0 q4).toArray))] _ E ⟨⟨E,V⟩,E⟩ ?_))
   obtain ⟨⟨y85,y86⟩,hy87,h⟩:=aE h
   refine JO.call E E E E (aPu x0 q4 _ hy87) E [0,1,2,3,4,5] E E fun q88 _=>aP aA 4 [] [] [(7,.v (I y86))] (.new 10 46 (aI y85 q88) .nil) E ⟨⟨E,V⟩,(Bs E E)⟩ (aD E ?_)
   cases h
   exact JS.ret aA q88 V E E [0,0,0,0,0,0] E
  refine aC aA 2 [(56,.v (.bool (decide (x2=116))))] ⟨⟨E,V⟩,E⟩ E E ?_
  refine aK E h (fun h=>?_) (fun h=>?_)
  ·
   refine JS.seq (JS.region (aB aA 2 [] [] [(60,.v (.agg #[.slice q4.1 x0.2.2.1.1.length q4.2.1,.int .i64 x0.2.2.1.2]))] _ E ⟨⟨E,V⟩,E⟩ ?_))
   obtain ⟨⟨y100,y101⟩,hy102,h⟩:=aE h
   refine JO.call E E E E (aGy x0.2.2.1 q4.1 q4.2.1 _ hy102) E [0] E E ?_
   rintro ⟨a103,c104⟩ -
   refine aP aA 6 [] [104] [(14,.bp 104 0),(15,.v (.bool y101))] (.new 8 46 (aI x0 q4) (.new 10 46 bF (.new 104 38 [.slice a103 y100.1.length c104,.int .i64 y100.2] .nil))) E ⟨(Es E),(Bs E E)⟩ (aD E (JS.seq (aC aA 2 [(65,.v (.bool (!y101)))] ⟨⟨E,V⟩,E⟩ E E ?_)))
   refine aK E h (fun h=>?_) (fun h=>?_)
   ·
    refine JS.seq (JS.region (aB aA 1 [] [] [(66,.v (.agg (aI x0 q4).toArray))] _ E ⟨⟨E,V⟩,E⟩ ?_))
    obtain ⟨⟨y105,y106⟩,hy107,h⟩:=aE h
    refine JO.call E E E E (gB x0 q4 _ hy107) E [0,1,2,3,4,5] E E fun q108 _=>aP aA 4 [] [] [(7,.v (I y106))] (.new 10 46 (aI y105 q108) .nil) E ⟨⟨E,V⟩,(Bs E E)⟩ (aD E ?_)
    cases h
    exact JS.ret aA q108 V E E [0,0,0,0,0,0] E
   refine JS.skip (JS.seq (JS.region (aB aA 2 [] [] [(70,.v (.agg (aI x0 q4).toArray)),(71,.v (.agg #[.slice a103 y100.1.length c104,.int .i64 y100.2]))] _ E ⟨(Es E),E⟩ ?_)))
   obtain ⟨⟨y120,y121⟩,hy122,h⟩:=aE h
   refine JO.call E E E E (oV x0 y100 q4 a103 c104 _ hy122) E [0,1,2,3,4,5,7] E E fun q123 _=>aP aA 4 [] [] [(7,.v (I y121))] (.new 10 46 (aI y120 q123) .nil) E ⟨⟨E,V⟩,(Bs E E)⟩ (aD E ?_)
   cases h
   exact JS.ret aA q123 V E E [0,0,0,0,0,0] E
  refine aC aA 2 [(75,.v (.bool (decide (x2=95))))] ⟨⟨E,V⟩,E⟩ E E ?_
  refine aK E h (fun h=>?_) (fun h=>?_)
  ·
   refine JS.seq (JS.region (aB aA 1 [] [] [(77,.v (.agg (aI x0 q4).toArray))] _ E ⟨⟨E,V⟩,E⟩ ?_))
   obtain ⟨⟨y136,y137⟩,hy138,h⟩:=aE h
   refine JO.call E E E E (aPv x0 q4 _ hy138) E [0,1,2,3,4,5] E E fun q139 _=>aP aA 4 [] [] [(7,.v (I y137))] (.new 10 46 (aI y136 q139) .nil) E ⟨⟨E,V⟩,(Bs E E)⟩ (aD E ?_)
   cases h
   exact JS.ret aA q139 V E E [0,0,0,0,0,0] E
  refine aC aA 2 [(81,.v (.bool (decide (x2=114))))] ⟨⟨E,V⟩,E⟩ E E ?_
  refine aK E h (fun h=>?_) (fun h=>?_)
  ·
   refine JS.seq (JS.region (aB aA 1 [] [] [(83,.v (.agg (aI x0 q4).toArray))] _ E ⟨⟨E,V⟩,E⟩ ?_))
   obtain ⟨⟨y151,y152⟩,hy153,h⟩:=aE h
   refine JO.call E E E E (aPw x0 q4 _ hy153) E [0,1,2,3,4,5] E E ?_
   rintro ⟨a154,c155,a156,c157,a158,c159,a160,c161,a162,c163⟩ -
   refine aP aA 4 [] [] [(7,.v (I y152))] (.new 10 46 (aI (U14 y151 []) (a154,c155,a156,c157,a158,c159,a160,c161,none,0,a162,c163)) .nil) E ⟨⟨E,V⟩,(Bs E E)⟩ (aD E ?_)
   cases h
   refine aX (.int .i64) Sl.nil E E (JS.ret aA (a154,c155,a156,c157,a158,c159,a160,c161,none,0,a162,c163) V E E [1,1,1,1,0,0] E)
  refine JS.skip (aZ (JS.seq (JS.region (aB aA 1 [] [] [(87,.v (.agg (aI x0 q4).toArray))] _ E ⟨⟨E,V⟩,E⟩ ?_))))
  obtain ⟨⟨y164,y165⟩,hy166,h⟩:=aE h
  refine JO.call E E E E (gB x0 q4 _ hy166) E [0,1,2,3,4,5] E E fun q167 _=>aP aA 4 [] [] [(7,.v (I y165))] (.new 10 46 (aI y164 q167) .nil) E ⟨⟨E,V⟩,(Bs E E)⟩ (aD E ?_)
  cases h
  exact JS.ret aA q167 V E E [0,0,0,0,0,0] E

def fE (x0:List Int) (j28:Int→Option Int) (k19:Int→Option Int):Int→Option Int:=fun x9=>
  (aN (((decide (0<x9))=true)→0≤(W (x9 - 1))∧(W (x9 - 1))<(x0.length:Int)) <|
  (bU ((decide (0<x9))=true) (fO (at' x0 (W (x9 - 1)))) (0:Int) fun (y15:Int)=>
  (bif (bif (decide (0<x9)) then (!(decide (y15=1))) else false) then
  k19 (W (x9 - 1))
  else
  j28 x9)))

def fD (x0:List Int) (j54:Int→Option Int) (k45:Int→Option Int):Int→Option Int:=fun x35=>
  (aN (((decide (0<x35))=true)→0≤(W (x35 - 1))∧(W (x35 - 1))<(x0.length:Int)) <|
  (bU ((decide (0<x35))=true) (fO (at' x0 (W (x35 - 1)))) (0:Int) fun (y41:Int)=>
  (bif (bif (decide (0<x35)) then (decide (y41=1)) else false) then
  k45 (W (x35 - 1))
  else
  j54 x35)))

def jF (x0:List Int) (x1:Int):Option Int:=
  (aG (hD x1 (x0.length:Int)) fun (y7:Int)=>
  (aU (fun (x27:Int)=>
  (aU (fun (x53:Int)=>
  some x53) fun j54=>
  (bC (fD x0 j54) bM x27))) fun j28=>
  (bC (fE x0 j28) bM y7)))

theorem aAg (x0:List Int) (x1:Int) (a3:Option Addr) (c4:Nat) (r:Int) (h:jF x0 x1=some r):
  FC Tryz.prog 116 [.slice a3 x0.length c4,.int .i64 x1] [⟨(.int .i64),⟨a3,x0.length,c4⟩,x0⟩] (fun _:Unit=>True) (fun _=>.int .i64 r) (fun _=>[]):=
 by
  refine FC.of (T:=TTx) Tryz.call116 Tryz.func116 E E fun w0=>?_
  unfold jF at h
  refine aC aA 1 [] ⟨V,E⟩ E E (JS.seq (JS.region (aB aA 3 [] [] [(5,.v (I x1)),(7,.v (I (x0.length:Int)))] _ E ⟨(Es E),E⟩ ?_)))
  refine bnw h fun y7 hy8 h=>JO.call E E E E (yD x1 (x0.length:Int) _ hy8) E [] E E fun _ _=>aB aA 1 [] [] [(1,.v (I y7))] _ E ⟨⟨E,V⟩,E⟩ (aD E (JS.seq ?_))
  obtain ⟨j28,hj76,h⟩:=aQ h
  refine bA (ι:=Int) ⟨fun z=>j28 z=some r,fun z=>[(0,.v (.slice a3 x0.length c4)),(1,.v (I z))],fun z=>.nil,fun z=>[⟨(.int .i64),⟨a3,x0.length,c4⟩,x0⟩],fun z=>[],fun z=>0⟩ ?_ ?_
  ·
   refine JS.loop (ι:=Nat×Int) ⟨fun z=>bC (fE x0 j28) z.1 z.2=some r,fun z=>[(0,.v (.slice a3 x0.length c4)),(1,.v (I z.2))],fun z=>.nil,fun z=>[⟨(.int .i64),⟨a3,x0.length,c4⟩,x0⟩],fun z=>[],fun z=>z.1⟩ (bM,y7) h (Es E) V [0] E [] E ?_
   rintro ⟨n20,x9⟩ h
   obtain ⟨n20,rfl,h⟩:=bH h
   rw [fE] at h
   refine JS.seq (JS.seq (JS.region (bJ 0 E fun hs64=>?_)))
   obtain ⟨g12,h⟩:=aH h
   refine aB aA 7 [(W (x9 - 1))] [] [(11,.v (.bool (decide (0<x9)))),(15,.cd [(11,true)] (.ep ⟨a3,x0.length,c4⟩ (Int.toNat (W (x9 - 1))*1)))] _ E ⟨(fun q63=>⟨V,E⟩),(fun q65=>hs64.ix (g12 q65)),(Es E),E⟩ (JO.load aA E E E E E E E 0 E E (Int.toNat (W (x9 - 1))) 0 (at' x0 (W (x9 - 1))) (fun q66=>⟨bD (g12 q66),E⟩) E E ?_)
   obtain ⟨y15,hy16,-,h⟩:=aV h
   refine bI E E E E (fun q67=>oW (at' x0 (W (x9 - 1))) _ (hy16 q67)) E [] E E (aB aA 2 [] [] [(19,.v (.bool (bif (decide (0<x9)) then (!(decide (y15=1))) else false)))] _ E ⟨⟨E,V⟩,E⟩ (aD E ?_))
   refine aK E h (fun h=>?_) (fun h=>?_)
   ·
    refine JS.skip (JS.block (bZ aA 3 [(W (x9 - 1))] [] [(1,.v (I (W (x9 - 1))))] _ ⟨⟨V,E⟩,⟨E,V⟩,E⟩ E E (aZ (bQ (n20,(W (x9 - 1))) h (Nat.lt_succ_self _) (Es E) V [0] E [] E))))
   refine JS.exit E (aT x9 h (Es E) V [0] E [] E)
  rintro x27 h
  subst hj76
  refine JS.seq ?_
  obtain ⟨j54,hj75,h⟩:=aQ h
  refine bA (ι:=Int) ⟨fun z=>j54 z=some r,fun z=>[(1,.v (I z))],fun z=>.nil,fun z=>[],fun z=>[],fun z=>0⟩ ?_ ?_
  ·
   refine JS.loop (ι:=Nat×Int) ⟨fun z=>bC (fD x0 j54) z.1 z.2=some r,fun z=>[(0,.v (.slice a3 x0.length c4)),(1,.v (I z.2))],fun z=>.nil,fun z=>[⟨(.int .i64),⟨a3,x0.length,c4⟩,x0⟩],fun z=>[],fun z=>z.1⟩ (bM,x27) h (Es E) V [0] E [] E ?_
   rintro ⟨n46,x35⟩ h
   obtain ⟨n46,rfl,h⟩:=bH h
   rw [fD] at h
   refine JS.seq (JS.seq (JS.region (bJ 0 E fun hs70=>?_)))
   obtain ⟨g38,h⟩:=aH h
   refine aB aA 7 [(W (x35 - 1))] [] [(24,.v (.bool (decide (0<x35)))),(28,.cd [(24,true)] (.ep ⟨a3,x0.length,c4⟩ (Int.toNat (W (x35 - 1))*1)))] _ E ⟨(fun q69=>⟨V,E⟩),(fun q71=>hs70.ix (g38 q71)),(Es E),E⟩ (JO.load aA E E E E E E E 0 E E (Int.toNat (W (x35 - 1))) 0 (at' x0 (W (x35 - 1))) (fun q72=>⟨bD (g38 q72),E⟩) E E ?_)
   obtain ⟨y41,hy42,-,h⟩:=aV h
   refine bI E E E E (fun q73=>oW (at' x0 (W (x35 - 1))) _ (hy42 q73)) E [] E E (aB aA 2 [] [] [(32,.v (.bool (bif (decide (0<x35)) then (decide (y41=1)) else false)))] _ E ⟨⟨E,V⟩,E⟩ (aD E ?_))
   refine aK E h (fun h=>?_) (fun h=>?_)
   ·
    refine JS.skip (JS.block (bZ aA 3 [(W (x35 - 1))] [] [(1,.v (I (W (x35 - 1))))] _ ⟨⟨V,E⟩,⟨E,V⟩,E⟩ E E (aZ (bQ (n46,(W (x35 - 1))) h (Nat.lt_succ_self _) (Es E) V [0] E [] E))))
   refine JS.exit E (aT x35 h ⟨E,V⟩ V [] E [] E)
  rintro x53 h
  subst hj75
  refine aC aA 2 [(4,.v (I x53))] ⟨⟨E,V⟩,E⟩ E E ?_
  cases h
  exact JS.ret aA () V E E [] E

def hY (x0:List Int) (j26:Int→Option Int) (k18:Int→Option Int):Int→Option Int:=fun x9=>
  (aN (((decide (x9<(x0.length:Int)))=true)→0≤x9∧x9<(x0.length:Int)) <|
  (bU ((decide (x9<(x0.length:Int)))=true) (fO (at' x0 x9)) (0:Int) fun (y14:Int)=>
  (bif (bif (decide (x9<(x0.length:Int))) then (!(decide (y14=1))) else false) then
  k18 (W (x9+1))
  else
  j26 x9)))

def hX (x0:List Int) (j49:Int→Option Int) (k41:Int→Option Int):Int→Option Int:=fun x32=>
  (aN (((decide (x32<(x0.length:Int)))=true)→0≤x32∧x32<(x0.length:Int)) <|
  (bU ((decide (x32<(x0.length:Int)))=true) (fO (at' x0 x32)) (0:Int) fun (y37:Int)=>
  (bif (bif (decide (x32<(x0.length:Int))) then (decide (y37=1)) else false) then
  k41 (W (x32+1))
  else
  j49 x32)))

def lQ (x0:List Int) (x1:Int):Option Int:=
  (aG (hD x1 (x0.length:Int)) fun (y7:Int)=>
  (aU (fun (x25:Int)=>
  (aU (fun (x48:Int)=>
  some x48) fun j49=>
  (bC (hX x0 j49) bM x25))) fun j26=>
  (bC (hY x0 j26) bM y7)))

theorem yG (x0:List Int) (x1:Int) (a3:Option Addr) (c4:Nat) (r:Int) (h:lQ x0 x1=some r):
  FC Tryz.prog 196 [.slice a3 x0.length c4,.int .i64 x1] [⟨(.int .i64),⟨a3,x0.length,c4⟩,x0⟩] (fun _:Unit=>True) (fun _=>.int .i64 r) (fun _=>[]):=
 by
  refine FC.of (T:=TTx) Tryz.call196 Tryz.func196 E E fun w0=>?_
  unfold lQ at h
  refine aC aA 1 [] ⟨V,E⟩ E E (JS.seq (JS.region (aB aA 3 [] [] [(5,.v (I x1)),(7,.v (I (x0.length:Int)))] _ E ⟨(Es E),E⟩ ?_)))
  refine bnw h fun y7 hy8 h=>JO.call E E E E (yD x1 (x0.length:Int) _ hy8) E [] E E fun _ _=>aB aA 1 [] [] [(1,.v (I y7))] _ E ⟨⟨E,V⟩,E⟩ (aD E (JS.seq ?_))
  obtain ⟨j26,hj68,h⟩:=aQ h
  refine bA (ι:=Int) ⟨fun z=>j26 z=some r,fun z=>[(0,.v (.slice a3 x0.length c4)),(1,.v (I z))],fun z=>.nil,fun z=>[⟨(.int .i64),⟨a3,x0.length,c4⟩,x0⟩],fun z=>[],fun z=>0⟩ ?_ ?_
  ·
   refine JS.loop (ι:=Nat×Int) ⟨fun z=>bC (hY x0 j26) z.1 z.2=some r,fun z=>[(0,.v (.slice a3 x0.length c4)),(1,.v (I z.2))],fun z=>.nil,fun z=>[⟨(.int .i64),⟨a3,x0.length,c4⟩,x0⟩],fun z=>[],fun z=>z.1⟩ (bM,y7) h (Es E) V [0] E [] E ?_
   rintro ⟨n19,x9⟩ h
   obtain ⟨n19,rfl,h⟩:=bH h
   rw [hY] at h
   refine JS.seq (JS.seq (JS.region (bJ 0 E fun hs57=>?_)))
   obtain ⟨g11,h⟩:=aH h
   refine aB aA 8 [] [] [(13,.v (.bool (decide (x9<(x0.length:Int))))),(16,.cd [(13,true)] (.ep ⟨a3,x0.length,c4⟩ (Int.toNat x9*1)))] _ E ⟨(fun q58=>hs57.ix (g11 q58)),(Es E),E⟩ (JO.load aA E E E E E E E 0 E E (Int.toNat x9) 0 (at' x0 x9) (fun q59=>⟨bD (g11 q59),E⟩) E E ?_)
   obtain ⟨y14,hy15,-,h⟩:=aV h
   refine bI E E E E (fun q60=>oW (at' x0 x9) _ (hy15 q60)) E [] E E (aB aA 2 [] [] [(20,.v (.bool (bif (decide (x9<(x0.length:Int))) then (!(decide (y14=1))) else false)))] _ E ⟨⟨E,V⟩,E⟩ (aD E ?_))
   refine aK E h (fun h=>?_) (fun h=>?_)
   ·
    refine JS.skip (JS.block (bZ aA 3 [(W (x9+1))] [] [(1,.v (I (W (x9+1))))] _ ⟨⟨V,E⟩,⟨E,V⟩,E⟩ E E (aZ (bQ (n19,(W (x9+1))) h (Nat.lt_succ_self _) (Es E) V [0] E [] E))))
   refine JS.exit E (aT x9 h (Es E) V [0] E [] E)
  rintro x25 h
  subst hj68
  refine JS.seq ?_
  obtain ⟨j49,hj67,h⟩:=aQ h
  refine bA (ι:=Int) ⟨fun z=>j49 z=some r,fun z=>[(1,.v (I z))],fun z=>.nil,fun z=>[],fun z=>[],fun z=>0⟩ ?_ ?_
  ·
   refine JS.loop (ι:=Nat×Int) ⟨fun z=>bC (hX x0 j49) z.1 z.2=some r,fun z=>[(0,.v (.slice a3 x0.length c4)),(1,.v (I z.2))],fun z=>.nil,fun z=>[⟨(.int .i64),⟨a3,x0.length,c4⟩,x0⟩],fun z=>[],fun z=>z.1⟩ (bM,x25) h (Es E) V [0] E [] E ?_
   rintro ⟨n42,x32⟩ h
   obtain ⟨n42,rfl,h⟩:=bH h
   rw [hX] at h
   refine JS.seq (JS.seq (JS.region (bJ 0 E fun hs62=>?_)))
   obtain ⟨g34,h⟩:=aH h
   refine aB aA 8 [] [] [(27,.v (.bool (decide (x32<(x0.length:Int))))),(30,.cd [(27,true)] (.ep ⟨a3,x0.length,c4⟩ (Int.toNat x32*1)))] _ E ⟨(fun q63=>hs62.ix (g34 q63)),(Es E),E⟩ (JO.load aA E E E E E E E 0 E E (Int.toNat x32) 0 (at' x0 x32) (fun q64=>⟨bD (g34 q64),E⟩) E E ?_)
   obtain ⟨y37,hy38,-,h⟩:=aV h
   refine bI E E E E (fun q65=>oW (at' x0 x32) _ (hy38 q65)) E [] E E (aB aA 2 [] [] [(34,.v (.bool (bif (decide (x32<(x0.length:Int))) then (decide (y37=1)) else false)))] _ E ⟨⟨E,V⟩,E⟩ (aD E ?_))
   refine aK E h (fun h=>?_) (fun h=>?_)
   ·
    refine JS.skip (JS.block (bZ aA 3 [(W (x32+1))] [] [(1,.v (I (W (x32+1))))] _ ⟨⟨V,E⟩,⟨E,V⟩,E⟩ E E (aZ (bQ (n42,(W (x32+1))) h (Nat.lt_succ_self _) (Es E) V [0] E [] E))))
   refine JS.exit E (aT x32 h ⟨E,V⟩ V [] E [] E)
  rintro x48 h
  subst hj67
  refine aC aA 2 [(4,.v (I x48))] ⟨⟨E,V⟩,E⟩ E E ?_
  cases h
  exact JS.ret aA () V E E [] E

def mH (x0:List (List Int)):Option (List (List Int)):=
  (aG (lT x0) fun (y6:Bool)=>
  (bif (!y6) then
  some ([])
  else
  (aG (jE x0) fun (y8:List (List Int))=>
  (aU (fun (x44:List (List Int))=>
  some x44) fun j47=>
  (bif (decide (0<(y8.length:Int))) then
  (aU (fun (x35:List (List Int))=>
  j47 x35) fun j38=>
  (aN (0≤(1:Int)∧(1:Int)≤(y8.length:Int)∧(y8.length:Int)≤(y8.length:Int)) <|
  (aN (y8.length≤536870912) <|
  (aN (0≤(0:Int)∧0<(y8.length:Int)) <|
  (aN (y8.length≤536870912) <|
  j38 (List.drop 1 y8 ++ [(at' y8 0)]))))))
  else
  j47 y8)))))

theorem aGx (x0:List (List Int)) (a2:Option Addr) (c3:Nat) (r:List (List Int)) (h:mH x0=some r):
  FC Tryz.prog 259 [.agg #[.slice a2 x0.length c3]] [⟨(.sl (.int .i64)),⟨a2,x0.length,c3⟩,x0⟩] (fun _:Option Addr×Nat=>True) (fun q=>.agg #[.slice q.1 r.length q.2]) (fun q=>[⟨(.sl (.int .i64)),⟨q.1,r.length,q.2⟩,r⟩]):=
 by
  refine FC.of (T:=TTx) Tryz.call259 Tryz.func259 E E fun w0=>?_
  unfold mH at h
  refine aL aA 2 [] [2,3] [(1,.bp 2 0),(2,.bp 3 0)] (.new 2 41 [.slice a2 x0.length c3] (.new 3 41 [.slice none 0 0] .nil)) ⟨(Es E),(Bs E E)⟩ E E (JS.seq (JS.seq (JS.region (aB aA 1 [] [] [(4,.v (.agg #[.slice a2 x0.length c3]))] _ E ⟨⟨E,V⟩,E⟩ ?_))))
  refine bnw h fun y6 hy7 h=>JO.call E E E E (uO x0 a2 c3 _ hy7) E [0] E E fun _ _=>aB aA 1 [] [] [(6,.v (.bool (!y6)))] _ E ⟨⟨E,V⟩,E⟩ (aD E ?_)
  refine aK E h (fun h=>?_) (fun h=>?_)
  ·
   refine aL aA 2 [] [] [] (.new 3 41 [.slice none 0 0] .nil) ⟨V,(Bs E E)⟩ E E ?_
   cases h
   refine aX (.sl (.int .i64)) Sl.nil E E (JS.ret aA (none,0) V E E [0] E)
  refine JS.skip (JS.seq (JS.region (aB aA 1 [] [] [(8,.v (.agg #[.slice a2 x0.length c3]))] _ E ⟨⟨E,V⟩,E⟩ ?_)))
  refine bnw h fun y8 hy9 h=>JO.call E E E E (vE x0 a2 c3 _ hy9) E [0] E E ?_
  rintro ⟨a10,c11⟩ -
  refine aP aA 2 [] [11] [(3,.bp 11 0)] (.new 3 41 [.slice none 0 0] (.new 11 41 [.slice a10 y8.length c11] .nil)) E ⟨⟨E,V⟩,(Bs E E)⟩ (aD E ?_)
  obtain ⟨j47,hj66,h⟩:=aQ h
  refine dM (ι:=List (List Int)×Option Addr×Nat) ⟨fun z=>j47 z.1=some r,fun z=>[(2,.bp 3 0),(3,.bp 11 0)],fun z=>(.new 3 41 [.slice none 0 0] (.new 11 41 [.slice z.2.1 z.1.length z.2.2] .nil)),fun z=>[],fun z=>[⟨(.sl (.int .i64)),⟨z.2.1,z.1.length,z.2.2⟩,z.1⟩],fun z=>0⟩ ?_ ?_
  ·
   refine aC aA 4 [(13,.v (.bool (decide (0<(y8.length:Int)))))] ⟨⟨E,V⟩,E⟩ E E ?_
   refine aK E h (fun h=>?_) (fun h=>?_)
   ·
    obtain ⟨j38,hj64,h⟩:=aQ h
    refine mK (ι:=List (List Int)×Option Addr×Nat) ⟨fun z=>j38 z.1=some r,fun z=>[(2,.bp 3 0),(3,.bp 11 0)],fun z=>(.new 3 41 [.slice none 0 0] (.new 11 41 [.slice z.2.1 z.1.length z.2.2] .nil)),fun z=>[],fun z=>[⟨(.sl (.int .i64)),⟨z.2.1,z.1.length,z.2.2⟩,z.1⟩],fun z=>0⟩ ?_ ?_
    ·
     obtain ⟨g12,h⟩:=aH h
     obtain ⟨g14,h⟩:=aH h
     obtain ⟨g17,h⟩:=aH h
     obtain ⟨g26,h⟩:=aH h
     refine aHx 0 E (Int.toNat 0) (at' y8 0) E (by omega) fun a18 c19 l20 zs21 hl22 hz23 h024=>?_
     obtain rfl:([.slice a18 (at' y8 0).length c19]:List Value)=l20:=Option.some.inj hl22
     refine cD 1 E fun hs63=>?_
     refine bB E (.new 11 41 [.slice a10 y8.length c11] .nil) [1] [9,10,11] ⟨E,E,E,E,V⟩ E (fun be31=>?_)
     refine bR aA aF true 7 [0,1,4,5,6] E (by kernel_rfl) [] [(15,.v (.slice a10 y8.length c11)),(20,.ep ⟨a10,y8.length,c11⟩ (Int.toNat 0*1))] ⟨E,E,E,E,V⟩ [1] E E ⟨(hs63.cast (aB6 hz23)).ix g17,(Es E)⟩ (uF aA aF 7 E (by kernel_rfl) E E E E E 0 E E (Int.toNat 0) 0 ((at' y8 0),[.slice a18 (at' y8 0).length c19]) ⟨h024,E⟩ E E E ⟨E,E,E,E,V⟩ [1] E (dB aA aF 2 E (by kernel_rfl) E E E E E E (1:Int) (y8.length:Int) E E ⟨g12.1,g12.2.1,g12.2.2,(hs63.cast (aB6 hz23)).cap,(E:(wO ⟨a10,y8.length,c11⟩ 1 1 y8.length)=(wO ⟨a10,y8.length,c11⟩ 1 1 y8.length))⟩ E ?_))
     refine JA.all (rs:=[3,8]) (by kernel_rfl) E (List.forall_mem_cons.2 ⟨?_,List.forall_mem_cons.2 ⟨?_,(fun _ hx=>absurd hx List.not_mem_nil)⟩⟩)
     ·
      refine aOz (.alt (.sl (.int .i64))) Sl.nil E E (uE aA E E E E ⟨E,E,E,E,V,E,E,E,E⟩ E 1 y8.length E 0 E 2 E ⟨by omega,by rw [← hz23,List.length_map]⟩ (by simp only [List.length_nil];omega) E fun a15 c16=>aR ⟨E,E,E,E,V⟩ [2] E (JA.one 8 (by kernel_rfl) (JK.buildSlice aA E E E E E E E E E E E [] E (.alt (.sl (.int .i64))) [Sum.inr [.slice a18 (at' y8 0).length c19]] ⟨E,E,E⟩ E E fun a25=>aR ⟨E,E,E,E,V⟩ [3] E (JA.one 9 (by kernel_rfl) (rZ aA E E E E ⟨E,E,E,E,V,E,E,E,E⟩ E E [1,0] E (by have:=congrArg List.length hz23;simp [aBw] at this ⊢;omega) E (List.drop 1 y8 ++ [(at' y8 0)]).length (by rw [← hz23];simp [aBw]) fun a27 c28=>aM E (aS aA aF 1 [10] E (by kernel_rfl) [] [(24,.bp 11 0)] E ⟨E,V⟩ (JA.one 11 (by kernel_rfl) (aY aA E E E E E E E E (aM E (bE (by kernel_rfl) (aW (B':=(.new 3 41 [.slice none 0 0] (.new 11 41 [.slice a27 (List.drop 1 y8 ++ [(at' y8 0)]).length c28] .nil))) (Bs E E) (wH [0,0] E hz23 h024 E (aT ((List.drop 1 y8 ++ [(at' y8 0)]),a27,c28) h (Es E) (Bs E E) [] E [0] E)))))))))))))
     refine JK.buildSlice aA E E E E E E E E E E E [] E (.alt (.sl (.int .i64))) [Sum.inr [.slice a18 (at' y8 0).length c19]] ⟨E,E,E⟩ E E fun a25=>aR ⟨E,E,E,E,V⟩ [2] E (JA.one 3 (by kernel_rfl) (aOz (.alt (.sl (.int .i64))) Sl.nil E E (uE aA E E E E ⟨E,E,E,E,V,E,E,E,E⟩ E 1 y8.length E 0 E 3 E ⟨by omega,by rw [← hz23,List.length_map]⟩ (by simp only [List.length_nil];omega) E fun a15 c16=>aR ⟨E,E,E,E,V⟩ [3] E (JA.one 9 (by kernel_rfl) (rZ aA E E E E ⟨E,E,E,E,V,E,E,E,E⟩ E E [0,0] E (by have:=congrArg List.length hz23;simp [aBw] at this ⊢;omega) E (List.drop 1 y8 ++ [(at' y8 0)]).length (by rw [← hz23];simp [aBw]) fun a27 c28=>aM E (aS aA aF 1 [10] E (by kernel_rfl) [] [(24,.bp 11 0)] E ⟨E,V⟩ (JA.one 11 (by kernel_rfl) (aY aA E E E E E E E E (aM E (bE (by kernel_rfl) (aW (B':=(.new 3 41 [.slice none 0 0] (.new 11 41 [.slice a27 (List.drop 1 y8 ++ [(at' y8 0)]).length c28] .nil))) (Bs E E) (wH [0,0] E hz23 h024 E (aT ((List.drop 1 y8 ++ [(at' y8 0)]),a27,c28) h (Es E) (Bs E E) [] E [0] E)))))))))))))
    rintro ⟨x35,a36,c37⟩ h
    subst hj64
    exact aT (x35,a36,c37) h (Es E) (Bs E E) [] E [0] E
   refine JS.skip (aT (y8,a10,c11) h (Es E) (Bs E E) [] E [0] E)
  rintro ⟨x44,a45,c46⟩ h
  subst hj66
  refine aL aA 2 [] [] [] (.new 3 41 [.slice a45 x44.length c46] .nil) ⟨V,(Bs E E)⟩ E E ?_
  cases h
  exact JS.ret aA (a45,c46) V E E [0] E

def pX (x0:EdQ):Option (EdQ×Int):=
  (aG (gQ x0.2.2.2.2.2.2.2.2.2.2.1) fun (y26:List Int)=>
  (aN (((bif (bif (!(decide (x0.2.2.2.2.2.2.2.2.2.1=3))) then true else (decide ((y26.length:Int)=0))) then true else (decide ((W (x0.2.2.1.2 - (y26.length:Int)))<0)))=false)→0≤(W (x0.2.2.1.2 - (y26.length:Int)))∧(W (x0.2.2.1.2 - (y26.length:Int)))≤x0.2.2.1.2∧x0.2.2.1.2≤(x0.2.2.1.1.length:Int)) <|
  (bU ((bif (bif (!(decide (x0.2.2.2.2.2.2.2.2.2.1=3))) then true else (decide ((y26.length:Int)=0))) then true else (decide ((W (x0.2.2.1.2 - (y26.length:Int)))<0)))=false) (jC (bN x0.2.2.1.1 (W (x0.2.2.1.2 - (y26.length:Int))) x0.2.2.1.2) y26) false fun (y36:Bool)=>
  (bif (bif (bif (bif (!(decide (x0.2.2.2.2.2.2.2.2.2.1=3))) then true else (decide ((y26.length:Int)=0))) then true else (decide ((W (x0.2.2.1.2 - (y26.length:Int)))<0))) then true else (!y36)) then
  (aG (eC x0) fun (y39,y40)=>
  some (y39,y40))
  else
  (aG (lU x0.2.2.1 (W (x0.2.2.1.2 - (y26.length:Int))) x0.2.2.1.2) fun (y54,y55,y56)=>
  (aG (mH x0.2.2.2.2.2.2.2.2.2.2.1) fun (y62:List (List Int))=>
  (aU (fun ((x76,x77,x80):Bool×List Int×Int)=>
  (bif (!x76) then
  (aG (eC x0) fun (y82,y83)=>
  some (y82,y83))
  else
  (aG (fX x0) fun (y97:EdQ)=>
  (aG (sQ (y97.1,y97.2.1,y97.2.2.1,y97.2.2.2.1,y97.2.2.2.2.1,y97.2.2.2.2.2.1,y97.2.2.2.2.2.2.1,y97.2.2.2.2.2.2.2.1,y97.2.2.2.2.2.2.2.2.1,y97.2.2.2.2.2.2.2.2.2.1,y62,y97.2.2.2.2.2.2.2.2.2.2.2.1,y97.2.2.2.2.2.2.2.2.2.2.2.2.1,y97.2.2.2.2.2.2.2.2.2.2.2.2.2.1,y97.2.2.2.2.2.2.2.2.2.2.2.2.2.2.1,y97.2.2.2.2.2.2.2.2.2.2.2.2.2.2.2.1,y97.2.2.2.2.2.2.2.2.2.2.2.2.2.2.2.2) (x77,x80) 3) fun (y111:EdQ)=>
  some (y111,0))))) fun j81=>
  (aG (gQ y62) fun (y66:List Int)=>
  (aG (oN y54 y66) fun (y70,y71)=>
  j81 (y71,y70.1,y70.2))))))))))

theorem aGu (x0:EdQ) (q2:P6) (r:EdQ×Int) (h:pX x0=some r):
  FC Tryz.prog 198 [.agg (cC x0 q2).toArray] (bW x0 q2 []) (fun _:P6=>True) (fun q=>.tuple #[.agg (aI r.1 q).toArray,.int .i64 r.2]) (fun q=>(bW r.1 q [])):=
 by
  refine FC.of (T:=TTx) Tryz.call198 Tryz.func198 E E fun w0=>?_
  unfold pX at h
  refine aL aA 3 [] [7,8] [(1,.bp 7 0),(2,.bp 8 0)] (.new 7 46 (aI x0 q2) (.new 8 46 bF .nil)) ⟨(Es E),(Bs E E)⟩ E E (JS.seq (JS.region (aB aA 2 [] [] [(14,.v (.agg #[.slice q2.2.2.1 (Q8 x0).2.2.1.length q2.2.2.2.1]))] _ E ⟨⟨E,V⟩,E⟩ ?_)))
  refine bnw h fun y26 hy27 h=>JO.call E E E E (sJ (Q8 x0).2.2.1 q2.2.2.1 q2.2.2.2.1 _ hy27) E [1] E E ?_
  rintro ⟨a28,c29⟩ -
  refine aB aA 1 [] [] [(4,.v (.slice a28 y26.length c29))] _ E ⟨⟨E,V⟩,E⟩ (aD E (sD aA 7 [(W (x0.2.2.1.2 - (y26.length:Int)))] [] [(5,.v (I (W (x0.2.2.1.2 - (y26.length:Int)))))] _ ⟨⟨V,E⟩,⟨E,V⟩,E⟩ E E (JS.seq (JS.seq (JS.region (aB aA 20 [] [] [(34,.v (.bool (bif (bif (!(decide ((Q8 x0).2.1=3))) then true else (decide ((y26.length:Int)=0))) then true else (decide ((W (x0.2.2.1.2 - (y26.length:Int)))<0))))),(37,.cd [(34,false)] (.v (.slice q2.1 x0.2.2.1.1.length q2.2.1))),(38,.cd [(34,false)] (.v (I (W (x0.2.2.1.2 - (y26.length:Int)))))),(41,.cd [(34,false)] (.v (I x0.2.2.1.2)))] _ E ⟨(Es E),E⟩ ?_))))))
  obtain ⟨g30,h⟩:=aH h
  refine aOw 0 E (W (x0.2.2.1.2 - (y26.length:Int))) x0.2.2.1.2 fun a31 c32 hu33=>bJ 1 E fun hs128=>aHy aA E E E E E E E (W (x0.2.2.1.2 - (y26.length:Int))) x0.2.2.1.2 E E (fun q129=>⟨(g30 q129).1,(g30 q129).2.1,(g30 q129).2.2,hs128.cap,hu33 (g30 q129)⟩) E (aB aA 1 [] [] [(43,.cd [(34,false)] (.v (.slice a28 y26.length c29)))] _ E ⟨⟨E,V⟩,E⟩ ?_)
  obtain ⟨y36,hy37,-,h⟩:=aV h
  refine bI E E E E (fun q130=>vC (bN x0.2.2.1.1 (W (x0.2.2.1.2 - (y26.length:Int))) x0.2.2.1.2) y26 a31 c32 a28 c29 _ (hy37 q130)) E [0,7] E E (aB aA 2 [] [] [(46,.v (.bool (bif (bif (bif (!(decide ((Q8 x0).2.1=3))) then true else (decide ((y26.length:Int)=0))) then true else (decide ((W (x0.2.2.1.2 - (y26.length:Int)))<0))) then true else (!y36))))] _ E ⟨⟨E,V⟩,E⟩ (aD E ?_))
  refine aK E h (fun h=>?_) (fun h=>?_)
  ·
   refine JS.seq (JS.region (aB aA 1 [] [] [(47,.v (.agg (aI x0 q2).toArray))] _ E ⟨⟨E,V⟩,E⟩ ?_))
   obtain ⟨⟨y39,y40⟩,hy41,h⟩:=aE h
   refine JO.call E E E E (gB x0 q2 _ hy41) E [1,2,3,4,5,6] E E fun q42 _=>aP aA 4 [] [] [(3,.v (I y40))] (.new 8 46 (aI y39 q42) .nil) E ⟨⟨E,V⟩,(Bs E E)⟩ (aD E ?_)
   cases h
   exact JS.ret aA q42 V E E [0,0,0,0,0,0] E
  refine JS.skip (JS.seq (JS.region (aB aA 6 [] [] [(53,.v (.agg #[.slice q2.1 x0.2.2.1.1.length q2.2.1,.int .i64 x0.2.2.1.2])),(54,.v (I (W (x0.2.2.1.2 - (y26.length:Int))))),(57,.v (I x0.2.2.1.2))] _ E ⟨(Es E),E⟩ ?_)))
  obtain ⟨⟨y54,y55,y56⟩,hy57,h⟩:=aE h
  refine JO.call E E E E (wZ x0.2.2.1 (W (x0.2.2.1.2 - (y26.length:Int))) x0.2.2.1.2 q2.1 q2.2.1 _ hy57) E [1] E E ?_
  rintro ⟨a58,c59,a60,c61⟩ -
  refine aP aA 8 [] [52] [(6,.bp 52 0)] (.new 7 46 (aI x0 q2) (.new 8 46 bF (.new 52 38 [.slice a58 y54.1.length c59,.int .i64 y54.2] .nil))) E ⟨⟨E,V⟩,(Bs E E)⟩ (aD E (JS.seq (JS.region (aB aA 2 [] [] [(63,.v (.agg #[.slice q2.2.2.1 (Q8 x0).2.2.1.length q2.2.2.2.1]))] _ E ⟨⟨E,V⟩,E⟩ ?_))))
  refine bnw h fun y62 hy63 h=>JO.call E E E E (aGx (Q8 x0).2.2.1 q2.2.2.1 q2.2.2.2.1 _ hy63) E [2] E E ?_
  rintro ⟨a64,c65⟩ -
  refine aP aA 2 [] [58] [(9,.bp 58 0)] (.new 7 46 (aI x0 q2) (.new 8 46 bF (.new 52 38 [.slice a58 y54.1.length c59,.int .i64 y54.2] (.new 58 41 [.slice a64 y62.length c65] .nil)))) E ⟨⟨E,V⟩,(Bs E E)⟩ (aD E (JS.seq ?_))
  obtain ⟨j81,hj132,h⟩:=aQ h
  refine mK (ι:=Bool×List Int×Int×Option Addr×Nat) ⟨fun z=>j81 (z.1,z.2.1,z.2.2.1)=some r,fun z=>[(1,.bp 7 0),(2,.bp 8 0),(9,.bp 58 0),(10,.bp 70 0),(11,.v (.bool z.1))],fun z=>(.new 7 46 (aI x0 q2) (.new 8 46 bF (.new 58 41 [.slice a64 y62.length c65] (.new 70 38 [.slice z.2.2.2.1 z.2.1.length (Q4 z),.int .i64 z.2.2.1] .nil)))),fun z=>(bW x0 q2 []),fun z=>[⟨(.int .i64),⟨z.2.2.2.1,z.2.1.length,(Q4 z)⟩,z.2.1⟩,⟨(.sl (.int .i64)),⟨a64,y62.length,c65⟩,y62⟩],fun z=>0⟩ ?_ ?_
  ·
   obtain ⟨y66,hy67,h⟩:=aE h
   obtain ⟨⟨y70,y71⟩,hy72,h⟩:=aE h
   refine bB E (.new 52 38 [.slice a58 y54.1.length c59,.int .i64 y54.2] (.new 58 41 [.slice a64 y62.length c65] .nil)) [] [3,4,5,6,8,9] ⟨E,E,E,E,E,E,E,E,V⟩ E (fun be75=>?_)
   refine bR aA aF true 8 [0,1] E (by kernel_rfl) [] [(66,.v (.agg #[.slice a58 y54.1.length c59,.int .i64 y54.2])),(67,.v (.agg #[.slice a64 y62.length c65]))] ⟨E,E,E,E,E,E,E,E,V⟩ [] E E (Es E) ?_
   refine JA.all (rs:=[2,7]) (by kernel_rfl) E (List.forall_mem_cons.2 ⟨?_,List.forall_mem_cons.2 ⟨?_,(fun _ hx=>absurd hx List.not_mem_nil)⟩⟩)
   ·
    refine JK.call E E E E (sJ y62 a64 c65 _ hy67) E [7] E E ?_
    rintro ⟨a68,c69⟩ -
    refine aR ⟨E,E,E,E,E,E,E,E,V⟩ [] E ?_
    refine JA.all (rs:=[3,7]) (by kernel_rfl) E (List.forall_mem_cons.2 ⟨?_,List.forall_mem_cons.2 ⟨?_,(fun _ hx=>absurd hx List.not_mem_nil)⟩⟩)
    ·
     refine JK.call E E E E (sK y54 y66 a58 c59 a68 c69 _ hy72) E [9,7] E E ?_
     rintro ⟨a73,c74⟩ -
     refine aM E (aS aA aF 3 [4,5,6] E (by kernel_rfl) [] [(70,.v (.agg #[.slice a73 y70.1.length c74,.int .i64 y70.2])),(71,.v (.bool y71))] E (Es E) (JA.one 7 (by kernel_rfl) (JK.alloc aA E E E E E 70 E (cK _ E) (aR ⟨E,E,E,E,E,E,E,E,V⟩ [] E (JA.one 8 (by kernel_rfl) (aY aA E E E E E E E E (aM E (aS aA aF 0 [9] E (by kernel_rfl) [] [(11,.v (.bool y71))] E ⟨E,V⟩ (bE (by kernel_rfl) (aW (B':=(.new 7 46 (aI x0 q2) (.new 8 46 bF (.new 58 41 [.slice a64 y62.length c65] (.new 70 38 [.slice a73 y70.1.length c74,.int .i64 y70.2] .nil))))) (Bs E E) (aT (y71,y70.1,y70.2,a73,c74) h (Es E) (Bs E E) [1,2,3,4,5,6] E [0,1] E)))))))))))
    refine JK.alloc aA E E E E E 70 E (cK _ E) (aR ⟨E,E,E,E,E,E,E,E,V⟩ [] E (JA.one 3 (by kernel_rfl) (JK.call E E E E (sK y54 y66 a58 c59 a68 c69 _ hy72) E [9,7] E E ?_)))
    rintro ⟨a73,c74⟩ -
    refine aM E (aS aA aF 2 [4,5,6] E (by kernel_rfl) [] [(70,.v (.agg #[.slice a73 y70.1.length c74,.int .i64 y70.2])),(71,.v (.bool y71))] E (Es E) (JA.one 8 (by kernel_rfl) (aY aA E E E E E E E E (aM E (aS aA aF 0 [9] E (by kernel_rfl) [] [(11,.v (.bool y71))] E ⟨E,V⟩ (bE (by kernel_rfl) (aW (B':=(.new 7 46 (aI x0 q2) (.new 8 46 bF (.new 58 41 [.slice a64 y62.length c65] (.new 70 38 [.slice a73 y70.1.length c74,.int .i64 y70.2] .nil))))) (Bs E E) (aT (y71,y70.1,y70.2,a73,c74) h (Es E) (Bs E E) [1,2,3,4,5,6] E [0,1] E))))))))
   refine JK.alloc aA E E E E E 70 E (cK _ E) (aR ⟨E,E,E,E,E,E,E,E,V⟩ [] E (JA.one 2 (by kernel_rfl) (JK.call E E E E (sJ y62 a64 c65 _ hy67) E [7] E E ?_)))
   rintro ⟨a68,c69⟩ -
   refine aR ⟨E,E,E,E,E,E,E,E,V⟩ [] E (JA.one 3 (by kernel_rfl) (JK.call E E E E (sK y54 y66 a58 c59 a68 c69 _ hy72) E [9,7] E E ?_))
   rintro ⟨a73,c74⟩ -
   refine aM E (aS aA aF 2 [4,5,6] E (by kernel_rfl) [] [(70,.v (.agg #[.slice a73 y70.1.length c74,.int .i64 y70.2])),(71,.v (.bool y71))] E (Es E) (JA.one 8 (by kernel_rfl) (aY aA E E E E E E E E (aM E (aS aA aF 0 [9] E (by kernel_rfl) [] [(11,.v (.bool y71))] E ⟨E,V⟩ (bE (by kernel_rfl) (aW (B':=(.new 7 46 (aI x0 q2) (.new 8 46 bF (.new 58 41 [.slice a64 y62.length c65] (.new 70 38 [.slice a73 y70.1.length c74,.int .i64 y70.2] .nil))))) (Bs E E) (aT (y71,y70.1,y70.2,a73,c74) h (Es E) (Bs E E) [1,2,3,4,5,6] E [0,1] E))))))))
  rintro ⟨x76,x77,x80,a78,c79⟩ h
  subst hj132
  refine JS.seq (aC aA 2 [(73,.v (.bool (!x76)))] ⟨⟨E,V⟩,E⟩ E E ?_)
  refine aK E h (fun h=>?_) (fun h=>?_)
  ·
   refine JS.seq (JS.region (aB aA 1 [] [] [(74,.v (.agg (aI x0 q2).toArray))] _ E ⟨⟨E,V⟩,E⟩ ?_))
   obtain ⟨⟨y82,y83⟩,hy84,h⟩:=aE h
   refine JO.call E E E E (gB x0 q2 _ hy84) E [0,1,2,3,4,5] E E fun q85 _=>aP aA 4 [] [] [(3,.v (I y83))] (.new 8 46 (aI y82 q85) .nil) E ⟨⟨E,V⟩,(Bs E E)⟩ (aD E ?_)
   cases h
   exact JS.ret aA q85 V E E [0,0,0,0,0,0] E
  refine JS.skip (JS.seq (JS.region (aB aA 1 [] [] [(78,.v (.agg (aI x0 q2).toArray))] _ E ⟨⟨E,V⟩,E⟩ ?_)))
  refine bnw h fun y97 hy98 h=>JO.call E E E E (rC x0 q2 _ hy98) E [0,1,2,3,4,5] E E fun q99 _=>aP aA 2 [] [120] [(12,.bp 120 0)] (.new 8 46 bF (.new 58 41 [.slice a64 y62.length c65] (.new 70 38 [.slice a78 x77.length c79,.int .i64 x80] (.new 120 46 (aI y97 q99) .nil)))) E ⟨⟨E,V⟩,(Bs E E)⟩ (aD E (aL aA 3 [] [] [] (.new 8 46 bF (.new 70 38 [.slice a78 x77.length c79,.int .i64 x80] (.new 120 46 (aI (U10 y97 y62) (q99.1,q99.2.1,a64,c65,(Q4 q99))) .nil))) ⟨V,(Bs E E)⟩ E E (JS.seq (JS.region (aB aA 2 [] [] [(82,.v (.agg (aI (U10 y97 y62) (q99.1,q99.2.1,a64,c65,(Q4 q99))).toArray)),(83,.v (.agg #[.slice a78 x77.length c79,.int .i64 x80]))] _ E ⟨(Es E),E⟩ ?_)))))
  refine bnw h fun y111 hy112 h=>JO.call E E E E (aBp (U10 y97 y62) (x77,x80) 3 (q99.1,q99.2.1,a64,c65,(Q4 q99)) a78 c79 _ hy112) E [6,13,8,9,10,11,12] E E fun q113 _=>aP aA 2 [] [] [(3,.v (I 0))] (.new 8 46 (aI y111 q113) .nil) E ⟨⟨E,V⟩,(Bs E E)⟩ (aD E ?_)
  cases h
  exact JS.ret aA q113 V E E [0,0,0,0,0,0] E

def wF (x0:Int):Option Int:=
  (aG (iU x0) fun (y2:Bool)=>
  (bif y2 then
  some (W (x0+32))
  else
  some x0))

theorem aNa (x0:Int) (r:Int) (h:wF x0=some r) :
  FC Tryz.prog 263 [.int .i64 x0] [] (fun _:Unit=>True) (fun _=>.int .i64 r) (fun _=>[]):=
 by
  refine FC.of (T:=TTx) Tryz.call263 Tryz.func263 E E fun w0=>?_
  unfold wF at h
  refine aC aA 1 [] ⟨V,E⟩ E E (JS.seq (JS.seq (JS.region (aB aA 1 [] [] [(3,.v (I x0))] _ E ⟨⟨E,V⟩,E⟩ ?_))))
  refine bnw h fun y2 hy3 h=>JO.call E E E E (wX x0 _ hy3) E [] E E fun _ _=>aD E ?_
  refine aK E h (fun h=>?_) (fun h=>?_)
  ·
   refine sD aA 3 [(W (x0+32))] [] [(2,.v (I (W (x0+32))))] _ ⟨⟨V,E⟩,⟨E,V⟩,E⟩ E E ?_
   cases h
   exact JS.ret aA () V E E [] E
  refine JS.skip (aC aA 2 [(2,.v (I x0))] ⟨⟨E,V⟩,E⟩ E E ?_)
  cases h
  exact JS.ret aA () V E E [] E

def wD (x0:Int):Option Int:=
  (aG (fN x0) fun (y2:Bool)=>
  (bif y2 then
  some (W (x0 - 32))
  else
  some x0))

theorem aM9 (x0:Int) (r:Int) (h:wD x0=some r) :
  FC Tryz.prog 262 [.int .i64 x0] [] (fun _:Unit=>True) (fun _=>.int .i64 r) (fun _=>[]):=
 by
  refine FC.of (T:=TTx) Tryz.call262 Tryz.func262 E E fun w0=>?_
  unfold wD at h
  refine aC aA 1 [] ⟨V,E⟩ E E (JS.seq (JS.seq (JS.region (aB aA 1 [] [] [(3,.v (I x0))] _ E ⟨⟨E,V⟩,E⟩ ?_))))
  refine bnw h fun y2 hy3 h=>JO.call E E E E (sI x0 _ hy3) E [] E E fun _ _=>aD E ?_
  refine aK E h (fun h=>?_) (fun h=>?_)
  ·
   refine sD aA 3 [(W (x0 - 32))] [] [(2,.v (I (W (x0 - 32))))] _ ⟨⟨V,E⟩,⟨E,V⟩,E⟩ E E ?_
   cases h
   exact JS.ret aA () V E E [] E
  refine JS.skip (aC aA 2 [(2,.v (I x0))] ⟨⟨E,V⟩,E⟩ E E ?_)
  cases h
  exact JS.ret aA () V E E [] E

def jY (x2:Int) (x3:Int) (j88:(List Int)→Option ((List Int×Int)×Bool)) (k76:(Bool×Int×List Int)→Option ((List Int×Int)×Bool)):(Bool×Int×List Int)→Option ((List Int×Int)×Bool):=fun (x18,x19,x24)=>
  (bif (decide (x19<x2)) then
  (aU (fun ((x51,x52):Bool×List Int)=>
  k76 (x51,(W (x19+1)),x52)) fun j55=>
  (aN (0≤x19∧x19<(x24.length:Int)) <|
  (aG (fN (at' x24 x19)) fun (y30:Bool)=>
  (bU ((!y30)=true) (iU (at' x24 x19)) false fun (y32:Bool)=>
  (bif (bif (!y30) then (!y32) else false) then
  j55 (x18,x24)
  else
  (aU (fun (x44:List Int)=>
  j55 (false,x44)) fun j47=>
  (bif (bif (decide (x3=1)) then true else (bif (decide (x3=2)) then x18 else false)) then
  (aG (wD (at' x24 x19)) fun (y35:Int)=>
  (aN (0≤x19∧x19<(x24.length:Int)) <|
  j47 (List.set x24 (Int.toNat x19) y35)))
  else
  (aG (wF (at' x24 x19)) fun (y39:Int)=>
  (aN (0≤x19∧x19<(x24.length:Int)) <|
  j47 (List.set x24 (Int.toNat x19) y39))))))))))
  else
  j88 x24)

def mI (x0:List Int×Int) (x1:Int) (x2:Int) (x3:Int):Option ((List Int×Int)×Bool):=
  (aG (qO x0 x1 x2) fun (y9:Bool)=>
  (bU ((!y9)=false) (cT x3 0 2) false fun (y11:Bool)=>
  (bif (bif (!y9) then true else (!y11)) then
  some (([],0),false)
  else
  (aG (fW x0 x2) fun (y14:List Int×Int)=>
  (aU (fun (x85:List Int)=>
  some ((x85,y14.2),true)) fun j88=>
  (bC (jY x2 x3 j88) bM (true,x1,y14.1)))))))

theorem vF (x0:List Int×Int) (x1:Int) (x2:Int) (x3:Int) (a5:Option Addr) (c6:Nat) (r:(List Int×Int)×Bool) (h:mI x0 x1 x2 x3=some r):
  FC Tryz.prog 199 [.agg #[.slice a5 x0.1.length c6,.int .i64 x0.2],.int .i64 x1,.int .i64 x2,.int .i64 x3] [⟨(.int .i64),⟨a5,x0.1.length,c6⟩,x0.1⟩] (fun _:Option Addr×Nat=>True) (fun q=>.tuple #[.agg #[.slice q.1 r.1.1.length q.2,.int .i64 r.1.2],.bool r.2]) (fun q=>[⟨(.int .i64),⟨q.1,r.1.1.length,q.2⟩,r.1.1⟩]):=
 by
  refine FC.of (T:=TTx) Tryz.call199 Tryz.func199 E E fun w0=>?_
  unfold mI at h
  refine aL aA 3 [] [2,3] [(4,.bp 2 0),(8,.bp 3 0)] (.new 2 38 [.slice a5 x0.1.length c6,.int .i64 x0.2] (.new 3 38 [.slice none 0 0,.int .i64 0] .nil)) ⟨(Es E),(Bs E E)⟩ E E (JS.seq (JS.seq (JS.region (aB aA 3 [] [] [(14,.v (.agg #[.slice a5 x0.1.length c6,.int .i64 x0.2])),(15,.v (I x1)),(16,.v (I x2))] _ E ⟨(Es E),E⟩ ?_))))
  refine bnw h fun y9 hy10 h=>JO.call E E E E (aDc x0 x1 x2 a5 c6 _ hy10) E [0] E E fun _ _=>aB aA 3 [] [] [(19,.v (.bool (!y9))),(20,.cd [(19,false)] (.v (I x3)))] _ E ⟨(Es E),E⟩ ?_
  obtain ⟨y11,hy12,-,h⟩:=aV h
  refine bI E E E E (fun q98=>dV x3 0 2 _ (hy12 q98)) E [] E E (aB aA 2 [] [] [(23,.v (.bool (bif (!y9) then true else (!y11))))] _ E ⟨⟨E,V⟩,E⟩ (aD E ?_))
  refine aK E h (fun h=>?_) (fun h=>?_)
  ·
   refine aL aA 3 [] [] [(9,.v (.bool false))] (.new 3 38 [.slice none 0 0,.int .i64 0] .nil) ⟨⟨E,V⟩,(Bs E E)⟩ E E ?_
   cases h
   refine aX (.int .i64) Sl.nil E E (JS.ret aA (none,0) V E E [0] E)
  refine JS.skip (JS.seq (JS.region (aB aA 2 [] [] [(25,.v (.agg #[.slice a5 x0.1.length c6,.int .i64 x0.2])),(26,.v (I x2))] _ E ⟨(Es E),E⟩ ?_)))
  refine bnw h fun y14 hy15 h=>JO.call E E E E (oG x0 x2 a5 c6 _ hy15) E [0] E E ?_
  rintro ⟨a16,c17⟩ -
  refine aP aA 2 [] [13] [(10,.bp 13 0)] (.new 3 38 [.slice none 0 0,.int .i64 0] (.new 13 38 [.slice a16 y14.1.length c17,.int .i64 y14.2] .nil)) E ⟨⟨E,V⟩,(Bs E E)⟩ (aD E (aC aA 1 [(11,.v (.bool true))] ⟨⟨E,V⟩,E⟩ E E (JS.seq (aC aA 2 [(12,.v (I x1))] ⟨⟨E,V⟩,E⟩ E E ?_))))
  obtain ⟨j88,hj106,h⟩:=aQ h
  refine bA (ι:=List Int×Option Addr×Nat) ⟨fun z=>j88 z.1=some r,fun z=>[(8,.bp 3 0),(10,.bp 13 0)],fun z=>(.new 3 38 [.slice none 0 0,.int .i64 0] (.new 13 38 [.slice z.2.1 z.1.length z.2.2,.int .i64 y14.2] .nil)),fun z=>[],fun z=>[⟨(.int .i64),⟨z.2.1,z.1.length,z.2.2⟩,z.1⟩],fun z=>0⟩ ?_ ?_
  ·
   refine JS.loop (ι:=Nat×Bool×Int×List Int×Option Addr×Nat) ⟨fun z=>bC (jY x2 x3 j88) z.1 (z.2.1,z.2.2.1,z.2.2.2.1)=some r,fun z=>[(2,.v (I x2)),(3,.v (I x3)),(8,.bp 3 0),(10,.bp 13 0),(11,.v (.bool z.2.1)),(12,.v (I z.2.2.1))],fun z=>(.new 3 38 [.slice none 0 0,.int .i64 0] (.new 13 38 [.slice (Q4 z).1 z.2.2.2.1.length (Q4 z).2,.int .i64 y14.2] .nil)),fun z=>[],fun z=>[⟨(.int .i64),⟨(Q4 z).1,z.2.2.2.1.length,(Q4 z).2⟩,z.2.2.2.1⟩],fun z=>z.1⟩ (bM,true,x1,y14.1,a16,c17) h (Es E) (Bs E E) [] E [0] E ?_
   rintro ⟨n77,x18,x19,x24,a25,c26⟩ h
   obtain ⟨n77,rfl,h⟩:=bH h
   rw [jY] at h
   refine JS.seq (aC aA 3 [(31,.v (.bool (decide (x19<x2))))] ⟨⟨E,V⟩,E⟩ E E ?_)
   refine aK E h (fun h=>?_) (fun h=>?_)
   ·
    refine JS.skip (JS.seq ?_)
    obtain ⟨j55,hj104,h⟩:=aQ h
    refine bA (ι:=Bool×List Int×Option Addr×Nat) ⟨fun z=>j55 (z.1,z.2.1)=some r,fun z=>[(2,.v (I x2)),(3,.v (I x3)),(8,.bp 3 0),(10,.bp 13 0),(11,.v (.bool z.1)),(12,.v (I x19))],fun z=>(.new 3 38 [.slice none 0 0,.int .i64 0] (.new 13 38 [.slice z.2.2.1 z.2.1.length z.2.2.2,.int .i64 y14.2] .nil)),fun z=>[],fun z=>[⟨(.int .i64),⟨z.2.2.1,z.2.1.length,z.2.2.2⟩,z.2.1⟩],fun z=>0⟩ ?_ ?_
    ·
     refine JS.seq (JS.region (bJ 0 E fun hs99=>?_))
     obtain ⟨g29,h⟩:=aH h
     refine aB aA 4 [] [] [(37,.ep ⟨a25,x24.length,c26⟩ (Int.toNat x19*1))] _ E ⟨hs99.ix g29,⟨E,V⟩,E⟩ (JO.load aA E E E E E E E 0 E E (Int.toNat x19) 0 (at' x24 x19) ⟨bD g29,E⟩ E E (aB aA 1 [] [] [(13,.v (I (at' x24 x19)))] _ E ⟨⟨E,V⟩,E⟩ (aD E (JS.seq (JS.seq (JS.region (aB aA 1 [] [] [(39,.v (I (at' x24 x19)))] _ E ⟨⟨E,V⟩,E⟩ ?_)))))))
     refine bnw h fun y30 hy31 h=>JO.call E E E E (sI (at' x24 x19) _ hy31) E [] E E fun _ _=>aB aA 3 [] [] [(42,.v (.bool (!y30))),(43,.cd [(42,true)] (.v (I (at' x24 x19))))] _ E ⟨(Es E),E⟩ ?_
     obtain ⟨y32,hy33,-,h⟩:=aV h
     refine bI E E E E (fun q100=>wX (at' x24 x19) _ (hy33 q100)) E [] E E (aB aA 2 [] [] [(46,.v (.bool (bif (!y30) then (!y32) else false)))] _ E ⟨⟨E,V⟩,E⟩ (aD E ?_))
     refine aK E h (fun h=>?_) (fun h=>?_)
     ·
      refine JS.exit E (aT (x18,x24,a25,c26) h (Es E) (Bs E E) [] E [0] E)
     refine JS.skip ?_
     obtain ⟨j47,hj102,h⟩:=aQ h
     refine dM (ι:=List Int×Option Addr×Nat) ⟨fun z=>j47 z.1=some r,fun z=>[(2,.v (I x2)),(3,.v (I x3)),(8,.bp 3 0),(10,.bp 13 0),(12,.v (I x19))],fun z=>(.new 3 38 [.slice none 0 0,.int .i64 0] (.new 13 38 [.slice z.2.1 z.1.length z.2.2,.int .i64 y14.2] .nil)),fun z=>[],fun z=>[⟨(.int .i64),⟨z.2.1,z.1.length,z.2.2⟩,z.1⟩],fun z=>0⟩ ?_ ?_
     ·
      refine aC aA 9 [(55,.v (.bool (bif (decide (x3=1)) then true else (bif (decide (x3=2)) then x18 else false))))] ⟨⟨E,V⟩,E⟩ E E ?_
      refine aK E h (fun h=>?_) (fun h=>?_)
      ·
       obtain ⟨y35,hy36,h⟩:=aE h
       obtain ⟨g37,h⟩:=aH h
       refine bB E (.new 13 38 [.slice a25 x24.length c26,.int .i64 y14.2] .nil) [] [5,6] ⟨E,E,E,E,V⟩ E (fun be38=>?_)
       refine bR aA aF true 3 [0,1,2,3] E (by kernel_rfl) [] [(57,.v (.slice a25 x24.length c26)),(58,.v (I x19)),(59,.v (I (at' x24 x19)))] ⟨E,E,E,E,V⟩ [] E E (Es E) (JA.one 4 (by kernel_rfl) (JK.call E E E E (aM9 (at' x24 x19) _ hy36) E [] E E fun _ _=>aR ⟨E,E,E,E,V⟩ [] E (aS aA aF 1 [5] E (by kernel_rfl) [] [(61,.ep ⟨a25,x24.length,c26⟩ (Int.toNat x19*1))] E ⟨hs99.ix g37,⟨E,V⟩⟩ (JA.one 6 (by kernel_rfl) (wK aA E E E E E E E E E [0] (fs:=[]) E (Int.toNat x19) 0 (at' x24 x19) y35 ⟨bD g37,E⟩ ⟨E,E,E⟩ (aM E (bE (by kernel_rfl) (aW (B':=(.new 3 38 [.slice none 0 0,.int .i64 0] (.new 13 38 [.slice a25 x24.length c26,.int .i64 y14.2] .nil))) (Bs E E) (aT ((List.set x24 (Int.toNat x19) y35),a25,c26) h (Es E) ⟨E,E,E,E,E,(congrArg (fun n=>([.slice a25 n c26,.int .i64 y14.2]:List Value)) (List.length_set.trans E)),E,E,V⟩ [] E [0] (by simp only [List.length_set,List.length_replicate,bY,dN,oP,oO];rfl))))))))))
      obtain ⟨y39,hy40,h⟩:=aE h
      obtain ⟨g41,h⟩:=aH h
      refine bB E (.new 13 38 [.slice a25 x24.length c26,.int .i64 y14.2] .nil) [] [5,6] ⟨E,E,E,E,V⟩ E (fun be42=>?_)
      refine bR aA aF true 3 [0,1,2,3] E (by kernel_rfl) [] [(63,.v (.slice a25 x24.length c26)),(64,.v (I x19)),(65,.v (I (at' x24 x19)))] ⟨E,E,E,E,V⟩ [] E E (Es E) (JA.one 4 (by kernel_rfl) (JK.call E E E E (aNa (at' x24 x19) _ hy40) E [] E E fun _ _=>aR ⟨E,E,E,E,V⟩ [] E (aS aA aF 1 [5] E (by kernel_rfl) [] [(67,.ep ⟨a25,x24.length,c26⟩ (Int.toNat x19*1))] E ⟨hs99.ix g41,⟨E,V⟩⟩ (JA.one 6 (by kernel_rfl) (wK aA E E E E E E E E E [0] (fs:=[]) E (Int.toNat x19) 0 (at' x24 x19) y39 ⟨bD g41,E⟩ ⟨E,E,E⟩ (aM E (bE (by kernel_rfl) (aW (B':=(.new 3 38 [.slice none 0 0,.int .i64 0] (.new 13 38 [.slice a25 x24.length c26,.int .i64 y14.2] .nil))) (Bs E E) (aT ((List.set x24 (Int.toNat x19) y39),a25,c26) h (Es E) ⟨E,E,E,E,E,(congrArg (fun n=>([.slice a25 n c26,.int .i64 y14.2]:List Value)) (List.length_set.trans E)),E,E,V⟩ [] E [0] (by simp only [List.length_set,List.length_replicate,bY,dN,oP,oO];rfl))))))))))
     rintro ⟨x44,a45,c46⟩ h
     subst hj102
     refine vL aA 1 [(11,.v (.bool false))] ⟨⟨E,V⟩,E⟩ E E (aZ (aT (false,x44,a45,c46) h (Es E) (Bs E E) [] E [0] E))
    rintro ⟨x51,x52,a53,c54⟩ h
    subst hj104
    refine bZ aA 3 [(W (x19+1))] [] [(12,.v (I (W (x19+1))))] _ ⟨⟨V,E⟩,⟨E,V⟩,E⟩ E E (bQ (n77,x51,(W (x19+1)),x52,a53,c54) h (Nat.lt_succ_self _) (Es E) (Bs E E) [] E [0] E)
   refine JS.exit E (aT (x24,a25,c26) h (Es E) (Bs E E) [] E [0] E)
  rintro ⟨x85,a86,c87⟩ h
  subst hj106
  refine aL aA 3 [] [] [(9,.v (.bool true))] (.new 3 38 [.slice a86 x85.length c87,.int .i64 y14.2] .nil) ⟨⟨E,V⟩,(Bs E E)⟩ E E ?_
  cases h
  exact JS.ret aA (a86,c87) V E E [0] E

def lN (x0:Int) (x1:List Int):Option (Int×List Int):=
  (aG (jF x1 x0) fun (y8:Int)=>
  some (y8,x1))

theorem aDu (x0:Int) (x1:List Int) (a3:Option Addr) (a4:Option Addr) (c5:Nat) (r:Int×List Int) (h:lN x0 x1=some r):
  FX Tryz.prog 194 [.int .i64 x0,.pointer a3] [⟨(.int .i64),⟨a4,x1.length,c5⟩,x1⟩] [⟨.val,⟨a3,1,1⟩,[(Sl.v ⟨a4,x1.length,c5⟩)]⟩] (fun _:Unit=>True) (fun _=>.int .i64 r.1) (fun _=>[⟨.val,⟨a3,1,1⟩,[(Sl.v ⟨a4,x1.length,c5⟩)]⟩]):=
 by
  refine FX.of (T:=TTx) Tryz.call194 Tryz.func194 E E fun w0 L0=>?_
  unfold lN at h
  refine aNu 1 a3 E ?_
  refine aC aA 1 [] ⟨V,E⟩ E E (JS.seq (JS.region (cP aA E E E E E E 1 E E 0 0 (Sl.v ⟨a4,x1.length,c5⟩) ⟨E,E⟩ E E E (aB aA 1 [] [] [(5,.v (I x0))] _ E ⟨⟨E,V⟩,E⟩ ?_))))
  refine bnw h fun y8 hy9 h=>JO.call E E E E (aAg x1 x0 a4 c5 _ hy9) E [0] E E fun _ _=>aB aA 1 [] [] [(3,.v (I y8))] _ E ⟨⟨E,V⟩,E⟩ (aD E ?_)
  cases h
  exact gR aA () V E E [0] E

def cX (x1:Int) (x2:(List Int)) (j23:Int→Option (Int×List Int)) (k19:(Int×Int)→Option (Int×List Int)):(Int×Int)→Option (Int×List Int):=fun (x9,x10)=>
  (bif (decide (x10<x1)) then
  (aG (lN x9 x2) fun (y14,y15)=>
  k19 (y14,(W (x10+1))))
  else
  j23 x9)

def gN (x0:Int) (x1:Int) (x2:(List Int)):Option (Int×List Int):=
  (aU (fun (x22:Int)=>
  some (x22,x2)) fun j23=>
  (bC (cX x1 x2 j23) bM (x0,0)))

theorem aAw (x0:Int) (x1:Int) (x2:(List Int)) (a4:Option Addr) (a5:Option Addr) (c6:Nat) (r:Int×List Int) (h:gN x0 x1 x2=some r):
  FX Tryz.prog 114 [.int .i64 x0,.int .i64 x1,.func (.func 194) #[] #[.pointer a4]] [⟨(.int .i64),⟨a5,x2.length,c6⟩,x2⟩] [⟨.val,⟨a4,1,1⟩,[(Sl.v ⟨a5,x2.length,c6⟩)]⟩] (fun _:Unit=>True) (fun _=>.int .i64 r.1) (fun _=>[⟨.val,⟨a4,1,1⟩,[(Sl.v ⟨a5,x2.length,c6⟩)]⟩]):=
 by
  refine FX.of (T:=TTx) Tryz.call114 Tryz.func114 E E fun w0 L0=>?_
  unfold gN at h
  refine aC aA 1 [] ⟨V,E⟩ E E (JS.seq (aC aA 2 [(7,.v (I x1)),(8,.v (I 0))] ⟨(Es E),E⟩ E E ?_))
  obtain ⟨j23,hj27,h⟩:=aQ h
  refine bA (ι:=Int) ⟨fun z=>j23 z=some r,fun z=>[(0,.v (I z))],fun z=>.nil,fun z=>[⟨(.int .i64),⟨a5,x2.length,c6⟩,x2⟩],fun z=>[⟨.val,⟨a4,1,1⟩,[(Sl.v ⟨a5,x2.length,c6⟩)]⟩],fun z=>0⟩ ?_ ?_
  ·
   refine JS.loop (ι:=Nat×Int×Int) ⟨fun z=>bC (cX x1 x2 j23) z.1 z.2=some r,fun z=>[(0,.v (I z.2.1)),(2,.v (.func (.func 194) #[] #[.pointer a4])),(7,.v (I x1)),(8,.v (I z.2.2))],fun z=>.nil,fun z=>[⟨(.int .i64),⟨a5,x2.length,c6⟩,x2⟩],fun z=>[⟨.val,⟨a4,1,1⟩,[(Sl.v ⟨a5,x2.length,c6⟩)]⟩],fun z=>z.1⟩ (bM,x0,0) h (Es E) V [0] E [0] E ?_
   rintro ⟨n20,x9,x10⟩ h
   obtain ⟨n20,rfl,h⟩:=bH h
   rw [cX] at h
   refine aC aA 1 [(9,.v (.bool (decide (x10<x1))))] ⟨⟨E,V⟩,E⟩ E E (JS.seq ?_)
   refine aK E h (fun h=>?_) (fun h=>?_)
   ·
    refine JS.skip (JS.seq (JS.block (JS.region (aB aA 2 [] [] [(10,.v (.func (.func 194) #[] #[.pointer a4])),(11,.v (I x9))] _ E ⟨(Es E),E⟩ ?_))))
    obtain ⟨⟨y14,y15⟩,hy16,h⟩:=aE h
    refine aC2 (vs0:=[.int .i64 x9]) (caps:=[.pointer a4]) E E E E E (aDu x9 x2 a4 a5 c6 _ hy16) E [0] E [0] E E fun _ _=>aB aA 1 [] [] [(0,.v (I y14))] _ E ⟨⟨E,V⟩,E⟩ (aD E (aZ (bZ aA 2 [(W (x10+1))] [] [(8,.v (I (W (x10+1))))] _ ⟨⟨V,E⟩,⟨E,V⟩,E⟩ E E (bQ (n20,y14,(W (x10+1))) h (Nat.lt_succ_self _) (Es E) V [0] E [0] E))))
   refine JS.exit E (aT x9 h ⟨E,V⟩ V [0] E [0] E)
  rintro x22 h
  subst hj27
  refine aC aA 2 [(6,.v (I x22))] ⟨⟨E,V⟩,E⟩ E E ?_
  cases h
  exact gR aA () V E E [0] E

def pZ (x0:Int) (x1:List Int):Option (Int×List Int):=
  (aG (lQ x1 x0) fun (y8:Int)=>
  some (y8,x1))

theorem aDt (x0:Int) (x1:List Int) (a3:Option Addr) (a4:Option Addr) (c5:Nat) (r:Int×List Int) (h:pZ x0 x1=some r):
  FX Tryz.prog 195 [.int .i64 x0,.pointer a3] [⟨(.int .i64),⟨a4,x1.length,c5⟩,x1⟩] [⟨.val,⟨a3,1,1⟩,[(Sl.v ⟨a4,x1.length,c5⟩)]⟩] (fun _:Unit=>True) (fun _=>.int .i64 r.1) (fun _=>[⟨.val,⟨a3,1,1⟩,[(Sl.v ⟨a4,x1.length,c5⟩)]⟩]):=
 by
  refine FX.of (T:=TTx) Tryz.call195 Tryz.func195 E E fun w0 L0=>?_
  unfold pZ at h
  refine aNu 1 a3 E ?_
  refine aC aA 1 [] ⟨V,E⟩ E E (JS.seq (JS.region (cP aA E E E E E E 1 E E 0 0 (Sl.v ⟨a4,x1.length,c5⟩) ⟨E,E⟩ E E E (aB aA 1 [] [] [(5,.v (I x0))] _ E ⟨⟨E,V⟩,E⟩ ?_))))
  refine bnw h fun y8 hy9 h=>JO.call E E E E (yG x1 x0 a4 c5 _ hy9) E [0] E E fun _ _=>aB aA 1 [] [] [(3,.v (I y8))] _ E ⟨⟨E,V⟩,E⟩ (aD E ?_)
  cases h
  exact gR aA () V E E [0] E

def eR (x1:Int) (x2:(List Int)) (j23:Int→Option (Int×List Int)) (k19:(Int×Int)→Option (Int×List Int)):(Int×Int)→Option (Int×List Int):=fun (x9,x10)=>
  (bif (decide (x10<x1)) then
  (aG (pZ x9 x2) fun (y14,y15)=>
  k19 (y14,(W (x10+1))))
  else
  j23 x9)

def eY (x0:Int) (x1:Int) (x2:(List Int)):Option (Int×List Int):=
  (aU (fun (x22:Int)=>
  some (x22,x2)) fun j23=>
  (bC (eR x1 x2 j23) bM (x0,0)))

theorem tJ (x0:Int) (x1:Int) (x2:(List Int)) (a4:Option Addr) (a5:Option Addr) (c6:Nat) (r:Int×List Int) (h:eY x0 x1 x2=some r):
  FX Tryz.prog 114 [.int .i64 x0,.int .i64 x1,.func (.func 195) #[] #[.pointer a4]] [⟨(.int .i64),⟨a5,x2.length,c6⟩,x2⟩] [⟨.val,⟨a4,1,1⟩,[(Sl.v ⟨a5,x2.length,c6⟩)]⟩] (fun _:Unit=>True) (fun _=>.int .i64 r.1) (fun _=>[⟨.val,⟨a4,1,1⟩,[(Sl.v ⟨a5,x2.length,c6⟩)]⟩]):=
 by
  refine FX.of (T:=TTx) Tryz.call114 Tryz.func114 E E fun w0 L0=>?_
  unfold eY at h
  refine aC aA 1 [] ⟨V,E⟩ E E (JS.seq (aC aA 2 [(7,.v (I x1)),(8,.v (I 0))] ⟨(Es E),E⟩ E E ?_))
  obtain ⟨j23,hj27,h⟩:=aQ h
  refine bA (ι:=Int) ⟨fun z=>j23 z=some r,fun z=>[(0,.v (I z))],fun z=>.nil,fun z=>[⟨(.int .i64),⟨a5,x2.length,c6⟩,x2⟩],fun z=>[⟨.val,⟨a4,1,1⟩,[(Sl.v ⟨a5,x2.length,c6⟩)]⟩],fun z=>0⟩ ?_ ?_
  ·
   refine JS.loop (ι:=Nat×Int×Int) ⟨fun z=>bC (eR x1 x2 j23) z.1 z.2=some r,fun z=>[(0,.v (I z.2.1)),(2,.v (.func (.func 195) #[] #[.pointer a4])),(7,.v (I x1)),(8,.v (I z.2.2))],fun z=>.nil,fun z=>[⟨(.int .i64),⟨a5,x2.length,c6⟩,x2⟩],fun z=>[⟨.val,⟨a4,1,1⟩,[(Sl.v ⟨a5,x2.length,c6⟩)]⟩],fun z=>z.1⟩ (bM,x0,0) h (Es E) V [0] E [0] E ?_
   rintro ⟨n20,x9,x10⟩ h
   obtain ⟨n20,rfl,h⟩:=bH h
   rw [eR] at h
   refine aC aA 1 [(9,.v (.bool (decide (x10<x1))))] ⟨⟨E,V⟩,E⟩ E E (JS.seq ?_)
   refine aK E h (fun h=>?_) (fun h=>?_)
   ·
    refine JS.skip (JS.seq (JS.block (JS.region (aB aA 2 [] [] [(10,.v (.func (.func 195) #[] #[.pointer a4])),(11,.v (I x9))] _ E ⟨(Es E),E⟩ ?_))))
    obtain ⟨⟨y14,y15⟩,hy16,h⟩:=aE h
    refine aC2 (vs0:=[.int .i64 x9]) (caps:=[.pointer a4]) E E E E E (aDt x9 x2 a4 a5 c6 _ hy16) E [0] E [0] E E fun _ _=>aB aA 1 [] [] [(0,.v (I y14))] _ E ⟨⟨E,V⟩,E⟩ (aD E (aZ (bZ aA 2 [(W (x10+1))] [] [(8,.v (I (W (x10+1))))] _ ⟨⟨V,E⟩,⟨E,V⟩,E⟩ E E (bQ (n20,y14,(W (x10+1))) h (Nat.lt_succ_self _) (Es E) V [0] E [0] E))))
   refine JS.exit E (aT x9 h ⟨E,V⟩ V [0] E [0] E)
  rintro x22 h
  subst hj27
  refine aC aA 2 [(6,.v (I x22))] ⟨⟨E,V⟩,E⟩ E E ?_
  cases h
  exact gR aA () V E E [0] E

def kA (x0:EdQ) (x1:Int):Option (EdQ×Int):=
  (aG (lL x1) fun (y29:Bool)=>
  (bif y29 then
  (aG (fX x0) fun (y31:EdQ)=>
  some ((y31.1,y31.2.1,y31.2.2.1,(min (W ((W ((W (10*x0.2.2.2.1))+x1)) - 48)) 999),y31.2.2.2.2.1,y31.2.2.2.2.2.1,y31.2.2.2.2.2.2.1,y31.2.2.2.2.2.2.2.1,y31.2.2.2.2.2.2.2.2.1,y31.2.2.2.2.2.2.2.2.2.1,y31.2.2.2.2.2.2.2.2.2.2.1,y31.2.2.2.2.2.2.2.2.2.2.2.1,y31.2.2.2.2.2.2.2.2.2.2.2.2.1,y31.2.2.2.2.2.2.2.2.2.2.2.2.2.1,y31.2.2.2.2.2.2.2.2.2.2.2.2.2.2.1,y31.2.2.2.2.2.2.2.2.2.2.2.2.2.2.2.1,y31.2.2.2.2.2.2.2.2.2.2.2.2.2.2.2.2),0))
  else
  (bif (decide (x1=98)) then
  (aG (gN x0.2.2.1.2 (max x0.2.2.2.1 1) x0.2.2.1.1) fun (y45,y46)=>
  (aG (fW x0.2.2.1 y45) fun (y48:List Int×Int)=>
  (aG (fY x0 y48) fun (y52,y53)=>
  some (y52,y53))))
  else
  (bif (decide (x1=102)) then
  (aG (eY x0.2.2.1.2 (max x0.2.2.2.1 1) x0.2.2.1.1) fun (y68,y69)=>
  (aG (fW x0.2.2.1 y68) fun (y71:List Int×Int)=>
  (aG (fY x0 y71) fun (y75,y76)=>
  some (y75,y76))))
  else
  (bif (decide (x1=100)) then
  (aG (eY x0.2.2.1.2 (max x0.2.2.2.1 1) x0.2.2.1.1) fun (y91,y92)=>
  (aG (nI x0 x0.2.2.1.2 y91 1) fun (y94,y95)=>
  some (y94,y95)))
  else
  (bif (decide (x1=121)) then
  (aG (pX x0) fun (y110,y111)=>
  some (y110,y111))
  else
  (bif (zX [(117,1),(108,0),(99,2)] x1) then
  (aU (fun ((x146,x149):List Int×Int)=>
  (aG (fY x0 (x146,x149)) fun (y151,y152)=>
  some (y151,y152))) fun j150=>
  (aG (lQ x0.2.2.1.1 x0.2.2.1.2) fun (y138:Int)=>
  (aG (mI x0.2.2.1 x0.2.2.1.2 y138 (zY [(117,1),(108,0),(99,2)] x1)) fun (y140,y141)=>
  j150 (y140.1,y140.2))))
  else
  (aG (eC x0) fun (y167,y168)=>
  some (y167,y168)))))))))

theorem aE3 (x0:EdQ) (x1:Int) (q3:P6) (r:EdQ×Int) (h:kA x0 x1=some r):
  FC Tryz.prog 113 [.agg (cC x0 q3).toArray,.int .i64 x1] (bW x0 q3 []) (fun _:P6=>True) (fun q=>.tuple #[.agg (aI r.1 q).toArray,.int .i64 r.2]) (fun q=>(bW r.1 q [])):=
 by
  refine FC.of (T:=TTx) Tryz.call113 Tryz.func113 E E fun w0=>?_
  unfold kA at h
  refine aL aA 3 [] [7,8] [(2,.bp 7 0),(4,.bp 8 0)] (.new 7 46 (aI x0 q3) (.new 8 46 bF .nil)) ⟨(Es E),(Bs E E)⟩ E E (JS.seq ?_)
  refine bB E (.new 7 46 (aI x0 q3) .nil) [] [12] ⟨E,E,E,E,V⟩ E (fun be27=>?_)
  refine bR aA aF true 4 [0,1,2,3,4,5,6,7,8] E (by kernel_rfl) [] [(19,.v (.slice q3.1 x0.2.2.1.1.length q3.2.1)),(22,.v (I x0.2.2.1.2)),(25,.v (I (max x0.2.2.2.1 1)))] ⟨E,E,E,E,V⟩ [] E E (Es E) (JA.one 9 (by kernel_rfl) (JK.alloc aA E E E E E 9 E (cK _ E) (aR ⟨E,E,E,E,V⟩ [] E (JA.one 10 (by kernel_rfl) (aY aA E E E E E E E E (aR ⟨E,E,E,E,V⟩ [] E (bR aA aF true 1 [11] E (by kernel_rfl) [] [(7,.v (I x0.2.2.1.2))] ⟨E,E,E,E,V⟩ [] E E ⟨E,V⟩ (aS aA aF 0 [12] E (by kernel_rfl) [] [(8,.v (I (max x0.2.2.2.1 1)))] E ⟨E,V⟩ (bE (by kernel_rfl) (aW (B':=(.new 7 46 (aI x0 q3) (.new 8 46 bF (.new 9 22 [.slice q3.1 x0.2.2.1.1.length q3.2.1] .nil)))) (Bs E E) (JS.seq (JS.region (aL3 9 E (B':=(.new 7 46 (aI x0 q3) (.new 8 46 bF .nil))) (Bs E E) E .val (Sl.v ⟨q3.1,x0.2.2.1.1.length,q3.2.1⟩) ⟨E,E,E⟩ (fun a28=>[(0,.v (.agg (aI x0 q3).toArray)),(1,.v (I x1)),(2,.bp 7 0),(4,.bp 8 0),(6,.ep ⟨a28,1,1⟩ 0),(7,.v (I x0.2.2.1.2)),(8,.v (I (max x0.2.2.2.1 1))),(19,.v (.slice q3.1 x0.2.2.1.1.length q3.2.1)),(22,.v (I x0.2.2.1.2)),(25,.v (I (max x0.2.2.2.1 1)))]) (fun _=>(Es E)) fun a28=>aC1 E E E E E E (aB aA 1 [] [] [(9,.v (.func (.func 194) #[] #[.pointer a28]))] _ E ⟨⟨E,V⟩,E⟩ (aD E (JS.seq (JS.region (aC1 E E E E E E (aB aA 1 [] [] [(10,.v (.func (.func 195) #[] #[.pointer a28]))] _ E ⟨⟨E,V⟩,E⟩ (aD E (JS.seq (JS.block ?_))))))))))))))))))))))
  refine JS.seq (JS.region (aB aA 1 [] [] [(29,.v (I x1))] _ E ⟨⟨E,V⟩,E⟩ ?_))
  refine bnw h fun y29 hy30 h=>JO.call E E E E (aBq x1 _ hy30) E [] E E fun _ _=>aB aA 1 [] [] [(28,.v (.bool y29))] _ E ⟨⟨E,V⟩,E⟩ (aD E ?_)
  refine aK E h (fun h=>?_) (fun h=>?_)
  ·
   refine JS.seq (JS.region (aB aA 1 [] [] [(31,.v (.agg (aI x0 q3).toArray))] _ E ⟨⟨E,V⟩,E⟩ ?_))
   refine bnw h fun y31 hy32 h=>JO.call E E E E (rC x0 q3 _ hy32) E [0,1,2,3,4,5] E E fun q33 _=>aP aA 2 [] [35] [(11,.bp 35 0)] (.new 7 46 (aI x0 q3) (.new 8 46 bF (.new 35 46 (aI y31 q33) .nil))) E ⟨⟨E,V⟩,(Bs E E)⟩ (aD E (aL aA 9 [(W (10*x0.2.2.2.1)),(W ((W (10*x0.2.2.2.1))+x1)),(W ((W ((W (10*x0.2.2.2.1))+x1)) - 48))] [] [] (.new 8 46 bF (.new 35 46 (aI (U3 y31 (min (W ((W ((W (10*x0.2.2.2.1))+x1)) - 48)) 999)) q33) .nil)) ⟨⟨V,E⟩,⟨V,E⟩,⟨V,E⟩,V,(Bs E E)⟩ E E (aL aA 3 [] [] [(5,.v (I 0))] (.new 8 46 (aI (U3 y31 (min (W ((W ((W (10*x0.2.2.2.1))+x1)) - 48)) 999)) q33) .nil) ⟨⟨E,V⟩,(Bs E E)⟩ E E ?_)))
   cases h
   exact JS.ret aA q33 V E E [0,0,0,0,0,0] E
  refine aC aA 3 [(42,.v (.bool (decide (x1=98))))] ⟨⟨E,V⟩,E⟩ E E ?_
  refine aK E h (fun h=>?_) (fun h=>?_)
  ·
   refine JS.seq ?_
   obtain ⟨⟨y45,y46⟩,hy47,h⟩:=aE h
   obtain ⟨y48,hy49,h⟩:=aE h
   obtain ⟨⟨y52,y53⟩,hy54,h⟩:=aE h
   refine bB E (.new 7 46 (aI x0 q3) .nil) [] [8,9,10,11,12] ⟨E,E,E,E,V⟩ E (fun be67=>?_)
   refine bR aA aF true 7 [0,1,2,3,4,5] E (by kernel_rfl) [] [(45,.v (.agg (aI x0 q3).toArray)),(47,.v (.agg #[.slice q3.1 x0.2.2.1.1.length q3.2.1,.int .i64 x0.2.2.1.2])),(48,.v (I x0.2.2.1.2)),(49,.v (I (max x0.2.2.2.1 1))),(50,.v (.func (.func 194) #[] #[.pointer a28]))] ⟨E,E,E,E,V⟩ [] E E (Es E) (JA.one 6 (by kernel_rfl) (zD E E E E (aAw x0.2.2.1.2 (max x0.2.2.2.1 1) x0.2.2.1.1 a28 q3.1 q3.2.1 _ hy47) E [0] E [0] E E fun _ _=>aR ⟨E,E,E,E,V⟩ [] E (JA.one 7 (by kernel_rfl) (JK.call E E E E (oG x0.2.2.1 y45 q3.1 q3.2.1 _ hy49) E [0] E E ?_))))
   rintro ⟨a50,c51⟩ -
   refine aR ⟨E,E,E,E,V⟩ [] E (JA.one 8 (by kernel_rfl) (JK.call E E E E (oV x0 y48 q3 a50 c51 _ hy54) E [0,1,2,3,4,5,6] E E ?_))
   rintro q55 -
   refine aM E (aS aA aF 2 [9,10] E (by kernel_rfl) [] [(54,.v (.agg (aI y52 q55).toArray)),(55,.v (I y53))] E (Es E) (JA.one 11 (by kernel_rfl) (aY aA E E E E E E E E (aM E (aS aA aF 0 [12] E (by kernel_rfl) [] [(5,.v (I y53))] E ⟨E,V⟩ (bE (by kernel_rfl) (aW (B':=(.new 8 46 (aI y52 q55) .nil)) (Bs E E) ?_)))))))
   cases h
   exact JS.ret aA q55 V E E [0,0,0,0,0,0] E
  refine aC aA 3 [(56,.v (.bool (decide (x1=102))))] ⟨⟨E,V⟩,E⟩ E E ?_
  refine aK E h (fun h=>?_) (fun h=>?_)
  ·
   refine JS.seq ?_
   obtain ⟨⟨y68,y69⟩,hy70,h⟩:=aE h
   obtain ⟨y71,hy72,h⟩:=aE h
   obtain ⟨⟨y75,y76⟩,hy77,h⟩:=aE h
   refine bB E (.new 7 46 (aI x0 q3) .nil) [] [8,9,10,11,12] ⟨E,E,E,E,V⟩ E (fun be90=>?_)
   refine bR aA aF true 7 [0,1,2,3,4,5] E (by kernel_rfl) [] [(59,.v (.agg (aI x0 q3).toArray)),(61,.v (.agg #[.slice q3.1 x0.2.2.1.1.length q3.2.1,.int .i64 x0.2.2.1.2])),(62,.v (I x0.2.2.1.2)),(63,.v (I (max x0.2.2.2.1 1))),(64,.v (.func (.func 195) #[] #[.pointer a28]))] ⟨E,E,E,E,V⟩ [] E E (Es E) (JA.one 6 (by kernel_rfl) (zD E E E E (tJ x0.2.2.1.2 (max x0.2.2.2.1 1) x0.2.2.1.1 a28 q3.1 q3.2.1 _ hy70) E [0] E [0] E E fun _ _=>aR ⟨E,E,E,E,V⟩ [] E (JA.one 7 (by kernel_rfl) (JK.call E E E E (oG x0.2.2.1 y68 q3.1 q3.2.1 _ hy72) E [0] E E ?_))))
   rintro ⟨a73,c74⟩ -
   refine aR ⟨E,E,E,E,V⟩ [] E (JA.one 8 (by kernel_rfl) (JK.call E E E E (oV x0 y71 q3 a73 c74 _ hy77) E [0,1,2,3,4,5,6] E E ?_))
   rintro q78 -
   refine aM E (aS aA aF 2 [9,10] E (by kernel_rfl) [] [(68,.v (.agg (aI y75 q78).toArray)),(69,.v (I y76))] E (Es E) (JA.one 11 (by kernel_rfl) (aY aA E E E E E E E E (aM E (aS aA aF 0 [12] E (by kernel_rfl) [] [(5,.v (I y76))] E ⟨E,V⟩ (bE (by kernel_rfl) (aW (B':=(.new 8 46 (aI y75 q78) .nil)) (Bs E E) ?_)))))))
   cases h
   exact JS.ret aA q78 V E E [0,0,0,0,0,0] E
  refine aC aA 3 [(70,.v (.bool (decide (x1=100))))] ⟨⟨E,V⟩,E⟩ E E ?_
  refine aK E h (fun h=>?_) (fun h=>?_)
  ·
   refine JS.seq ?_
   obtain ⟨⟨y91,y92⟩,hy93,h⟩:=aE h
   obtain ⟨⟨y94,y95⟩,hy96,h⟩:=aE h
   refine bB E (.new 7 46 (aI x0 q3) .nil) [] [6,7,8,9,10] ⟨E,E,E,E,V⟩ E (fun be109=>?_)
   refine bR aA aF true 6 [0,1,2,3,4] E (by kernel_rfl) [] [(73,.v (.agg (aI x0 q3).toArray)),(74,.v (I x0.2.2.1.2)),(75,.v (I x0.2.2.1.2)),(76,.v (I (max x0.2.2.2.1 1))),(77,.v (.func (.func 195) #[] #[.pointer a28]))] ⟨E,E,E,E,V⟩ [] E E (Es E) (JA.one 5 (by kernel_rfl) (zD E E E E (tJ x0.2.2.1.2 (max x0.2.2.2.1 1) x0.2.2.1.1 a28 q3.1 q3.2.1 _ hy93) E [0] E [0] E E fun _ _=>aR ⟨E,E,E,E,V⟩ [] E (JA.one 6 (by kernel_rfl) (JK.call E E E E (vS x0 x0.2.2.1.2 y91 1 q3 _ hy96) E [0,1,2,3,4,5] E E ?_))))
   rintro q97 -
   refine aM E (aS aA aF 2 [7,8] E (by kernel_rfl) [] [(80,.v (.agg (aI y94 q97).toArray)),(81,.v (I y95))] E (Es E) (JA.one 9 (by kernel_rfl) (aY aA E E E E E E E E (aM E (aS aA aF 0 [10] E (by kernel_rfl) [] [(5,.v (I y95))] E ⟨E,V⟩ (bE (by kernel_rfl) (aW (B':=(.new 8 46 (aI y94 q97) .nil)) (Bs E E) ?_)))))))
   cases h
   exact JS.ret aA q97 V E E [0,0,0,0,0,0] E
  refine aC aA 3 [(82,.v (.bool (decide (x1=121))))] ⟨⟨E,V⟩,E⟩ E E ?_
  refine aK E h (fun h=>?_) (fun h=>?_)
  ·
   refine JS.seq (JS.region (aB aA 1 [] [] [(85,.v (.agg (aI x0 q3).toArray))] _ E ⟨⟨E,V⟩,E⟩ ?_))
   obtain ⟨⟨y110,y111⟩,hy112,h⟩:=aE h
   refine JO.call E E E E (aGu x0 q3 _ hy112) E [0,1,2,3,4,5] E E fun q113 _=>aP aA 4 [] [] [(5,.v (I y111))] (.new 8 46 (aI y110 q113) .nil) E ⟨⟨E,V⟩,(Bs E E)⟩ (aD E ?_)
   cases h
   exact JS.ret aA q113 V E E [0,0,0,0,0,0] E
  refine JS.skip (aZ (JS.seq (JS.region (JO.makeMap E E E E E fun r125 w126 X127 m128=>JO.insert m128 E E E E Tryz.underlying181 Tryz.underlying3 E E E E fun w129 X130 m131=>JO.insert m131 E E E E Tryz.underlying181 Tryz.underlying3 E E E E fun w132 X133 m134=>JO.insert m134 E E E E Tryz.underlying181 Tryz.underlying3 E E E E fun w135 X136 m137=>aB aA 2 [] [] [(12,.v (.map (some r125)))] _ E ⟨⟨E,V⟩,E⟩ (aD E (JS.seq (JS.seq (JS.region (aB aA 2 [] [] [(92,.v (.map (some r125))),(93,.v (I x1))] _ E ⟨(Es E),E⟩ (aOy m137 E E E E Tryz.underlying181 Tryz.underlying3 (fun _=>by kernel_rfl) E E E (aB aA 5 [] [] [(13,.v (I (zY [(117,1),(108,0),(99,2)] x1))),(14,.v (.bool (zX [(117,1),(108,0),(99,2)] x1)))] _ E ⟨(Es E),E⟩ (aD E (aC aA 1 [(97,.v (.bool (zX [(117,1),(108,0),(99,2)] x1)))] ⟨⟨E,V⟩,E⟩ E E ?_)))))))))))))
  refine aK E h (fun h=>?_) (fun h=>?_)
  ·
   refine JS.seq ?_
   obtain ⟨j150,hj188,h⟩:=aQ h
   refine mK (ι:=List Int×Int×Option Addr×Nat) ⟨fun z=>j150 (z.1,z.2.1)=some r,fun z=>[(2,.bp 7 0),(4,.bp 8 0),(15,.bp 163 0)],fun z=>(.new 7 46 (aI x0 q3) (.new 8 46 bF (.new 163 38 [.slice z.2.2.1 z.1.length z.2.2.2,.int .i64 z.2.1] .nil))),fun z=>(bW x0 q3 []),fun z=>[⟨(.int .i64),⟨z.2.2.1,z.1.length,z.2.2.2⟩,z.1⟩,⟨.val,⟨a28,1,1⟩,[(Sl.v ⟨q3.1,x0.2.2.1.1.length,q3.2.1⟩)]⟩],fun z=>0⟩ ?_ ?_
   ·
    obtain ⟨y138,hy139,h⟩:=aE h
    obtain ⟨⟨y140,y141⟩,hy142,h⟩:=aE h
    refine bB E (.new 7 46 (aI x0 q3) .nil) [6] [7,8,9,10,12,13] ⟨E,E,E,E,V⟩ E (fun be145=>?_)
    refine bR aA aF true 9 [0,1,2,4,6] E (by kernel_rfl) [] [(100,.v (.agg #[.slice q3.1 x0.2.2.1.1.length q3.2.1,.int .i64 x0.2.2.1.2])),(101,.v (I x0.2.2.1.2)),(103,.v (I x0.2.2.1.2)),(105,.v (I (zY [(117,1),(108,0),(99,2)] x1)))] ⟨E,E,E,E,V⟩ [6] E E (Es E) (uF aA aF 3 E (by kernel_rfl) E E E E E 0 E E 0 0 (Sl.v ⟨q3.1,x0.2.2.1.1.length,q3.2.1⟩) ⟨E,E⟩ E E E ⟨E,E,E,E,V⟩ [6] E ?_)
    refine JA.all (rs:=[5,11]) (by kernel_rfl) E (List.forall_mem_cons.2 ⟨?_,List.forall_mem_cons.2 ⟨?_,(fun _ hx=>absurd hx List.not_mem_nil)⟩⟩)
    ·
     refine JK.call E E E E (yG x0.2.2.1.1 x0.2.2.1.2 q3.1 q3.2.1 _ hy139) E [0] E E fun _ _=>aR ⟨E,E,E,E,V⟩ [6] E ?_
     refine JA.all (rs:=[7,11]) (by kernel_rfl) E (List.forall_mem_cons.2 ⟨?_,List.forall_mem_cons.2 ⟨?_,(fun _ hx=>absurd hx List.not_mem_nil)⟩⟩)
     ·
      refine JK.call E E E E (vF x0.2.2.1 x0.2.2.1.2 y138 (zY [(117,1),(108,0),(99,2)] x1) q3.1 q3.2.1 _ hy142) E [0] E E ?_
      rintro ⟨a143,c144⟩ -
      refine aM E (aS aA aF 3 [8,9,10] E (by kernel_rfl) [] [(107,.v (.agg #[.slice a143 y140.1.length c144,.int .i64 y140.2])),(108,.v (.bool y141))] E (Es E) (JA.one 11 (by kernel_rfl) (JK.alloc aA E E E E E 163 E (cK _ E) (aR ⟨E,E,E,E,V⟩ [7] E (JA.one 12 (by kernel_rfl) (aY aA E E E E E E E E (aM E (aS aA aF 0 [13] E (by kernel_rfl) [] [] E V (bE (by kernel_rfl) (aW (B':=(.new 7 46 (aI x0 q3) (.new 8 46 bF (.new 163 38 [.slice a143 y140.1.length c144,.int .i64 y140.2] .nil)))) (Bs E E) (aT (y140.1,y140.2,a143,c144) h (Es E) (Bs E E) [0,1,2,3,4,5] E [0,0] E)))))))))))
     refine JK.alloc aA E E E E E 163 E (cK _ E) (aR ⟨E,E,E,E,V⟩ [6] E (JA.one 7 (by kernel_rfl) (JK.call E E E E (vF x0.2.2.1 x0.2.2.1.2 y138 (zY [(117,1),(108,0),(99,2)] x1) q3.1 q3.2.1 _ hy142) E [0] E E ?_)))
     rintro ⟨a143,c144⟩ -
     refine aM E (aS aA aF 2 [8,9,10] E (by kernel_rfl) [] [(107,.v (.agg #[.slice a143 y140.1.length c144,.int .i64 y140.2])),(108,.v (.bool y141))] E (Es E) (JA.one 12 (by kernel_rfl) (aY aA E E E E E E E E (aM E (aS aA aF 0 [13] E (by kernel_rfl) [] [] E V (bE (by kernel_rfl) (aW (B':=(.new 7 46 (aI x0 q3) (.new 8 46 bF (.new 163 38 [.slice a143 y140.1.length c144,.int .i64 y140.2] .nil)))) (Bs E E) (aT (y140.1,y140.2,a143,c144) h (Es E) (Bs E E) [0,1,2,3,4,5] E [0,0] E))))))))
    refine JK.alloc aA E E E E E 163 E (cK _ E) (aR ⟨E,E,E,E,V⟩ [6] E (JA.one 5 (by kernel_rfl) (JK.call E E E E (yG x0.2.2.1.1 x0.2.2.1.2 q3.1 q3.2.1 _ hy139) E [0] E E fun _ _=>aR ⟨E,E,E,E,V⟩ [6] E (JA.one 7 (by kernel_rfl) (JK.call E E E E (vF x0.2.2.1 x0.2.2.1.2 y138 (zY [(117,1),(108,0),(99,2)] x1) q3.1 q3.2.1 _ hy142) E [0] E E ?_)))))
    rintro ⟨a143,c144⟩ -
    refine aM E (aS aA aF 2 [8,9,10] E (by kernel_rfl) [] [(107,.v (.agg #[.slice a143 y140.1.length c144,.int .i64 y140.2])),(108,.v (.bool y141))] E (Es E) (JA.one 12 (by kernel_rfl) (aY aA E E E E E E E E (aM E (aS aA aF 0 [13] E (by kernel_rfl) [] [] E V (bE (by kernel_rfl) (aW (B':=(.new 7 46 (aI x0 q3) (.new 8 46 bF (.new 163 38 [.slice a143 y140.1.length c144,.int .i64 y140.2] .nil)))) (Bs E E) (aT (y140.1,y140.2,a143,c144) h (Es E) (Bs E E) [0,1,2,3,4,5] E [0,0] E))))))))
   rintro ⟨x146,x149,a147,c148⟩ h
   subst hj188
   refine JS.seq (JS.region (aB aA 2 [] [] [(109,.v (.agg (aI x0 q3).toArray)),(110,.v (.agg #[.slice a147 x146.length c148,.int .i64 x149]))] _ E ⟨(Es E),E⟩ ?_))
   obtain ⟨⟨y151,y152⟩,hy153,h⟩:=aE h
   refine JO.call E E E E (oV x0 (x146,x149) q3 a147 c148 _ hy153) E [0,1,2,3,4,5,6] E E fun q154 _=>aP aA 4 [] [] [(5,.v (I y152))] (.new 8 46 (aI y151 q154) .nil) E ⟨⟨E,V⟩,(Bs E E)⟩ (aD E ?_)
   cases h
   exact JS.ret aA q154 V E E [0,0,0,0,0,0] E
  refine JS.skip (JS.seq (JS.region (aB aA 1 [] [] [(114,.v (.agg (aI x0 q3).toArray))] _ E ⟨⟨E,V⟩,E⟩ ?_)))
  obtain ⟨⟨y167,y168⟩,hy169,h⟩:=aE h
  refine JO.call E E E E (gB x0 q3 _ hy169) E [0,1,2,3,4,5] E E fun q170 _=>aP aA 4 [] [] [(5,.v (I y168))] (.new 8 46 (aI y167 q170) .nil) E ⟨⟨E,V⟩,(Bs E E)⟩ (aD E ?_)
  cases h
  exact JS.ret aA q170 V E E [0,0,0,0,0,0] E

def rA (x0:Int) (x1:List Int):Option (Int×List Int):=
  (aG (jF x1 x0) fun (y8:Int)=>
  some (y8,x1))

theorem aE7 (x0:Int) (x1:List Int) (a3:Option Addr) (a4:Option Addr) (c5:Nat) (r:Int×List Int) (h:rA x0 x1=some r):
  FX Tryz.prog 115 [.int .i64 x0,.pointer a3] [⟨(.int .i64),⟨a4,x1.length,c5⟩,x1⟩] [⟨.val,⟨a3,1,1⟩,[(Sl.v ⟨a4,x1.length,c5⟩)]⟩] (fun _:Unit=>True) (fun _=>.int .i64 r.1) (fun _=>[⟨.val,⟨a3,1,1⟩,[(Sl.v ⟨a4,x1.length,c5⟩)]⟩]):=
 by
  refine FX.of (T:=TTx) Tryz.call115 Tryz.func115 E E fun w0 L0=>?_
  unfold rA at h
  refine aNu 1 a3 E ?_
  refine aC aA 1 [] ⟨V,E⟩ E E (JS.seq (JS.region (cP aA E E E E E E 1 E E 0 0 (Sl.v ⟨a4,x1.length,c5⟩) ⟨E,E⟩ E E E (aB aA 1 [] [] [(5,.v (I x0))] _ E ⟨⟨E,V⟩,E⟩ ?_))))
  refine bnw h fun y8 hy9 h=>JO.call E E E E (aAg x1 x0 a4 c5 _ hy9) E [0] E E fun _ _=>aB aA 1 [] [] [(3,.v (I y8))] _ E ⟨⟨E,V⟩,E⟩ (aD E ?_)
  cases h
  exact gR aA () V E E [0] E

def eS (x1:Int) (x2:(List Int)) (j23:Int→Option (Int×List Int)) (k19:(Int×Int)→Option (Int×List Int)):(Int×Int)→Option (Int×List Int):=fun (x9,x10)=>
  (bif (decide (x10<x1)) then
  (aG (rA x9 x2) fun (y14,y15)=>
  k19 (y14,(W (x10+1))))
  else
  j23 x9)

def eZ (x0:Int) (x1:Int) (x2:(List Int)):Option (Int×List Int):=
  (aU (fun (x22:Int)=>
  some (x22,x2)) fun j23=>
  (bC (eS x1 x2 j23) bM (x0,0)))

theorem aAx (x0:Int) (x1:Int) (x2:(List Int)) (a4:Option Addr) (a5:Option Addr) (c6:Nat) (r:Int×List Int) (h:eZ x0 x1 x2=some r):
  FX Tryz.prog 114 [.int .i64 x0,.int .i64 x1,.func (.func 115) #[] #[.pointer a4]] [⟨(.int .i64),⟨a5,x2.length,c6⟩,x2⟩] [⟨.val,⟨a4,1,1⟩,[(Sl.v ⟨a5,x2.length,c6⟩)]⟩] (fun _:Unit=>True) (fun _=>.int .i64 r.1) (fun _=>[⟨.val,⟨a4,1,1⟩,[(Sl.v ⟨a5,x2.length,c6⟩)]⟩]):=
 by
  refine FX.of (T:=TTx) Tryz.call114 Tryz.func114 E E fun w0 L0=>?_
  unfold eZ at h
  refine aC aA 1 [] ⟨V,E⟩ E E (JS.seq (aC aA 2 [(7,.v (I x1)),(8,.v (I 0))] ⟨(Es E),E⟩ E E ?_))
  obtain ⟨j23,hj27,h⟩:=aQ h
  refine bA (ι:=Int) ⟨fun z=>j23 z=some r,fun z=>[(0,.v (I z))],fun z=>.nil,fun z=>[⟨(.int .i64),⟨a5,x2.length,c6⟩,x2⟩],fun z=>[⟨.val,⟨a4,1,1⟩,[(Sl.v ⟨a5,x2.length,c6⟩)]⟩],fun z=>0⟩ ?_ ?_
  ·
   refine JS.loop (ι:=Nat×Int×Int) ⟨fun z=>bC (eS x1 x2 j23) z.1 z.2=some r,fun z=>[(0,.v (I z.2.1)),(2,.v (.func (.func 115) #[] #[.pointer a4])),(7,.v (I x1)),(8,.v (I z.2.2))],fun z=>.nil,fun z=>[⟨(.int .i64),⟨a5,x2.length,c6⟩,x2⟩],fun z=>[⟨.val,⟨a4,1,1⟩,[(Sl.v ⟨a5,x2.length,c6⟩)]⟩],fun z=>z.1⟩ (bM,x0,0) h (Es E) V [0] E [0] E ?_
   rintro ⟨n20,x9,x10⟩ h
   obtain ⟨n20,rfl,h⟩:=bH h
   rw [eS] at h
   refine aC aA 1 [(9,.v (.bool (decide (x10<x1))))] ⟨⟨E,V⟩,E⟩ E E (JS.seq ?_)
   refine aK E h (fun h=>?_) (fun h=>?_)
   ·
    refine JS.skip (JS.seq (JS.block (JS.region (aB aA 2 [] [] [(10,.v (.func (.func 115) #[] #[.pointer a4])),(11,.v (I x9))] _ E ⟨(Es E),E⟩ ?_))))
    obtain ⟨⟨y14,y15⟩,hy16,h⟩:=aE h
    refine aC2 (vs0:=[.int .i64 x9]) (caps:=[.pointer a4]) E E E E E (aE7 x9 x2 a4 a5 c6 _ hy16) E [0] E [0] E E fun _ _=>aB aA 1 [] [] [(0,.v (I y14))] _ E ⟨⟨E,V⟩,E⟩ (aD E (aZ (bZ aA 2 [(W (x10+1))] [] [(8,.v (I (W (x10+1))))] _ ⟨⟨V,E⟩,⟨E,V⟩,E⟩ E E (bQ (n20,y14,(W (x10+1))) h (Nat.lt_succ_self _) (Es E) V [0] E [0] E))))
   refine JS.exit E (aT x9 h ⟨E,V⟩ V [0] E [0] E)
  rintro x22 h
  subst hj27
  refine aC aA 2 [(6,.v (I x22))] ⟨⟨E,V⟩,E⟩ E E ?_
  cases h
  exact gR aA () V E E [0] E

def mJ (x0:EdQ) (x1:Int×List (List UInt8)) (x2:Int×Int):Option (EdQ×Int):=
  (aG (uB x0 x1 x2) fun (y32:Bool)=>
  (bif (bif (!y32) then true else (!(decide (x0.2.1=0)))) then
  some ((false,0,([],0),0,0,0,0,0,0,0,[],[],0,([],0),[],0,([],0)),0)
  else
  (aG (oK x0 x1 x2) fun (y34,y35,y36)=>
  (bif y36 then
  some (y34,y35)
  else
  (bif (decide (x2.1=3)) then
  (aG (kA x0 x2.2) fun (y50,y51)=>
  some (y50,y51))
  else
  (bif (decide (x2.1=15)) then
  (aG (eZ x0.2.2.1.2 (max x0.2.2.2.1 1) x0.2.2.1.1) fun (y66,y67)=>
  (aG (nI x0 y66 x0.2.2.1.2 2) fun (y69,y70)=>
  some (y69,y70)))
  else
  (bif (decide (x2.1=2)) then
  (aG (kB x0 x1 x2.2) fun (y84,y85)=>
  some (y84,y85))
  else
  (aG (eC x0) fun (y99,y100)=>
  some (y99,y100)))))))))

theorem fL (x0:EdQ) (x1:Int×List (List UInt8)) (x2:Int×Int) (q4:P6) (a28:Option Addr) (c29:Nat) (r:EdQ×Int) (h:mJ x0 x1 x2=some r):
  FC Tryz.prog 38 [.agg (cC x0 q4).toArray,.agg #[.int .i64 x1.1,.slice a28 x1.2.length c29],.agg #[.int .i64 x2.1,.int .i64 x2.2]] (bW x0 q4 [⟨.str,⟨a28,x1.2.length,c29⟩,x1.2⟩]) (fun _:P6=>True) (fun q=>.tuple #[.agg (aI r.1 q).toArray,.int .i64 r.2]) (fun q=>(bW r.1 q [])):=
 by
  refine FC.of (T:=TTx) Tryz.call38 Tryz.func38 E E fun w0=>?_
  unfold mJ at h
  refine aL aA 5 [] [8,9,10,11] [(3,.bp 8 0),(4,.bp 9 0),(5,.bp 10 0),(6,.bp 11 0)] (.new 8 46 (aI x0 q4) (.new 9 50 [.int .i64 x1.1,.slice a28 x1.2.length c29] (.new 10 64 [.int .i64 x2.1,.int .i64 x2.2] (.new 11 46 bF .nil)))) ⟨(Es E),(Bs E E)⟩ E E (JS.seq (JS.seq (JS.region (aB aA 3 [] [] [(13,.v (.agg (aI x0 q4).toArray)),(14,.v (.agg #[.int .i64 x1.1,.slice a28 x1.2.length c29])),(15,.v (.agg #[.int .i64 x2.1,.int .i64 x2.2]))] _ E ⟨(Es E),E⟩ ?_))))
  refine bnw h fun y32 hy33 h=>JO.call E E E E (aKs x0 x1 x2 q4 a28 c29 _ hy33) E [0,1,2,3,4,5,6] E E fun _ _=>aB aA 6 [] [] [(22,.v (.bool (bif (!y32) then true else (!(decide (x0.2.1=0))))))] _ E ⟨⟨E,V⟩,E⟩ (aD E ?_)
  refine aK E h (fun h=>?_) (fun h=>?_)
  ·
   refine aL aA 3 [] [] [(7,.v (I 0))] (.new 11 46 bF .nil) ⟨⟨E,V⟩,(Bs E E)⟩ E E ?_
   cases h
   refine aX (.int .i64) Sl.nil E E (aX (.sl (.int .i64)) Sl.nil E E (aX (.pair (.sl (.int .i64)) (.int .i64)) Sl.nil E E (aX (.int .i64) Sl.nil E E (aX (.int .i64) Sl.nil E E (aX (.int .i64) Sl.nil E E (JS.ret aA (none,0,none,0,none,0,none,0,none,0,none,0) V E E [5,4,3,2,1,0] E))))))
  refine JS.skip (JS.seq (JS.seq (JS.region (aB aA 3 [] [] [(25,.v (.agg (aI x0 q4).toArray)),(26,.v (.agg #[.int .i64 x1.1,.slice a28 x1.2.length c29])),(27,.v (.agg #[.int .i64 x2.1,.int .i64 x2.2]))] _ E ⟨(Es E),E⟩ ?_))))
  obtain ⟨⟨y34,y35,y36⟩,hy37,h⟩:=aE h
  refine JO.call E E E E (aE2 x0 x1 x2 q4 a28 c29 _ hy37) E [0,1,2,3,4,5,6] E E fun q38 _=>aP aA 8 [] [36] [(8,.bp 36 0),(9,.v (I y35)),(10,.v (.bool y36))] (.new 8 46 (aI x0 q4) (.new 9 50 [.int .i64 x1.1,.slice a28 x1.2.length c29] (.new 10 64 [.int .i64 x2.1,.int .i64 x2.2] (.new 11 46 bF (.new 36 46 (aI y34 q38) .nil))))) E ⟨(Es E),(Bs E E)⟩ (aD E (aC aA 1 [(32,.v (.bool y36))] ⟨⟨E,V⟩,E⟩ E E ?_))
  refine aK E h (fun h=>?_) (fun h=>?_)
  ·
   refine aL aA 4 [] [] [(7,.v (I y35))] (.new 11 46 (aI y34 q38) .nil) ⟨⟨E,V⟩,(Bs E E)⟩ E E ?_
   cases h
   exact JS.ret aA q38 V E E [0,0,0,0,0,0] E
  refine JS.skip (JS.seq (aC aA 2 [(36,.v (I x2.1))] ⟨⟨E,V⟩,E⟩ E E (JS.block (aC aA 2 [(37,.v (.bool (decide (x2.1=3))))] ⟨⟨E,V⟩,E⟩ E E ?_))))
  refine aK E h (fun h=>?_) (fun h=>?_)
  ·
   refine JS.seq (JS.region (aB aA 3 [] [] [(39,.v (.agg (aI x0 q4).toArray)),(41,.v (I x2.2))] _ E ⟨(Es E),E⟩ ?_))
   obtain ⟨⟨y50,y51⟩,hy52,h⟩:=aE h
   refine JO.call E E E E (aE3 x0 x2.2 q4 _ hy52) E [0,1,2,3,4,5] E E fun q53 _=>aP aA 4 [] [] [(7,.v (I y51))] (.new 11 46 (aI y50 q53) .nil) E ⟨⟨E,V⟩,(Bs E E)⟩ (aD E ?_)
   cases h
   exact JS.ret aA q53 V E E [0,0,0,0,0,0] E
  refine aC aA 2 [(45,.v (.bool (decide (x2.1=15))))] ⟨⟨E,V⟩,E⟩ E E ?_
  refine aK E h (fun h=>?_) (fun h=>?_)
  ·
   refine aL aA 5 [] [58] [(11,.bp 58 0)] (.new 8 46 (aI x0 q4) (.new 11 46 bF (.new 58 22 [.slice q4.1 x0.2.2.1.1.length q4.2.1] .nil))) ⟨⟨E,V⟩,(Bs E E)⟩ E E (JS.seq (JS.region (aB aA 6 [] [] [(52,.v (I x0.2.2.1.2)),(55,.v (I (max x0.2.2.2.1 1)))] _ E ⟨(Es E),E⟩ (aL3 58 E (B':=(.new 8 46 (aI x0 q4) (.new 11 46 bF .nil))) (Bs E E) E .val (Sl.v ⟨q4.1,x0.2.2.1.1.length,q4.2.1⟩) ⟨E,E,E⟩ (fun a65=>[(0,.v (.agg (aI x0 q4).toArray)),(1,.v (.agg #[.int .i64 x1.1,.slice a28 x1.2.length c29])),(2,.v (.agg #[.int .i64 x2.1,.int .i64 x2.2])),(3,.bp 8 0),(6,.bp 11 0),(9,.v (I y35)),(10,.v (.bool y36)),(11,.ep ⟨a65,1,1⟩ 0),(13,.v (.agg (aI x0 q4).toArray)),(14,.v (.agg #[.int .i64 x1.1,.slice a28 x1.2.length c29])),(15,.v (.agg #[.int .i64 x2.1,.int .i64 x2.2])),(16,.v (.bool y32)),(22,.v (.bool (bif (!y32) then true else (!(decide (x0.2.1=0)))))),(25,.v (.agg (aI x0 q4).toArray)),(26,.v (.agg #[.int .i64 x1.1,.slice a28 x1.2.length c29])),(27,.v (.agg #[.int .i64 x2.1,.int .i64 x2.2])),(28,.v (.tuple #[.agg (aI y34 q38).toArray,.int .i64 y35,.bool y36])),(32,.v (.bool y36)),(36,.v (I x2.1)),(37,.v (.bool (decide (x2.1=3)))),(45,.v (.bool (decide (x2.1=15)))),(52,.v (I x0.2.2.1.2)),(55,.v (I (max x0.2.2.2.1 1)))]) (fun _=>(Es E)) fun a65=>aC1 E E E E E E ?_))))
   obtain ⟨⟨y66,y67⟩,hy68,h⟩:=aE h
   refine eV E E E E (aAx x0.2.2.1.2 (max x0.2.2.2.1 1) x0.2.2.1.1 a65 q4.1 q4.2.1 _ hy68) E [0] E [0] E E fun _ _=>aB aA 1 [] [] [(12,.v (I y66))] _ E ⟨⟨E,V⟩,E⟩ (aD E (JS.seq (JS.region (aB aA 5 [] [] [(58,.v (.agg (aI x0 q4).toArray)),(59,.v (I y66)),(62,.v (I x0.2.2.1.2))] _ E ⟨(Es E),E⟩ ?_))))
   obtain ⟨⟨y69,y70⟩,hy71,h⟩:=aE h
   refine JO.call E E E E (vS x0 y66 x0.2.2.1.2 2 q4 _ hy71) E [0,1,2,3,4,5] E E fun q72 _=>aP aA 4 [] [] [(7,.v (I y70))] (.new 11 46 (aI y69 q72) .nil) E ⟨⟨E,V⟩,(Bs E E)⟩ (aD E ?_)
   cases h
   exact JS.ret aA q72 V E E [0,0,0,0,0,0] E
  refine aC aA 2 [(66,.v (.bool (decide (x2.1=2))))] ⟨⟨E,V⟩,E⟩ E E ?_
  refine aK E h (fun h=>?_) (fun h=>?_)
  ·
   refine JS.seq (JS.region (aB aA 4 [] [] [(68,.v (.agg (aI x0 q4).toArray)),(69,.v (.agg #[.int .i64 x1.1,.slice a28 x1.2.length c29])),(71,.v (I x2.2))] _ E ⟨(Es E),E⟩ ?_))
   obtain ⟨⟨y84,y85⟩,hy86,h⟩:=aE h
   refine JO.call E E E E (aE4 x0 x1 x2.2 q4 a28 c29 _ hy86) E [0,1,2,3,4,5,6] E E fun q87 _=>aP aA 4 [] [] [(7,.v (I y85))] (.new 11 46 (aI y84 q87) .nil) E ⟨⟨E,V⟩,(Bs E E)⟩ (aD E ?_)
   cases h
   exact JS.ret aA q87 V E E [0,0,0,0,0,0] E
  refine JS.skip (aZ (JS.seq (JS.region (aB aA 1 [] [] [(75,.v (.agg (aI x0 q4).toArray))] _ E ⟨⟨E,V⟩,E⟩ ?_))))
  obtain ⟨⟨y99,y100⟩,hy101,h⟩:=aE h
  refine JO.call E E E E (gB x0 q4 _ hy101) E [0,1,2,3,4,5] E E fun q102 _=>aP aA 4 [] [] [(7,.v (I y100))] (.new 11 46 (aI y99 q102) .nil) E ⟨⟨E,V⟩,(Bs E E)⟩ (aD E ?_)
  cases h
  exact JS.ret aA q102 V E E [0,0,0,0,0,0] E

def nF (x0:List Int) (x1:List Int) (j28:Unit→Option Bool) (k20:Int→Option Bool):Int→Option Bool:=fun x11=>
  (bif (decide (x11<(x0.length:Int))) then
  (aN (0≤x11∧x11<(x0.length:Int)) <|
  (aN (0≤x11∧x11<(x1.length:Int)) <|
  (bif (!(decide ((at' x0 x11)=(at' x1 x11)))) then
  some false
  else
  k20 (W (x11+1)))))
  else
  j28 ())

def oA (x0:List Int) (x1:List Int):Option Bool:=
  (bif (!(decide ((x0.length:Int)=(x1.length:Int)))) then
  some false
  else
  (aU (fun (_:Unit)=>
  some true) fun j28=>
  (bC (nF x0 x1 j28) bM 0)))

theorem yC (x0:List Int) (x1:List Int) (a3:Option Addr) (c4:Nat) (a7:Option Addr) (c8:Nat) (r:Bool) (h:oA x0 x1=some r):
  FC Tryz.prog 19 [.slice a3 x0.length c4,.slice a7 x1.length c8] [⟨(.int .i64),⟨a3,x0.length,c4⟩,x0⟩,⟨(.int .i64),⟨a7,x1.length,c8⟩,x1⟩] (fun _:Unit=>True) (fun _=>.bool r) (fun _=>[]):=
 by
  refine FC.of (T:=TTx) Tryz.call19 Tryz.func19 E E fun w0=>?_
  unfold oA at h
  refine aC aA 1 [] ⟨V,E⟩ E E (JS.seq (aC aA 5 [(10,.v (.bool (!(decide ((x0.length:Int)=(x1.length:Int))))))] ⟨⟨E,V⟩,E⟩ E E ?_))
  refine aK E h (fun h=>?_) (fun h=>?_)
  ·
   refine aC aA 1 [(4,.v (.bool false))] ⟨⟨E,V⟩,E⟩ E E ?_
   cases h
   exact JS.ret aA () V E E [] E
  refine JS.skip (JS.seq (aC aA 1 [(5,.v (I 0))] ⟨⟨E,V⟩,E⟩ E E ?_))
  obtain ⟨j28,hj43,h⟩:=aQ h
  refine bA (ι:=Unit) ⟨fun _=>j28 ()=some r,fun _=>[],fun _=>.nil,fun _=>[],fun _=>[],fun _=>0⟩ ?_ ?_
  ·
   refine JS.loop (ι:=Nat×Int) ⟨fun z=>bC (nF x0 x1 j28) z.1 z.2=some r,fun z=>[(0,.v (.slice a3 x0.length c4)),(1,.v (.slice a7 x1.length c8)),(5,.v (I z.2))],fun z=>.nil,fun z=>[⟨(.int .i64),⟨a3,x0.length,c4⟩,x0⟩,⟨(.int .i64),⟨a7,x1.length,c8⟩,x1⟩],fun z=>[],fun z=>z.1⟩ (bM,0) h (Es E) V [0,1] E [] E ?_
   rintro ⟨n21,x11⟩ h
   obtain ⟨n21,rfl,h⟩:=bH h
   rw [nF] at h
   refine JS.seq (aC aA 4 [(14,.v (.bool (decide (x11<(x0.length:Int)))))] ⟨⟨E,V⟩,E⟩ E E ?_)
   refine aK E h (fun h=>?_) (fun h=>?_)
   ·
    refine JS.skip (JS.seq (JS.block (JS.seq ?_)))
    obtain ⟨g13,h⟩:=aH h
    obtain ⟨g15,h⟩:=aH h
    refine cD 0 E fun hs39=>cD 1 E fun hs40=>hZ E (by kernel_rfl) (eT aA 3 [] [(19,.ep ⟨a3,x0.length,c4⟩ (Int.toNat x11*1))] E ⟨hs39.ix g13,⟨E,V⟩⟩ (JQ.load aA E E E E E E E 0 E E (Int.toNat x11) 0 (at' x0 x11) ⟨bD g13,E⟩ E E (eT aA 3 [] [(23,.ep ⟨a7,x1.length,c8⟩ (Int.toNat x11*1))] E ⟨hs40.ix g15,⟨E,V⟩⟩ (JQ.load aA E E E E E E E 1 E E (Int.toNat x11) 0 (at' x1 x11) ⟨bD g15,E⟩ E E (eT aA 1 [] [(25,.v (.bool (!(decide ((at' x0 x11)=(at' x1 x11))))))] E ⟨E,V⟩ (rB E ?_))))))
    refine aK E h (fun h=>?_) (fun h=>?_)
    ·
     refine aC aA 1 [(4,.v (.bool false))] ⟨⟨E,V⟩,E⟩ E E ?_
     cases h
     exact JS.ret aA () V E E [] E
    refine JS.skip (aZ (bZ aA 3 [(W (x11+1))] [] [(5,.v (I (W (x11+1))))] _ ⟨⟨V,E⟩,⟨E,V⟩,E⟩ E E (bQ (n21,(W (x11+1))) h (Nat.lt_succ_self _) (Es E) V [0,1] E [] E)))
   refine JS.exit E (aT () h V V [] E [] E)
  rintro _ h
  subst hj43
  refine aC aA 1 [(4,.v (.bool true))] ⟨⟨E,V⟩,E⟩ E E ?_
  cases h
  exact JS.ret aA () V E E [] E

def lK (x0:List Int×Int) (x1:List Int×Int):Option Bool:=
  (aG (oA x0.1 x1.1) fun (y11:Bool)=>
  (bif (!y11) then
  some false
  else
  (bif (!(decide (x0.2=x1.2))) then
  some false
  else
  some true)))

theorem uN (x0:List Int×Int) (x1:List Int×Int) (a3:Option Addr) (c4:Nat) (a7:Option Addr) (c8:Nat) (r:Bool) (h:lK x0 x1=some r):
  FC Tryz.prog 66 [.agg #[.slice a3 x0.1.length c4,.int .i64 x0.2],.agg #[.slice a7 x1.1.length c8,.int .i64 x1.2]] [⟨(.int .i64),⟨a3,x0.1.length,c4⟩,x0.1⟩,⟨(.int .i64),⟨a7,x1.1.length,c8⟩,x1.1⟩] (fun _:Unit=>True) (fun _=>.bool r) (fun _=>[]):=
 by
  refine FC.of (T:=TTx) Tryz.call66 Tryz.func66 E E fun w0=>?_
  unfold lK at h
  refine aL aA 3 [] [3,4] [(2,.bp 3 0),(3,.bp 4 0)] (.new 3 38 [.slice a3 x0.1.length c4,.int .i64 x0.2] (.new 4 38 [.slice a7 x1.1.length c8,.int .i64 x1.2] .nil)) ⟨(Es E),(Bs E E)⟩ E E (JS.seq (JS.seq (JS.region (aB aA 4 [] [] [(6,.v (.slice a3 x0.1.length c4)),(8,.v (.slice a7 x1.1.length c8))] _ E ⟨(Es E),E⟩ ?_))))
  refine bnw h fun y11 hy12 h=>JO.call E E E E (yC x0.1 x1.1 a3 c4 a7 c8 _ hy12) E [0,1] E E fun _ _=>aB aA 1 [] [] [(10,.v (.bool (!y11)))] _ E ⟨⟨E,V⟩,E⟩ (aD E ?_)
  refine aK E h (fun h=>?_) (fun h=>?_)
  ·
   refine aC aA 1 [(4,.v (.bool false))] ⟨⟨E,V⟩,E⟩ E E ?_
   cases h
   exact JS.ret aA () V E E [] E
  refine JS.skip (JS.seq (aC aA 5 [(15,.v (.bool (!(decide (x0.2=x1.2)))))] ⟨⟨E,V⟩,E⟩ E E ?_))
  refine aK E h (fun h=>?_) (fun h=>?_)
  ·
   refine aC aA 1 [(4,.v (.bool false))] ⟨⟨E,V⟩,E⟩ E E ?_
   cases h
   exact JS.ret aA () V E E [] E
  refine JS.skip (aC aA 1 [(4,.v (.bool true))] ⟨⟨E,V⟩,E⟩ E E ?_)
  cases h
  exact JS.ret aA () V E E [] E

def rU (x0:List Int) (x1:List Int):Option Bool:=
  (aG (oA x0 x1) fun (y11:Bool)=>
  (bif (!y11) then
  some false
  else
  some true))

theorem aIs (x0:List Int) (x1:List Int) (a3:Option Addr) (c4:Nat) (a7:Option Addr) (c8:Nat) (r:Bool) (h:rU x0 x1=some r):
  FC Tryz.prog 237 [.agg #[.slice a3 x0.length c4],.agg #[.slice a7 x1.length c8]] [⟨(.int .i64),⟨a3,x0.length,c4⟩,x0⟩,⟨(.int .i64),⟨a7,x1.length,c8⟩,x1⟩] (fun _:Unit=>True) (fun _=>.bool r) (fun _=>[]):=
 by
  refine FC.of (T:=TTx) Tryz.call237 Tryz.func237 E E fun w0=>?_
  unfold rU at h
  refine aL aA 3 [] [3,4] [(2,.bp 3 0),(3,.bp 4 0)] (.new 3 174 [.slice a3 x0.length c4] (.new 4 174 [.slice a7 x1.length c8] .nil)) ⟨(Es E),(Bs E E)⟩ E E (JS.seq (JS.seq (JS.region (aB aA 4 [] [] [(6,.v (.slice a3 x0.length c4)),(8,.v (.slice a7 x1.length c8))] _ E ⟨(Es E),E⟩ ?_))))
  refine bnw h fun y11 hy12 h=>JO.call E E E E (yC x0 x1 a3 c4 a7 c8 _ hy12) E [0,1] E E fun _ _=>aB aA 1 [] [] [(10,.v (.bool (!y11)))] _ E ⟨⟨E,V⟩,E⟩ (aD E ?_)
  refine aK E h (fun h=>?_) (fun h=>?_)
  ·
   refine aC aA 1 [(4,.v (.bool false))] ⟨⟨E,V⟩,E⟩ E E ?_
   cases h
   exact JS.ret aA () V E E [] E
  refine JS.skip (aC aA 1 [(4,.v (.bool true))] ⟨⟨E,V⟩,E⟩ E E ?_)
  cases h
  exact JS.ret aA () V E E [] E

def jU (x0:List (List Int)) (x1:List (List Int)) (j44:Unit→Option Bool) (k34:Int→Option Bool):Int→Option Bool:=fun x11=>
  (bif (decide (x11<(x0.length:Int))) then
  (aN (0≤x11∧x11<(x0.length:Int)) <|
  (aN (0≤x11∧x11<(x1.length:Int)) <|
  (aG (rU (at' x0 x11) (at' x1 x11)) fun (y26:Bool)=>
  (bif (!y26) then
  some false
  else
  k34 (W (x11+1))))))
  else
  j44 ())

def sP (x0:List (List Int)) (x1:List (List Int)):Option Bool:=
  (bif (!(decide ((x0.length:Int)=(x1.length:Int)))) then
  some false
  else
  (aU (fun (_:Unit)=>
  some true) fun j44=>
  (bC (jU x0 x1 j44) bM 0)))

theorem aGt (x0:List (List Int)) (x1:List (List Int)) (a3:Option Addr) (c4:Nat) (a7:Option Addr) (c8:Nat) (r:Bool) (h:sP x0 x1=some r):
  FC Tryz.prog 147 [.slice a3 x0.length c4,.slice a7 x1.length c8] [⟨(.sl (.int .i64)),⟨a3,x0.length,c4⟩,x0⟩,⟨(.sl (.int .i64)),⟨a7,x1.length,c8⟩,x1⟩] (fun _:Unit=>True) (fun _=>.bool r) (fun _=>[]):=
 by
  refine FC.of (T:=TTx) Tryz.call147 Tryz.func147 E E fun w0=>?_
  unfold sP at h
  refine aC aA 1 [] ⟨V,E⟩ E E (JS.seq (aC aA 5 [(10,.v (.bool (!(decide ((x0.length:Int)=(x1.length:Int))))))] ⟨⟨E,V⟩,E⟩ E E ?_))
  refine aK E h (fun h=>?_) (fun h=>?_)
  ·
   refine aC aA 1 [(4,.v (.bool false))] ⟨⟨E,V⟩,E⟩ E E ?_
   cases h
   exact JS.ret aA () V E E [] E
  refine JS.skip (JS.seq (aC aA 1 [(5,.v (I 0))] ⟨⟨E,V⟩,E⟩ E E ?_))
  obtain ⟨j44,hj63,h⟩:=aQ h
  refine bA (ι:=Unit) ⟨fun _=>j44 ()=some r,fun _=>[],fun _=>.nil,fun _=>[],fun _=>[],fun _=>0⟩ ?_ ?_
  ·
   refine JS.loop (ι:=Nat×Int) ⟨fun z=>bC (jU x0 x1 j44) z.1 z.2=some r,fun z=>[(0,.v (.slice a3 x0.length c4)),(1,.v (.slice a7 x1.length c8)),(5,.v (I z.2))],fun z=>.nil,fun z=>[⟨(.sl (.int .i64)),⟨a3,x0.length,c4⟩,x0⟩,⟨(.sl (.int .i64)),⟨a7,x1.length,c8⟩,x1⟩],fun z=>[],fun z=>z.1⟩ (bM,0) h (Es E) V [0,1] E [] E ?_
   rintro ⟨n35,x11⟩ h
   obtain ⟨n35,rfl,h⟩:=bH h
   rw [jU] at h
   refine JS.seq (aC aA 4 [(14,.v (.bool (decide (x11<(x0.length:Int)))))] ⟨⟨E,V⟩,E⟩ E E ?_)
   refine aK E h (fun h=>?_) (fun h=>?_)
   ·
    refine JS.skip (JS.seq (JS.block (JS.seq ?_)))
    obtain ⟨g13,h⟩:=aH h
    obtain ⟨g20,h⟩:=aH h
    refine bnw h fun y26 hy27 h=>zC 0 E (Int.toNat x11) (at' x0 x11) E fun a14 c15 ys16 hl17 hy18=>zC 3 E (Int.toNat x11) (at' x1 x11) E fun a21 c22 ys23 hl24 hy25=>cD 4 E fun hs59=>cD 5 E fun hs60=>hZ E (by kernel_rfl) (eT aA 3 [] [(19,.ep ⟨a3,x0.length,c4⟩ (Int.toNat x11*1))] E ⟨hs59.ix g13,⟨E,V⟩⟩ (wI aA E E E E E E 2 E E (Int.toNat x11) 0 (Sl.v ⟨a14,(at' x0 x11).length,c15⟩) ⟨hy18 (kG g13),E⟩ E E E (eT aA 3 [] [(23,.ep ⟨a7,x1.length,c8⟩ (Int.toNat x11*1))] E ⟨hs60.ix g20,⟨E,V⟩⟩ (wI aA E E E E E E 0 E E (Int.toNat x11) 0 (Sl.v ⟨a21,(at' x1 x11).length,c22⟩) ⟨hy25 (kG g20),E⟩ E E E (JQ.call E E E E (aIs (at' x0 x11) (at' x1 x11) a14 c15 a21 c22 _ hy27) E [3,1] E E (eT aA 1 [] [(26,.v (.bool (!y26)))] E ⟨E,V⟩ (rB E ?_)))))))
    refine aK E h (fun h=>?_) (fun h=>?_)
    ·
     refine aC aA 1 [(4,.v (.bool false))] ⟨⟨E,V⟩,E⟩ E E ?_
     cases h
     exact JS.ret aA () V E E [] E
    refine JS.skip (aZ (bZ aA 3 [(W (x11+1))] [] [(5,.v (I (W (x11+1))))] _ ⟨⟨V,E⟩,⟨E,V⟩,E⟩ E E (bQ (n35,(W (x11+1))) h (Nat.lt_succ_self _) (Es E) V [4,5] E [] E)))
   refine JS.exit E (aT () h V V [] E [] E)
  rintro _ h
  subst hj63
  refine aC aA 1 [(4,.v (.bool true))] ⟨⟨E,V⟩,E⟩ E E ?_
  cases h
  exact JS.ret aA () V E E [] E

def tY (x0:List (List Int)) (x1:List (List Int)):Option Bool:=
  (aG (sP x0 x1) fun (y11:Bool)=>
  (bif (!y11) then
  some false
  else
  some true))

theorem aKp (x0:List (List Int)) (x1:List (List Int)) (a3:Option Addr) (c4:Nat) (a7:Option Addr) (c8:Nat) (r:Bool) (h:tY x0 x1=some r):
  FC Tryz.prog 67 [.agg #[.slice a3 x0.length c4],.agg #[.slice a7 x1.length c8]] [⟨(.sl (.int .i64)),⟨a3,x0.length,c4⟩,x0⟩,⟨(.sl (.int .i64)),⟨a7,x1.length,c8⟩,x1⟩] (fun _:Unit=>True) (fun _=>.bool r) (fun _=>[]):=
 by
  refine FC.of (T:=TTx) Tryz.call67 Tryz.func67 E E fun w0=>?_
  unfold tY at h
  refine aL aA 3 [] [3,4] [(2,.bp 3 0),(3,.bp 4 0)] (.new 3 41 [.slice a3 x0.length c4] (.new 4 41 [.slice a7 x1.length c8] .nil)) ⟨(Es E),(Bs E E)⟩ E E (JS.seq (JS.seq (JS.region (aB aA 4 [] [] [(6,.v (.slice a3 x0.length c4)),(8,.v (.slice a7 x1.length c8))] _ E ⟨(Es E),E⟩ ?_))))
  refine bnw h fun y11 hy12 h=>JO.call E E E E (aGt x0 x1 a3 c4 a7 c8 _ hy12) E [0,1] E E fun _ _=>aB aA 1 [] [] [(10,.v (.bool (!y11)))] _ E ⟨⟨E,V⟩,E⟩ (aD E ?_)
  refine aK E h (fun h=>?_) (fun h=>?_)
  ·
   refine aC aA 1 [(4,.v (.bool false))] ⟨⟨E,V⟩,E⟩ E E ?_
   cases h
   exact JS.ret aA () V E E [] E
  refine JS.skip (aC aA 1 [(4,.v (.bool true))] ⟨⟨E,V⟩,E⟩ E E ?_)
  cases h
  exact JS.ret aA () V E E [] E

def lJ (x0:List (List Int×Int)) (x1:List (List Int×Int)) (j44:Unit→Option Bool) (k34:Int→Option Bool):Int→Option Bool:=fun x11=>
  (bif (decide (x11<(x0.length:Int))) then
  (aN (0≤x11∧x11<(x0.length:Int)) <|
  (aN (0≤x11∧x11<(x1.length:Int)) <|
  (aG (lK ((at' x0 x11).1,(at' x0 x11).2) ((at' x1 x11).1,(at' x1 x11).2)) fun (y26:Bool)=>
  (bif (!y26) then
  some false
  else
  k34 (W (x11+1))))))
  else
  j44 ())

def uV (x0:List (List Int×Int)) (x1:List (List Int×Int)):Option Bool:=
  (bif (!(decide ((x0.length:Int)=(x1.length:Int)))) then
  some false
  else
  (aU (fun (_:Unit)=>
  some true) fun j44=>
  (bC (lJ x0 x1 j44) bM 0)))

theorem aIt (x0:List (List Int×Int)) (x1:List (List Int×Int)) (a3:Option Addr) (c4:Nat) (a7:Option Addr) (c8:Nat) (r:Bool) (h:uV x0 x1=some r):
  FC Tryz.prog 148 [.slice a3 x0.length c4,.slice a7 x1.length c8] [⟨(.pair (.sl (.int .i64)) (.int .i64)),⟨a3,x0.length,c4⟩,x0⟩,⟨(.pair (.sl (.int .i64)) (.int .i64)),⟨a7,x1.length,c8⟩,x1⟩] (fun _:Unit=>True) (fun _=>.bool r) (fun _=>[]):=
 by
  refine FC.of (T:=TTx) Tryz.call148 Tryz.func148 E E fun w0=>?_
  unfold uV at h
  refine aC aA 1 [] ⟨V,E⟩ E E (JS.seq (aC aA 5 [(10,.v (.bool (!(decide ((x0.length:Int)=(x1.length:Int))))))] ⟨⟨E,V⟩,E⟩ E E ?_))
  refine aK E h (fun h=>?_) (fun h=>?_)
  ·
   refine aC aA 1 [(4,.v (.bool false))] ⟨⟨E,V⟩,E⟩ E E ?_
   cases h
   exact JS.ret aA () V E E [] E
  refine JS.skip (JS.seq (aC aA 1 [(5,.v (I 0))] ⟨⟨E,V⟩,E⟩ E E ?_))
  obtain ⟨j44,hj63,h⟩:=aQ h
  refine bA (ι:=Unit) ⟨fun _=>j44 ()=some r,fun _=>[],fun _=>.nil,fun _=>[],fun _=>[],fun _=>0⟩ ?_ ?_
  ·
   refine JS.loop (ι:=Nat×Int) ⟨fun z=>bC (lJ x0 x1 j44) z.1 z.2=some r,fun z=>[(0,.v (.slice a3 x0.length c4)),(1,.v (.slice a7 x1.length c8)),(5,.v (I z.2))],fun z=>.nil,fun z=>[⟨(.pair (.sl (.int .i64)) (.int .i64)),⟨a3,x0.length,c4⟩,x0⟩,⟨(.pair (.sl (.int .i64)) (.int .i64)),⟨a7,x1.length,c8⟩,x1⟩],fun z=>[],fun z=>z.1⟩ (bM,0) h (Es E) V [0,1] E [] E ?_
   rintro ⟨n35,x11⟩ h
   obtain ⟨n35,rfl,h⟩:=bH h
   rw [lJ] at h
   refine JS.seq (aC aA 4 [(14,.v (.bool (decide (x11<(x0.length:Int)))))] ⟨⟨E,V⟩,E⟩ E E ?_)
   refine aK E h (fun h=>?_) (fun h=>?_)
   ·
    refine JS.skip (JS.seq (JS.block (JS.seq ?_)))
    obtain ⟨g13,h⟩:=aH h
    obtain ⟨g20,h⟩:=aH h
    refine bnw h fun y26 hy27 h=>zC 0 E (Int.toNat x11) (at' x0 x11) E fun a14 c15 ys16 hl17 hy18=>zC 3 E (Int.toNat x11) (at' x1 x11) E fun a21 c22 ys23 hl24 hy25=>cD 4 E fun hs59=>cD 5 E fun hs60=>hZ E (by kernel_rfl) (eT aA 3 [] [(19,.ep ⟨a3,x0.length,c4⟩ (Int.toNat x11*2))] E ⟨hs59.ix g13,⟨E,V⟩⟩ (wI aA E E E E E E 2 E E (Int.toNat x11) 0 ((Sl.v ⟨a14,((at' x0 x11).1).length,c15⟩),(at' x0 x11).2) ⟨hy18 (kG g13),E⟩ E E E (eT aA 3 [] [(23,.ep ⟨a7,x1.length,c8⟩ (Int.toNat x11*2))] E ⟨hs60.ix g20,⟨E,V⟩⟩ (wI aA E E E E E E 0 E E (Int.toNat x11) 0 ((Sl.v ⟨a21,((at' x1 x11).1).length,c22⟩),(at' x1 x11).2) ⟨hy25 (kG g20),E⟩ E E E (JQ.call E E E E (uN ((at' x0 x11).1,(at' x0 x11).2) ((at' x1 x11).1,(at' x1 x11).2) a14 c15 a21 c22 _ hy27) E [3,1] E E (eT aA 1 [] [(26,.v (.bool (!y26)))] E ⟨E,V⟩ (rB E ?_)))))))
    refine aK E h (fun h=>?_) (fun h=>?_)
    ·
     refine aC aA 1 [(4,.v (.bool false))] ⟨⟨E,V⟩,E⟩ E E ?_
     cases h
     exact JS.ret aA () V E E [] E
    refine JS.skip (aZ (bZ aA 3 [(W (x11+1))] [] [(5,.v (I (W (x11+1))))] _ ⟨⟨V,E⟩,⟨E,V⟩,E⟩ E E (bQ (n35,(W (x11+1))) h (Nat.lt_succ_self _) (Es E) V [4,5] E [] E)))
   refine JS.exit E (aT () h V V [] E [] E)
  rintro _ h
  subst hj63
  refine aC aA 1 [(4,.v (.bool true))] ⟨⟨E,V⟩,E⟩ E E ?_
  cases h
  exact JS.ret aA () V E E [] E

def tX (x0:List (List Int×Int)) (x1:List (List Int×Int)):Option Bool:=
  (aG (uV x0 x1) fun (y11:Bool)=>
  (bif (!y11) then
  some false
  else
  some true))

theorem aKo (x0:List (List Int×Int)) (x1:List (List Int×Int)) (a3:Option Addr) (c4:Nat) (a7:Option Addr) (c8:Nat) (r:Bool) (h:tX x0 x1=some r):
  FC Tryz.prog 68 [.agg #[.slice a3 x0.length c4],.agg #[.slice a7 x1.length c8]] [⟨(.pair (.sl (.int .i64)) (.int .i64)),⟨a3,x0.length,c4⟩,x0⟩,⟨(.pair (.sl (.int .i64)) (.int .i64)),⟨a7,x1.length,c8⟩,x1⟩] (fun _:Unit=>True) (fun _=>.bool r) (fun _=>[]):=
 by
  refine FC.of (T:=TTx) Tryz.call68 Tryz.func68 E E fun w0=>?_
  unfold tX at h
  refine aL aA 3 [] [3,4] [(2,.bp 3 0),(3,.bp 4 0)] (.new 3 44 [.slice a3 x0.length c4] (.new 4 44 [.slice a7 x1.length c8] .nil)) ⟨(Es E),(Bs E E)⟩ E E (JS.seq (JS.seq (JS.region (aB aA 4 [] [] [(6,.v (.slice a3 x0.length c4)),(8,.v (.slice a7 x1.length c8))] _ E ⟨(Es E),E⟩ ?_))))
  refine bnw h fun y11 hy12 h=>JO.call E E E E (aIt x0 x1 a3 c4 a7 c8 _ hy12) E [0,1] E E fun _ _=>aB aA 1 [] [] [(10,.v (.bool (!y11)))] _ E ⟨⟨E,V⟩,E⟩ (aD E ?_)
  refine aK E h (fun h=>?_) (fun h=>?_)
  ·
   refine aC aA 1 [(4,.v (.bool false))] ⟨⟨E,V⟩,E⟩ E E ?_
   cases h
   exact JS.ret aA () V E E [] E
  refine JS.skip (aC aA 1 [(4,.v (.bool true))] ⟨⟨E,V⟩,E⟩ E E ?_)
  cases h
  exact JS.ret aA () V E E [] E

def nG (x0:EdQ) (x1:EdQ):Option Bool:=
  (bif (!(x0.1 == x1.1)) then
  some false
  else
  (bif (!(decide (x0.2.1=x1.2.1))) then
  some false
  else
  (aG (lK x0.2.2.1 x1.2.2.1) fun (y51:Bool)=>
  (bif (!y51) then
  some false
  else
  (bif (!(decide (x0.2.2.2.1=x1.2.2.2.1))) then
  some false
  else
  (bif (!(decide (x0.2.2.2.2.1=x1.2.2.2.2.1))) then
  some false
  else
  (bif (!(decide (x0.2.2.2.2.2.1=x1.2.2.2.2.2.1))) then
  some false
  else
  (bif (!(decide (x0.2.2.2.2.2.2.1=x1.2.2.2.2.2.2.1))) then
  some false
  else
  (bif (!(decide (x0.2.2.2.2.2.2.2.1=x1.2.2.2.2.2.2.2.1))) then
  some false
  else
  (bif (!(decide (x0.2.2.2.2.2.2.2.2.1=x1.2.2.2.2.2.2.2.2.1))) then
  some false
  else
  (bif (!(decide (x0.2.2.2.2.2.2.2.2.2.1=x1.2.2.2.2.2.2.2.2.2.1))) then
  some false
  else
  (aG (tY x0.2.2.2.2.2.2.2.2.2.2.1 x1.2.2.2.2.2.2.2.2.2.2.1) fun (y53:Bool)=>
  (bif (!y53) then
  some false
  else
  (aG (tX x0.2.2.2.2.2.2.2.2.2.2.2.1 x1.2.2.2.2.2.2.2.2.2.2.2.1) fun (y55:Bool)=>
  (bif (!y55) then
  some false
  else
  (bif (!(decide (x0.2.2.2.2.2.2.2.2.2.2.2.2.1=x1.2.2.2.2.2.2.2.2.2.2.2.2.1))) then
  some false
  else
  (aG (lK x0.2.2.2.2.2.2.2.2.2.2.2.2.2.1 x1.2.2.2.2.2.2.2.2.2.2.2.2.2.1) fun (y57:Bool)=>
  (bif (!y57) then
  some false
  else
  (aG (oA x0.2.2.2.2.2.2.2.2.2.2.2.2.2.2.1 x1.2.2.2.2.2.2.2.2.2.2.2.2.2.2.1) fun (y59:Bool)=>
  (bif (!y59) then
  some false
  else
  (bif (!(decide (x0.2.2.2.2.2.2.2.2.2.2.2.2.2.2.2.1=x1.2.2.2.2.2.2.2.2.2.2.2.2.2.2.2.1))) then
  some false
  else
  (aG (lK x0.2.2.2.2.2.2.2.2.2.2.2.2.2.2.2.2 x1.2.2.2.2.2.2.2.2.2.2.2.2.2.2.2.2) fun (y61:Bool)=>
  (bif (!y61) then
  some false
  else
  some true)))))))))))))))))))))))

theorem zQ (x0:EdQ) (x1:EdQ) (q3:P6) (q27:P6) (r:Bool) (h:nG x0 x1=some r):
  FC Tryz.prog 17 [.agg (cC x0 q3).toArray,.agg (cC x1 q27).toArray] (bW x0 q3 (bW x1 q27 [])) (fun _:Unit=>True) (fun _=>.bool r) (fun _=>[]):=
 by
  refine FC.of (T:=TTx) Tryz.call17 Tryz.func17 E E fun w0=>?_
  unfold nG at h
  refine aL aA 3 [] [13,14] [(2,.bp 13 0),(3,.bp 14 0)] (.new 13 46 (aI x0 q3) (.new 14 46 (aI x1 q27) .nil)) ⟨(Es E),(Bs E E)⟩ E E (JS.seq (aC aA 5 [(9,.v (.bool (!(x0.1 == x1.1))))] ⟨⟨E,V⟩,E⟩ E E ?_))
  refine aK E h (fun h=>?_) (fun h=>?_)
  ·
   refine aC aA 1 [(4,.v (.bool false))] ⟨⟨E,V⟩,E⟩ E E ?_
   cases h
   exact JS.ret aA () V E E [] E
  refine JS.skip (JS.seq (aC aA 5 [(14,.v (.bool (!(decide (x0.2.1=x1.2.1)))))] ⟨⟨E,V⟩,E⟩ E E ?_))
  refine aK E h (fun h=>?_) (fun h=>?_)
  ·
   refine aC aA 1 [(4,.v (.bool false))] ⟨⟨E,V⟩,E⟩ E E ?_
   cases h
   exact JS.ret aA () V E E [] E
  refine JS.skip (JS.seq (JS.seq (JS.region (aB aA 4 [] [] [(16,.v (.agg #[.slice q3.1 x0.2.2.1.1.length q3.2.1,.int .i64 x0.2.2.1.2])),(18,.v (.agg #[.slice q27.1 x1.2.2.1.1.length q27.2.1,.int .i64 x1.2.2.1.2]))] _ E ⟨(Es E),E⟩ ?_))))
  refine bnw h fun y51 hy52 h=>JO.call E E E E (uN x0.2.2.1 x1.2.2.1 q3.1 q3.2.1 q27.1 q27.2.1 _ hy52) E [0,6] E E fun _ _=>aB aA 1 [] [] [(20,.v (.bool (!y51)))] _ E ⟨⟨E,V⟩,E⟩ (aD E ?_)
  refine aK E h (fun h=>?_) (fun h=>?_)
  ·
   refine aC aA 1 [(4,.v (.bool false))] ⟨⟨E,V⟩,E⟩ E E ?_
   cases h
   exact JS.ret aA () V E E [] E
  refine JS.skip (JS.seq (aC aA 5 [(25,.v (.bool (!(decide (x0.2.2.2.1=x1.2.2.2.1)))))] ⟨⟨E,V⟩,E⟩ E E ?_))
  refine aK E h (fun h=>?_) (fun h=>?_)
  ·
   refine aC aA 1 [(4,.v (.bool false))] ⟨⟨E,V⟩,E⟩ E E ?_
   cases h
   exact JS.ret aA () V E E [] E
  refine JS.skip (JS.seq (aC aA 5 [(30,.v (.bool (!(decide ((Q4 x0).1=(Q4 x1).1)))))] ⟨⟨E,V⟩,E⟩ E E ?_))
  refine aK E h (fun h=>?_) (fun h=>?_)
  ·
   refine aC aA 1 [(4,.v (.bool false))] ⟨⟨E,V⟩,E⟩ E E ?_
   cases h
   exact JS.ret aA () V E E [] E
  refine JS.skip (JS.seq (aC aA 5 [(35,.v (.bool (!(decide ((Q4 x0).2.1=(Q4 x1).2.1)))))] ⟨⟨E,V⟩,E⟩ E E ?_))
  refine aK E h (fun h=>?_) (fun h=>?_)
  ·
   refine aC aA 1 [(4,.v (.bool false))] ⟨⟨E,V⟩,E⟩ E E ?_
   cases h
   exact JS.ret aA () V E E [] E
  refine JS.skip (JS.seq (aC aA 5 [(40,.v (.bool (!(decide ((Q4 x0).2.2.1=(Q4 x1).2.2.1)))))] ⟨⟨E,V⟩,E⟩ E E ?_))
  refine aK E h (fun h=>?_) (fun h=>?_)
  ·
   refine aC aA 1 [(4,.v (.bool false))] ⟨⟨E,V⟩,E⟩ E E ?_
   cases h
   exact JS.ret aA () V E E [] E
  refine JS.skip (JS.seq (aC aA 5 [(45,.v (.bool (!(decide ((Q4 x0).2.2.2.1=(Q4 x1).2.2.2.1)))))] ⟨⟨E,V⟩,E⟩ E E ?_))
  refine aK E h (fun h=>?_) (fun h=>?_)
  ·
   refine aC aA 1 [(4,.v (.bool false))] ⟨⟨E,V⟩,E⟩ E E ?_
   cases h
   exact JS.ret aA () V E E [] E
  refine JS.skip (JS.seq (aC aA 5 [(50,.v (.bool (!(decide ((Q8 x0).1=(Q8 x1).1)))))] ⟨⟨E,V⟩,E⟩ E E ?_))
  refine aK E h (fun h=>?_) (fun h=>?_)
  ·
   refine aC aA 1 [(4,.v (.bool false))] ⟨⟨E,V⟩,E⟩ E E ?_
   cases h
   exact JS.ret aA () V E E [] E
  refine JS.skip (JS.seq (aC aA 5 [(55,.v (.bool (!(decide ((Q8 x0).2.1=(Q8 x1).2.1)))))] ⟨⟨E,V⟩,E⟩ E E ?_))
  refine aK E h (fun h=>?_) (fun h=>?_)
  ·
   refine aC aA 1 [(4,.v (.bool false))] ⟨⟨E,V⟩,E⟩ E E ?_
   cases h
   exact JS.ret aA () V E E [] E
  refine JS.skip (JS.seq (JS.seq (JS.region (aB aA 4 [] [] [(57,.v (.agg #[.slice q3.2.2.1 (Q8 x0).2.2.1.length q3.2.2.2.1])),(59,.v (.agg #[.slice q27.2.2.1 (Q8 x1).2.2.1.length q27.2.2.2.1]))] _ E ⟨(Es E),E⟩ ?_))))
  refine bnw h fun y53 hy54 h=>JO.call E E E E (aKp (Q8 x0).2.2.1 (Q8 x1).2.2.1 q3.2.2.1 q3.2.2.2.1 q27.2.2.1 q27.2.2.2.1 _ hy54) E [1,7] E E fun _ _=>aB aA 1 [] [] [(61,.v (.bool (!y53)))] _ E ⟨⟨E,V⟩,E⟩ (aD E ?_)
  refine aK E h (fun h=>?_) (fun h=>?_)
  ·
   refine aC aA 1 [(4,.v (.bool false))] ⟨⟨E,V⟩,E⟩ E E ?_
   cases h
   exact JS.ret aA () V E E [] E
  refine JS.skip (JS.seq (JS.seq (JS.region (aB aA 4 [] [] [(63,.v (.agg #[.slice (Q4 q3).1 (Q8 x0).2.2.2.1.length (Q4 q3).2.1])),(65,.v (.agg #[.slice (Q4 q27).1 (Q8 x1).2.2.2.1.length (Q4 q27).2.1]))] _ E ⟨(Es E),E⟩ ?_))))
  refine bnw h fun y55 hy56 h=>JO.call E E E E (aKo (Q8 x0).2.2.2.1 (Q8 x1).2.2.2.1 (Q4 q3).1 (Q4 q3).2.1 (Q4 q27).1 (Q4 q27).2.1 _ hy56) E [2,8] E E fun _ _=>aB aA 1 [] [] [(67,.v (.bool (!y55)))] _ E ⟨⟨E,V⟩,E⟩ (aD E ?_)
  refine aK E h (fun h=>?_) (fun h=>?_)
  ·
   refine aC aA 1 [(4,.v (.bool false))] ⟨⟨E,V⟩,E⟩ E E ?_
   cases h
   exact JS.ret aA () V E E [] E
  refine JS.skip (JS.seq (aC aA 5 [(72,.v (.bool (!(decide ((Q12 x0).1=(Q12 x1).1)))))] ⟨⟨E,V⟩,E⟩ E E ?_))
  refine aK E h (fun h=>?_) (fun h=>?_)
  ·
   refine aC aA 1 [(4,.v (.bool false))] ⟨⟨E,V⟩,E⟩ E E ?_
   cases h
   exact JS.ret aA () V E E [] E
  refine JS.skip (JS.seq (JS.seq (JS.region (aB aA 4 [] [] [(74,.v (.agg #[.slice (Q4 q3).2.2.1 (Q12 x0).2.1.1.length (Q4 q3).2.2.2.1,.int .i64 (Q12 x0).2.1.2])),(76,.v (.agg #[.slice (Q4 q27).2.2.1 (Q12 x1).2.1.1.length (Q4 q27).2.2.2.1,.int .i64 (Q12 x1).2.1.2]))] _ E ⟨(Es E),E⟩ ?_))))
  refine bnw h fun y57 hy58 h=>JO.call E E E E (uN (Q12 x0).2.1 (Q12 x1).2.1 (Q4 q3).2.2.1 (Q4 q3).2.2.2.1 (Q4 q27).2.2.1 (Q4 q27).2.2.2.1 _ hy58) E [3,9] E E fun _ _=>aB aA 1 [] [] [(78,.v (.bool (!y57)))] _ E ⟨⟨E,V⟩,E⟩ (aD E ?_)
  refine aK E h (fun h=>?_) (fun h=>?_)
  ·
   refine aC aA 1 [(4,.v (.bool false))] ⟨⟨E,V⟩,E⟩ E E ?_
   cases h
   exact JS.ret aA () V E E [] E
  refine JS.skip (JS.seq (JS.seq (JS.region (aB aA 4 [] [] [(80,.v (.slice (Q8 q3).1 (Q12 x0).2.2.1.length (Q8 q3).2.1)),(82,.v (.slice (Q8 q27).1 (Q12 x1).2.2.1.length (Q8 q27).2.1))] _ E ⟨(Es E),E⟩ ?_))))
  refine bnw h fun y59 hy60 h=>JO.call E E E E (yC (Q12 x0).2.2.1 (Q12 x1).2.2.1 (Q8 q3).1 (Q8 q3).2.1 (Q8 q27).1 (Q8 q27).2.1 _ hy60) E [4,10] E E fun _ _=>aB aA 1 [] [] [(84,.v (.bool (!y59)))] _ E ⟨⟨E,V⟩,E⟩ (aD E ?_)
  refine aK E h (fun h=>?_) (fun h=>?_)
  ·
   refine aC aA 1 [(4,.v (.bool false))] ⟨⟨E,V⟩,E⟩ E E ?_
   cases h
   exact JS.ret aA () V E E [] E
  refine JS.skip (JS.seq (aC aA 5 [(89,.v (.bool (!(decide ((Q12 x0).2.2.2.1=(Q12 x1).2.2.2.1)))))] ⟨⟨E,V⟩,E⟩ E E ?_))
  refine aK E h (fun h=>?_) (fun h=>?_)
  ·
   refine aC aA 1 [(4,.v (.bool false))] ⟨⟨E,V⟩,E⟩ E E ?_
   cases h
   exact JS.ret aA () V E E [] E
  refine JS.skip (JS.seq (JS.seq (JS.region (aB aA 4 [] [] [(91,.v (.agg #[.slice (Q8 q3).2.2.1 (Q16 x0).1.length (Q8 q3).2.2.2,.int .i64 (Q16 x0).2])),(93,.v (.agg #[.slice (Q8 q27).2.2.1 (Q16 x1).1.length (Q8 q27).2.2.2,.int .i64 (Q16 x1).2]))] _ E ⟨(Es E),E⟩ ?_))))
  refine bnw h fun y61 hy62 h=>JO.call E E E E (uN (Q16 x0) (Q16 x1) (Q8 q3).2.2.1 (Q8 q3).2.2.2 (Q8 q27).2.2.1 (Q8 q27).2.2.2 _ hy62) E [5,11] E E fun _ _=>aB aA 1 [] [] [(95,.v (.bool (!y61)))] _ E ⟨⟨E,V⟩,E⟩ (aD E ?_)
  refine aK E h (fun h=>?_) (fun h=>?_)
  ·
   refine aC aA 1 [(4,.v (.bool false))] ⟨⟨E,V⟩,E⟩ E E ?_
   cases h
   exact JS.ret aA () V E E [] E
  refine JS.skip (aC aA 1 [(4,.v (.bool true))] ⟨⟨E,V⟩,E⟩ E E ?_)
  cases h
  exact JS.ret aA () V E E [] E

def iO (x0:List (List UInt8)) (x1:List (List UInt8)) (j28:Unit→Option Bool) (k20:Int→Option Bool):Int→Option Bool:=fun x11=>
  (bif (decide (x11<(x0.length:Int))) then
  (aN (0≤x11∧x11<(x0.length:Int)) <|
  (aN (0≤x11∧x11<(x1.length:Int)) <|
  (bif (!(decide ((at' x0 x11)=(at' x1 x11)))) then
  some false
  else
  k20 (W (x11+1)))))
  else
  j28 ())

def nE (x0:List (List UInt8)) (x1:List (List UInt8)):Option Bool:=
  (bif (!(decide ((x0.length:Int)=(x1.length:Int)))) then
  some false
  else
  (aU (fun (_:Unit)=>
  some true) fun j28=>
  (bC (iO x0 x1 j28) bM 0)))

theorem aEz (x0:List (List UInt8)) (x1:List (List UInt8)) (a3:Option Addr) (c4:Nat) (a7:Option Addr) (c8:Nat) (r:Bool) (h:nE x0 x1=some r):
  FC Tryz.prog 69 [.slice a3 x0.length c4,.slice a7 x1.length c8] [⟨.str,⟨a3,x0.length,c4⟩,x0⟩,⟨.str,⟨a7,x1.length,c8⟩,x1⟩] (fun _:Unit=>True) (fun _=>.bool r) (fun _=>[]):=
 by
  refine FC.of (T:=TTx) Tryz.call69 Tryz.func69 E E fun w0=>?_
  unfold nE at h
  refine aC aA 1 [] ⟨V,E⟩ E E (JS.seq (aC aA 5 [(10,.v (.bool (!(decide ((x0.length:Int)=(x1.length:Int))))))] ⟨⟨E,V⟩,E⟩ E E ?_))
  refine aK E h (fun h=>?_) (fun h=>?_)
  ·
   refine aC aA 1 [(4,.v (.bool false))] ⟨⟨E,V⟩,E⟩ E E ?_
   cases h
   exact JS.ret aA () V E E [] E
  refine JS.skip (JS.seq (aC aA 1 [(5,.v (I 0))] ⟨⟨E,V⟩,E⟩ E E ?_))
  obtain ⟨j28,hj43,h⟩:=aQ h
  refine bA (ι:=Unit) ⟨fun _=>j28 ()=some r,fun _=>[],fun _=>.nil,fun _=>[],fun _=>[],fun _=>0⟩ ?_ ?_
  ·
   refine JS.loop (ι:=Nat×Int) ⟨fun z=>bC (iO x0 x1 j28) z.1 z.2=some r,fun z=>[(0,.v (.slice a3 x0.length c4)),(1,.v (.slice a7 x1.length c8)),(5,.v (I z.2))],fun z=>.nil,fun z=>[⟨.str,⟨a3,x0.length,c4⟩,x0⟩,⟨.str,⟨a7,x1.length,c8⟩,x1⟩],fun z=>[],fun z=>z.1⟩ (bM,0) h (Es E) V [0,1] E [] E ?_
   rintro ⟨n21,x11⟩ h
   obtain ⟨n21,rfl,h⟩:=bH h
   rw [iO] at h
   refine JS.seq (aC aA 4 [(14,.v (.bool (decide (x11<(x0.length:Int)))))] ⟨⟨E,V⟩,E⟩ E E ?_)
   refine aK E h (fun h=>?_) (fun h=>?_)
   ·
    refine JS.skip (JS.seq (JS.block (JS.seq ?_)))
    obtain ⟨g13,h⟩:=aH h
    obtain ⟨g15,h⟩:=aH h
    refine cD 0 E fun hs39=>cD 1 E fun hs40=>hZ E (by kernel_rfl) (eT aA 3 [] [(19,.ep ⟨a3,x0.length,c4⟩ (Int.toNat x11*1))] E ⟨hs39.ix g13,⟨E,V⟩⟩ (JQ.load aA E E E E E E E 0 E E (Int.toNat x11) 0 (at' x0 x11) ⟨bD g13,E⟩ E E (eT aA 3 [] [(23,.ep ⟨a7,x1.length,c8⟩ (Int.toNat x11*1))] E ⟨hs40.ix g15,⟨E,V⟩⟩ (JQ.load aA E E E E E E E 1 E E (Int.toNat x11) 0 (at' x1 x11) ⟨bD g15,E⟩ E E (eT aA 1 [] [(25,.v (.bool (!(decide ((at' x0 x11)=(at' x1 x11))))))] E ⟨E,V⟩ (rB E ?_))))))
    refine aK E h (fun h=>?_) (fun h=>?_)
    ·
     refine aC aA 1 [(4,.v (.bool false))] ⟨⟨E,V⟩,E⟩ E E ?_
     cases h
     exact JS.ret aA () V E E [] E
    refine JS.skip (aZ (bZ aA 3 [(W (x11+1))] [] [(5,.v (I (W (x11+1))))] _ ⟨⟨V,E⟩,⟨E,V⟩,E⟩ E E (bQ (n21,(W (x11+1))) h (Nat.lt_succ_self _) (Es E) V [0,1] E [] E)))
   refine JS.exit E (aT () h V V [] E [] E)
  rintro _ h
  subst hj43
  refine aC aA 1 [(4,.v (.bool true))] ⟨⟨E,V⟩,E⟩ E E ?_
  cases h
  exact JS.ret aA () V E E [] E

def tZ (x0:Int×List (List UInt8)) (x1:Int×List (List UInt8)):Option Bool:=
  (bif (!(decide (x0.1=x1.1))) then
  some false
  else
  (aG (nE x0.2 x1.2) fun (y11:Bool)=>
  (bif (!y11) then
  some false
  else
  some true)))

theorem aKq (x0:Int×List (List UInt8)) (x1:Int×List (List UInt8)) (a3:Option Addr) (c4:Nat) (a7:Option Addr) (c8:Nat) (r:Bool) (h:tZ x0 x1=some r):
  FC Tryz.prog 18 [.agg #[.int .i64 x0.1,.slice a3 x0.2.length c4],.agg #[.int .i64 x1.1,.slice a7 x1.2.length c8]] [⟨.str,⟨a3,x0.2.length,c4⟩,x0.2⟩,⟨.str,⟨a7,x1.2.length,c8⟩,x1.2⟩] (fun _:Unit=>True) (fun _=>.bool r) (fun _=>[]):=
 by
  refine FC.of (T:=TTx) Tryz.call18 Tryz.func18 E E fun w0=>?_
  unfold tZ at h
  refine aL aA 3 [] [3,4] [(2,.bp 3 0),(3,.bp 4 0)] (.new 3 50 [.int .i64 x0.1,.slice a3 x0.2.length c4] (.new 4 50 [.int .i64 x1.1,.slice a7 x1.2.length c8] .nil)) ⟨(Es E),(Bs E E)⟩ E E (JS.seq (aC aA 5 [(9,.v (.bool (!(decide (x0.1=x1.1)))))] ⟨⟨E,V⟩,E⟩ E E ?_))
  refine aK E h (fun h=>?_) (fun h=>?_)
  ·
   refine aC aA 1 [(4,.v (.bool false))] ⟨⟨E,V⟩,E⟩ E E ?_
   cases h
   exact JS.ret aA () V E E [] E
  refine JS.skip (JS.seq (JS.seq (JS.region (aB aA 4 [] [] [(11,.v (.slice a3 x0.2.length c4)),(13,.v (.slice a7 x1.2.length c8))] _ E ⟨(Es E),E⟩ ?_))))
  refine bnw h fun y11 hy12 h=>JO.call E E E E (aEz x0.2 x1.2 a3 c4 a7 c8 _ hy12) E [0,1] E E fun _ _=>aB aA 1 [] [] [(15,.v (.bool (!y11)))] _ E ⟨⟨E,V⟩,E⟩ (aD E ?_)
  refine aK E h (fun h=>?_) (fun h=>?_)
  ·
   refine aC aA 1 [(4,.v (.bool false))] ⟨⟨E,V⟩,E⟩ E E ?_
   cases h
   exact JS.ret aA () V E E [] E
  refine JS.skip (aC aA 1 [(4,.v (.bool true))] ⟨⟨E,V⟩,E⟩ E E ?_)
  cases h
  exact JS.ret aA () V E E [] E

def jS (x0:List Int) (j19:(List Int×Int)→Option (Int×List Int)) (k13:(List Int×Int×Int)→Option (Int×List Int)):(List Int×Int×Int)→Option (Int×List Int):=fun (x7,x8,x9)=>
  (bif (decide (x9<(x0.length:Int))) then
  (aN (0≤x9∧x9<(x0.length:Int)) <|
  k13 ((List.set x7 (Int.toNat x9) x8),(W (x8+1)),(W (x9+1))))
  else
  j19 (x7,x8))

def gK (x0:List Int) (x1:Int):Option (Int×List Int):=
  (aU (fun ((x17,x18):List Int×Int)=>
  some (x18,x17)) fun j19=>
  (bC (jS x0 j19) bM (x0,x1,0)))

theorem qT (x0:List Int) (x1:Int) (a3:Option Addr) (c4:Nat) (r:Int×List Int) (h:gK x0 x1=some r):
  FX Tryz.prog 22 [.slice a3 x0.length c4,.int .i64 x1] [] [⟨(.int .i64),⟨a3,x0.length,c4⟩,x0⟩] (fun _:Unit=>True) (fun _=>.int .i64 r.1) (fun _=>[⟨(.int .i64),⟨a3,x0.length,c4⟩,r.2⟩]):=
 by
  refine FX.of (T:=TTx) Tryz.call22 Tryz.func22 E E fun w0 L0=>?_
  unfold gK at h
  refine aC aA 1 [] ⟨V,E⟩ E E (JS.seq (aC aA 1 [(5,.v (I 0))] ⟨⟨E,V⟩,E⟩ E E ?_))
  obtain ⟨j19,hj27,h⟩:=aQ h
  refine bA (ι:=List Int×Int) ⟨fun z=>j19 z=some r,fun z=>[(1,.v (I z.2))],fun z=>.nil,fun z=>[],fun z=>[⟨(.int .i64),⟨a3,x0.length,c4⟩,z.1⟩],fun z=>0⟩ ?_ ?_
  ·
   refine JS.loop (ι:=Nat×List Int×Int×Int) ⟨fun z=>bC (jS x0 j19) z.1 z.2=some r,fun z=>[(0,.v (.slice a3 x0.length c4)),(1,.v (I z.2.2.1)),(5,.v (I z.2.2.2))],fun z=>.nil,fun z=>[],fun z=>[⟨(.int .i64),⟨a3,x0.length,c4⟩,z.2.1⟩],fun z=>z.1⟩ (bM,x0,x1,0) h (Es E) V [] E [0] E ?_
   rintro ⟨n14,x7,x8,x9⟩ h
   obtain ⟨n14,rfl,h⟩:=bH h
   rw [jS] at h
   refine cD 0 E fun hs24=>JS.seq (aC aA 4 [(9,.v (.bool (decide (x9<(x0.length:Int)))))] ⟨⟨E,V⟩,E⟩ E E ?_)
   refine aK E h (fun h=>?_) (fun h=>?_)
   ·
    refine JS.skip (JS.seq (JS.block (JS.seq (JS.region ?_))))
    obtain ⟨g11,h⟩:=aH h
    refine aB aA 4 [] [] [(14,.v (I x8)),(15,.ep ⟨a3,x0.length,c4⟩ (Int.toNat x9*1))] _ E ⟨(hs24.cast hs24.len.symm).ix g11,(Es E),E⟩ (kD aA E E E E E E E E E [0] (fs:=[]) E (Int.toNat x9) 0 (at' x7 x9) x8 ⟨vZ hs24.len.symm g11,E⟩ ⟨E,E,E⟩ (aD E (bZ aA 3 [(W (x8+1))] [] [(1,.v (I (W (x8+1))))] _ ⟨⟨V,E⟩,⟨E,V⟩,E⟩ E E (aZ (bZ aA 3 [(W (x9+1))] [] [(5,.v (I (W (x9+1))))] _ ⟨⟨V,E⟩,⟨E,V⟩,E⟩ E E (bQ (n14,(List.set x7 (Int.toNat x9) x8),(W (x8+1)),(W (x9+1))) h (Nat.lt_succ_self _) (Es E) V [] E [0] E))))))
   refine JS.exit E (aT (x7,x8) h ⟨E,V⟩ V [] E [0] E)
  rintro ⟨x17,x18⟩ h
  subst hj27
  refine cD 0 E fun hs26=>aC aA 2 [(4,.v (I x18))] ⟨⟨E,V⟩,E⟩ E E ?_
  cases h
  exact gR aA () V E E [0] E

def jA (x0:List Int×Int) (x1:Int):Option (Int×List Int):=
  (aG (gK x0.1 x1) fun (y7,y8)=>
  some (y7,y8))

theorem vA (x0:List Int×Int) (x1:Int) (a3:Option Addr) (c4:Nat) (r:Int×List Int) (h:jA x0 x1=some r):
  FX Tryz.prog 70 [.agg #[.slice a3 x0.1.length c4,.int .i64 x0.2],.int .i64 x1] [] [⟨(.int .i64),⟨a3,x0.1.length,c4⟩,x0.1⟩] (fun _:Unit=>True) (fun _=>.int .i64 r.1) (fun _=>[⟨(.int .i64),⟨a3,x0.1.length,c4⟩,r.2⟩]):=
 by
  refine FX.of (T:=TTx) Tryz.call70 Tryz.func70 E E fun w0 L0=>?_
  unfold jA at h
  refine aL aA 2 [] [2] [(2,.bp 2 0)] (.new 2 38 [.slice a3 x0.1.length c4,.int .i64 x0.2] .nil) ⟨⟨E,V⟩,(Bs E E)⟩ E E (JS.seq (JS.region (aB aA 3 [] [] [(6,.v (.slice a3 x0.1.length c4)),(7,.v (I x1))] _ E ⟨(Es E),E⟩ ?_)))
  obtain ⟨⟨y7,y8⟩,hy9,h⟩:=aE h
  refine eV E E E E (qT x0.1 x1 a3 c4 _ hy9) E [0] E [] E E fun _ _=>bJ 0 E fun hs10=>aB aA 1 [] [] [(1,.v (I y7))] _ E ⟨⟨E,V⟩,E⟩ (aD E (aC aA 2 [(4,.v (I y7))] ⟨⟨E,V⟩,E⟩ E E ?_))
  cases h
  exact gR aA () V E E [0] E

end
end Go.Eng
