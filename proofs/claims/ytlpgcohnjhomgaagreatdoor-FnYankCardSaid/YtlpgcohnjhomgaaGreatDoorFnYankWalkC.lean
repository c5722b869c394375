/- The walks of the functions that FnYank reaches: what each computes, as a plain function (M_..), and that the model computes it (ok_..). Condition of each: that the plain function answers. -/
import Derived.Test.YtlpgcohnjhomgaaGreatDoorFnYankWalkB
set_option linter.unusedVariables false
set_option linter.unusedSimpArgs false
namespace Go.Eng
open Go Go.Proofs
noncomputable section

def iN (y32:List (List UInt8)) (j133:(List (Int×Int))→Option (EdQ×List Int)) (k125:((List (Int×Int))×Int)→Option (EdQ×List Int)):((List (Int×Int))×Int)→Option (EdQ×List Int):=fun (x36,x42)=>
  (bif (decide (x42<(y32.length:Int))) then
  (aI (0≤x42∧x42<(y32.length:Int)) <|
  (aH (mS (at' y32 x42)) fun (y113,y114)=>
  (bif (!y114) then
  some ((false,0,([],0),0,0,0,0,0,0,0,[],[],0,([],0),[],0,([],0)),[])
  else
  (aI (x36.length+([y113]:List (Int×Int)).length≤536870912) <|
  k125 ((x36 ++ ([y113]:List (Int×Int))),(W (x42+1)))))))
  else
  j133 x36)

def kX (x0:EdQ) (x1:Int×List (List UInt8)) (x2:List UInt8):Option (EdQ×List Int):=
  (aH (pK x2) fun (y32:List (List UInt8))=>
  (aY (fun (x130:List (Int×Int))=>
  (aH (oF x0 x1 x130) fun (y137,y138)=>
  some (y137,y138))) fun j133=>
  (bI (iN y32 j133) bO (([]:List (Int×Int)),0))))

theorem uN (x0:EdQ) (x1:Int×List (List UInt8)) (x2:List UInt8) (q4:P6) (a28:Option Addr) (c29:Nat) (r:EdQ×List Int) (h:kX x0 x1 x2=some r):
  FC Tryz.prog 5 [.agg (aK x0 q4).toArray,.agg #[.int .i64 x1.1,.slice a28 x1.2.length c29],.string (bs x2)] (cY x0 q4 [⟨.str,⟨a28,x1.2.length,c29⟩,x1.2⟩]) (fun _:Option Addr×Nat×P6=>True) (fun q=>.tuple #[.agg (aK r.1 (q.1,q.2.1,q.2.2.1,q.2.2.2.1,(Q4 q).1,(Q4 q).2.1,(Q4 q).2.2.1,(Q4 q).2.2.2.1,(Q8 q).1,(Q8 q).2.1,(Q8 q).2.2.1,(Q8 q).2.2.2.1)).toArray,.slice (Q12 q).1 r.2.length (Q12 q).2]) (fun q=>(cY r.1 (q.1,q.2.1,q.2.2.1,q.2.2.2.1,(Q4 q).1,(Q4 q).2.1,(Q4 q).2.2.1,(Q4 q).2.2.2.1,(Q8 q).1,(Q8 q).2.1,(Q8 q).2.2.1,(Q8 q).2.2.2.1) [⟨(.int .i64),⟨(Q12 q).1,r.2.length,(Q12 q).2⟩,r.2⟩])):=
 by
  refine FC.of (T:=TTx) Tryz.call5 Tryz.func5 E E fun w0=>?_
  unfold kX at h
  refine aR aA 4 [] [8,9,10] [(3,.bp 8 0),(4,.bp 9 0),(6,.bp 10 0)] (.new 8 33 (aK x0 q4) (.new 9 36 [.int .i64 x1.1,.slice a28 x1.2.length c29] (.new 10 33 bP .nil))) ⟨(Es E),(Bs E E)⟩ E E (aD aA 1 [(8,.v (.slice none 0 0))] ⟨⟨E,V⟩,E⟩ E E (JS.seq (JS.seq (JS.region (aB aA 1 [] [] [(13,.v (.string (bs x2)))] _ E ⟨⟨E,V⟩,E⟩ ?_)))))
  refine bnw h fun y32 hy33 h=>JO.call E E E E (aE9 x2 _ hy33) E [] E E ?_
  rintro ⟨a34,c35⟩ -
  refine aB aA 2 [] [] [(15,.v (I (y32.length:Int))),(16,.v (I 0))] _ E ⟨(Es E),E⟩ (aC E ?_)
  obtain ⟨j133,hj158,h⟩:=aO h
  refine bF (ι:=(List (Int×Int))×Option Addr×Nat) ⟨fun z=>j133 z.1=some r,fun z=>[(3,.bp 8 0),(4,.bp 9 0),(6,.bp 10 0),(8,.v (.slice z.2.1 z.1.length z.2.2))],fun z=>(.new 8 33 (aK x0 q4) (.new 9 36 [.int .i64 x1.1,.slice a28 x1.2.length c29] (.new 10 33 bP .nil))),fun z=>(cY x0 q4 [⟨.str,⟨a28,x1.2.length,c29⟩,x1.2⟩]),fun z=>[⟨(.pair (.int .i64) (.int .i64)),⟨z.2.1,z.1.length,z.2.2⟩,z.1⟩],fun z=>0⟩ ?_ ?_
  ·
   refine aW (.pair (.int .i64) (.int .i64)) Sl.nil E E (JS.loop (ι:=Nat×(List (Int×Int))×Int×Option Addr×Nat) ⟨fun z=>bI (iN y32 j133) z.1 (z.2.1,z.2.2.1)=some r,fun z=>[(3,.bp 8 0),(4,.bp 9 0),(6,.bp 10 0),(8,.v (.slice z.2.2.2.1 z.2.1.length (Q4 z))),(14,.v (.slice a34 y32.length c35)),(15,.v (I (y32.length:Int))),(16,.v (I z.2.2.1))],fun z=>(.new 8 33 (aK x0 q4) (.new 9 36 [.int .i64 x1.1,.slice a28 x1.2.length c29] (.new 10 33 bP .nil))),fun z=>(cY x0 q4 [⟨.str,⟨a28,x1.2.length,c29⟩,x1.2⟩]),fun z=>[⟨(.pair (.int .i64) (.int .i64)),⟨z.2.2.2.1,z.2.1.length,(Q4 z)⟩,z.2.1⟩,⟨.str,⟨a34,y32.length,c35⟩,y32⟩],fun z=>z.1⟩ (bO,([]:List (Int×Int)),0,none,0) h (Es E) (Bs E E) [0,1,2,3,4,5,6] E [0,0] E ?_)
   rintro ⟨n126,x36,x42,a37,c38⟩ h
   obtain ⟨n126,rfl,h⟩:=bM h
   rw [iN] at h
   refine aD aA 1 [(17,.v (.bool (decide (x42<(y32.length:Int)))))] ⟨⟨E,V⟩,E⟩ E E (JS.seq ?_)
   refine aL E h (fun h=>?_) (fun h=>?_)
   ·
    refine JS.skip (JS.seq (JS.block (JS.seq (JS.region (bT 8 E fun hs155=>?_)))))
    obtain ⟨g112,h⟩:=aF h
    refine aB aA 1 [] [] [(18,.ep ⟨a34,y32.length,c35⟩ (Int.toNat x42*1))] _ E ⟨hs155.ix g112,⟨E,V⟩,E⟩ (JO.load aA E E E E E E E 8 E E (Int.toNat x42) 0 (at' y32 x42) ⟨bD g112,E⟩ E E (aB aA 1 [] [] [(10,.v (.string (bs (at' y32 x42))))] _ E ⟨⟨E,V⟩,E⟩ (aC E (JS.seq (JS.region (aB aA 1 [] [] [(21,.v (.string (bs (at' y32 x42))))] _ E ⟨⟨E,V⟩,E⟩ ?_))))))
    obtain ⟨⟨y113,y114⟩,hy115,h⟩:=aE h
    refine JO.call E E E E (aBn (at' y32 x42) _ hy115) E [] E E fun _ _=>aS aA 6 [] [110] [(11,.bp 110 0),(12,.v (.bool y114))] (.new 8 33 (aK x0 q4) (.new 9 36 [.int .i64 x1.1,.slice a28 x1.2.length c29] (.new 10 33 bP (.new 110 55 [.int .i64 y113.1,.int .i64 y113.2] .nil)))) E ⟨(Es E),(Bs E E)⟩ (aC E (JS.seq (aD aA 2 [(26,.v (.bool (!y114)))] ⟨⟨E,V⟩,E⟩ E E ?_)))
    refine aL E h (fun h=>?_) (fun h=>?_)
    ·
     refine aR aA 3 [] [] [(7,.v (.slice none 0 0))] (.new 10 33 bP .nil) ⟨⟨E,V⟩,(Bs E E)⟩ E E ?_
     cases h
     refine aW (.int .i64) Sl.nil E E (aW (.sl (.int .i64)) Sl.nil E E (aW (.pair (.sl (.int .i64)) (.int .i64)) Sl.nil E E (aW (.int .i64) Sl.nil E E (aW (.int .i64) Sl.nil E E (aW (.int .i64) Sl.nil E E (aW (.int .i64) Sl.nil E E (JS.ret aA (none,0,none,0,none,0,none,0,none,0,none,0,none,0) V E E [6,5,4,3,2,1,0] E)))))))
    refine JS.skip (JS.region (aB aA 2 [] [] [(28,.v (.slice a37 x36.length c38)),(29,.v (.agg #[.int .i64 y113.1,.int .i64 y113.2]))] _ E ⟨(Es E),E⟩ ?_))
    refine kF E (JK.buildSlice aA E E E E E E E E E E E [] E (.pair (.int .i64) (.int .i64)) [y113] ⟨E,E⟩ E E fun a116=>kE ?_)
    obtain ⟨g117,h⟩:=aF h
    refine eN aA E E E E ⟨E,E,E,E,V,E,E,E,E⟩ E E E [1] E 7 E g117 E fun a118 c119=>aB aA 1 [] [] [(8,.v (.slice a118 (x36 ++ ([y113]:List (Int×Int))).length c119))] _ E ⟨⟨E,V⟩,E⟩ (aC E (aV (cW aA 2 [(W (x42+1))] [] [(16,.v (I (W (x42+1))))] _ ⟨⟨V,E⟩,⟨E,V⟩,E⟩ E E (bZ (n126,(x36 ++ ([y113]:List (Int×Int))),(W (x42+1)),a118,c119) h (Nat.lt_succ_self _) (Es E) (Bs E E) [0,1,2,3,4,5,6] E [0,1] E))))
   refine JS.exit E (aN (x36,a37,c38) h (Es E) (Bs E E) [0,1,2,3,4,5,6] E [0] E)
  rintro ⟨x130,a131,c132⟩ h
  subst hj158
  refine JS.seq (JS.region (aB aA 3 [] [] [(33,.v (.agg (aK x0 q4).toArray)),(34,.v (.agg #[.int .i64 x1.1,.slice a28 x1.2.length c29])),(35,.v (.slice a131 x130.length c132))] _ E ⟨(Es E),E⟩ ?_))
  obtain ⟨⟨y137,y138⟩,hy139,h⟩:=aE h
  refine JO.call E E E E (aC8 x0 x1 x130 q4 a28 c29 a131 c132 _ hy139) E [0,1,2,3,4,5,6,7] E E ?_
  rintro ⟨a140,c141,a142,c143,a144,c145,a146,c147,a148,c149,a150,c151,a152,c153⟩ -
  refine aS aA 4 [] [] [(7,.v (.slice a152 y138.length c153))] (.new 10 33 (aK y137 (a140,c141,a142,c143,a144,c145,a146,c147,a148,c149,a150,c151)) .nil) E ⟨⟨E,V⟩,(Bs E E)⟩ (aC E ?_)
  cases h
  exact JS.ret aA (a140,c141,a142,c143,a144,c145,a146,c147,a148,c149,a150,c151,a152,c153) V E E [0,0,0,0,0,0,0] E

def gE (x0:List Int) (x1:List Int) (j28:Unit→Option Bool) (k20:Int→Option Bool):Int→Option Bool:=fun x11=>
  (bif (decide (x11<(x0.length:Int))) then
  (aI (0≤x11∧x11<(x0.length:Int)) <|
  (aI (0≤x11∧x11<(x1.length:Int)) <|
  (bif (!(decide ((at' x0 x11)=(at' x1 x11)))) then
  some false
  else
  k20 (W (x11+1)))))
  else
  j28 ())

def fX (x0:List Int) (x1:List Int):Option Bool:=
  (bif (!(decide ((x0.length:Int)=(x1.length:Int)))) then
  some false
  else
  (aY (fun (_:Unit)=>
  some true) fun j28=>
  (bI (gE x0 x1 j28) bO 0)))

theorem oO (x0:List Int) (x1:List Int) (a3:Option Addr) (c4:Nat) (a7:Option Addr) (c8:Nat) (r:Bool) (h:fX x0 x1=some r):
  FC Tryz.prog 8 [.slice a3 x0.length c4,.slice a7 x1.length c8] [⟨(.int .i64),⟨a3,x0.length,c4⟩,x0⟩,⟨(.int .i64),⟨a7,x1.length,c8⟩,x1⟩] (fun _:Unit=>True) (fun _=>.bool r) (fun _=>[]):=
 by
  refine FC.of (T:=TTx) Tryz.call8 Tryz.func8 E E fun w0=>?_
  unfold fX at h
  refine aD aA 1 [] ⟨V,E⟩ E E (JS.seq (aD aA 5 [(10,.v (.bool (!(decide ((x0.length:Int)=(x1.length:Int))))))] ⟨⟨E,V⟩,E⟩ E E ?_))
  refine aL E h (fun h=>?_) (fun h=>?_)
  ·
   refine aD aA 1 [(4,.v (.bool false))] ⟨⟨E,V⟩,E⟩ E E ?_
   cases h
   exact JS.ret aA () V E E [] E
  refine JS.skip (JS.seq (aD aA 3 [(12,.v (I (x0.length:Int))),(13,.v (I 0))] ⟨(Es E),E⟩ E E ?_))
  obtain ⟨j28,hj43,h⟩:=aO h
  refine bF (ι:=Unit) ⟨fun _=>j28 ()=some r,fun _=>[],fun _=>.nil,fun _=>[],fun _=>[],fun _=>0⟩ ?_ ?_
  ·
   refine JS.loop (ι:=Nat×Int) ⟨fun z=>bI (gE x0 x1 j28) z.1 z.2=some r,fun z=>[(0,.v (.slice a3 x0.length c4)),(1,.v (.slice a7 x1.length c8)),(12,.v (I (x0.length:Int))),(13,.v (I z.2))],fun z=>.nil,fun z=>[⟨(.int .i64),⟨a3,x0.length,c4⟩,x0⟩,⟨(.int .i64),⟨a7,x1.length,c8⟩,x1⟩],fun z=>[],fun z=>z.1⟩ (bO,0) h (Es E) V [0,1] E [] E ?_
   rintro ⟨n21,x11⟩ h
   obtain ⟨n21,rfl,h⟩:=bM h
   rw [gE] at h
   refine aD aA 1 [(14,.v (.bool (decide (x11<(x0.length:Int)))))] ⟨⟨E,V⟩,E⟩ E E (JS.seq ?_)
   refine aL E h (fun h=>?_) (fun h=>?_)
   ·
    refine JS.skip (JS.seq (JS.block (aD aA 2 [(5,.v (I x11))] ⟨⟨E,V⟩,E⟩ E E (JS.seq ?_))))
    obtain ⟨g13,h⟩:=aF h
    obtain ⟨g15,h⟩:=aF h
    refine gR 0 E fun hs39=>gR 1 E fun hs40=>iO E (by kernel_rfl) (fN aA 3 [] [(18,.ep ⟨a3,x0.length,c4⟩ (Int.toNat x11*1))] E ⟨hs39.ix g13,⟨E,V⟩⟩ (JQ.load aA E E E E E E E 0 E E (Int.toNat x11) 0 (at' x0 x11) ⟨bD g13,E⟩ E E (fN aA 3 [] [(22,.ep ⟨a7,x1.length,c8⟩ (Int.toNat x11*1))] E ⟨hs40.ix g15,⟨E,V⟩⟩ (JQ.load aA E E E E E E E 1 E E (Int.toNat x11) 0 (at' x1 x11) ⟨bD g15,E⟩ E E (fN aA 1 [] [(24,.v (.bool (!(decide ((at' x0 x11)=(at' x1 x11))))))] E ⟨E,V⟩ (oM E ?_))))))
    refine aL E h (fun h=>?_) (fun h=>?_)
    ·
     refine aD aA 1 [(4,.v (.bool false))] ⟨⟨E,V⟩,E⟩ E E ?_
     cases h
     exact JS.ret aA () V E E [] E
    refine JS.skip (aV (cW aA 2 [(W (x11+1))] [] [(13,.v (I (W (x11+1))))] _ ⟨⟨V,E⟩,⟨E,V⟩,E⟩ E E (bZ (n21,(W (x11+1))) h (Nat.lt_succ_self _) (Es E) V [0,1] E [] E)))
   refine JS.exit E (aN () h V V [] E [] E)
  rintro _ h
  subst hj43
  refine aD aA 1 [(4,.v (.bool true))] ⟨⟨E,V⟩,E⟩ E E ?_
  cases h
  exact JS.ret aA () V E E [] E

def qI (x0:List UInt8):Option Bool:=
  (bif (decide (1048576<(x0.length:Int))) then
  some true
  else
  (aH (jI x0) fun (y6,y7)=>
  (aH (kX (y6.1,y6.2.1,y6.2.2.1,y6.2.2.2.1,y6.2.2.2.2.1,y6.2.2.2.2.2.1,y6.2.2.2.2.2.2.1,y6.2.2.2.2.2.2.2.1,y6.2.2.2.2.2.2.2.2.1,y6.2.2.2.2.2.2.2.2.2.1,y6.2.2.2.2.2.2.2.2.2.2.1,([]:List (List Int×Int)),y6.2.2.2.2.2.2.2.2.2.2.2.2.1,(([]:List Int),y6.2.2.2.2.2.2.2.2.2.2.2.2.2.1.2),([]:List Int),y6.2.2.2.2.2.2.2.2.2.2.2.2.2.2.2.1,(([]:List Int),y6.2.2.2.2.2.2.2.2.2.2.2.2.2.2.2.2.2)) y7 ([67,45,97,32,67,45,107,32,67,45,121]:List UInt8)) fun (y15,y16)=>
  (bU ((!(decide ((y16.length:Int)=3)))=false) (lR y15) false fun (y32:Bool)=>
  (bif (bif (!(decide ((y16.length:Int)=3))) then true else (!y32)) then
  some false
  else
  (bif (decide ((y6.2.2.1.1.length:Int)=0)) then
  (aI (0≤(1:Int)∧1<(y16.length:Int)) <|
  some (decide ((at' y16 1)=1)))
  else
  (aH (dT y6.2.2.2.2.2.2.2.2.2.2.1) fun (y37:List Int)=>
  (aH (kX y15 y7 ([77,45,121]:List UInt8)) fun (y41,y42)=>
  (bU ((bif (decide (0<(y37.length:Int))) then (decide ((y42.length:Int)=1)) else false)=true) (fX y41.2.2.1.1 y37) false fun (y58:Bool)=>
  (bif (bif (bif (decide (0<(y37.length:Int))) then (decide ((y42.length:Int)=1)) else false) then (!y58) else false) then
  some false
  else
  (aH (fX y15.2.2.1.1 y6.2.2.1.1) fun (y61:Bool)=>
  (bU (y61=true) (dT y15.2.2.2.2.2.2.2.2.2.2.1) [] fun (y63:List Int)=>
  (bU (y61=true) (fX y63 y6.2.2.1.1) false fun (y71:Bool)=>
  some (bif (bif y61 then y71 else false) then (decide ((y42.length:Int)=1)) else false))))))))))))))

theorem ok_l_FnYank (x0:List UInt8) (a2:Option Addr) (c3:Nat) (l4:Nat) (hl5:x0.length=l4) (r:Bool) (h:qI x0=some r) :
  FC Tryz.prog 3 [.slice a2 l4 c3] [⟨.byte,⟨a2,l4,c3⟩,x0⟩] (fun _:Unit=>True) (fun _=>.bool r) (fun _=>[]):=
 by
  subst hl5
  refine FC.of (T:=TTx) Tryz.call3 Tryz.func3 E E fun w0=>?_
  unfold qI at h
  refine aD aA 1 [] ⟨V,E⟩ E E (JS.seq (aD aA 3 [(11,.v (.bool (decide (1048576<(x0.length:Int)))))] ⟨⟨E,V⟩,E⟩ E E ?_))
  refine aL E h (fun h=>?_) (fun h=>?_)
  ·
   refine aD aA 1 [(2,.v (.bool true))] ⟨⟨E,V⟩,E⟩ E E ?_
   cases h
   exact JS.ret aA () V E E [] E
  refine JS.skip (JS.seq (JS.region (aB aA 1 [] [] [(13,.v (.slice a2 x0.length c3))] _ E ⟨⟨E,V⟩,E⟩ ?_)))
  obtain ⟨⟨y6,y7⟩,hy8,h⟩:=aE h
  refine JO.call E E E E (xU x0 a2 c3 _ hy8) E [0] E E ?_
  rintro ⟨a9,c10,a11,c12,a13,c14⟩ -
  refine aS aA 7 [] [14,15] [(3,.bp 14 0),(4,.bp 15 0)] (.new 14 33 (aK (y6.1,y6.2.1,y6.2.2.1,y6.2.2.2.1,(Q4 y6).1,(Q4 y6).2.1,(Q4 y6).2.2.1,(Q4 y6).2.2.2.1,(Q8 y6).1,(Q8 y6).2.1,(Q8 y6).2.2.1,[],(Q12 y6).1,([],(Q12 y6).2.1.2),[],(Q12 y6).2.2.2.1,([],(Q16 y6).2)) (a9,c10,a11,c12,none,0,none,0,none,0,none,0)) (.new 15 36 [.int .i64 y7.1,.slice a13 y7.2.length c14] .nil)) E ⟨(Es E),(Bs E E)⟩ (aC E (JS.seq (JS.region (aB aA 2 [] [] [(18,.v (.agg (aK (y6.1,y6.2.1,y6.2.2.1,y6.2.2.2.1,(Q4 y6).1,(Q4 y6).2.1,(Q4 y6).2.2.1,(Q4 y6).2.2.2.1,(Q8 y6).1,(Q8 y6).2.1,(Q8 y6).2.2.1,[],(Q12 y6).1,([],(Q12 y6).2.1.2),[],(Q12 y6).2.2.2.1,([],(Q16 y6).2)) (a9,c10,a11,c12,none,0,none,0,none,0,none,0)).toArray)),(19,.v (.agg #[.int .i64 y7.1,.slice a13 y7.2.length c14]))] _ E ⟨(Es E),E⟩ ?_))))
  obtain ⟨⟨y15,y16⟩,hy17,h⟩:=aE h
  refine sM (.pair (.sl (.int .i64)) (.int .i64)) Sl.nil E E (sM (.int .i64) Sl.nil E E (sM (.int .i64) Sl.nil E E (sM (.int .i64) Sl.nil E E (JO.call E E E E (uN (y6.1,y6.2.1,y6.2.2.1,y6.2.2.2.1,(Q4 y6).1,(Q4 y6).2.1,(Q4 y6).2.2.1,(Q4 y6).2.2.2.1,(Q8 y6).1,(Q8 y6).2.1,(Q8 y6).2.2.1,([]:List (List Int×Int)),(Q12 y6).1,(([]:List Int),(Q12 y6).2.1.2),([]:List Int),(Q12 y6).2.2.2.1,(([]:List Int),(Q16 y6).2)) y7 ([67,45,97,32,67,45,107,32,67,45,121]:List UInt8) (a9,c10,a11,c12,none,0,none,0,none,0,none,0) a13 c14 _ hy17) E [5,6,3,2,1,0,7] E E ?_))))
  rintro ⟨a18,c19,a20,c21,a22,c23,a24,c25,a26,c27,a28,c29,a30,c31⟩ -
  refine aS aA 6 [] [44] [(5,.bp 44 0),(6,.v (.slice a30 y16.length c31))] (.new 14 33 (aK (y6.1,y6.2.1,y6.2.2.1,y6.2.2.2.1,(Q4 y6).1,(Q4 y6).2.1,(Q4 y6).2.2.1,(Q4 y6).2.2.2.1,(Q8 y6).1,(Q8 y6).2.1,(Q8 y6).2.2.1,[],(Q12 y6).1,([],(Q12 y6).2.1.2),[],(Q12 y6).2.2.2.1,([],(Q16 y6).2)) (a9,c10,a11,c12,none,0,none,0,none,0,none,0)) (.new 15 36 [.int .i64 y7.1,.slice a13 y7.2.length c14] (.new 44 33 (aK y15 (a18,c19,a20,c21,a22,c23,a24,c25,a26,c27,a28,c29)) .nil))) E ⟨(Es E),(Bs E E)⟩ (aC E (JS.seq (JS.seq (JS.region (aB aA 5 [] [] [(26,.v (.bool (!(decide ((y16.length:Int)=3))))),(27,.cd [(26,false)] (.v (.agg (aK y15 (a18,c19,a20,c21,a22,c23,a24,c25,a26,c27,a28,c29)).toArray)))] _ E ⟨(Es E),E⟩ ?_)))))
  obtain ⟨y32,hy33,-,h⟩:=aU h
  refine bJ E E E E (fun q87=>sH y15 (a18,c19,a20,c21,a22,c23,a24,c25,a26,c27,a28,c29) _ (hy33 q87)) E [5,6,7,8,9,10] E E (aB aA 2 [] [] [(30,.v (.bool (bif (!(decide ((y16.length:Int)=3))) then true else (!y32))))] _ E ⟨⟨E,V⟩,E⟩ (aC E ?_))
  refine aL E h (fun h=>?_) (fun h=>?_)
  ·
   refine aD aA 1 [(2,.v (.bool false))] ⟨⟨E,V⟩,E⟩ E E ?_
   cases h
   exact JS.ret aA () V E E [] E
  refine JS.skip (JS.seq (aD aA 5 [(35,.v (.bool (decide ((y6.2.2.1.1.length:Int)=0))))] ⟨⟨E,V⟩,E⟩ E E ?_))
  refine aL E h (fun h=>?_) (fun h=>?_)
  ·
   refine JS.seq (JS.region (bT 11 E fun hs88=>?_))
   obtain ⟨g36,h⟩:=aF h
   refine aB aA 2 [] [] [(37,.ep ⟨a30,y16.length,c31⟩ (Int.toNat 1*1))] _ E ⟨hs88.ix g36,⟨E,V⟩,E⟩ (JO.load aA E E E E E E E 11 E E (Int.toNat 1) 0 (at' y16 1) ⟨bD g36,E⟩ E E (aB aA 2 [] [] [(2,.v (.bool (decide ((at' y16 1)=1))))] _ E ⟨⟨E,V⟩,E⟩ (aC E ?_)))
   cases h
   exact JS.ret aA () V E E [] E
  refine JS.skip (JS.seq (JS.region (aB aA 2 [] [] [(41,.v (.agg #[.slice a11 (Q8 y6).2.2.1.length c12]))] _ E ⟨⟨E,V⟩,E⟩ ?_)))
  refine bnw h fun y37 hy38 h=>JO.call E E E E (iR (Q8 y6).2.2.1 a11 c12 _ hy38) E [13] E E ?_
  rintro ⟨a39,c40⟩ -
  refine aB aA 1 [] [] [(7,.v (.slice a39 y37.length c40))] _ E ⟨⟨E,V⟩,E⟩ (aC E (JS.seq (JS.region (aB aA 2 [] [] [(44,.v (.agg (aK y15 (a18,c19,a20,c21,a22,c23,a24,c25,a26,c27,a28,c29)).toArray)),(45,.v (.agg #[.int .i64 y7.1,.slice a13 y7.2.length c14]))] _ E ⟨(Es E),E⟩ ?_))))
  obtain ⟨⟨y41,y42⟩,hy43,h⟩:=aE h
  refine JO.call E E E E (uN y15 y7 ([77,45,121]:List UInt8) (a18,c19,a20,c21,a22,c23,a24,c25,a26,c27,a28,c29) a13 c14 _ hy43) E [6,7,8,9,10,11,15] E E ?_
  rintro ⟨a44,c45,a46,c47,a48,c49,a50,c51,a52,c53,a54,c55,a56,c57⟩ -
  refine aS aA 6 [] [77] [(6,.v (.slice a56 y42.length c57)),(8,.bp 77 0)] (.new 14 33 (aK (y6.1,y6.2.1,y6.2.2.1,y6.2.2.2.1,(Q4 y6).1,(Q4 y6).2.1,(Q4 y6).2.2.1,(Q4 y6).2.2.2.1,(Q8 y6).1,(Q8 y6).2.1,(Q8 y6).2.2.1,[],(Q12 y6).1,([],(Q12 y6).2.1.2),[],(Q12 y6).2.2.2.1,([],(Q16 y6).2)) (a9,c10,a11,c12,none,0,none,0,none,0,none,0)) (.new 44 33 (aK y15 (a18,c19,a20,c21,a22,c23,a24,c25,a26,c27,a28,c29)) (.new 77 33 (aK y41 (a44,c45,a46,c47,a48,c49,a50,c51,a52,c53,a54,c55)) .nil))) E ⟨(Es E),(Bs E E)⟩ (aC E (JS.seq (JS.seq (aCa [true,true,true,true,true,true,true,true,true,true,true,true,true,true,false,true,true,false] [⟨(.int .i64),⟨none,([]:List Int).length,0⟩,([]:List Int)⟩,⟨(.int .i64),⟨none,([]:List Int).length,0⟩,([]:List Int)⟩,⟨(.int .i64),⟨none,([]:List Int).length,0⟩,([]:List Int)⟩,⟨(.pair (.sl (.int .i64)) (.int .i64)),⟨none,([]:List (List Int×Int)).length,0⟩,([]:List (List Int×Int))⟩,⟨.byte,⟨a2,x0.length,c3⟩,x0⟩] (cY y41 (a44,c45,a46,c47,a48,c49,a50,c51,a52,c53,a54,c55) (⟨(.int .i64),⟨a56,y42.length,c57⟩,y42⟩ :: ⟨(.int .i64),⟨a39,y37.length,c40⟩,y37⟩ :: (cY y15 (a18,c19,a20,c21,a22,c23,a24,c25,a26,c27,a28,c29) [⟨(.int .i64),⟨a9,y6.2.2.1.1.length,c10⟩,y6.2.2.1.1⟩,⟨(.sl (.int .i64)),⟨a11,(Q8 y6).2.2.1.length,c12⟩,(Q8 y6).2.2.1⟩]))) E E (JS.region (aB aA 13 [] [] [(57,.v (.bool (bif (decide (0<(y37.length:Int))) then (decide ((y42.length:Int)=1)) else false))),(60,.cd [(57,true)] (.v (.slice a44 y41.2.2.1.1.length c45))),(61,.cd [(57,true)] (.v (.slice a39 y37.length c40)))] _ E ⟨(Es E),E⟩ ?_))))))
  obtain ⟨y58,hy59,-,h⟩:=aU h
  refine bJ E E E E (fun q89=>oO y41.2.2.1.1 y37 a44 c45 a39 c40 _ (hy59 q89)) E [5,12] E E (aB aA 2 [] [] [(64,.v (.bool (bif (bif (decide (0<(y37.length:Int))) then (decide ((y42.length:Int)=1)) else false) then (!y58) else false)))] _ E ⟨⟨E,V⟩,E⟩ (aC E ?_))
  refine aL E h (fun h=>?_) (fun h=>?_)
  ·
   refine JS.seq (aCa [true,true,true,true,true,true,false,false,true,true,true,true,true,true,true,true] [⟨(.int .i64),⟨none,([]:List Int).length,0⟩,([]:List Int)⟩,⟨(.int .i64),⟨none,([]:List Int).length,0⟩,([]:List Int)⟩,⟨(.int .i64),⟨none,([]:List Int).length,0⟩,([]:List Int)⟩,⟨(.pair (.sl (.int .i64)) (.int .i64)),⟨none,([]:List (List Int×Int)).length,0⟩,([]:List (List Int×Int))⟩,⟨.byte,⟨a2,x0.length,c3⟩,x0⟩] (cY y41 (a44,c45,a46,c47,a48,c49,a50,c51,a52,c53,a54,c55) (cY y15 (a18,c19,a20,c21,a22,c23,a24,c25,a26,c27,a28,c29) [⟨(.int .i64),⟨a9,y6.2.2.1.1.length,c10⟩,y6.2.2.1.1⟩,⟨(.sl (.int .i64)),⟨a11,(Q8 y6).2.2.1.length,c12⟩,(Q8 y6).2.2.1⟩])) E E (tS aA 1 [(2,.v (.bool false))] ⟨⟨E,V⟩,E⟩ E E ?_))
   cases h
   exact JS.ret aA () V E E [] E
  refine JS.skip (JS.seq ?_)
  obtain ⟨y61,hy62,h⟩:=aE h
  obtain ⟨y63,hy64,hd67,h⟩:=aU h
  obtain ⟨y71,hy72,-,h⟩:=aU h
  refine bE E (.new 14 33 (aK (y6.1,y6.2.1,y6.2.2.1,y6.2.2.2.1,(Q4 y6).1,(Q4 y6).2.1,(Q4 y6).2.2.1,(Q4 y6).2.2.2.1,(Q8 y6).1,(Q8 y6).2.1,(Q8 y6).2.2.1,[],(Q12 y6).1,([],(Q12 y6).2.1.2),[],(Q12 y6).2.2.2.1,([],(Q16 y6).2)) (a9,c10,a11,c12,none,0,none,0,none,0,none,0)) (.new 44 33 (aK y15 (a18,c19,a20,c21,a22,c23,a24,c25,a26,c27,a28,c29)) .nil)) [] [14,15,16,17,18,19,20,21] ⟨E,E,E,E,E,E,E,E,V⟩ E (fun be78=>?_)
  refine aT aA aG 18 [0,1,3,4] E (by kernel_rfl) [] [(66,.bp 44 2),(69,.bp 14 2)] E (Es E) (bV aA aG true 16 [2,5] E (by kernel_rfl) [] [(67,.v (.slice a18 y15.2.2.1.1.length c19)),(70,.v (.slice a9 y6.2.2.1.1.length c10))] ⟨E,E,E,E,E,E,E,E,V⟩ [] E E (Es E) (JA.one 6 (by kernel_rfl) (JK.call E E E E (oO y15.2.2.1.1 y6.2.2.1.1 a18 c19 a9 c10 _ hy62) E [13,19] E E fun _ _=>aJ ⟨E,E,E,E,E,E,E,E,V⟩ [] E (bV aA aG true 9 [7,8,9,11,12,13] E (by kernel_rfl) [] [(72,.v (.bool y61)),(74,.cd [(72,true)] (.v (.agg #[.slice a20 (Q8 y15).2.2.1.length c21]))),(78,.cd [(72,true)] (.v (.slice a9 y6.2.2.1.1.length c10)))] ⟨E,E,E,E,E,E,E,E,V⟩ [] E E (Es E) (JA.one 10 (by kernel_rfl) (aAw E E E E (fun q98=>iR (Q8 y15).2.2.1 a20 c21 _ (hy64 q98)) E [14] E E (none,0) (fun q99=>by cases hd67 (fun q100=>q99 ⟨q100,V⟩);rfl) ?_))))))
  rintro ⟨a65,c66⟩ -
  refine aJ ⟨E,E,E,E,E,E,E,E,V⟩ [] E (JA.one 14 (by kernel_rfl) (aJl E E E E (fun q101=>oO y63 y6.2.2.1.1 a65 c66 a9 c10 _ (hy72 q101)) E [5,20] E E (aP E (aT aA aG 0 [15,16,17,18,19,20,21] E (by kernel_rfl) [] [(2,.v (.bool (bif (bif y61 then y71 else false) then (decide ((y42.length:Int)=1)) else false)))] E ⟨E,V⟩ (bG (by kernel_rfl) (aX (B':=.nil) V ?_))))))
  cases h
  exact JS.ret aA () V E E [] E

end
end Go.Eng
