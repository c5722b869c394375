/- The walks of the functions that FnYank reaches: what each computes, as a plain function (M_..), and that the model computes it (ok_..). Condition of each: that the plain function answers. -/
import Derived.Test.YtlpgcohnjhomgaaGreatDoorFnYankWalkA
set_option linter.unusedVariables false
set_option linter.unusedSimpArgs false
namespace Go.Eng
open Go Go.Proofs
noncomputable section

def eK (x0:EdQ):Option EdQ:=
  (aH (cM x0.2.2.1) fun (y26:List Int×Int)=>
  (aH (cM x0.2.2.2.2.2.2.2.2.2.2.2.2.2.1) fun (y30:List Int×Int)=>
  (aH (cM x0.2.2.2.2.2.2.2.2.2.2.2.2.2.2.2.2) fun (y34:List Int×Int)=>
  (aH (gA x0.2.2.2.2.2.2.2.2.2.2.1) fun (y39:List (List Int))=>
  (aH (fZ x0.2.2.2.2.2.2.2.2.2.2.2.1) fun (y43:List (List Int×Int))=>
  (aH (cG x0.2.2.2.2.2.2.2.2.2.2.2.2.2.2.1) fun (y48:List Int)=>
  some (x0.1,x0.2.1,y26,x0.2.2.2.1,x0.2.2.2.2.1,x0.2.2.2.2.2.1,x0.2.2.2.2.2.2.1,x0.2.2.2.2.2.2.2.1,x0.2.2.2.2.2.2.2.2.1,x0.2.2.2.2.2.2.2.2.2.1,y39,y43,x0.2.2.2.2.2.2.2.2.2.2.2.2.1,y30,y48,x0.2.2.2.2.2.2.2.2.2.2.2.2.2.2.2.1,y34)))))))

theorem kJ (x0:EdQ) (q2:P6) (r:EdQ) (h:eK x0=some r):
  FC Tryz.prog 36 [.agg (aK x0 q2).toArray] (cY x0 q2 []) (fun _:P6=>True) (fun q=>.agg (aK r q).toArray) (fun q=>(cY r q [])):=
 by
  refine FC.of (T:=TTx) Tryz.call36 Tryz.func36 E E fun w0=>?_
  unfold eK at h
  refine aR aA 2 [] [7,8] [(1,.bp 7 0),(2,.bp 8 0)] (.new 7 33 (aK x0 q2) (.new 8 33 bP .nil)) ⟨(Es E),(Bs E E)⟩ E E (JS.seq ?_)
  obtain ⟨y26,hy27,h⟩:=aE h
  obtain ⟨y30,hy31,h⟩:=aE h
  refine bnw h fun y34 hy35 h=>bE E (.new 7 33 (aK x0 q2) .nil) [] [8,9,10,11,12,13,14] ⟨E,E,E,E,V⟩ E (fun be38=>?_)
  refine bV aA aG true 9 [0,1,3,4,6,7] E (by kernel_rfl) [] [(4,.v (.agg #[.slice q2.1 x0.2.2.1.1.length q2.2.1,.int .i64 x0.2.2.1.2])),(7,.v (.agg #[.slice (Q4 q2).2.2.1 (Q12 x0).2.1.1.length (Q4 q2).2.2.2.1,.int .i64 (Q12 x0).2.1.2])),(10,.v (.agg #[.slice (Q8 q2).2.2.1 (Q16 x0).1.length (Q8 q2).2.2.2,.int .i64 (Q16 x0).2]))] ⟨E,E,E,E,V⟩ [] E E (Es E) (JA.one 2 (by kernel_rfl) (JK.call E E E E (dJ x0.2.2.1 q2.1 q2.2.1 _ hy27) E [0] E E ?_))
  rintro ⟨a28,c29⟩ -
  refine aJ ⟨E,E,E,E,V⟩ [] E (aT aA aG 7 [9] E (by kernel_rfl) [] [(12,.bp 7 2)] E ⟨E,V⟩ (JA.one 5 (by kernel_rfl) (JK.call E E E E (dJ (Q12 x0).2.1 (Q4 q2).2.2.1 (Q4 q2).2.2.2.1 _ hy31) E [3] E E ?_)))
  rintro ⟨a32,c33⟩ -
  refine aJ ⟨E,E,E,E,V⟩ [] E (JA.one 8 (by kernel_rfl) (JK.call E E E E (dJ (Q16 x0) (Q8 q2).2.2.1 (Q8 q2).2.2.2 _ hy35) E [5] E E ?_))
  rintro ⟨a36,c37⟩ -
  refine aP E (JA.one 10 (by kernel_rfl) (bA aA E E E E E E E E (aP E (aT aA aG 3 [11] E (by kernel_rfl) [] [(13,.bp 7 14)] E ⟨E,V⟩ (JA.one 12 (by kernel_rfl) (bA aA E E E E E E E E (aP E (aT aA aG 1 [13] E (by kernel_rfl) [] [(14,.bp 7 18)] E ⟨E,V⟩ (JA.one 14 (by kernel_rfl) (bA aA E E E E E E E E (aP E (bG (by kernel_rfl) (aX (B':=(.new 7 33 (aK (x0.1,x0.2.1,y26,x0.2.2.2.1,(Q4 x0).1,(Q4 x0).2.1,(Q4 x0).2.2.1,(Q4 x0).2.2.2.1,(Q8 x0).1,(Q8 x0).2.1,(Q8 x0).2.2.1,(Q8 x0).2.2.2.1,(Q12 x0).1,y30,(Q12 x0).2.2.1,(Q12 x0).2.2.2.1,y34) (a28,c29,q2.2.2.1,q2.2.2.2.1,(Q4 q2).1,(Q4 q2).2.1,a32,c33,(Q8 q2).1,(Q8 q2).2.1,a36,c37)) (.new 8 33 bP .nil))) (Bs E E) (JS.seq ?_))))))))))))))
  obtain ⟨y39,hy40,h⟩:=aE h
  refine bnw h fun y43 hy44 h=>bE E (.new 7 33 (aK (x0.1,x0.2.1,y26,x0.2.2.2.1,(Q4 x0).1,(Q4 x0).2.1,(Q4 x0).2.2.1,(Q4 x0).2.2.2.1,(Q8 x0).1,(Q8 x0).2.1,(Q8 x0).2.2.1,(Q8 x0).2.2.2.1,(Q12 x0).1,y30,(Q12 x0).2.2.1,(Q12 x0).2.2.2.1,y34) (a28,c29,q2.2.2.1,q2.2.2.2.1,(Q4 q2).1,(Q4 q2).2.1,a32,c33,(Q8 q2).1,(Q8 q2).2.1,a36,c37)) .nil) [] [5,6,7,8,9] ⟨E,E,E,E,V⟩ E (fun be47=>?_)
  refine bV aA aG true 6 [0,1,3,4] E (by kernel_rfl) [] [(16,.v (.agg #[.slice q2.2.2.1 (Q8 x0).2.2.1.length q2.2.2.2.1])),(19,.v (.agg #[.slice (Q4 q2).1 (Q8 x0).2.2.2.1.length (Q4 q2).2.1]))] ⟨E,E,E,E,V⟩ [] E E (Es E) (JA.one 2 (by kernel_rfl) (JK.call E E E E (oS (Q8 x0).2.2.1 q2.2.2.1 q2.2.2.2.1 _ hy40) E [1] E E ?_))
  rintro ⟨a41,c42⟩ -
  refine aJ ⟨E,E,E,E,V⟩ [] E (aT aA aG 4 [6] E (by kernel_rfl) [] [(21,.bp 7 11)] E ⟨E,V⟩ (JA.one 5 (by kernel_rfl) (JK.call E E E E (oR (Q8 x0).2.2.2.1 (Q4 q2).1 (Q4 q2).2.1 _ hy44) E [2] E E ?_)))
  rintro ⟨a45,c46⟩ -
  refine aP E (JA.one 7 (by kernel_rfl) (bA aA E E E E E E E E (aP E (aT aA aG 1 [8] E (by kernel_rfl) [] [(22,.bp 7 12)] E ⟨E,V⟩ (JA.one 9 (by kernel_rfl) (bA aA E E E E E E E E (aP E (bG (by kernel_rfl) (aX (B':=(.new 7 33 (aK (x0.1,x0.2.1,y26,x0.2.2.2.1,(Q4 x0).1,(Q4 x0).2.1,(Q4 x0).2.2.1,(Q4 x0).2.2.2.1,(Q8 x0).1,(Q8 x0).2.1,y39,y43,(Q12 x0).1,y30,(Q12 x0).2.2.1,(Q12 x0).2.2.2.1,y34) (a28,c29,a41,c42,a45,c46,a32,c33,(Q8 q2).1,(Q8 q2).2.1,a36,c37)) (.new 8 33 bP .nil))) (Bs E E) (JS.seq (JS.region (aB aA 2 [] [] [(24,.v (.slice (Q8 q2).1 (Q12 x0).2.2.1.length (Q8 q2).2.1))] _ E ⟨⟨E,V⟩,E⟩ ?_))))))))))))
  refine bnw h fun y48 hy49 h=>JO.call E E E E (cS (Q12 x0).2.2.1 (Q8 q2).1 (Q8 q2).2.1 _ hy49) E [4] E E ?_
  rintro ⟨a50,c51⟩ -
  refine aS aA 2 [] [] [] (.new 7 33 (aK (x0.1,x0.2.1,y26,x0.2.2.2.1,(Q4 x0).1,(Q4 x0).2.1,(Q4 x0).2.2.1,(Q4 x0).2.2.2.1,(Q8 x0).1,(Q8 x0).2.1,y39,y43,(Q12 x0).1,y30,y48,(Q12 x0).2.2.2.1,y34) (a28,c29,a41,c42,a45,c46,a32,c33,a50,c51,a36,c37)) (.new 8 33 bP .nil)) E ⟨V,(Bs E E)⟩ (aC E (aR aA 2 [] [] [] (.new 8 33 (aK (x0.1,x0.2.1,y26,x0.2.2.2.1,(Q4 x0).1,(Q4 x0).2.1,(Q4 x0).2.2.1,(Q4 x0).2.2.2.1,(Q8 x0).1,(Q8 x0).2.1,y39,y43,(Q12 x0).1,y30,y48,(Q12 x0).2.2.2.1,y34) (a28,c29,a41,c42,a45,c46,a32,c33,a50,c51,a36,c37)) .nil) ⟨V,(Bs E E)⟩ E E ?_))
  cases h
  exact JS.ret aA (a28,c29,a41,c42,a45,c46,a32,c33,a50,c51,a36,c37) V E E [5,2,1,2,0,0] E

def oD (x0:EdQ) (x1:Int×List (List UInt8)) (x2:Int×Int):Option Bool:=
  (aH (lR x0) fun (y32:Bool)=>
  (bU (y32=true) (iL x1) false fun (y34:Bool)=>
  (bU ((bif y32 then y34 else false)=true) (mB x2) false fun (y37:Bool)=>
  some (bif (bif y32 then y34 else false) then y37 else false))))

theorem aC5 (x0:EdQ) (x1:Int×List (List UInt8)) (x2:Int×Int) (q4:P6) (a28:Option Addr) (c29:Nat) (r:Bool) (h:oD x0 x1 x2=some r):
  FC Tryz.prog 65 [.agg (aK x0 q4).toArray,.agg #[.int .i64 x1.1,.slice a28 x1.2.length c29],.agg #[.int .i64 x2.1,.int .i64 x2.2]] (cY x0 q4 [⟨.str,⟨a28,x1.2.length,c29⟩,x1.2⟩]) (fun _:Unit=>True) (fun _=>.bool r) (fun _=>[]):=
 by
  refine FC.of (T:=TTx) Tryz.call65 Tryz.func65 E E fun w0=>?_
  unfold oD at h
  refine aR aA 4 [] [8,9,10] [(3,.bp 8 0),(4,.bp 9 0),(5,.bp 10 0)] (.new 8 33 (aK x0 q4) (.new 9 36 [.int .i64 x1.1,.slice a28 x1.2.length c29] (.new 10 55 [.int .i64 x2.1,.int .i64 x2.2] .nil))) ⟨(Es E),(Bs E E)⟩ E E (JS.seq (JS.region (aB aA 1 [] [] [(7,.v (.agg (aK x0 q4).toArray))] _ E ⟨⟨E,V⟩,E⟩ ?_)))
  refine bnw h fun y32 hy33 h=>JO.call E E E E (sH x0 q4 _ hy33) E [0,1,2,3,4,5] E E fun _ _=>aB aA 2 [] [] [(9,.v (.bool y32)),(10,.cd [(9,true)] (.v (.agg #[.int .i64 x1.1,.slice a28 x1.2.length c29])))] _ E ⟨(Es E),E⟩ ?_
  obtain ⟨y34,hy35,-,h⟩:=aU h
  refine bJ E E E E (fun q40=>oK x1 a28 c29 _ (hy35 q40)) E [6] E E (aB aA 3 [] [] [(13,.v (.bool (bif y32 then y34 else false))),(14,.cd [(13,true)] (.v (.agg #[.int .i64 x2.1,.int .i64 x2.2])))] _ E ⟨(Es E),E⟩ ?_)
  obtain ⟨y37,hy38,-,h⟩:=aU h
  refine bJ E E E E (fun q41=>tI x2 _ (hy38 q41)) E [] E E (aB aA 2 [] [] [(6,.v (.bool (bif (bif y32 then y34 else false) then y37 else false)))] _ E ⟨⟨E,V⟩,E⟩ (aC E ?_))
  cases h
  exact JS.ret aA () V E E [] E

def dR (x0:EdQ) (x1:Int):Option EdQ:=
  (aH (eK x0) fun (y27:EdQ)=>
  some (y27.1,y27.2.1,y27.2.2.1,0,0,0,0,y27.2.2.2.2.2.2.2.1,y27.2.2.2.2.2.2.2.2.1,x1,y27.2.2.2.2.2.2.2.2.2.2.1,y27.2.2.2.2.2.2.2.2.2.2.2.1,y27.2.2.2.2.2.2.2.2.2.2.2.2.1,y27.2.2.2.2.2.2.2.2.2.2.2.2.2.1,y27.2.2.2.2.2.2.2.2.2.2.2.2.2.2.1,y27.2.2.2.2.2.2.2.2.2.2.2.2.2.2.2.1,y27.2.2.2.2.2.2.2.2.2.2.2.2.2.2.2.2))

theorem lB (x0:EdQ) (x1:Int) (q3:P6) (r:EdQ) (h:dR x0 x1=some r):
  FC Tryz.prog 106 [.agg (aK x0 q3).toArray,.int .i64 x1] (cY x0 q3 []) (fun _:P6=>True) (fun q=>.agg (aK r q).toArray) (fun q=>(cY r q [])):=
 by
  refine FC.of (T:=TTx) Tryz.call106 Tryz.func106 E E fun w0=>?_
  unfold dR at h
  refine aR aA 2 [] [7,8] [(2,.bp 7 0),(4,.bp 8 0)] (.new 7 33 (aK x0 q3) (.new 8 33 bP .nil)) ⟨(Es E),(Bs E E)⟩ E E (JS.seq (JS.region (aB aA 1 [] [] [(6,.v (.agg (aK x0 q3).toArray))] _ E ⟨⟨E,V⟩,E⟩ ?_)))
  refine bnw h fun y27 hy28 h=>JO.call E E E E (kJ x0 q3 _ hy28) E [0,1,2,3,4,5] E E fun q29 _=>aS aA 2 [] [29] [(5,.bp 29 0)] (.new 8 33 bP (.new 29 33 (aK y27 q29) .nil)) E ⟨⟨E,V⟩,(Bs E E)⟩ (aC E (aR aA 11 [] [] [] (.new 8 33 bP (.new 29 33 (aK (y27.1,y27.2.1,y27.2.2.1,0,0,0,0,(Q4 y27).2.2.2.1,(Q8 y27).1,x1,(Q8 y27).2.2) q29) .nil)) ⟨V,(Bs E E)⟩ E E (aR aA 2 [] [] [] (.new 8 33 (aK (y27.1,y27.2.1,y27.2.2.1,0,0,0,0,(Q4 y27).2.2.2.1,(Q8 y27).1,x1,(Q8 y27).2.2) q29) .nil) ⟨V,(Bs E E)⟩ E E ?_)))
  cases h
  exact JS.ret aA q29 V E E [0,0,0,0,0,0] E

def lP (x0:Int×List (List UInt8)):Option Int:=
  (aH (iL x0) fun (y6:Bool)=>
  (bif (bif (!y6) then true else (decide ((x0.2.length:Int)=0))) then
  some 0
  else
  some (W ((W (x0.1+(x0.2.length:Int))) - 1))))

theorem zP (x0:Int×List (List UInt8)) (a2:Option Addr) (c3:Nat) (r:Int) (h:lP x0=some r):
  FC Tryz.prog 107 [.agg #[.int .i64 x0.1,.slice a2 x0.2.length c3]] [⟨.str,⟨a2,x0.2.length,c3⟩,x0.2⟩] (fun _:Unit=>True) (fun _=>.int .i64 r) (fun _=>[]):=
 by
  refine FC.of (T:=TTx) Tryz.call107 Tryz.func107 E E fun w0=>?_
  unfold lP at h
  refine aR aA 2 [] [2] [(1,.bp 2 0)] (.new 2 36 [.int .i64 x0.1,.slice a2 x0.2.length c3] .nil) ⟨⟨E,V⟩,(Bs E E)⟩ E E (JS.seq (JS.seq (JS.region (aB aA 1 [] [] [(3,.v (.agg #[.int .i64 x0.1,.slice a2 x0.2.length c3]))] _ E ⟨⟨E,V⟩,E⟩ ?_))))
  refine bnw h fun y6 hy7 h=>JO.call E E E E (oK x0 a2 c3 _ hy7) E [0] E E fun _ _=>aB aA 7 [] [] [(11,.v (.bool (bif (!y6) then true else (decide ((x0.2.length:Int)=0)))))] _ E ⟨⟨E,V⟩,E⟩ (aC E ?_)
  refine aL E h (fun h=>?_) (fun h=>?_)
  ·
   refine aD aA 1 [(2,.v (I 0))] ⟨⟨E,V⟩,E⟩ E E ?_
   cases h
   exact JS.ret aA () V E E [] E
  refine JS.skip (qP aA 8 [(W (x0.1+(x0.2.length:Int))),(W ((W (x0.1+(x0.2.length:Int))) - 1))] [] [(2,.v (I (W ((W (x0.1+(x0.2.length:Int))) - 1))))] _ ⟨⟨V,E⟩,⟨V,E⟩,⟨E,V⟩,E⟩ E E ?_)
  cases h
  exact JS.ret aA () V E E [] E

def fL (x0:List Int×Int) (x1:Int):Option (List Int×Int):=
  (aY (fun (x11:Int)=>
  some (x0.1,x11)) fun j12=>
  (bU ((decide (x1=2))=true) (kT x0) false fun (y7:Bool)=>
  (bif (bif (decide (x1=2)) then y7 else false) then
  j12 (W (x0.2 - 1))
  else
  j12 x0.2)))

theorem nS (x0:List Int×Int) (x1:Int) (a3:Option Addr) (c4:Nat) (r:List Int×Int) (h:fL x0 x1=some r):
  FC Tryz.prog 110 [.agg #[.slice a3 x0.1.length c4,.int .i64 x0.2],.int .i64 x1] [⟨(.int .i64),⟨a3,x0.1.length,c4⟩,x0.1⟩] (fun _:Unit=>True) (fun _=>.agg #[.slice a3 x0.1.length c4,.int .i64 r.2]) (fun _=>[]):=
 by
  refine FC.of (T:=TTx) Tryz.call110 Tryz.func110 E E fun w0=>?_
  unfold fL at h
  refine aR aA 2 [] [2,3] [(2,.bp 2 0),(4,.bp 3 0)] (.new 2 25 [.slice a3 x0.1.length c4,.int .i64 x0.2] (.new 3 25 [.slice none 0 0,.int .i64 0] .nil)) ⟨(Es E),(Bs E E)⟩ E E ?_
  obtain ⟨j12,hj18,h⟩:=aO h
  refine eH (ι:=Int) ⟨fun z=>j12 z=some r,fun z=>[(2,.bp 2 0),(4,.bp 3 0)],fun z=>(.new 2 25 [.slice a3 x0.1.length c4,.int .i64 z] (.new 3 25 [.slice none 0 0,.int .i64 0] .nil)),fun z=>[⟨(.int .i64),⟨a3,x0.1.length,c4⟩,x0.1⟩],fun z=>[],fun z=>0⟩ ?_ ?_
  ·
   refine JS.seq (JS.region (aB aA 4 [] [] [(7,.v (.bool (decide (x1=2)))),(8,.cd [(7,true)] (.v (.agg #[.slice a3 x0.1.length c4,.int .i64 x0.2])))] _ E ⟨(Es E),E⟩ ?_))
   obtain ⟨y7,hy8,-,h⟩:=aU h
   refine bJ E E E E (fun q16=>uK x0 a3 c4 _ (hy8 q16)) E [0] E E (aB aA 1 [] [] [(10,.v (.bool (bif (decide (x1=2)) then y7 else false)))] _ E ⟨⟨E,V⟩,E⟩ (aC E ?_))
   refine aL E h (fun h=>?_) (fun h=>?_)
   ·
    refine yW aA 5 [(W (x0.2 - 1))] [] [] (.new 2 25 [.slice a3 x0.1.length c4,.int .i64 (W (x0.2 - 1))] (.new 3 25 [.slice none 0 0,.int .i64 0] .nil)) ⟨⟨V,E⟩,V,(Bs E E)⟩ E E (aN (W (x0.2 - 1)) h (Es E) (Bs E E) [0] E [] E)
   refine JS.skip (aN x0.2 h (Es E) (Bs E E) [0] E [] E)
  rintro x11 h
  subst hj18
  refine aR aA 2 [] [] [] (.new 3 25 [.slice a3 x0.1.length c4,.int .i64 x11] .nil) ⟨V,(Bs E E)⟩ E E ?_
  cases h
  exact JS.ret aA () V E E [] E

def iM (x0:Int×List (List UInt8)) (x1:Int):Option (List UInt8×Bool):=
  (aH (iL x0) fun (y7:Bool)=>
  (bU ((!y7)=false) (cN x1 x0.1 (W ((W (x0.1+(x0.2.length:Int))) - 1))) false fun (y11:Bool)=>
  (bif (bif (!y7) then true else (!y11)) then
  some ([],false)
  else
  (aI (0≤(W (x1 - x0.1))∧(W (x1 - x0.1))<(x0.2.length:Int)) <|
  some ((at' x0.2 (W (x1 - x0.1))),true)))))

theorem aBq (x0:Int×List (List UInt8)) (x1:Int) (a3:Option Addr) (c4:Nat) (r:List UInt8×Bool) (h:iM x0 x1=some r):
  FC Tryz.prog 141 [.agg #[.int .i64 x0.1,.slice a3 x0.2.length c4],.int .i64 x1] [⟨.str,⟨a3,x0.2.length,c4⟩,x0.2⟩] (fun _:Unit=>True) (fun _=>.tuple #[.string (bs r.1),.bool r.2]) (fun _=>[]):=
 by
  refine FC.of (T:=TTx) Tryz.call141 Tryz.func141 E E fun w0=>?_
  unfold iM at h
  refine aR aA 3 [] [2] [(2,.bp 2 0)] (.new 2 36 [.int .i64 x0.1,.slice a3 x0.2.length c4] .nil) ⟨⟨E,V⟩,(Bs E E)⟩ E E (JS.seq (JS.seq (JS.region (aB aA 1 [] [] [(6,.v (.agg #[.int .i64 x0.1,.slice a3 x0.2.length c4]))] _ E ⟨⟨E,V⟩,E⟩ ?_))))
  refine bnw h fun y7 hy8 h=>JO.call E E E E (oK x0 a3 c4 _ hy8) E [0] E E fun _ _=>aB aA 12 [(W (x0.1+(x0.2.length:Int))),(W ((W (x0.1+(x0.2.length:Int))) - 1))] [] [(9,.v (.bool (!y7))),(10,.cd [(9,false)] (.v (I x1))),(12,.cd [(9,false)] (.v (I x0.1))),(19,.cd [(9,false)] (.v (I (W ((W (x0.1+(x0.2.length:Int))) - 1)))))] _ E ⟨(fun q17=>⟨V,E⟩),(fun q18=>⟨V,E⟩),(Es E),E⟩ ?_
  obtain ⟨y11,hy12,-,h⟩:=aU h
  refine bJ E E E E (fun q19=>dL x1 x0.1 (W ((W (x0.1+(x0.2.length:Int))) - 1)) _ (hy12 q19)) E [] E E (aB aA 2 [] [] [(22,.v (.bool (bif (!y7) then true else (!y11))))] _ E ⟨⟨E,V⟩,E⟩ (aC E ?_))
  refine aL E h (fun h=>?_) (fun h=>?_)
  ·
   refine aD aA 2 [(4,.v (.string (bs []))),(5,.v (.bool false))] ⟨(Es E),E⟩ E E ?_
   cases h
   exact JS.ret aA () V E E [] E
  refine JS.skip (JS.seq (JS.region (bT 0 E fun hs20=>?_)))
  obtain ⟨g15,h⟩:=aF h
  refine aB aA 7 [(W (x1 - x0.1))] [] [(29,.ep ⟨a3,x0.2.length,c4⟩ (Int.toNat (W (x1 - x0.1))*1))] _ E ⟨⟨V,E⟩,hs20.ix g15,⟨E,V⟩,E⟩ (JO.load aA E E E E E E E 0 E E (Int.toNat (W (x1 - x0.1))) 0 (at' x0.2 (W (x1 - x0.1))) ⟨bD g15,E⟩ E E (aB aA 2 [] [] [(4,.v (.string (bs (at' x0.2 (W (x1 - x0.1)))))),(5,.v (.bool true))] _ E ⟨(Es E),E⟩ (aC E ?_)))
  cases h
  exact JS.ret aA () V E E [] E

def oE (x0:List UInt8):Option ((List Int×Int)×Bool):=
  (aH (kV x0) fun (y2,y3)=>
  (bU ((!y3)=false) (dB (y2,(y2.length:Int))) false fun (y7:Bool)=>
  (bif (bif (!y3) then true else (!y7)) then
  some (([],0),false)
  else
  some ((y2,(y2.length:Int)),true))))

theorem aC6 (x0:List UInt8) (r:(List Int×Int)×Bool) (h:oE x0=some r) :
  FC Tryz.prog 142 [.string (bs x0)] [] (fun _:Option Addr×Nat=>True) (fun q=>.tuple #[.agg #[.slice q.1 r.1.1.length q.2,.int .i64 r.1.2],.bool r.2]) (fun q=>[⟨(.int .i64),⟨q.1,r.1.1.length,q.2⟩,r.1.1⟩]):=
 by
  refine FC.of (T:=TTx) Tryz.call142 Tryz.func142 E E fun w0=>?_
  unfold oE at h
  refine aR aA 2 [] [1] [(2,.bp 1 0)] (.new 1 25 [.slice none 0 0,.int .i64 0] .nil) ⟨⟨E,V⟩,(Bs E E)⟩ E E (JS.seq (JS.region (aB aA 1 [] [] [(8,.v (.string (bs x0)))] _ E ⟨⟨E,V⟩,E⟩ ?_)))
  obtain ⟨⟨y2,y3⟩,hy4,h⟩:=aE h
  refine JO.call E E E E (uM x0 _ hy4) E [] E E ?_
  rintro ⟨a5,c6⟩ -
  refine aB aA 5 [] [] [(4,.v (.slice a5 y2.length c6)),(5,.v (.bool y3))] _ E ⟨(Es E),E⟩ (aC E (aR aA 6 [] [8] [(6,.bp 8 0)] (.new 1 25 [.slice none 0 0,.int .i64 0] (.new 8 25 [.slice a5 y2.length c6,.int .i64 (y2.length:Int)] .nil)) ⟨⟨E,V⟩,(Bs E E)⟩ E E (JS.seq (JS.seq (JS.region (aB aA 4 [] [] [(18,.v (.bool (!y3))),(19,.cd [(18,false)] (.v (.agg #[.slice a5 y2.length c6,.int .i64 (y2.length:Int)])))] _ E ⟨(Es E),E⟩ ?_))))))
  obtain ⟨y7,hy8,-,h⟩:=aU h
  refine bJ E E E E (fun q11=>eL (y2,(y2.length:Int)) a5 c6 _ (hy8 q11)) E [0] E E (aB aA 2 [] [] [(22,.v (.bool (bif (!y3) then true else (!y7))))] _ E ⟨⟨E,V⟩,E⟩ (aC E ?_))
  refine aL E h (fun h=>?_) (fun h=>?_)
  ·
   refine aR aA 3 [] [] [(3,.v (.bool false))] (.new 1 25 [.slice none 0 0,.int .i64 0] .nil) ⟨⟨E,V⟩,(Bs E E)⟩ E E ?_
   cases h
   refine aW (.int .i64) Sl.nil E E (JS.ret aA (none,0) V E E [0] E)
  refine JS.skip (aR aA 3 [] [] [(3,.v (.bool true))] (.new 1 25 [.slice a5 y2.length c6,.int .i64 (y2.length:Int)] .nil) ⟨⟨E,V⟩,(Bs E E)⟩ E E ?_)
  cases h
  exact JS.ret aA (a5,c6) V E E [0] E

def mC (x0:EdQ) (x1:Int×List (List UInt8)) (x2:Int):Option (EdQ×Bool):=
  (aH (lR x0) fun (y32:Bool)=>
  (bif (bif (!y32) then true else (bif (!(decide (x2=1))) then (!(decide (x2=(-1)))) else false)) then
  some ((false,0,([],0),0,0,0,0,0,0,0,[],[],0,([],0),[],0,([],0)),false)
  else
  (aH (dR x0 0) fun (y34:EdQ)=>
  (aH (lP x1) fun (y48:Int)=>
  (aY (fun (x51:Int)=>
  (bif (bif (bif (decide (x2=1)) then (!(decide (x0.2.2.2.2.2.2.2.2.2.2.2.2.1=0))) else false) then (decide ((W (x51+1))=(W (y48+1)))) else false) then
  (aH (cM x0.2.2.2.2.2.2.2.2.2.2.2.2.2.1) fun (y56:List Int×Int)=>
  (aH (fL y56 x0.2.1) fun (y60:List Int×Int)=>
  some ((y34.1,y34.2.1,(y56.1,y60.2),y34.2.2.2.1,y34.2.2.2.2.1,y34.2.2.2.2.2.1,y34.2.2.2.2.2.2.1,y34.2.2.2.2.2.2.2.1,y34.2.2.2.2.2.2.2.2.1,y34.2.2.2.2.2.2.2.2.2.1,y34.2.2.2.2.2.2.2.2.2.2.1,[],0,([],0),y34.2.2.2.2.2.2.2.2.2.2.2.2.2.2.1,y34.2.2.2.2.2.2.2.2.2.2.2.2.2.2.2.1,y34.2.2.2.2.2.2.2.2.2.2.2.2.2.2.2.2),true)))
  else
  (aH (iM x1 (W (x51+x2))) fun (y63,y64)=>
  (aH (oE y63) fun (y66,y67)=>
  (bif (bif (!y64) then true else (!y67)) then
  some ((false,0,([],0),0,0,0,0,0,0,0,[],[],0,([],0),[],0,([],0)),false)
  else
  (aY (fun (x72:Int)=>
  (aY (fun ((x80,x83):List Int×Int)=>
  some ((y34.1,y34.2.1,(y66.1,x72),y34.2.2.2.1,y34.2.2.2.2.1,y34.2.2.2.2.2.1,y34.2.2.2.2.2.2.1,y34.2.2.2.2.2.2.2.1,y34.2.2.2.2.2.2.2.2.1,y34.2.2.2.2.2.2.2.2.2.1,y34.2.2.2.2.2.2.2.2.2.2.1,[],(W (x51+x2)),(x80,x83),y34.2.2.2.2.2.2.2.2.2.2.2.2.2.2.1,y34.2.2.2.2.2.2.2.2.2.2.2.2.2.2.2.1,y34.2.2.2.2.2.2.2.2.2.2.2.2.2.2.2.2),true)) fun j84=>
  (bif (decide (x0.2.2.2.2.2.2.2.2.2.2.2.2.1=0)) then
  (aH (cM x0.2.2.1) fun (y75:List Int×Int)=>
  j84 (y75.1,y75.2))
  else
  j84 (y34.2.2.2.2.2.2.2.2.2.2.2.2.2.1.1,y34.2.2.2.2.2.2.2.2.2.2.2.2.2.1.2)))) fun j73=>
  (bif (decide (x0.2.1=2)) then
  j73 0
  else
  j73 y66.2))))))) fun j52=>
  (bif (decide (x0.2.2.2.2.2.2.2.2.2.2.2.2.1=0)) then
  j52 (W (y48+1))
  else
  j52 x0.2.2.2.2.2.2.2.2.2.2.2.2.1))))))

theorem aC7 (x0:EdQ) (x1:Int×List (List UInt8)) (x2:Int) (q4:P6) (a28:Option Addr) (c29:Nat) (r:EdQ×Bool) (h:mC x0 x1 x2=some r):
  FC Tryz.prog 130 [.agg (aK x0 q4).toArray,.agg #[.int .i64 x1.1,.slice a28 x1.2.length c29],.int .i64 x2] (cY x0 q4 [⟨.str,⟨a28,x1.2.length,c29⟩,x1.2⟩]) (fun _:Option Addr×Nat×Option Addr×Nat×Option Addr×Nat×Option Addr×Nat×Option Addr×Nat=>True) (fun q=>.tuple #[.agg (aK (U11 r.1 []) (q.1,q.2.1,q.2.2.1,q.2.2.2.1,none,0,(Q4 q))).toArray,.bool r.2]) (fun q=>[⟨(.int .i64),⟨q.1,r.1.2.2.1.1.length,q.2.1⟩,r.1.2.2.1.1⟩,⟨(.sl (.int .i64)),⟨q.2.2.1,r.1.2.2.2.2.2.2.2.2.2.2.1.length,q.2.2.2.1⟩,r.1.2.2.2.2.2.2.2.2.2.2.1⟩,⟨(.int .i64),⟨(Q4 q).1,r.1.2.2.2.2.2.2.2.2.2.2.2.2.2.1.1.length,(Q4 q).2.1⟩,r.1.2.2.2.2.2.2.2.2.2.2.2.2.2.1.1⟩,⟨(.int .i64),⟨(Q4 q).2.2.1,r.1.2.2.2.2.2.2.2.2.2.2.2.2.2.2.1.length,(Q4 q).2.2.2.1⟩,r.1.2.2.2.2.2.2.2.2.2.2.2.2.2.2.1⟩,⟨(.int .i64),⟨(Q8 q).1,r.1.2.2.2.2.2.2.2.2.2.2.2.2.2.2.2.2.1.length,(Q8 q).2⟩,r.1.2.2.2.2.2.2.2.2.2.2.2.2.2.2.2.2.1⟩]):=
 by
  refine FC.of (T:=TTx) Tryz.call130 Tryz.func130 E E fun w0=>?_
  unfold mC at h
  refine aR aA 4 [] [8,9,10] [(3,.bp 8 0),(4,.bp 9 0),(6,.bp 10 0)] (.new 8 33 (aK x0 q4) (.new 9 36 [.int .i64 x1.1,.slice a28 x1.2.length c29] (.new 10 33 bP .nil))) ⟨(Es E),(Bs E E)⟩ E E (JS.seq (JS.seq (JS.region (aB aA 1 [] [] [(15,.v (.agg (aK x0 q4).toArray))] _ E ⟨⟨E,V⟩,E⟩ ?_))))
  refine bnw h fun y32 hy33 h=>JO.call E E E E (sH x0 q4 _ hy33) E [0,1,2,3,4,5] E E fun _ _=>aB aA 9 [] [] [(25,.v (.bool (bif (!y32) then true else (bif (!(decide (x2=1))) then (!(decide (x2=(-1)))) else false))))] _ E ⟨⟨E,V⟩,E⟩ (aC E ?_)
  refine aL E h (fun h=>?_) (fun h=>?_)
  ·
   refine aR aA 3 [] [] [(7,.v (.bool false))] (.new 10 33 bP .nil) ⟨⟨E,V⟩,(Bs E E)⟩ E E ?_
   cases h
   refine aW (.int .i64) Sl.nil E E (aW (.sl (.int .i64)) Sl.nil E E (aW (.int .i64) Sl.nil E E (aW (.int .i64) Sl.nil E E (aW (.int .i64) Sl.nil E E (JS.ret aA (none,0,none,0,none,0,none,0,none,0) V E E [4,3,2,1,0] E)))))
  refine JS.skip (JS.seq (JS.region (aB aA 1 [] [] [(27,.v (.agg (aK x0 q4).toArray))] _ E ⟨⟨E,V⟩,E⟩ ?_)))
  refine bnw h fun y34 hy35 h=>JO.call E E E E (lB x0 0 q4 _ hy35) E [0,1,2,3,4,5] E E fun q36 _=>aS aA 2 [] [33] [(8,.bp 33 0)] (.new 8 33 (aK x0 q4) (.new 9 36 [.int .i64 x1.1,.slice a28 x1.2.length c29] (.new 10 33 bP (.new 33 33 (aK y34 q36) .nil)))) E ⟨⟨E,V⟩,(Bs E E)⟩ (aC E (aR aA 3 [] [] [] (.new 8 33 (aK x0 q4) (.new 9 36 [.int .i64 x1.1,.slice a28 x1.2.length c29] (.new 10 33 bP (.new 33 33 (aK (U11 y34 []) (q36.1,q36.2.1,q36.2.2.1,q36.2.2.2.1,none,0,(Q4 q36).2.2)) .nil)))) ⟨V,(Bs E E)⟩ E E (JS.seq (JS.region (aB aA 1 [] [] [(31,.v (.agg #[.int .i64 x1.1,.slice a28 x1.2.length c29]))] _ E ⟨⟨E,V⟩,E⟩ ?_)))))
  refine bnw h fun y48 hy49 h=>JO.call E E E E (zP x1 a28 c29 _ hy49) E [6] E E fun _ _=>aB aA 1 [] [] [(9,.v (I y48))] _ E ⟨⟨E,V⟩,E⟩ (aC E (aD aA 3 [(10,.v (I (Q12 x0).1))] ⟨⟨E,V⟩,E⟩ E E ?_))
  obtain ⟨j52,hj101,h⟩:=aO h
  refine eH (ι:=Int) ⟨fun z=>j52 z=some r,fun z=>[(2,.v (I x2)),(3,.bp 8 0),(4,.bp 9 0),(6,.bp 10 0),(8,.bp 33 0),(9,.v (I y48)),(10,.v (I z))],fun z=>(.new 8 33 (aK x0 q4) (.new 9 36 [.int .i64 x1.1,.slice a28 x1.2.length c29] (.new 10 33 bP (.new 33 33 (aK (U11 y34 []) (q36.1,q36.2.1,q36.2.2.1,q36.2.2.2.1,none,0,(Q4 q36).2.2)) .nil)))),fun z=>(cY x0 q4 [⟨.str,⟨a28,x1.2.length,c29⟩,x1.2⟩]),fun z=>[⟨(.int .i64),⟨q36.1,y34.2.2.1.1.length,q36.2.1⟩,y34.2.2.1.1⟩,⟨(.sl (.int .i64)),⟨q36.2.2.1,(Q8 y34).2.2.1.length,q36.2.2.2.1⟩,(Q8 y34).2.2.1⟩,⟨(.int .i64),⟨(Q4 q36).2.2.1,(Q12 y34).2.1.1.length,(Q4 q36).2.2.2.1⟩,(Q12 y34).2.1.1⟩,⟨(.int .i64),⟨(Q8 q36).1,(Q12 y34).2.2.1.length,(Q8 q36).2.1⟩,(Q12 y34).2.2.1⟩,⟨(.int .i64),⟨(Q8 q36).2.2.1,(Q16 y34).1.length,(Q8 q36).2.2.2⟩,(Q16 y34).1⟩],fun z=>0⟩ ?_ ?_
  ·
   refine aD aA 2 [(36,.v (.bool (decide ((Q12 x0).1=0))))] ⟨⟨E,V⟩,E⟩ E E ?_
   refine aL E h (fun h=>?_) (fun h=>?_)
   ·
    refine cW aA 3 [(W (y48+1))] [] [(10,.v (I (W (y48+1))))] _ ⟨⟨V,E⟩,⟨E,V⟩,E⟩ E E (cJ (W (y48+1)) h (Es E) (Bs E E) [0,1,2,3,4,5,6] E [0,1,3,4,5] E E)
   refine JS.skip (cJ (Q12 x0).1 h (Es E) (Bs E E) [0,1,2,3,4,5,6] E [0,1,3,4,5] E E)
  rintro x51 h
  subst hj101
  refine JS.seq (qP aA 14 [(W (x51+1)),(W (y48+1))] [] [(52,.v (.bool (bif (bif (decide (x2=1)) then (!(decide ((Q12 x0).1=0))) else false) then (decide ((W (x51+1))=(W (y48+1)))) else false)))] _ ⟨(fun q93=>⟨V,E⟩),(fun q94=>⟨V,E⟩),⟨E,V⟩,E⟩ E E ?_)
  refine aL E h (fun h=>?_) (fun h=>?_)
  ·
   refine JS.seq ?_
   obtain ⟨y56,hy57,h⟩:=aE h
   refine bnw h fun y60 hy61 h=>bE E (.new 8 33 (aK x0 q4) .nil) [] [5,6,7] ⟨E,E,E,E,V⟩ E (fun be62=>?_)
   refine bV aA aG true 4 [0,1,3,4] E (by kernel_rfl) [] [(54,.v (.agg #[.slice (Q4 q4).2.2.1 (Q12 x0).2.1.1.length (Q4 q4).2.2.2.1,.int .i64 (Q12 x0).2.1.2])),(57,.v (I x0.2.1))] ⟨E,E,E,E,V⟩ [] E E (Es E) (JA.one 2 (by kernel_rfl) (JK.call E E E E (dJ (Q12 x0).2.1 (Q4 q4).2.2.1 (Q4 q4).2.2.2.1 _ hy57) E [3] E E ?_))
   rintro ⟨a58,c59⟩ -
   refine aJ ⟨E,E,E,E,V⟩ [] E (JA.one 5 (by kernel_rfl) (JK.call E E E E (nS y56 x0.2.1 a58 c59 _ hy61) E [7] E E fun _ _=>aP E (aT aA aG 1 [6] E (by kernel_rfl) [] [(59,.bp 33 2)] E ⟨E,V⟩ (JA.one 7 (by kernel_rfl) (bA aA E E E E E E E E (aP E (bG (by kernel_rfl) (aX (B':=(.new 10 33 bP (.new 33 33 (aK (U11 (U2 y34 (y56.1,y60.2)) []) (a58,c59,q36.2.2.1,q36.2.2.2.1,none,0,(Q4 q36).2.2)) .nil))) (Bs E E) (aR aA 5 [] [] [] (.new 10 33 bP (.new 33 33 (aK (U13 (U12 (U11 (U2 y34 (y56.1,y60.2)) []) 0) ([],0)) (a58,c59,q36.2.2.1,q36.2.2.2.1,none,0,none,0,(Q8 q36))) .nil)) ⟨V,(Bs E E)⟩ E E (aR aA 3 [] [] [(7,.v (.bool true))] (.new 10 33 (aK (U13 (U12 (U11 (U2 y34 (y56.1,y60.2)) []) 0) ([],0)) (a58,c59,q36.2.2.1,q36.2.2.2.1,none,0,none,0,(Q8 q36))) .nil) ⟨⟨E,V⟩,(Bs E E)⟩ E E ?_))))))))))
   cases h
   refine aW (.int .i64) Sl.nil E E (JS.ret aA (a58,c59,q36.2.2.1,q36.2.2.2.1,none,0,(Q8 q36)) V E E [1,2,0,2,2] E)
  refine JS.skip (JS.seq (JS.region (aB aA 4 [(W (x51+x2))] [] [(65,.v (.agg #[.int .i64 x1.1,.slice a28 x1.2.length c29])),(68,.v (I (W (x51+x2))))] _ E ⟨⟨V,E⟩,(Es E),E⟩ ?_)))
  obtain ⟨⟨y63,y64⟩,hy65,h⟩:=aE h
  refine JO.call E E E E (aBq x1 (W (x51+x2)) a28 c29 _ hy65) E [6] E E fun _ _=>aB aA 5 [] [] [(11,.v (.string (bs y63))),(12,.v (.bool y64))] _ E ⟨(Es E),E⟩ (aC E (JS.seq (JS.region (aB aA 1 [] [] [(73,.v (.string (bs y63)))] _ E ⟨⟨E,V⟩,E⟩ ?_))))
  obtain ⟨⟨y66,y67⟩,hy68,h⟩:=aE h
  refine JO.call E E E E (aC6 y63 _ hy68) E [] E E ?_
  rintro ⟨a69,c70⟩ -
  refine aS aA 6 [] [55] [(13,.bp 55 0),(14,.v (.bool y67))] (.new 8 33 (aK x0 q4) (.new 10 33 bP (.new 33 33 (aK (U11 y34 []) (q36.1,q36.2.1,q36.2.2.1,q36.2.2.2.1,none,0,(Q4 q36).2.2)) (.new 55 25 [.slice a69 y66.1.length c70,.int .i64 y66.2] .nil)))) E ⟨(Es E),(Bs E E)⟩ (aC E (JS.seq (aD aA 6 [(82,.v (.bool (bif (!y64) then true else (!y67))))] ⟨⟨E,V⟩,E⟩ E E ?_)))
  refine aL E h (fun h=>?_) (fun h=>?_)
  ·
   refine aR aA 3 [] [] [(7,.v (.bool false))] (.new 10 33 bP .nil) ⟨⟨E,V⟩,(Bs E E)⟩ E E ?_
   cases h
   refine aW (.int .i64) Sl.nil E E (aW (.sl (.int .i64)) Sl.nil E E (aW (.int .i64) Sl.nil E E (aW (.int .i64) Sl.nil E E (aW (.int .i64) Sl.nil E E (JS.ret aA (none,0,none,0,none,0,none,0,none,0) V E E [4,3,2,1,0] E)))))
  refine JS.skip ?_
  obtain ⟨j73,hj98,h⟩:=aO h
  refine eH (ι:=Int) ⟨fun z=>j73 z=some r,fun z=>[(2,.v (I x2)),(3,.bp 8 0),(6,.bp 10 0),(8,.bp 33 0),(10,.v (I x51)),(13,.bp 55 0)],fun z=>(.new 8 33 (aK x0 q4) (.new 10 33 bP (.new 33 33 (aK (U11 y34 []) (q36.1,q36.2.1,q36.2.2.1,q36.2.2.2.1,none,0,(Q4 q36).2.2)) (.new 55 25 [.slice a69 y66.1.length c70,.int .i64 z] .nil)))),fun z=>(cY x0 q4 []),fun z=>[⟨(.int .i64),⟨q36.1,y34.2.2.1.1.length,q36.2.1⟩,y34.2.2.1.1⟩,⟨(.sl (.int .i64)),⟨q36.2.2.1,(Q8 y34).2.2.1.length,q36.2.2.2.1⟩,(Q8 y34).2.2.1⟩,⟨(.int .i64),⟨(Q4 q36).2.2.1,(Q12 y34).2.1.1.length,(Q4 q36).2.2.2.1⟩,(Q12 y34).2.1.1⟩,⟨(.int .i64),⟨(Q8 q36).1,(Q12 y34).2.2.1.length,(Q8 q36).2.1⟩,(Q12 y34).2.2.1⟩,⟨(.int .i64),⟨(Q8 q36).2.2.1,(Q16 y34).1.length,(Q8 q36).2.2.2⟩,(Q16 y34).1⟩,⟨(.int .i64),⟨a69,y66.1.length,c70⟩,y66.1⟩],fun z=>0⟩ ?_ ?_
  ·
   refine aD aA 3 [(86,.v (.bool (decide (x0.2.1=2))))] ⟨⟨E,V⟩,E⟩ E E ?_
   refine aL E h (fun h=>?_) (fun h=>?_)
   ·
    refine yW aA 2 [] [] [] (.new 8 33 (aK x0 q4) (.new 10 33 bP (.new 33 33 (aK (U11 y34 []) (q36.1,q36.2.1,q36.2.2.1,q36.2.2.2.1,none,0,(Q4 q36).2.2)) (.new 55 25 [.slice a69 y66.1.length c70,.int .i64 0] .nil)))) ⟨V,(Bs E E)⟩ E E (cJ 0 h (Es E) (Bs E E) [0,1,2,3,4,5] E [1,2,3,4,5,0] E E)
   refine JS.skip (cJ y66.2 h (Es E) (Bs E E) [0,1,2,3,4,5] E [1,2,3,4,5,0] E E)
  rintro x72 h
  subst hj98
  obtain ⟨j84,hj97,h⟩:=aO h
  refine eH (ι:=List Int×Int×Option Addr×Nat) ⟨fun z=>j84 (z.1,z.2.1)=some r,fun z=>[(2,.v (I x2)),(6,.bp 10 0),(8,.bp 33 0),(10,.v (I x51)),(13,.bp 55 0)],fun z=>(.new 10 33 bP (.new 33 33 (aK (U13 (U11 y34 []) (z.1,z.2.1)) (q36.1,q36.2.1,q36.2.2.1,q36.2.2.2.1,none,0,z.2.2.1,z.2.2.2,(Q8 q36))) (.new 55 25 [.slice a69 y66.1.length c70,.int .i64 x72] .nil))),fun z=>[],fun z=>[⟨(.int .i64),⟨z.2.2.1,z.1.length,z.2.2.2⟩,z.1⟩,⟨(.int .i64),⟨q36.1,y34.2.2.1.1.length,q36.2.1⟩,y34.2.2.1.1⟩,⟨(.sl (.int .i64)),⟨q36.2.2.1,(Q8 y34).2.2.1.length,q36.2.2.2.1⟩,(Q8 y34).2.2.1⟩,⟨(.int .i64),⟨(Q8 q36).1,(Q12 y34).2.2.1.length,(Q8 q36).2.1⟩,(Q12 y34).2.2.1⟩,⟨(.int .i64),⟨(Q8 q36).2.2.1,(Q16 y34).1.length,(Q8 q36).2.2.2⟩,(Q16 y34).1⟩,⟨(.int .i64),⟨a69,y66.1.length,c70⟩,y66.1⟩],fun z=>0⟩ ?_ ?_
  ·
   refine aD aA 3 [(90,.v (.bool (decide ((Q12 x0).1=0))))] ⟨⟨E,V⟩,E⟩ E E ?_
   refine aL E h (fun h=>?_) (fun h=>?_)
   ·
    refine JS.region (aB aA 2 [] [] [(92,.v (.agg #[.slice q4.1 x0.2.2.1.1.length q4.2.1,.int .i64 x0.2.2.1.2]))] _ E ⟨⟨E,V⟩,E⟩ ?_)
    refine bnw h fun y75 hy76 h=>JO.call E E E E (dJ x0.2.2.1 q4.1 q4.2.1 _ hy76) E [0] E E ?_
    rintro ⟨a77,c78⟩ -
    refine aS aA 2 [] [] [] (.new 10 33 bP (.new 33 33 (aK (U13 (U11 y34 []) y75) (q36.1,q36.2.1,q36.2.2.1,q36.2.2.2.1,none,0,a77,c78,(Q8 q36))) (.new 55 25 [.slice a69 y66.1.length c70,.int .i64 x72] .nil))) E ⟨V,(Bs E E)⟩ (aC E (cJ (y75.1,y75.2,a77,c78) h (Es E) (Bs E E) [] E [0,1,2,4,5,6] E E))
   refine JS.skip (cJ ((Q12 y34).2.1.1,(Q12 y34).2.1.2,(Q4 q36).2.2.1,(Q4 q36).2.2.2.1) h (Es E) (Bs E E) [] E [2,0,1,3,4,5] E E)
  rintro ⟨x80,x83,a81,c82⟩ h
  subst hj97
  refine aR aA 8 [(W (x51+x2))] [] [] (.new 10 33 bP (.new 33 33 (aK (U13 (U12 (U11 (U2 y34 (y66.1,x72)) []) (W (x51+x2))) (x80,x83)) (a69,c70,q36.2.2.1,q36.2.2.2.1,none,0,a81,c82,(Q8 q36))) .nil)) ⟨⟨V,E⟩,V,(Bs E E)⟩ E E (aR aA 3 [] [] [(7,.v (.bool true))] (.new 10 33 (aK (U13 (U12 (U11 (U2 y34 (y66.1,x72)) []) (W (x51+x2))) (x80,x83)) (a69,c70,q36.2.2.1,q36.2.2.2.1,none,0,a81,c82,(Q8 q36))) .nil) ⟨⟨E,V⟩,(Bs E E)⟩ E E ?_)
  cases h
  exact JS.ret aA (a69,c70,q36.2.2.1,q36.2.2.2.1,a81,c82,(Q8 q36)) V E E [5,2,0,1,1] E

def dW (x0:EdQ):Option (EdQ×Int):=
  (aH (dR x0 0) fun (y26:EdQ)=>
  some (y26,1))

theorem eV (x0:EdQ) (q2:P6) (r:EdQ×Int) (h:dW x0=some r):
  FC Tryz.prog 73 [.agg (aK x0 q2).toArray] (cY x0 q2 []) (fun _:P6=>True) (fun q=>.tuple #[.agg (aK r.1 q).toArray,.int .i64 r.2]) (fun q=>(cY r.1 q [])):=
 by
  refine FC.of (T:=TTx) Tryz.call73 Tryz.func73 E E fun w0=>?_
  unfold dW at h
  refine aR aA 3 [] [7,8] [(1,.bp 7 0),(2,.bp 8 0)] (.new 7 33 (aK x0 q2) (.new 8 33 bP .nil)) ⟨(Es E),(Bs E E)⟩ E E (JS.seq (JS.region (aB aA 1 [] [] [(4,.v (.agg (aK x0 q2).toArray))] _ E ⟨⟨E,V⟩,E⟩ ?_)))
  refine bnw h fun y26 hy27 h=>JO.call E E E E (lB x0 0 q2 _ hy27) E [0,1,2,3,4,5] E E fun q28 _=>aS aA 2 [] [] [(3,.v (I 1))] (.new 8 33 (aK y26 q28) .nil) E ⟨⟨E,V⟩,(Bs E E)⟩ (aC E ?_)
  cases h
  exact JS.ret aA q28 V E E [0,0,0,0,0,0] E

def pI (x0:EdQ) (x1:Int×List (List UInt8)) (x2:Int):Option (EdQ×Int):=
  (aH (mC x0 x1 x2) fun (y32,y33)=>
  (bif (!y33) then
  (aH (dW x0) fun (y45,y46)=>
  some (y45,y46))
  else
  some ((y32.1,y32.2.1,y32.2.2.1,y32.2.2.2.1,y32.2.2.2.2.1,y32.2.2.2.2.2.1,y32.2.2.2.2.2.2.1,y32.2.2.2.2.2.2.2.1,y32.2.2.2.2.2.2.2.2.1,y32.2.2.2.2.2.2.2.2.2.1,y32.2.2.2.2.2.2.2.2.2.2.1,[],y32.2.2.2.2.2.2.2.2.2.2.2.2.1,y32.2.2.2.2.2.2.2.2.2.2.2.2.2.1,y32.2.2.2.2.2.2.2.2.2.2.2.2.2.2.1,y32.2.2.2.2.2.2.2.2.2.2.2.2.2.2.2.1,y32.2.2.2.2.2.2.2.2.2.2.2.2.2.2.2.2),0)))

theorem aAg (x0:EdQ) (x1:Int×List (List UInt8)) (x2:Int) (q4:P6) (a28:Option Addr) (c29:Nat) (r:EdQ×Int) (h:pI x0 x1 x2=some r):
  FC Tryz.prog 90 [.agg (aK x0 q4).toArray,.agg #[.int .i64 x1.1,.slice a28 x1.2.length c29],.int .i64 x2] (cY x0 q4 [⟨.str,⟨a28,x1.2.length,c29⟩,x1.2⟩]) (fun _:P6=>True) (fun q=>.tuple #[.agg (aK r.1 q).toArray,.int .i64 r.2]) (fun q=>(cY r.1 q [])):=
 by
  refine FC.of (T:=TTx) Tryz.call90 Tryz.func90 E E fun w0=>?_
  unfold pI at h
  refine aR aA 4 [] [8,9,10] [(3,.bp 8 0),(4,.bp 9 0),(6,.bp 10 0)] (.new 8 33 (aK x0 q4) (.new 9 36 [.int .i64 x1.1,.slice a28 x1.2.length c29] (.new 10 33 bP .nil))) ⟨(Es E),(Bs E E)⟩ E E (JS.seq (JS.region (aB aA 3 [] [] [(11,.v (.agg (aK x0 q4).toArray)),(12,.v (.agg #[.int .i64 x1.1,.slice a28 x1.2.length c29])),(13,.v (I x2))] _ E ⟨(Es E),E⟩ ?_)))
  obtain ⟨⟨y32,y33⟩,hy34,h⟩:=aE h
  refine JO.call E E E E (aC7 x0 x1 x2 q4 a28 c29 _ hy34) E [0,1,2,3,4,5,6] E E ?_
  rintro ⟨a35,c36,a37,c38,a39,c40,a41,c42,a43,c44⟩ -
  refine aS aA 6 [] [29] [(8,.bp 29 0),(9,.v (.bool y33))] (.new 8 33 (aK x0 q4) (.new 10 33 bP (.new 29 33 (aK (U11 y32 []) (a35,c36,a37,c38,none,0,a39,c40,a41,c42,a43,c44)) .nil))) E ⟨(Es E),(Bs E E)⟩ (aC E (JS.seq (aD aA 2 [(18,.v (.bool (!y33)))] ⟨⟨E,V⟩,E⟩ E E ?_)))
  refine aL E h (fun h=>?_) (fun h=>?_)
  ·
   refine JS.seq (JS.region (aB aA 1 [] [] [(19,.v (.agg (aK x0 q4).toArray))] _ E ⟨⟨E,V⟩,E⟩ ?_))
   obtain ⟨⟨y45,y46⟩,hy47,h⟩:=aE h
   refine JO.call E E E E (eV x0 q4 _ hy47) E [0,1,2,3,4,5] E E fun q48 _=>aS aA 4 [] [] [(7,.v (I y46))] (.new 10 33 (aK y45 q48) .nil) E ⟨⟨E,V⟩,(Bs E E)⟩ (aC E ?_)
   cases h
   exact JS.ret aA q48 V E E [0,0,0,0,0,0] E
  refine JS.skip (aR aA 3 [] [] [(7,.v (I 0))] (.new 10 33 (aK (U11 y32 []) (a35,c36,a37,c38,none,0,a39,c40,a41,c42,a43,c44)) .nil) ⟨⟨E,V⟩,(Bs E E)⟩ E E ?_)
  cases h
  refine aW (.pair (.sl (.int .i64)) (.int .i64)) Sl.nil E E (JS.ret aA (a35,c36,a37,c38,none,0,a39,c40,a41,c42,a43,c44) V E E [1,1,0,0,0,0] E)

def eS (x0:List Int×Int) (x1:Int):Option (List Int×Int):=
  (aH (cG x0.1) fun (y7:List Int)=>
  some (y7,(max (0:Int) (min x1 (x0.1.length:Int)))))

theorem kI (x0:List Int×Int) (x1:Int) (a3:Option Addr) (c4:Nat) (r:List Int×Int) (h:eS x0 x1=some r):
  FC Tryz.prog 89 [.agg #[.slice a3 x0.1.length c4,.int .i64 x0.2],.int .i64 x1] [⟨(.int .i64),⟨a3,x0.1.length,c4⟩,x0.1⟩] (fun _:Option Addr×Nat=>True) (fun q=>.agg #[.slice q.1 r.1.length q.2,.int .i64 r.2]) (fun q=>[⟨(.int .i64),⟨q.1,r.1.length,q.2⟩,r.1⟩]):=
 by
  refine FC.of (T:=TTx) Tryz.call89 Tryz.func89 E E fun w0=>?_
  unfold eS at h
  refine aR aA 2 [] [2,3] [(2,.bp 2 0),(4,.bp 3 0)] (.new 2 25 [.slice a3 x0.1.length c4,.int .i64 x0.2] (.new 3 25 [.slice none 0 0,.int .i64 0] .nil)) ⟨(Es E),(Bs E E)⟩ E E (JS.seq ?_)
  refine bnw h fun y7 hy8 h=>bE E (.new 2 25 [.slice a3 x0.1.length c4,.int .i64 x0.2] .nil) [] [9,10] ⟨E,E,E,E,V⟩ E (fun be11=>?_)
  refine bV aA aG true 3 [0,1,3,4,5,6,7,8] E (by kernel_rfl) [] [(6,.v (.slice a3 x0.1.length c4)),(13,.v (I (max (0:Int) (min x1 (x0.1.length:Int)))))] ⟨E,E,E,E,V⟩ [] E E (Es E) (JA.one 2 (by kernel_rfl) (JK.call E E E E (cS x0.1 a3 c4 _ hy8) E [0] E E ?_))
  rintro ⟨a9,c10⟩ -
  refine aJ ⟨E,E,E,E,V⟩ [] E (aT aA aG 1 [9] E (by kernel_rfl) [] [(14,.v (.agg #[.slice a9 y7.length c10,.int .i64 (max (0:Int) (min x1 (x0.1.length:Int)))]))] E ⟨E,V⟩ (JA.one 10 (by kernel_rfl) (bA aA E E E E E E E E (aP E (bG (by kernel_rfl) (aX (B':=(.new 3 25 [.slice a9 y7.length c10,.int .i64 (max (0:Int) (min x1 (x0.1.length:Int)))] .nil)) (Bs E E) ?_))))))
  cases h
  exact JS.ret aA (a9,c10) V E E [0] E

def gF (x0:List Int) (x1:List Int) (j28:Unit→Option Bool) (k20:Int→Option Bool):Int→Option Bool:=fun x11=>
  (bif (decide (x11<(x0.length:Int))) then
  (aI (0≤x11∧x11<(x0.length:Int)) <|
  (aI (0≤x11∧x11<(x1.length:Int)) <|
  (bif (!(decide ((at' x0 x11)=(at' x1 x11)))) then
  some false
  else
  k20 (W (x11+1)))))
  else
  j28 ())

def fY (x0:List Int) (x1:List Int):Option Bool:=
  (bif (!(decide ((x0.length:Int)=(x1.length:Int)))) then
  some false
  else
  (aY (fun (_:Unit)=>
  some true) fun j28=>
  (bI (gF x0 x1 j28) bO 0)))

theorem oP (x0:List Int) (x1:List Int) (a3:Option Addr) (c4:Nat) (a7:Option Addr) (c8:Nat) (r:Bool) (h:fY x0 x1=some r):
  FC Tryz.prog 131 [.slice a3 x0.length c4,.slice a7 x1.length c8] [⟨(.int .i64),⟨a3,x0.length,c4⟩,x0⟩,⟨(.int .i64),⟨a7,x1.length,c8⟩,x1⟩] (fun _:Unit=>True) (fun _=>.bool r) (fun _=>[]):=
 by
  refine FC.of (T:=TTx) Tryz.call131 Tryz.func131 E E fun w0=>?_
  unfold fY at h
  refine aD aA 1 [] ⟨V,E⟩ E E (JS.seq (aD aA 5 [(10,.v (.bool (!(decide ((x0.length:Int)=(x1.length:Int))))))] ⟨⟨E,V⟩,E⟩ E E ?_))
  refine aL E h (fun h=>?_) (fun h=>?_)
  ·
   refine aD aA 1 [(4,.v (.bool false))] ⟨⟨E,V⟩,E⟩ E E ?_
   cases h
   exact JS.ret aA () V E E [] E
  refine JS.skip (JS.seq (aD aA 3 [(12,.v (I (x0.length:Int))),(13,.v (I 0))] ⟨(Es E),E⟩ E E ?_))
  obtain ⟨j28,hj43,h⟩:=aO h
  refine bF (ι:=Unit) ⟨fun _=>j28 ()=some r,fun _=>[],fun _=>.nil,fun _=>[],fun _=>[],fun _=>0⟩ ?_ ?_
  ·
   refine JS.loop (ι:=Nat×Int) ⟨fun z=>bI (gF x0 x1 j28) z.1 z.2=some r,fun z=>[(0,.v (.slice a3 x0.length c4)),(1,.v (.slice a7 x1.length c8)),(12,.v (I (x0.length:Int))),(13,.v (I z.2))],fun z=>.nil,fun z=>[⟨(.int .i64),⟨a3,x0.length,c4⟩,x0⟩,⟨(.int .i64),⟨a7,x1.length,c8⟩,x1⟩],fun z=>[],fun z=>z.1⟩ (bO,0) h (Es E) V [0,1] E [] E ?_
   rintro ⟨n21,x11⟩ h
   obtain ⟨n21,rfl,h⟩:=bM h
   rw [gF] at h
   refine aD aA 1 [(14,.v (.bool (decide (x11<(x0.length:Int)))))] ⟨⟨E,V⟩,E⟩ E E (JS.seq ?_)
   refine aL E h (fun h=>?_) (fun h=>?_)
   ·
    refine JS.skip (JS.seq (JS.block (aD aA 2 [(5,.v (I x11))] ⟨⟨E,V⟩,E⟩ E E (JS.seq ?_))))
    obtain ⟨g13,h⟩:=aF h
    obtain ⟨g15,h⟩:=aF h
    refine gR 0 E fun hs39=>gR 1 E fun hs40=>iO E (by kernel_rfl) (fN aA 3 [] [(18,.ep ⟨a3,x0.length,c4⟩ (Int.toNat x11*1))] E ⟨hs39.ix g13,⟨E,V⟩⟩ (JQ.load aA E E E E E E E 0 E E (Int.toNat x11) 0 (at' x0 x11) ⟨bD g13,E⟩ E E (fN aA 3 [] [(22,.ep ⟨a7,x1.length,c8⟩ (Int.toNat x11*1))] E ⟨hs40.ix g15,⟨E,V⟩⟩ (JQ.load aA E E E E E E E 1 E E (Int.toNat x11) 0 (at' x1 x11) ⟨bD g15,E⟩ E E (fN aA 1 [] [(24,.v (.bool (!(decide ((at' x0 x11)=(at' x1 x11))))))] E ⟨E,V⟩ (oM E ?_))))))
    refine aL E h (fun h=>?_) (fun h=>?_)
    ·
     refine aD aA 1 [(4,.v (.bool false))] ⟨⟨E,V⟩,E⟩ E E ?_
     cases h
     exact JS.ret aA () V E E [] E
    refine JS.skip (aV (cW aA 2 [(W (x11+1))] [] [(13,.v (I (W (x11+1))))] _ ⟨⟨V,E⟩,⟨E,V⟩,E⟩ E E (bZ (n21,(W (x11+1))) h (Nat.lt_succ_self _) (Es E) V [0,1] E [] E)))
   refine JS.exit E (aN () h V V [] E [] E)
  rintro _ h
  subst hj43
  refine aD aA 1 [(4,.v (.bool true))] ⟨⟨E,V⟩,E⟩ E E ?_
  cases h
  exact JS.ret aA () V E E [] E

def mR (x0:List (List Int×Int)) (x1:List Int×Int):Option ((List (List Int×Int))×Bool):=
  (aH (kC x0) fun (y11:Bool)=>
  (bU ((!y11)=false) (dB x1) false fun (y13:Bool)=>
  (bif (bif (!y11) then true else (!y13)) then
  some ([],false)
  else
  (aH (fZ x0) fun (y16:List (List Int×Int))=>
  (aI (((decide (0<(y16.length:Int)))=true)→0≤(W ((y16.length:Int) - 1))∧(W ((y16.length:Int) - 1))<(y16.length:Int)) <|
  (bU ((decide (0<(y16.length:Int)))=true) (fY ((at' y16 (W ((y16.length:Int) - 1))).1) x1.1) false fun (y30:Bool)=>
  (bif (bif (decide (0<(y16.length:Int))) then y30 else false) then
  some (y16,true)
  else
  (aH (cM x1) fun (y45:List Int×Int)=>
  (aI (y16.length+([y45]:List (List Int×Int)).length≤536870912) <|
  (aY (fun (x58:List (List Int×Int))=>
  some (x58,true)) fun j61=>
  (bif (decide (20<((y16 ++ ([y45]:List (List Int×Int))).length:Int))) then
  (aI (0≤(1:Int)∧(1:Int)≤((y16 ++ ([y45]:List (List Int×Int))).length:Int)∧((y16 ++ ([y45]:List (List Int×Int))).length:Int)≤((y16 ++ ([y45]:List (List Int×Int))).length:Int)) <|
  j61 (bC (y16 ++ ([y45]:List (List Int×Int))) 1 ((y16 ++ ([y45]:List (List Int×Int))).length:Int)))
  else
  j61 (y16 ++ ([y45]:List (List Int×Int))))))))))))))

theorem aBm (x0:List (List Int×Int)) (x1:List Int×Int) (a3:Option Addr) (c4:Nat) (a7:Option Addr) (c8:Nat) (r:(List (List Int×Int))×Bool) (h:mR x0 x1=some r):
  FC Tryz.prog 137 [.agg #[.slice a3 x0.length c4],.agg #[.slice a7 x1.1.length c8,.int .i64 x1.2]] [⟨(.pair (.sl (.int .i64)) (.int .i64)),⟨a3,x0.length,c4⟩,x0⟩,⟨(.int .i64),⟨a7,x1.1.length,c8⟩,x1.1⟩] (fun _:Option Addr×Nat=>True) (fun q=>.tuple #[.agg #[.slice q.1 r.1.length q.2],.bool r.2]) (fun q=>[⟨(.pair (.sl (.int .i64)) (.int .i64)),⟨q.1,r.1.length,q.2⟩,r.1⟩]):=
 by
  refine FC.of (T:=TTx) Tryz.call137 Tryz.func137 E E fun w0=>?_
  unfold mR at h
  refine aR aA 4 [] [3,4,5] [(2,.bp 3 0),(3,.bp 4 0),(4,.bp 5 0)] (.new 3 31 [.slice a3 x0.length c4] (.new 4 25 [.slice a7 x1.1.length c8,.int .i64 x1.2] (.new 5 31 [.slice none 0 0] .nil))) ⟨(Es E),(Bs E E)⟩ E E (JS.seq (JS.seq (JS.region (aB aA 1 [] [] [(8,.v (.agg #[.slice a3 x0.length c4]))] _ E ⟨⟨E,V⟩,E⟩ ?_))))
  refine bnw h fun y11 hy12 h=>JO.call E E E E (rE x0 a3 c4 _ hy12) E [0] E E fun _ _=>aB aA 3 [] [] [(11,.v (.bool (!y11))),(12,.cd [(11,false)] (.v (.agg #[.slice a7 x1.1.length c8,.int .i64 x1.2])))] _ E ⟨(Es E),E⟩ ?_
  obtain ⟨y13,hy14,-,h⟩:=aU h
  refine bJ E E E E (fun q66=>eL x1 a7 c8 _ (hy14 q66)) E [1] E E (aB aA 2 [] [] [(15,.v (.bool (bif (!y11) then true else (!y13))))] _ E ⟨⟨E,V⟩,E⟩ (aC E ?_))
  refine aL E h (fun h=>?_) (fun h=>?_)
  ·
   refine aR aA 3 [] [] [(5,.v (.bool false))] (.new 5 31 [.slice none 0 0] .nil) ⟨⟨E,V⟩,(Bs E E)⟩ E E ?_
   cases h
   refine aW (.pair (.sl (.int .i64)) (.int .i64)) Sl.nil E E (JS.ret aA (none,0) V E E [0] E)
  refine JS.skip (JS.seq (JS.region (aB aA 1 [] [] [(17,.v (.agg #[.slice a3 x0.length c4]))] _ E ⟨⟨E,V⟩,E⟩ ?_)))
  refine bnw h fun y16 hy17 h=>JO.call E E E E (oR x0 a3 c4 _ hy17) E [0] E E ?_
  rintro ⟨a18,c19⟩ -
  refine aS aA 2 [] [15] [(6,.bp 15 0)] (.new 4 25 [.slice a7 x1.1.length c8,.int .i64 x1.2] (.new 5 31 [.slice none 0 0] (.new 15 31 [.slice a18 y16.length c19] .nil))) E ⟨⟨E,V⟩,(Bs E E)⟩ (aC E (JS.seq (aD aA 4 [(7,.v (I (y16.length:Int)))] ⟨⟨E,V⟩,E⟩ E E (JS.seq ?_))))
  obtain ⟨g22,h⟩:=aF h
  obtain ⟨y30,hy31,-,h⟩:=aU h
  refine tT (id:=0) (wZ [0] E (Int.toNat (W ((y16.length:Int) - 1))) (at' y16 (W ((y16.length:Int) - 1))) E ?_)
  intro a25 c26 l27 hl28
  obtain rfl:([.slice a25 ((at' y16 (W ((y16.length:Int) - 1))).1).length c26,.int .i64 (at' y16 (W ((y16.length:Int) - 1))).2]:List Value)=l27:=Option.some.inj hl28
  refine tU (gR 2 E fun hs80=>iO E (by kernel_rfl) (fN aA 9 [(W ((y16.length:Int) - 1))] [(24,.v (.bool (decide (0<(y16.length:Int))))),(30,.cd [(24,true)] (.ep ⟨a18,y16.length,c19⟩ (Int.toNat (W ((y16.length:Int) - 1))*2)))] E ⟨(fun q79=>⟨V,E⟩),(fun q81=>(hs80.cast (kL _ _ _)).ix (g22 q81)),(fun q82=>(hs80.cast (kL _ _ _)).fa (g22 q82)),(Es E)⟩ (oG aA E E E E E E 2 E E (Int.toNat (W ((y16.length:Int) - 1))) 0 (Sum.inr [.slice a25 ((at' y16 (W ((y16.length:Int) - 1))).1).length c26,.int .i64 (at' y16 (W ((y16.length:Int) - 1))).2]) (fun q83=>⟨pC (bD (g22 q83)),E⟩) E E E (fN aA 2 [] [(33,.cd [(24,true)] (.v (.slice a7 x1.1.length c8)))] E ⟨E,V⟩ (JQ.call E E E E (fun q84=>oP ((at' y16 (W ((y16.length:Int) - 1))).1) x1.1 a25 c26 a7 c8 _ (hy31 q84)) E [3,1] E E (fN aA 1 [] [(35,.v (.bool (bif (decide (0<(y16.length:Int))) then y30 else false)))] E ⟨E,V⟩ (oM E ?_)))))))
  refine tT (id:=0) (yX [0,0] E (at' y16 (W ((y16.length:Int) - 1))) E ⟨E,E,E⟩ (tU ?_))
  refine aL E h (fun h=>?_) (fun h=>?_)
  ·
   refine aR aA 3 [] [] [(5,.v (.bool true))] (.new 5 31 [.slice a18 y16.length c19] .nil) ⟨⟨E,V⟩,(Bs E E)⟩ E E ?_
   cases h
   exact JS.ret aA (a18,c19) V E E [0] E
  refine JS.skip (JS.seq ?_)
  obtain ⟨y45,hy46,h⟩:=aE h
  obtain ⟨g50,h⟩:=aF h
  refine bE E (.new 4 25 [.slice a7 x1.1.length c8,.int .i64 x1.2] (.new 15 31 [.slice a18 y16.length c19] .nil)) [] [5,6,7] ⟨E,E,E,E,E,E,E,E,V⟩ E (fun be53=>?_)
  refine bV aA aG true 5 [0,1,2] E (by kernel_rfl) [] [(38,.v (.slice a18 y16.length c19)),(39,.v (.agg #[.slice a7 x1.1.length c8,.int .i64 x1.2]))] ⟨E,E,E,E,E,E,E,E,V⟩ [] E E (Es E) (JA.one 3 (by kernel_rfl) (JK.call E E E E (dJ x1 a7 c8 _ hy46) E [1] E E ?_))
  rintro ⟨a47,c48⟩ -
  refine aJ ⟨E,E,E,E,E,E,E,E,V⟩ [] E (JA.one 4 (by kernel_rfl) (JK.buildSlice aA E E E E E E E E E E E [0] E (.pair (.sl (.int .i64)) (.int .i64)) [y45] ⟨E,E,E⟩ E E fun a49=>aJ ⟨E,E,E,E,E,E,E,E,V⟩ [] E (JA.one 5 (by kernel_rfl) (iP aA E E E E ⟨E,E,E,E,V,E,E,E,E⟩ E E [1,0] E g50 E fun a51 c52=>aP E (aT aA aG 1 [6] E (by kernel_rfl) [] [(43,.bp 15 0)] E ⟨E,V⟩ (JA.one 7 (by kernel_rfl) (bA aA E E E E E E E E (aP E (bG (by kernel_rfl) (aX (B':=(.new 5 31 [.slice none 0 0] (.new 15 31 [.slice a51 (y16 ++ ([y45]:List (List Int×Int))).length c52] .nil))) (Bs E E) ?_))))))))))
  obtain ⟨j61,hj86,h⟩:=aO h
  refine eH (ι:=(List (List Int×Int))×Option Addr×Nat) ⟨fun z=>j61 z.1=some r,fun z=>[(4,.bp 5 0),(6,.bp 15 0)],fun z=>(.new 5 31 [.slice none 0 0] (.new 15 31 [.slice z.2.1 z.1.length z.2.2] .nil)),fun z=>[],fun z=>[⟨(.pair (.sl (.int .i64)) (.int .i64)),⟨z.2.1,z.1.length,z.2.2⟩,z.1⟩],fun z=>0⟩ ?_ ?_
  ·
   refine aD aA 4 [(47,.v (.bool (decide (20<((y16 ++ ([y45]:List (List Int×Int))).length:Int)))))] ⟨⟨E,V⟩,E⟩ E E ?_
   refine aL E h (fun h=>?_) (fun h=>?_)
   ·
    refine JS.region (aB aA 2 [] [] [(49,.v (.slice a51 (y16 ++ ([y45]:List (List Int×Int))).length c52))] _ E ⟨⟨E,V⟩,E⟩ ?_)
    obtain ⟨g54,h⟩:=aF h
    refine oH aA E E E E E E E E [0] E (1:Int) ((y16 ++ ([y45]:List (List Int×Int))).length:Int) E E g54 E fun a55 c56=>aS aA 2 [] [] [] (.new 5 31 [.slice none 0 0] (.new 15 31 [.slice a55 (bC (y16 ++ ([y45]:List (List Int×Int))) 1 ((y16 ++ ([y45]:List (List Int×Int))).length:Int)).length c56] .nil)) E ⟨V,(Bs E E)⟩ (aC E (aN ((bC (y16 ++ ([y45]:List (List Int×Int))) 1 ((y16 ++ ([y45]:List (List Int×Int))).length:Int)),a55,c56) h (Es E) (Bs E E) [] E [0] E))
   refine JS.skip (aN ((y16 ++ ([y45]:List (List Int×Int))),a51,c52) h (Es E) (Bs E E) [] E [0] E)
  rintro ⟨x58,a59,c60⟩ h
  subst hj86
  refine aR aA 3 [] [] [(5,.v (.bool true))] (.new 5 31 [.slice a59 x58.length c60] .nil) ⟨⟨E,V⟩,(Bs E E)⟩ E E ?_
  cases h
  exact JS.ret aA (a59,c60) V E E [0] E

def nH (x0:EdQ) (x1:List Int×Int) (x2:Int):Option EdQ:=
  (aH (dR x0 x2) fun (y32:EdQ)=>
  (aY (fun (x54:List (List Int×Int))=>
  (aH (cM x1) fun (y59:List Int×Int)=>
  (aH (fL y59 x0.2.1) fun (y63:List Int×Int)=>
  some (y32.1,y32.2.1,(y59.1,y63.2),y32.2.2.2.1,y32.2.2.2.2.1,y32.2.2.2.2.2.1,y32.2.2.2.2.2.2.1,y32.2.2.2.2.2.2.2.1,y32.2.2.2.2.2.2.2.2.1,y32.2.2.2.2.2.2.2.2.2.1,y32.2.2.2.2.2.2.2.2.2.2.1,x54,y32.2.2.2.2.2.2.2.2.2.2.2.2.1,y32.2.2.2.2.2.2.2.2.2.2.2.2.2.1,y32.2.2.2.2.2.2.2.2.2.2.2.2.2.2.1,y32.2.2.2.2.2.2.2.2.2.2.2.2.2.2.2.1,y32.2.2.2.2.2.2.2.2.2.2.2.2.2.2.2.2)))) fun j57=>
  (aH (fY x1.1 x0.2.2.1.1) fun (y46:Bool)=>
  (bif (bif (!y46) then (!(bif (decide (x2=1)) then (decide (x0.2.2.2.2.2.2.2.2.2.1=1)) else false)) else false) then
  (aH (mR x0.2.2.2.2.2.2.2.2.2.2.2.1 x0.2.2.1) fun (y48,y49)=>
  j57 y48)
  else
  j57 y32.2.2.2.2.2.2.2.2.2.2.2.1))))

theorem uI (x0:EdQ) (x1:List Int×Int) (x2:Int) (q4:P6) (a28:Option Addr) (c29:Nat) (r:EdQ) (h:nH x0 x1 x2=some r):
  FC Tryz.prog 100 [.agg (aK x0 q4).toArray,.agg #[.slice a28 x1.1.length c29,.int .i64 x1.2],.int .i64 x2] (cY x0 q4 [⟨(.int .i64),⟨a28,x1.1.length,c29⟩,x1.1⟩]) (fun _:P6=>True) (fun q=>.agg (aK r q).toArray) (fun q=>(cY r q [])):=
 by
  refine FC.of (T:=TTx) Tryz.call100 Tryz.func100 E E fun w0=>?_
  unfold nH at h
  refine aR aA 3 [] [8,9,10] [(3,.bp 8 0),(4,.bp 9 0),(6,.bp 10 0)] (.new 8 33 (aK x0 q4) (.new 9 25 [.slice a28 x1.1.length c29,.int .i64 x1.2] (.new 10 33 bP .nil))) ⟨(Es E),(Bs E E)⟩ E E (JS.seq (JS.region (aB aA 2 [] [] [(8,.v (.agg (aK x0 q4).toArray)),(9,.v (I x2))] _ E ⟨(Es E),E⟩ ?_)))
  refine bnw h fun y32 hy33 h=>JO.call E E E E (lB x0 x2 q4 _ hy33) E [0,1,2,3,4,5] E E fun q34 _=>aS aA 2 [] [31] [(7,.bp 31 0)] (.new 8 33 (aK x0 q4) (.new 9 25 [.slice a28 x1.1.length c29,.int .i64 x1.2] (.new 10 33 bP (.new 31 33 (aK y32 q34) .nil)))) E ⟨⟨E,V⟩,(Bs E E)⟩ (aC E ?_)
  obtain ⟨j57,hj68,h⟩:=aO h
  refine eH (ι:=(List (List Int×Int))×Option Addr×Nat) ⟨fun z=>j57 z.1=some r,fun z=>[(3,.bp 8 0),(4,.bp 9 0),(6,.bp 10 0),(7,.bp 31 0)],fun z=>(.new 8 33 (aK x0 q4) (.new 9 25 [.slice a28 x1.1.length c29,.int .i64 x1.2] (.new 10 33 bP (.new 31 33 (aK (U11 y32 z.1) (q34.1,q34.2.1,q34.2.2.1,q34.2.2.2.1,z.2.1,z.2.2,(Q4 q34).2.2)) .nil)))),fun z=>(cY x0 q4 [⟨(.int .i64),⟨a28,x1.1.length,c29⟩,x1.1⟩]),fun z=>[⟨(.pair (.sl (.int .i64)) (.int .i64)),⟨z.2.1,z.1.length,z.2.2⟩,z.1⟩,⟨(.int .i64),⟨q34.1,y32.2.2.1.1.length,q34.2.1⟩,y32.2.2.1.1⟩,⟨(.sl (.int .i64)),⟨q34.2.2.1,(Q8 y32).2.2.1.length,q34.2.2.2.1⟩,(Q8 y32).2.2.1⟩,⟨(.int .i64),⟨(Q4 q34).2.2.1,(Q12 y32).2.1.1.length,(Q4 q34).2.2.2.1⟩,(Q12 y32).2.1.1⟩,⟨(.int .i64),⟨(Q8 q34).1,(Q12 y32).2.2.1.length,(Q8 q34).2.1⟩,(Q12 y32).2.2.1⟩,⟨(.int .i64),⟨(Q8 q34).2.2.1,(Q16 y32).1.length,(Q8 q34).2.2.2⟩,(Q16 y32).1⟩],fun z=>0⟩ ?_ ?_
  ·
   refine JS.seq (JS.region (aB aA 5 [] [] [(12,.v (.slice a28 x1.1.length c29)),(15,.v (.slice q4.1 x0.2.2.1.1.length q4.2.1))] _ E ⟨(Es E),E⟩ ?_))
   refine bnw h fun y46 hy47 h=>JO.call E E E E (oP x1.1 x0.2.2.1.1 a28 c29 q4.1 q4.2.1 _ hy47) E [6,0] E E fun _ _=>aB aA 11 [] [] [(27,.v (.bool (bif (!y46) then (!(bif (decide (x2=1)) then (decide ((Q8 x0).2.1=1)) else false)) else false)))] _ E ⟨⟨E,V⟩,E⟩ (aC E ?_)
   refine aL E h (fun h=>?_) (fun h=>?_)
   ·
    refine JS.region (aB aA 4 [] [] [(30,.v (.agg #[.slice (Q4 q4).1 (Q8 x0).2.2.2.1.length (Q4 q4).2.1])),(32,.v (.agg #[.slice q4.1 x0.2.2.1.1.length q4.2.1,.int .i64 x0.2.2.1.2]))] _ E ⟨(Es E),E⟩ ?_)
    obtain ⟨⟨y48,y49⟩,hy50,h⟩:=aE h
    refine JO.call E E E E (aBm (Q8 x0).2.2.2.1 x0.2.2.1 (Q4 q4).1 (Q4 q4).2.1 q4.1 q4.2.1 _ hy50) E [2,0] E E ?_
    rintro ⟨a51,c52⟩ -
    refine aS aA 5 [] [] [] (.new 8 33 (aK x0 q4) (.new 9 25 [.slice a28 x1.1.length c29,.int .i64 x1.2] (.new 10 33 bP (.new 31 33 (aK (U11 y32 y48) (q34.1,q34.2.1,q34.2.2.1,q34.2.2.2.1,a51,c52,(Q4 q34).2.2)) .nil)))) E ⟨V,(Bs E E)⟩ (aC E (cJ (y48,a51,c52) h (Es E) (Bs E E) [0,1,2,3,4,5,6] E [0,1,2,4,5,6] E E))
   refine JS.skip (cJ ((Q8 y32).2.2.2.1,(Q4 q34).1,(Q4 q34).2.1) h (Es E) (Bs E E) [0,1,2,3,4,5,6] E [2,0,1,3,4,5] E E)
  rintro ⟨x54,a55,c56⟩ h
  subst hj68
  refine JS.seq ?_
  obtain ⟨y59,hy60,h⟩:=aE h
  refine bnw h fun y63 hy64 h=>bE E (.new 8 33 (aK x0 q4) (.new 9 25 [.slice a28 x1.1.length c29,.int .i64 x1.2] .nil)) [] [4,5,6] ⟨E,E,E,E,E,E,E,E,V⟩ E (fun be65=>?_)
  refine bV aA aG true 4 [0,2,3] E (by kernel_rfl) [] [(37,.v (.agg #[.slice a28 x1.1.length c29,.int .i64 x1.2])),(40,.v (I x0.2.1))] ⟨E,E,E,E,E,E,E,E,V⟩ [] E E (Es E) (JA.one 1 (by kernel_rfl) (JK.call E E E E (dJ x1 a28 c29 _ hy60) E [6] E E ?_))
  rintro ⟨a61,c62⟩ -
  refine aJ ⟨E,E,E,E,E,E,E,E,V⟩ [] E (JA.one 4 (by kernel_rfl) (JK.call E E E E (nS y59 x0.2.1 a61 c62 _ hy64) E [7] E E fun _ _=>aP E (aT aA aG 1 [5] E (by kernel_rfl) [] [(42,.bp 31 2)] E ⟨E,V⟩ (JA.one 6 (by kernel_rfl) (bA aA E E E E E E E E (aP E (bG (by kernel_rfl) (aX (B':=(.new 10 33 bP (.new 31 33 (aK (U11 (U2 y32 (y59.1,y63.2)) x54) (a61,c62,q34.2.2.1,q34.2.2.2.1,a55,c56,(Q4 q34).2.2)) .nil))) (Bs E E) (aR aA 2 [] [] [] (.new 10 33 (aK (U11 (U2 y32 (y59.1,y63.2)) x54) (a61,c62,q34.2.2.1,q34.2.2.2.1,a55,c56,(Q4 q34).2.2)) .nil) ⟨V,(Bs E E)⟩ E E ?_)))))))))
  cases h
  exact JS.ret aA (a61,c62,q34.2.2.1,q34.2.2.2.1,a55,c56,(Q4 q34).2.2) V E E [0,2,0,1,1,1] E

def eT (x0:EdQ) (x1:List Int×Int):Option (EdQ×Int):=
  (aH (nH x0 x1 0) fun (y31:EdQ)=>
  some (y31,0))

theorem lC (x0:EdQ) (x1:List Int×Int) (q3:P6) (a27:Option Addr) (c28:Nat) (r:EdQ×Int) (h:eT x0 x1=some r):
  FC Tryz.prog 88 [.agg (aK x0 q3).toArray,.agg #[.slice a27 x1.1.length c28,.int .i64 x1.2]] (cY x0 q3 [⟨(.int .i64),⟨a27,x1.1.length,c28⟩,x1.1⟩]) (fun _:P6=>True) (fun q=>.tuple #[.agg (aK r.1 q).toArray,.int .i64 r.2]) (fun q=>(cY r.1 q [])):=
 by
  refine FC.of (T:=TTx) Tryz.call88 Tryz.func88 E E fun w0=>?_
  unfold eT at h
  refine aR aA 4 [] [8,9,10] [(2,.bp 8 0),(3,.bp 9 0),(4,.bp 10 0)] (.new 8 33 (aK x0 q3) (.new 9 25 [.slice a27 x1.1.length c28,.int .i64 x1.2] (.new 10 33 bP .nil))) ⟨(Es E),(Bs E E)⟩ E E (JS.seq (JS.region (aB aA 2 [] [] [(6,.v (.agg (aK x0 q3).toArray)),(7,.v (.agg #[.slice a27 x1.1.length c28,.int .i64 x1.2]))] _ E ⟨(Es E),E⟩ ?_)))
  refine bnw h fun y31 hy32 h=>JO.call E E E E (uI x0 x1 0 q3 a27 c28 _ hy32) E [0,1,2,3,4,5,6] E E fun q33 _=>aS aA 2 [] [] [(5,.v (I 0))] (.new 10 33 (aK y31 q33) .nil) E ⟨⟨E,V⟩,(Bs E E)⟩ (aC E ?_)
  cases h
  exact JS.ret aA q33 V E E [0,0,0,0,0,0] E

def mA (x0:List Int×Int) (x1:Int) (x2:Int):Option Bool:=
  (aH (dB x0) fun (y8:Bool)=>
  some (bif (bif (bif y8 then (decide (0≤x1)) else false) then (decide (x1≤x2)) else false) then (decide (x2≤(x0.1.length:Int))) else false))

theorem wE (x0:List Int×Int) (x1:Int) (x2:Int) (a4:Option Addr) (c5:Nat) (r:Bool) (h:mA x0 x1 x2=some r):
  FC Tryz.prog 133 [.agg #[.slice a4 x0.1.length c5,.int .i64 x0.2],.int .i64 x1,.int .i64 x2] [⟨(.int .i64),⟨a4,x0.1.length,c5⟩,x0.1⟩] (fun _:Unit=>True) (fun _=>.bool r) (fun _=>[]):=
 by
  refine FC.of (T:=TTx) Tryz.call133 Tryz.func133 E E fun w0=>?_
  unfold mA at h
  refine aR aA 2 [] [2] [(3,.bp 2 0)] (.new 2 25 [.slice a4 x0.1.length c5,.int .i64 x0.2] .nil) ⟨⟨E,V⟩,(Bs E E)⟩ E E (JS.seq (JS.region (aB aA 1 [] [] [(7,.v (.agg #[.slice a4 x0.1.length c5,.int .i64 x0.2]))] _ E ⟨⟨E,V⟩,E⟩ ?_)))
  refine bnw h fun y8 hy9 h=>JO.call E E E E (eL x0 a4 c5 _ hy9) E [0] E E fun _ _=>aB aA 17 [] [] [(6,.v (.bool (bif (bif (bif y8 then (decide (0≤x1)) else false) then (decide (x1≤x2)) else false) then (decide (x2≤(x0.1.length:Int))) else false)))] _ E ⟨⟨E,V⟩,E⟩ (aC E ?_)
  cases h
  exact JS.ret aA () V E E [] E

def iJ (x0:List Int×Int) (x1:Int) (x2:Int):Option ((List Int×Int)×List Int×Bool):=
  (aH (mA x0 x1 x2) fun (y8:Bool)=>
  (bif (!y8) then
  some (([],0),[],false)
  else
  (aY (fun (x32:List Int)=>
  (aY (fun (x41:Int)=>
  (aI (0≤x1∧x1≤x2∧x2≤(x0.1.length:Int)) <|
  (aH (cG (bC x0.1 x1 x2)) fun (y50:List Int)=>
  some ((x32,x41),y50,true)))) fun j42=>
  (bif (decide (x2≤x0.2)) then
  j42 (W (x0.2 - (W (x2 - x1))))
  else
  (bif (decide (x1<x0.2)) then
  j42 x1
  else
  j42 x0.2)))) fun j35=>
  (aI (0≤(0:Int)∧(0:Int)≤x1∧x1≤(x0.1.length:Int)) <|
  (aH (cG (bC x0.1 (0:Int) x1)) fun (y15:List Int)=>
  (aI (0≤x2∧x2≤(x0.1.length:Int)∧(x0.1.length:Int)≤(x0.1.length:Int)) <|
  (aI (y15.length+(bC x0.1 x2 (x0.1.length:Int)).length≤536870912) <|
  j35 (y15 ++ (bC x0.1 x2 (x0.1.length:Int))))))))))

theorem pY (x0:List Int×Int) (x1:Int) (x2:Int) (a4:Option Addr) (c5:Nat) (r:(List Int×Int)×List Int×Bool) (h:iJ x0 x1 x2=some r):
  FC Tryz.prog 99 [.agg #[.slice a4 x0.1.length c5,.int .i64 x0.2],.int .i64 x1,.int .i64 x2] [⟨(.int .i64),⟨a4,x0.1.length,c5⟩,x0.1⟩] (fun _:Option Addr×Nat×Option Addr×Nat=>True) (fun q=>.tuple #[.agg #[.slice q.1 r.1.1.length q.2.1,.int .i64 r.1.2],.slice q.2.2.1 r.2.1.length q.2.2.2,.bool r.2.2]) (fun q=>[⟨(.int .i64),⟨q.1,r.1.1.length,q.2.1⟩,r.1.1⟩,⟨(.int .i64),⟨q.2.2.1,r.2.1.length,q.2.2.2⟩,r.2.1⟩]):=
 by
  refine FC.of (T:=TTx) Tryz.call99 Tryz.func99 E E fun w0=>?_
  unfold iJ at h
  refine aR aA 4 [] [2,3] [(3,.bp 2 0),(6,.bp 3 0)] (.new 2 25 [.slice a4 x0.1.length c5,.int .i64 x0.2] (.new 3 25 [.slice none 0 0,.int .i64 0] .nil)) ⟨(Es E),(Bs E E)⟩ E E (JS.seq (JS.seq (JS.region (aB aA 3 [] [] [(10,.v (.agg #[.slice a4 x0.1.length c5,.int .i64 x0.2])),(11,.v (I x1)),(12,.v (I x2))] _ E ⟨(Es E),E⟩ ?_))))
  refine bnw h fun y8 hy9 h=>JO.call E E E E (wE x0 x1 x2 a4 c5 _ hy9) E [0] E E fun _ _=>aB aA 1 [] [] [(14,.v (.bool (!y8)))] _ E ⟨⟨E,V⟩,E⟩ (aC E ?_)
  refine aL E h (fun h=>?_) (fun h=>?_)
  ·
   refine aR aA 4 [] [] [(7,.v (.slice none 0 0)),(8,.v (.bool false))] (.new 3 25 [.slice none 0 0,.int .i64 0] .nil) ⟨(Es E),(Bs E E)⟩ E E ?_
   cases h
   refine aW (.int .i64) Sl.nil E E (aW (.int .i64) Sl.nil E E (JS.ret aA (none,0,none,0) V E E [1,0] E))
  refine JS.skip (JS.seq ?_)
  obtain ⟨j35,hj72,h⟩:=aO h
  refine sL (ι:=List Int×Option Addr×Nat) ⟨fun z=>j35 z.1=some r,fun z=>[(1,.v (I x1)),(2,.v (I x2)),(3,.bp 2 0),(6,.bp 3 0),(9,.bp 25 0)],fun z=>(.new 2 25 [.slice a4 x0.1.length c5,.int .i64 x0.2] (.new 3 25 [.slice none 0 0,.int .i64 0] (.new 25 25 [.slice z.2.1 z.1.length z.2.2,.int .i64 x0.2] .nil))),fun z=>[⟨(.int .i64),⟨a4,x0.1.length,c5⟩,x0.1⟩],fun z=>[⟨(.int .i64),⟨z.2.1,z.1.length,z.2.2⟩,z.1⟩],fun z=>0⟩ ?_ ?_
  ·
   obtain ⟨g10,h⟩:=aF h
   obtain ⟨y15,hy16,h⟩:=aE h
   obtain ⟨g19,h⟩:=aF h
   obtain ⟨g23,h⟩:=aF h
   refine sK 0 E (0:Int) x1 fun a11 c12 hu13=>sK 1 E x2 (x0.1.length:Int) fun a20 c21 hu22=>gR 2 E fun hs65=>?_
   refine bE E (.new 2 25 [.slice a4 x0.1.length c5,.int .i64 x0.2] .nil) [] [12,14] ⟨E,E,E,E,V⟩ E (fun be28=>?_)
   refine bV aA aG true 7 [0,1,2,5,6,7,10,11] E (by kernel_rfl) [] [(17,.v (.slice a4 x0.1.length c5)),(18,.v (I x1)),(22,.v (.slice a4 x0.1.length c5)),(23,.v (I x2)),(27,.v (I x0.2))] ⟨E,E,E,E,V⟩ [] E E (Es E) (mD aA aG 3 E (by kernel_rfl) E E E E E E (0:Int) x1 E E ⟨g10.1,g10.2.1,g10.2.2,hs65.cap,hu13 g10⟩ E (mD aA aG 8 E (by kernel_rfl) E E E E E E x2 (x0.1.length:Int) E E ⟨g19.1,g19.2.1,g19.2.2,hs65.cap,hu22 g19⟩ E ?_))
   refine JA.all (rs:=[4,13]) (by kernel_rfl) E (List.forall_mem_cons.2 ⟨?_,List.forall_mem_cons.2 ⟨?_,(fun _ hx=>absurd hx List.not_mem_nil)⟩⟩)
   ·
    refine JK.call E E E E (cS (bC x0.1 (0:Int) x1) a11 c12 _ hy16) E [1] E E ?_
    rintro ⟨a17,c18⟩ -
    refine aJ ⟨E,E,E,E,V⟩ [] E ?_
    refine JA.all (rs:=[9,13]) (by kernel_rfl) E (List.forall_mem_cons.2 ⟨?_,List.forall_mem_cons.2 ⟨?_,(fun _ hx=>absurd hx List.not_mem_nil)⟩⟩)
    ·
     refine bB aA E E E E ⟨E,E,E,E,V,E,E,E,E⟩ E E E [0] E 0 E g23 E fun a24 c25=>aJ ⟨E,E,E,E,V⟩ [] E (aT aA aG 2 [12] E (by kernel_rfl) [] [(28,.v (.agg #[.slice a24 (y15 ++ (bC x0.1 x2 (x0.1.length:Int))).length c25,.int .i64 x0.2]))] E ⟨E,V⟩ (JA.one 13 (by kernel_rfl) (JK.alloc aA E E E E E 25 E (eF _ E) (aJ ⟨E,E,E,E,V⟩ [] E (JA.one 14 (by kernel_rfl) (bA aA E E E E E E E E (aP E (bG (by kernel_rfl) (aX (B':=(.new 2 25 [.slice a4 x0.1.length c5,.int .i64 x0.2] (.new 3 25 [.slice none 0 0,.int .i64 0] (.new 25 25 [.slice a24 (y15 ++ (bC x0.1 x2 (x0.1.length:Int))).length c25,.int .i64 x0.2] .nil)))) (Bs E E) (aN ((y15 ++ (bC x0.1 x2 (x0.1.length:Int))),a24,c25) h (Es E) (Bs E E) [2] E [0] E))))))))))
    refine JK.alloc aA E E E E E 25 E (eF _ E) (aJ ⟨E,E,E,E,V⟩ [] E (JA.one 9 (by kernel_rfl) (bB aA E E E E ⟨E,E,E,E,V,E,E,E,E⟩ E E E [0] E 0 E g23 E fun a24 c25=>aJ ⟨E,E,E,E,V⟩ [] E (aT aA aG 1 [12] E (by kernel_rfl) [] [(28,.v (.agg #[.slice a24 (y15 ++ (bC x0.1 x2 (x0.1.length:Int))).length c25,.int .i64 x0.2]))] E ⟨E,V⟩ (JA.one 14 (by kernel_rfl) (bA aA E E E E E E E E (aP E (bG (by kernel_rfl) (aX (B':=(.new 2 25 [.slice a4 x0.1.length c5,.int .i64 x0.2] (.new 3 25 [.slice none 0 0,.int .i64 0] (.new 25 25 [.slice a24 (y15 ++ (bC x0.1 x2 (x0.1.length:Int))).length c25,.int .i64 x0.2] .nil)))) (Bs E E) (aN ((y15 ++ (bC x0.1 x2 (x0.1.length:Int))),a24,c25) h (Es E) (Bs E E) [2] E [0] E))))))))))
   refine JK.alloc aA E E E E E 25 E (eF _ E) (aJ ⟨E,E,E,E,V⟩ [] E (JA.one 4 (by kernel_rfl) (JK.call E E E E (cS (bC x0.1 (0:Int) x1) a11 c12 _ hy16) E [1] E E ?_)))
   rintro ⟨a17,c18⟩ -
   refine aJ ⟨E,E,E,E,V⟩ [] E (JA.one 9 (by kernel_rfl) (bB aA E E E E ⟨E,E,E,E,V,E,E,E,E⟩ E E E [0] E 0 E g23 E fun a24 c25=>aJ ⟨E,E,E,E,V⟩ [] E (aT aA aG 1 [12] E (by kernel_rfl) [] [(28,.v (.agg #[.slice a24 (y15 ++ (bC x0.1 x2 (x0.1.length:Int))).length c25,.int .i64 x0.2]))] E ⟨E,V⟩ (JA.one 14 (by kernel_rfl) (bA aA E E E E E E E E (aP E (bG (by kernel_rfl) (aX (B':=(.new 2 25 [.slice a4 x0.1.length c5,.int .i64 x0.2] (.new 3 25 [.slice none 0 0,.int .i64 0] (.new 25 25 [.slice a24 (y15 ++ (bC x0.1 x2 (x0.1.length:Int))).length c25,.int .i64 x0.2] .nil)))) (Bs E E) (aN ((y15 ++ (bC x0.1 x2 (x0.1.length:Int))),a24,c25) h (Es E) (Bs E E) [2] E [0] E)))))))))
  rintro ⟨x32,a33,c34⟩ h
  subst hj72
  refine JS.seq ?_
  obtain ⟨j42,hj71,h⟩:=aO h
  refine bF (ι:=Int) ⟨fun z=>j42 z=some r,fun z=>[(1,.v (I x1)),(2,.v (I x2)),(3,.bp 2 0),(6,.bp 3 0),(9,.bp 25 0)],fun z=>(.new 2 25 [.slice a4 x0.1.length c5,.int .i64 x0.2] (.new 3 25 [.slice none 0 0,.int .i64 0] (.new 25 25 [.slice a33 x32.length c34,.int .i64 z] .nil))),fun z=>[⟨(.int .i64),⟨a4,x0.1.length,c5⟩,x0.1⟩],fun z=>[⟨(.int .i64),⟨a33,x32.length,c34⟩,x32⟩],fun z=>0⟩ ?_ ?_
  ·
   refine aD aA 5 [(29,.v (.bool (decide (x2≤x0.2))))] ⟨⟨E,V⟩,E⟩ E E ?_
   refine aL E h (fun h=>?_) (fun h=>?_)
   ·
    refine yW aA 8 [(W (x2 - x1)),(W (x0.2 - (W (x2 - x1))))] [] [] (.new 2 25 [.slice a4 x0.1.length c5,.int .i64 x0.2] (.new 3 25 [.slice none 0 0,.int .i64 0] (.new 25 25 [.slice a33 x32.length c34,.int .i64 (W (x0.2 - (W (x2 - x1))))] .nil))) ⟨⟨V,E⟩,⟨V,E⟩,V,(Bs E E)⟩ E E (aV (aN (W (x0.2 - (W (x2 - x1)))) h (Es E) (Bs E E) [0] E [0] E))
   refine aD aA 5 [(41,.v (.bool (decide (x1<x0.2))))] ⟨⟨E,V⟩,E⟩ E E ?_
   refine aL E h (fun h=>?_) (fun h=>?_)
   ·
    refine yW aA 3 [] [] [] (.new 2 25 [.slice a4 x0.1.length c5,.int .i64 x0.2] (.new 3 25 [.slice none 0 0,.int .i64 0] (.new 25 25 [.slice a33 x32.length c34,.int .i64 x1] .nil))) ⟨V,(Bs E E)⟩ E E (aV (aN x1 h (Es E) (Bs E E) [0] E [0] E))
   refine JS.skip (aV (aN x0.2 h (Es E) (Bs E E) [0] E [0] E))
  rintro x41 h
  subst hj71
  refine JS.seq ?_
  obtain ⟨g45,h⟩:=aF h
  refine bnw h fun y50 hy51 h=>sK 0 E x1 x2 fun a46 c47 hu48=>gR 1 E fun hs70=>?_
  refine bE E (.new 2 25 [.slice a4 x0.1.length c5,.int .i64 x0.2] (.new 25 25 [.slice a33 x32.length c34,.int .i64 x41] .nil)) [] [7,8,9] ⟨E,E,E,E,E,E,E,E,V⟩ E (fun be56=>?_)
  refine bV aA aG true 5 [0,1,2,3,4] E (by kernel_rfl) [] [(48,.v (.agg #[.slice a33 x32.length c34,.int .i64 x41])),(50,.v (.slice a4 x0.1.length c5)),(51,.v (I x1)),(52,.v (I x2))] ⟨E,E,E,E,E,E,E,E,V⟩ [] E E (Es E) (mD aA aG 5 E (by kernel_rfl) E E E E E E x1 x2 E E ⟨g45.1,g45.2.1,g45.2.2,hs70.cap,hu48 g45⟩ E (JA.one 6 (by kernel_rfl) (JK.call E E E E (cS (bC x0.1 x1 x2) a46 c47 _ hy51) E [0] E E ?_)))
  rintro ⟨a52,c53⟩ -
  refine aJ ⟨E,E,E,E,E,E,E,E,V⟩ [] E (JA.one 7 (by kernel_rfl) (bA aA E E E E E E E E (aP E (aT aA aG 0 [8,9] E (by kernel_rfl) [] [(7,.v (.slice a52 y50.length c53)),(8,.v (.bool true))] E (Es E) (bG (by kernel_rfl) (aX (B':=(.new 3 25 [.slice a33 x32.length c34,.int .i64 x41] .nil)) (Bs E E) ?_))))))
  cases h
  exact JS.ret aA (a33,c34,a52,c53) V E E [1,0] E

def qJ (x0:EdQ) (x1:Int) (x2:Int):Option (EdQ×Int):=
  (aH (iJ x0.2.2.1 x1 x2) fun (y28,y29,y30)=>
  (bif (bif (!y30) then true else (decide ((y29.length:Int)=0))) then
  (aH (dW x0) fun (y36,y37)=>
  some (y36,y37))
  else
  (aH (eT x0 y28) fun (y51,y52)=>
  some (y51,y52))))

theorem yA (x0:EdQ) (x1:Int) (x2:Int) (q4:P6) (r:EdQ×Int) (h:qJ x0 x1 x2=some r):
  FC Tryz.prog 87 [.agg (aK x0 q4).toArray,.int .i64 x1,.int .i64 x2] (cY x0 q4 []) (fun _:P6=>True) (fun q=>.tuple #[.agg (aK r.1 q).toArray,.int .i64 r.2]) (fun q=>(cY r.1 q [])):=
 by
  refine FC.of (T:=TTx) Tryz.call87 Tryz.func87 E E fun w0=>?_
  unfold qJ at h
  refine aR aA 3 [] [7,8] [(3,.bp 7 0),(6,.bp 8 0)] (.new 7 33 (aK x0 q4) (.new 8 33 bP .nil)) ⟨(Es E),(Bs E E)⟩ E E (JS.seq (JS.region (aB aA 4 [] [] [(13,.v (.agg #[.slice q4.1 x0.2.2.1.1.length q4.2.1,.int .i64 x0.2.2.1.2])),(14,.v (I x1)),(15,.v (I x2))] _ E ⟨(Es E),E⟩ ?_)))
  obtain ⟨⟨y28,y29,y30⟩,hy31,h⟩:=aE h
  refine JO.call E E E E (pY x0.2.2.1 x1 x2 q4.1 q4.2.1 _ hy31) E [0] E E ?_
  rintro ⟨a32,c33,a34,c35⟩ -
  refine aS aA 8 [] [19] [(8,.bp 19 0),(9,.v (.slice a34 y29.length c35)),(10,.v (.bool y30))] (.new 7 33 (aK x0 q4) (.new 8 33 bP (.new 19 25 [.slice a32 y28.1.length c33,.int .i64 y28.2] .nil))) E ⟨(Es E),(Bs E E)⟩ (aC E (JS.seq (aD aA 7 [(26,.v (.bool (bif (!y30) then true else (decide ((y29.length:Int)=0)))))] ⟨⟨E,V⟩,E⟩ E E ?_)))
  refine aL E h (fun h=>?_) (fun h=>?_)
  ·
   refine JS.seq (JS.region (aB aA 1 [] [] [(27,.v (.agg (aK x0 q4).toArray))] _ E ⟨⟨E,V⟩,E⟩ ?_))
   obtain ⟨⟨y36,y37⟩,hy38,h⟩:=aE h
   refine JO.call E E E E (eV x0 q4 _ hy38) E [0,1,2,3,4,5] E E fun q39 _=>aS aA 4 [] [] [(7,.v (I y37))] (.new 8 33 (aK y36 q39) .nil) E ⟨⟨E,V⟩,(Bs E E)⟩ (aC E ?_)
   cases h
   exact JS.ret aA q39 V E E [0,0,0,0,0,0] E
  refine JS.skip (JS.seq (JS.region (aB aA 2 [] [] [(31,.v (.agg (aK x0 q4).toArray)),(32,.v (.agg #[.slice a32 y28.1.length c33,.int .i64 y28.2]))] _ E ⟨(Es E),E⟩ ?_)))
  obtain ⟨⟨y51,y52⟩,hy53,h⟩:=aE h
  refine JO.call E E E E (lC x0 y28 q4 a32 c33 _ hy53) E [0,1,2,3,4,5,6] E E fun q54 _=>aS aA 4 [] [] [(7,.v (I y52))] (.new 8 33 (aK y51 q54) .nil) E ⟨⟨E,V⟩,(Bs E E)⟩ (aC E ?_)
  cases h
  exact JS.ret aA q54 V E E [0,0,0,0,0,0] E

def hZ (x0:Int) (x1:Int):Option Int:=
  some (max (0:Int) (min x0 x1))

theorem rA (x0:Int) (x1:Int) (r:Int) (h:hZ x0 x1=some r) :
  FC Tryz.prog 97 [.int .i64 x0,.int .i64 x1] [] (fun _:Unit=>True) (fun _=>.int .i64 r) (fun _=>[]):=
 by
  refine FC.of (T:=TTx) Tryz.call97 Tryz.func97 E E fun w0=>?_
  unfold hZ at h
  refine aD aA 1 [] ⟨V,E⟩ E E (aD aA 5 [(4,.v (I (max (0:Int) (min x0 x1))))] ⟨⟨E,V⟩,E⟩ E E ?_)
  cases h
  exact JS.ret aA () V E E [] E

def fT (x0:Int):Option Bool:=
  (aH (cN x0 65 90) fun (y2:Bool)=>
  some y2)

theorem pW (x0:Int) (r:Bool) (h:fT x0=some r) :
  FC Tryz.prog 134 [.int .i64 x0] [] (fun _:Unit=>True) (fun _=>.bool r) (fun _=>[]):=
 by
  refine FC.of (T:=TTx) Tryz.call134 Tryz.func134 E E fun w0=>?_
  unfold fT at h
  refine aD aA 1 [] ⟨V,E⟩ E E (JS.seq (JS.region (aB aA 1 [] [] [(3,.v (I x0))] _ E ⟨⟨E,V⟩,E⟩ ?_)))
  refine bnw h fun y2 hy3 h=>JO.call E E E E (dL x0 65 90 _ hy3) E [] E E fun _ _=>aB aA 1 [] [] [(2,.v (.bool y2))] _ E ⟨⟨E,V⟩,E⟩ (aC E ?_)
  cases h
  exact JS.ret aA () V E E [] E

def iA (x0:Int):Option Bool:=
  (aH (cN x0 48 57) fun (y2:Bool)=>
  some y2)

theorem uJ (x0:Int) (r:Bool) (h:iA x0=some r) :
  FC Tryz.prog 94 [.int .i64 x0] [] (fun _:Unit=>True) (fun _=>.bool r) (fun _=>[]):=
 by
  refine FC.of (T:=TTx) Tryz.call94 Tryz.func94 E E fun w0=>?_
  unfold iA at h
  refine aD aA 1 [] ⟨V,E⟩ E E (JS.seq (JS.region (aB aA 1 [] [] [(3,.v (I x0))] _ E ⟨⟨E,V⟩,E⟩ ?_)))
  refine bnw h fun y2 hy3 h=>JO.call E E E E (dL x0 48 57 _ hy3) E [] E E fun _ _=>aB aA 1 [] [] [(2,.v (.bool y2))] _ E ⟨⟨E,V⟩,E⟩ (aC E ?_)
  cases h
  exact JS.ret aA () V E E [] E

def fF (x0:Int):Option Int:=
  (bif (bif (bif (decide (x0=9)) then true else (decide (x0=10))) then true else (decide (x0=32))) then
  some 0
  else
  (aH (eM x0) fun (y2:Bool)=>
  (bU (y2=false) (fT x0) false fun (y4:Bool)=>
  (bU ((bif y2 then true else y4)=false) (iA x0) false fun (y7:Bool)=>
  (bU ((decide (159<x0))=true∧(bif (bif (bif y2 then true else y4) then true else y7) then true else (decide (x0=95)))=false) (dK x0) false fun (y10:Bool)=>
  (bif (bif (bif (bif (bif y2 then true else y4) then true else y7) then true else (decide (x0=95))) then true else (bif (decide (159<x0)) then y10 else false)) then
  some 1
  else
  some 2))))))

theorem lD (x0:Int) (r:Int) (h:fF x0=some r) :
  FC Tryz.prog 98 [.int .i64 x0] [] (fun _:Unit=>True) (fun _=>.int .i64 r) (fun _=>[]):=
 by
  refine FC.of (T:=TTx) Tryz.call98 Tryz.func98 E E fun w0=>?_
  unfold fF at h
  refine aD aA 1 [] ⟨V,E⟩ E E (JS.seq (JS.block (aD aA 11 [(3,.v (.bool (bif (bif (decide (x0=9)) then true else (decide (x0=10))) then true else (decide (x0=32)))))] ⟨⟨E,V⟩,E⟩ E E ?_)))
  refine aL E h (fun h=>?_) (fun h=>?_)
  ·
   refine aD aA 1 [(2,.v (I 0))] ⟨⟨E,V⟩,E⟩ E E ?_
   cases h
   exact JS.ret aA () V E E [] E
  refine JS.seq (JS.region (aB aA 1 [] [] [(15,.v (I x0))] _ E ⟨⟨E,V⟩,E⟩ ?_))
  refine bnw h fun y2 hy3 h=>JO.call E E E E (nE x0 _ hy3) E [] E E fun _ _=>aB aA 2 [] [] [(17,.v (.bool y2)),(18,.cd [(17,false)] (.v (I x0)))] _ E ⟨(Es E),E⟩ ?_
  obtain ⟨y4,hy5,-,h⟩:=aU h
  refine bJ E E E E (fun q16=>pW x0 _ (hy5 q16)) E [] E E (aB aA 3 [] [] [(21,.v (.bool (bif y2 then true else y4))),(22,.cd [(21,false)] (.v (I x0)))] _ E ⟨(Es E),E⟩ ?_)
  obtain ⟨y7,hy8,-,h⟩:=aU h
  refine bJ E E E E (fun q17=>uJ x0 _ (hy8 q17)) E [] E E (aB aA 10 [] [] [(29,.v (.bool (bif (bif (bif y2 then true else y4) then true else y7) then true else (decide (x0=95))))),(32,.cd [(29,false)] (.v (.bool (decide (159<x0))))),(33,.cd [(32,true),(29,false)] (.v (I x0)))] _ E ⟨(Es E),E⟩ ?_)
  obtain ⟨y10,hy11,-,h⟩:=aU h
  refine bJ E E E E (fun q18 q19=>gV x0 _ (hy11 ⟨q18,q19⟩)) E [] E E (aB aA 3 [] [] [(14,.v (.bool (bif (bif (bif (bif y2 then true else y4) then true else y7) then true else (decide (x0=95))) then true else (bif (decide (159<x0)) then y10 else false))))] _ E ⟨⟨E,V⟩,E⟩ (aC E ?_))
  refine aL E h (fun h=>?_) (fun h=>?_)
  ·
   refine aD aA 1 [(2,.v (I 1))] ⟨⟨E,V⟩,E⟩ E E ?_
   cases h
   exact JS.ret aA () V E E [] E
  refine JS.skip (aV (aD aA 1 [(2,.v (I 2))] ⟨⟨E,V⟩,E⟩ E E ?_))
  cases h
  exact JS.ret aA () V E E [] E

def iD (x0:List Int) (x1:Int) (x2:Bool):Option Int:=
  (aI (0≤x1∧x1<(x0.length:Int)) <|
  (aH (fF (at' x0 x1)) fun (y10:Int)=>
  (bif (bif x2 then (decide (y10=2)) else false) then
  some 1
  else
  some y10)))

theorem pX (x0:List Int) (x1:Int) (x2:Bool) (a4:Option Addr) (c5:Nat) (r:Int) (h:iD x0 x1 x2=some r):
  FC Tryz.prog 154 [.slice a4 x0.length c5,.int .i64 x1,.bool x2] [⟨(.int .i64),⟨a4,x0.length,c5⟩,x0⟩] (fun _:Unit=>True) (fun _=>.int .i64 r) (fun _=>[]):=
 by
  refine FC.of (T:=TTx) Tryz.call154 Tryz.func154 E E fun w0=>?_
  unfold iD at h
  refine aD aA 1 [] ⟨V,E⟩ E E (JS.seq (JS.region (bT 0 E fun hs13=>?_)))
  obtain ⟨g9,h⟩:=aF h
  refine aB aA 3 [] [] [(10,.ep ⟨a4,x0.length,c5⟩ (Int.toNat x1*1))] _ E ⟨hs13.ix g9,⟨E,V⟩,E⟩ (JO.load aA E E E E E E E 0 E E (Int.toNat x1) 0 (at' x0 x1) ⟨bD g9,E⟩ E E ?_)
  refine bnw h fun y10 hy11 h=>JO.call E E E E (lD (at' x0 x1) _ hy11) E [] E E fun _ _=>aB aA 1 [] [] [(7,.v (I y10))] _ E ⟨⟨E,V⟩,E⟩ (aC E (JS.seq (aD aA 5 [(17,.v (.bool (bif x2 then (decide (y10=2)) else false)))] ⟨⟨E,V⟩,E⟩ E E ?_)))
  refine aL E h (fun h=>?_) (fun h=>?_)
  ·
   refine aD aA 1 [(6,.v (I 1))] ⟨⟨E,V⟩,E⟩ E E ?_
   cases h
   exact JS.ret aA () V E E [] E
  refine JS.skip (aD aA 2 [(6,.v (I y10))] ⟨⟨E,V⟩,E⟩ E E ?_)
  cases h
  exact JS.ret aA () V E E [] E

def fE (x0:List Int) (x2:Bool) (j22:Int→Option Int) (k16:Int→Option Int):Int→Option Int:=fun x10=>
  (bU ((decide (0<x10))=true) (iD x0 (W (x10 - 1)) x2) (0:Int) fun (y12:Int)=>
  (bif (bif (decide (0<x10)) then (decide (y12=0)) else false) then
  k16 (W (x10 - 1))
  else
  j22 x10))

def fD (x0:List Int) (x2:Bool) (y26:Int) (j40:Int→Option Int) (k34:Int→Option Int):Int→Option Int:=fun x28=>
  (bU ((decide (0<x28))=true) (iD x0 (W (x28 - 1)) x2) (0:Int) fun (y30:Int)=>
  (bif (bif (decide (0<x28)) then (decide (y30=y26)) else false) then
  k34 (W (x28 - 1))
  else
  j40 x28))

def iF (x0:List Int) (x1:Int) (x2:Bool):Option Int:=
  (aH (hZ x1 (x0.length:Int)) fun (y8:Int)=>
  (aY (fun (x21:Int)=>
  (bif (decide (x21=0)) then
  some 0
  else
  (aH (iD x0 (W (x21 - 1)) x2) fun (y26:Int)=>
  (aY (fun (x39:Int)=>
  some x39) fun j40=>
  (bI (fD x0 x2 y26 j40) bO x21))))) fun j22=>
  (bI (fE x0 x2 j22) bO y8)))

theorem wV (x0:List Int) (x1:Int) (x2:Bool) (a4:Option Addr) (c5:Nat) (r:Int) (h:iF x0 x1 x2=some r):
  FC Tryz.prog 129 [.slice a4 x0.length c5,.int .i64 x1,.bool x2] [⟨(.int .i64),⟨a4,x0.length,c5⟩,x0⟩] (fun _:Unit=>True) (fun _=>.int .i64 r) (fun _=>[]):=
 by
  refine FC.of (T:=TTx) Tryz.call129 Tryz.func129 E E fun w0=>?_
  unfold iF at h
  refine aD aA 1 [] ⟨V,E⟩ E E (JS.seq (JS.region (aB aA 3 [] [] [(8,.v (I x1)),(10,.v (I (x0.length:Int)))] _ E ⟨(Es E),E⟩ ?_)))
  refine bnw h fun y8 hy9 h=>JO.call E E E E (rA x1 (x0.length:Int) _ hy9) E [] E E fun _ _=>aB aA 1 [] [] [(1,.v (I y8))] _ E ⟨⟨E,V⟩,E⟩ (aC E (JS.seq ?_))
  obtain ⟨j22,hj55,h⟩:=aO h
  refine bF (ι:=Int) ⟨fun z=>j22 z=some r,fun z=>[(0,.v (.slice a4 x0.length c5)),(1,.v (I z)),(2,.v (.bool x2))],fun z=>.nil,fun z=>[⟨(.int .i64),⟨a4,x0.length,c5⟩,x0⟩],fun z=>[],fun z=>0⟩ ?_ ?_
  ·
   refine JS.loop (ι:=Nat×Int) ⟨fun z=>bI (fE x0 x2 j22) z.1 z.2=some r,fun z=>[(0,.v (.slice a4 x0.length c5)),(1,.v (I z.2)),(2,.v (.bool x2))],fun z=>.nil,fun z=>[⟨(.int .i64),⟨a4,x0.length,c5⟩,x0⟩],fun z=>[],fun z=>z.1⟩ (bO,y8) h (Es E) V [0] E [] E ?_
   rintro ⟨n17,x10⟩ h
   obtain ⟨n17,rfl,h⟩:=bM h
   rw [fE] at h
   refine JS.seq (JS.seq (JS.region (aB aA 7 [(W (x10 - 1))] [] [(14,.v (.bool (decide (0<x10)))),(15,.cd [(14,true)] (.v (.slice a4 x0.length c5))),(17,.cd [(14,true)] (.v (I (W (x10 - 1))))),(18,.cd [(14,true)] (.v (.bool x2)))] _ E ⟨(fun q47=>⟨V,E⟩),(Es E),E⟩ ?_)))
   obtain ⟨y12,hy13,-,h⟩:=aU h
   refine bJ E E E E (fun q48=>pX x0 (W (x10 - 1)) x2 a4 c5 _ (hy13 q48)) E [0] E E (aB aA 2 [] [] [(21,.v (.bool (bif (decide (0<x10)) then (decide (y12=0)) else false)))] _ E ⟨⟨E,V⟩,E⟩ (aC E ?_))
   refine aL E h (fun h=>?_) (fun h=>?_)
   ·
    refine JS.skip (JS.block (cW aA 3 [(W (x10 - 1))] [] [(1,.v (I (W (x10 - 1))))] _ ⟨⟨V,E⟩,⟨E,V⟩,E⟩ E E (aV (bZ (n17,(W (x10 - 1))) h (Nat.lt_succ_self _) (Es E) V [0] E [] E))))
   refine JS.exit E (aN x10 h (Es E) V [0] E [] E)
  rintro x21 h
  subst hj55
  refine JS.seq (aD aA 2 [(25,.v (.bool (decide (x21=0))))] ⟨⟨E,V⟩,E⟩ E E ?_)
  refine aL E h (fun h=>?_) (fun h=>?_)
  ·
   refine aD aA 1 [(6,.v (I 0))] ⟨⟨E,V⟩,E⟩ E E ?_
   cases h
   exact JS.ret aA () V E E [] E
  refine JS.skip (JS.seq (JS.region (aB aA 4 [(W (x21 - 1))] [] [(26,.v (.slice a4 x0.length c5)),(28,.v (I (W (x21 - 1)))),(29,.v (.bool x2))] _ E ⟨⟨V,E⟩,(Es E),E⟩ ?_)))
  refine bnw h fun y26 hy27 h=>JO.call E E E E (pX x0 (W (x21 - 1)) x2 a4 c5 _ hy27) E [0] E E fun _ _=>aB aA 1 [] [] [(7,.v (I y26))] _ E ⟨⟨E,V⟩,E⟩ (aC E (JS.seq ?_))
  obtain ⟨j40,hj53,h⟩:=aO h
  refine bF (ι:=Int) ⟨fun z=>j40 z=some r,fun z=>[(1,.v (I z))],fun z=>.nil,fun z=>[],fun z=>[],fun z=>0⟩ ?_ ?_
  ·
   refine JS.loop (ι:=Nat×Int) ⟨fun z=>bI (fD x0 x2 y26 j40) z.1 z.2=some r,fun z=>[(0,.v (.slice a4 x0.length c5)),(1,.v (I z.2)),(2,.v (.bool x2)),(7,.v (I y26))],fun z=>.nil,fun z=>[⟨(.int .i64),⟨a4,x0.length,c5⟩,x0⟩],fun z=>[],fun z=>z.1⟩ (bO,x21) h (Es E) V [0] E [] E ?_
   rintro ⟨n35,x28⟩ h
   obtain ⟨n35,rfl,h⟩:=bM h
   rw [fD] at h
   refine JS.seq (JS.seq (JS.region (aB aA 7 [(W (x28 - 1))] [] [(33,.v (.bool (decide (0<x28)))),(34,.cd [(33,true)] (.v (.slice a4 x0.length c5))),(36,.cd [(33,true)] (.v (I (W (x28 - 1))))),(37,.cd [(33,true)] (.v (.bool x2)))] _ E ⟨(fun q50=>⟨V,E⟩),(Es E),E⟩ ?_)))
   obtain ⟨y30,hy31,-,h⟩:=aU h
   refine bJ E E E E (fun q51=>pX x0 (W (x28 - 1)) x2 a4 c5 _ (hy31 q51)) E [0] E E (aB aA 3 [] [] [(41,.v (.bool (bif (decide (0<x28)) then (decide (y30=y26)) else false)))] _ E ⟨⟨E,V⟩,E⟩ (aC E ?_))
   refine aL E h (fun h=>?_) (fun h=>?_)
   ·
    refine JS.skip (JS.block (cW aA 3 [(W (x28 - 1))] [] [(1,.v (I (W (x28 - 1))))] _ ⟨⟨V,E⟩,⟨E,V⟩,E⟩ E E (aV (bZ (n35,(W (x28 - 1))) h (Nat.lt_succ_self _) (Es E) V [0] E [] E))))
   refine JS.exit E (aN x28 h ⟨E,V⟩ V [] E [] E)
  rintro x39 h
  subst hj53
  refine aD aA 2 [(6,.v (I x39))] ⟨⟨E,V⟩,E⟩ E E ?_
  cases h
  exact JS.ret aA () V E E [] E

def mT (x0:List (List Int)) (x1:List Int) (x2:Int):Option (List (List Int)×Bool):=
  (aH (iI x0) fun (y12:Bool)=>
  (bU ((!y12)=false) (cN x2 0 2) false fun (y14:Bool)=>
  (bU ((bif (!y12) then true else (!y14))=false) (dQ x1) false fun (y17:Bool)=>
  (bif (bif (bif (!y12) then true else (!y14)) then true else (!y17)) then
  some ([],false)
  else
  (aH (gA x0) fun (y20:List (List Int))=>
  (aY (fun (x73:List (List Int))=>
  some (x73,true)) fun j76=>
  (bif (decide ((x1.length:Int)=0)) then
  j76 y20
  else
  (aI (((bif (decide (x2=0)) then true else (decide ((y20.length:Int)=0)))=false)→0≤(0:Int)∧0<(y20.length:Int)) <|
  (bif (bif (bif (decide (x2=0)) then true else (decide ((y20.length:Int)=0))) then true else (decide (400<(W (((at' y20 0).length:Int)+(x1.length:Int)))))) then
  (aH (cG x1) fun (y34:List Int)=>
  (aI (([y34]:List (List Int)).length+y20.length≤536870912) <|
  (aI (0≤(0:Int)∧(0:Int)≤(min ((([y34]:List (List Int)) ++ y20).length:Int) 6)∧(min ((([y34]:List (List Int)) ++ y20).length:Int) 6)≤((([y34]:List (List Int)) ++ y20).length:Int)) <|
  j76 (bC (([y34]:List (List Int)) ++ y20) 0 (min ((([y34]:List (List Int)) ++ y20).length:Int) 6)))))
  else
  (bif (decide (x2=1)) then
  (aI (0≤(0:Int)∧0<(y20.length:Int)) <|
  (aI ((at' y20 0).length+x1.length≤536870912) <|
  (aI (0≤(0:Int)∧0<(y20.length:Int)) <|
  j76 (List.set y20 (Int.toNat 0) ((at' y20 0) ++ x1)))))
  else
  (aH (cG x1) fun (y56:List Int)=>
  (aI (0≤(0:Int)∧0<(y20.length:Int)) <|
  (aI (y56.length+(at' y20 0).length≤536870912) <|
  (aI (0≤(0:Int)∧0<(y20.length:Int)) <|
  j76 (List.set y20 (Int.toNat 0) (y56 ++ (at' y20 0)))))))))))))))))

theorem aBo (x0:List (List Int)) (x1:List Int) (x2:Int) (a4:Option Addr) (c5:Nat) (a8:Option Addr) (c9:Nat) (r:List (List Int)×Bool) (h:mT x0 x1 x2=some r):
  FC Tryz.prog 101 [.agg #[.slice a4 x0.length c5],.slice a8 x1.length c9,.int .i64 x2] [⟨(.sl (.int .i64)),⟨a4,x0.length,c5⟩,x0⟩,⟨(.int .i64),⟨a8,x1.length,c9⟩,x1⟩] (fun _:Option Addr×Nat=>True) (fun q=>.tuple #[.agg #[.slice q.1 r.1.length q.2],.bool r.2]) (fun q=>[⟨(.sl (.int .i64)),⟨q.1,r.1.length,q.2⟩,r.1⟩]):=
 by
  refine FC.of (T:=TTx) Tryz.call101 Tryz.func101 E E fun w0=>?_
  unfold mT at h
  refine aR aA 3 [] [3,4] [(3,.bp 3 0),(6,.bp 4 0)] (.new 3 28 [.slice a4 x0.length c5] (.new 4 28 [.slice none 0 0] .nil)) ⟨(Es E),(Bs E E)⟩ E E (JS.seq (JS.seq (JS.region (aB aA 1 [] [] [(9,.v (.agg #[.slice a4 x0.length c5]))] _ E ⟨⟨E,V⟩,E⟩ ?_))))
  refine bnw h fun y12 hy13 h=>JO.call E E E E (oJ x0 a4 c5 _ hy13) E [0] E E fun _ _=>aB aA 3 [] [] [(12,.v (.bool (!y12))),(13,.cd [(12,false)] (.v (I x2)))] _ E ⟨(Es E),E⟩ ?_
  obtain ⟨y14,hy15,-,h⟩:=aU h
  refine bJ E E E E (fun q87=>dL x2 0 2 _ (hy15 q87)) E [] E E (aB aA 4 [] [] [(17,.v (.bool (bif (!y12) then true else (!y14)))),(18,.cd [(17,false)] (.v (.slice a8 x1.length c9)))] _ E ⟨(Es E),E⟩ ?_)
  obtain ⟨y17,hy18,-,h⟩:=aU h
  refine bJ E E E E (fun q88=>jX x1 a8 c9 _ (hy18 q88)) E [1] E E (aB aA 2 [] [] [(21,.v (.bool (bif (bif (!y12) then true else (!y14)) then true else (!y17))))] _ E ⟨⟨E,V⟩,E⟩ (aC E ?_))
  refine aL E h (fun h=>?_) (fun h=>?_)
  ·
   refine aR aA 3 [] [] [(7,.v (.bool false))] (.new 4 28 [.slice none 0 0] .nil) ⟨⟨E,V⟩,(Bs E E)⟩ E E ?_
   cases h
   refine aW (.sl (.int .i64)) Sl.nil E E (JS.ret aA (none,0) V E E [0] E)
  refine JS.skip (JS.seq (JS.region (aB aA 1 [] [] [(23,.v (.agg #[.slice a4 x0.length c5]))] _ E ⟨⟨E,V⟩,E⟩ ?_)))
  refine bnw h fun y20 hy21 h=>JO.call E E E E (oS x0 a4 c5 _ hy21) E [0] E E ?_
  rintro ⟨a22,c23⟩ -
  refine aS aA 2 [] [16] [(8,.bp 16 0)] (.new 4 28 [.slice none 0 0] (.new 16 28 [.slice a22 y20.length c23] .nil)) E ⟨⟨E,V⟩,(Bs E E)⟩ (aC E (JS.seq ?_))
  obtain ⟨j76,hj97,h⟩:=aO h
  refine bF (ι:=List (List Int)×Option Addr×Nat) ⟨fun z=>j76 z.1=some r,fun z=>[(6,.bp 4 0),(8,.bp 16 0)],fun z=>(.new 4 28 [.slice none 0 0] (.new 16 28 [.slice z.2.1 z.1.length z.2.2] .nil)),fun z=>[],fun z=>[⟨(.sl (.int .i64)),⟨z.2.1,z.1.length,z.2.2⟩,z.1⟩],fun z=>0⟩ ?_ ?_
  ·
   refine aD aA 4 [(37,.v (.bool (decide ((x1.length:Int)=0))))] ⟨⟨E,V⟩,E⟩ E E ?_
   refine aL E h (fun h=>?_) (fun h=>?_)
   ·
    refine JS.skip (aV (aN (y20,a22,c23) h (Es E) (Bs E E) [] E [0] E))
   refine JS.seq (JS.region (bT 2 E fun hs89=>?_))
   obtain ⟨g25,h⟩:=aF h
   refine aB aA 13 [] [] [(50,.v (.bool (bif (decide (x2=0)) then true else (decide ((y20.length:Int)=0))))),(54,.cd [(50,false)] (.ep ⟨a22,y20.length,c23⟩ (Int.toNat 0*1)))] _ E ⟨(fun q90=>hs89.ix (g25 q90)),(fun q91=>hs89.fa (g25 q91)),(Es E),E⟩ (wZ [0] E (Int.toNat 0) (at' y20 0) E fun a28 c29 l30 hl31=>?_)
   obtain rfl:([.slice a28 (at' y20 0).length c29]:List Value)=l30:=Option.some.inj hl31
   refine dX aA E E E E E E 2 E E (Int.toNat 0) 0 (Sum.inr [.slice a28 (at' y20 0).length c29]) (fun q92=>⟨pC (bD (g25 q92)),E⟩) E E E (aB aA 7 [(W (((at' y20 0).length:Int)+(x1.length:Int)))] [] [(41,.v (.bool (bif (bif (decide (x2=0)) then true else (decide ((y20.length:Int)=0))) then true else (decide (400<(W (((at' y20 0).length:Int)+(x1.length:Int))))))))] _ E ⟨(fun q93=>⟨V,E⟩),⟨E,V⟩,E⟩ (yX [0,0] E (at' y20 0) E ⟨E,E,E⟩ (aC E ?_)))
   refine aL E h (fun h=>?_) (fun h=>?_)
   ·
    refine JS.seq ?_
    obtain ⟨y34,hy35,h⟩:=aE h
    obtain ⟨g39,h⟩:=aF h
    refine bE E (.new 16 28 [.slice a22 y20.length c23] .nil) [] [6,7,8] ⟨E,E,E,E,V⟩ E (fun be42=>?_)
    refine bV aA aG true 6 [0,4,5] E (by kernel_rfl) [] [(62,.v (.slice a8 x1.length c9)),(67,.v (.slice a22 y20.length c23))] ⟨E,E,E,E,V⟩ [] E E (Es E) (JA.one 1 (by kernel_rfl) (JK.call E E E E (cS x1 a8 c9 _ hy35) E [1] E E ?_))
    rintro ⟨a36,c37⟩ -
    refine aJ ⟨E,E,E,E,V⟩ [] E (bV aA aG true 4 [2] E (by kernel_rfl) [] [(64,.v (.agg #[.slice a36 y34.length c37]))] ⟨E,E,E,E,V⟩ [] E E ⟨E,V⟩ (JA.one 3 (by kernel_rfl) (JK.buildSlice aA E E E E E E E E E E E [0] E (.sl (.int .i64)) [y34] ⟨E,E,E⟩ E E fun a38=>aJ ⟨E,E,E,E,V⟩ [] E (JA.one 6 (by kernel_rfl) (iP aA E E E E ⟨E,E,E,E,V,E,E,E,E⟩ E E [0,0] E g39 E fun a40 c41=>aP E (aT aA aG 1 [7] E (by kernel_rfl) [] [(69,.bp 16 0)] E ⟨E,V⟩ (JA.one 8 (by kernel_rfl) (bA aA E E E E E E E E (aP E (bG (by kernel_rfl) (aX (B':=(.new 4 28 [.slice none 0 0] (.new 16 28 [.slice a40 (([y34]:List (List Int)) ++ y20).length c41] .nil))) (Bs E E) (JS.region (aB aA 6 [] [] [(71,.v (.slice a40 (([y34]:List (List Int)) ++ y20).length c41)),(75,.v (I (min ((([y34]:List (List Int)) ++ y20).length:Int) 6)))] _ E ⟨(Es E),E⟩ ?_)))))))))))))
    obtain ⟨g43,h⟩:=aF h
    refine oH aA E E E E E E E E [0] E (0:Int) (min ((([y34]:List (List Int)) ++ y20).length:Int) 6) E E g43 E fun a44 c45=>aS aA 2 [] [] [] (.new 4 28 [.slice none 0 0] (.new 16 28 [.slice a44 (bC (([y34]:List (List Int)) ++ y20) 0 (min ((([y34]:List (List Int)) ++ y20).length:Int) 6)).length c45] .nil)) E ⟨V,(Bs E E)⟩ (aC E (aV (aN ((bC (([y34]:List (List Int)) ++ y20) 0 (min ((([y34]:List (List Int)) ++ y20).length:Int) 6)),a44,c45) h (Es E) (Bs E E) [] E [0] E)))
   refine aD aA 3 [(78,.v (.bool (decide (x2=1))))] ⟨⟨E,V⟩,E⟩ E E ?_
   refine aL E h (fun h=>?_) (fun h=>?_)
   ·
    obtain ⟨g46,h⟩:=aF h
    obtain ⟨g51,h⟩:=aF h
    obtain ⟨g54,h⟩:=aF h
    refine tT (id:=0) (wZ [0] E (Int.toNat 0) (at' y20 0) E ?_)
    intro a47 c48 l49 hl50
    obtain rfl:([.slice a47 (at' y20 0).length c48]:List Value)=l49:=Option.some.inj hl50
    refine tU ?_
    refine bE E (.new 16 28 [.slice a22 y20.length c23] .nil) [2] [9,10,11] ⟨E,E,E,E,V⟩ E (fun be55=>?_)
    refine bV aA aG true 5 [0,1,2,3,4,5,7] E (by kernel_rfl) [] [(82,.v (.slice a22 y20.length c23)),(86,.ep ⟨a22,y20.length,c23⟩ (Int.toNat 0*1)),(88,.v (.slice a8 x1.length c9))] ⟨E,E,E,E,V⟩ [2] E E ⟨hs89.ix g46,hs89.fa g46,(Es E)⟩ (rZ aA aG 6 E (by kernel_rfl) E E E E E 0 E E (Int.toNat 0) 0 (Sum.inr [.slice a47 (at' y20 0).length c48]) ⟨pC (bD g46),E⟩ E E E ⟨E,E,E,E,V⟩ [2] E (JA.one 8 (by kernel_rfl) (bB aA E E E E ⟨E,E,E,E,V,E,E,E,E⟩ E E E [1] E 1 E g51 E fun a52 c53=>aJ ⟨E,E,E,E,V⟩ [3] E (aT aA aG 1 [9,10] E (by kernel_rfl) [] [(91,.ep ⟨a22,y20.length,c23⟩ (Int.toNat 0*1))] E ⟨hs89.ix g54,hs89.fa g54,⟨E,V⟩⟩ (JA.one 11 (by kernel_rfl) (aAv aA E E E E E E E E E [1] E 0 [.slice a52 ((at' y20 0) ++ x1).length c53] (pC (bD g54)) E ⟨E,E,E⟩ (aP E (bG (by kernel_rfl) (aX (B':=(.new 4 28 [.slice none 0 0] (.new 16 28 [.slice a22 y20.length c23] .nil))) (Bs E E) ?_)))))))))
    refine tT (id:=0) (vV [0,0] E ((at' y20 0) ++ x1) ⟨E,E,E⟩ (tU ?_))
    refine aV (aN ((List.set y20 (Int.toNat 0) ((at' y20 0) ++ x1)),a22,c23) h (Es E) ⟨E,E,E,E,E,(congrArg (fun n=>([.slice a22 n c23]:List Value)) (List.length_set.trans E)),E,E,V⟩ [] E [0] (by simp only [List.length_set,List.length_replicate,bX,dG,mN];rfl))
   obtain ⟨y56,hy57,h⟩:=aE h
   obtain ⟨g60,h⟩:=aF h
   obtain ⟨g65,h⟩:=aF h
   obtain ⟨g68,h⟩:=aF h
   refine tT (id:=0) (wZ [0] E (Int.toNat 0) (at' y20 0) E ?_)
   intro a61 c62 l63 hl64
   obtain rfl:([.slice a61 (at' y20 0).length c62]:List Value)=l63:=Option.some.inj hl64
   refine tU ?_
   refine bE E (.new 16 28 [.slice a22 y20.length c23] .nil) [2] [10,11,12] ⟨E,E,E,E,V⟩ E (fun be69=>?_)
   refine bV aA aG true 6 [0,1,2,4,5,6,7] E (by kernel_rfl) [] [(26,.v (.slice a22 y20.length c23)),(27,.v (.slice a8 x1.length c9)),(32,.ep ⟨a22,y20.length,c23⟩ (Int.toNat 0*1))] ⟨E,E,E,E,V⟩ [2] E E ⟨hs89.ix g60,hs89.fa g60,(Es E)⟩ (rZ aA aG 8 E (by kernel_rfl) E E E E E 0 E E (Int.toNat 0) 0 (Sum.inr [.slice a61 (at' y20 0).length c62]) ⟨pC (bD g60),E⟩ E E E ⟨E,E,E,E,V⟩ [2] E (JA.one 3 (by kernel_rfl) (JK.call E E E E (cS x1 a8 c9 _ hy57) E [1] E E ?_)))
   rintro ⟨a58,c59⟩ -
   refine aJ ⟨E,E,E,E,V⟩ [3] E (JA.one 9 (by kernel_rfl) (bB aA E E E E ⟨E,E,E,E,V,E,E,E,E⟩ E E E [0] E 4 E g65 E fun a66 c67=>aJ ⟨E,E,E,E,V⟩ [3] E (aT aA aG 1 [10,11] E (by kernel_rfl) [] [(36,.ep ⟨a22,y20.length,c23⟩ (Int.toNat 0*1))] E ⟨hs89.ix g68,hs89.fa g68,⟨E,V⟩⟩ (JA.one 12 (by kernel_rfl) (aAv aA E E E E E E E E E [1] E 0 [.slice a66 (y56 ++ (at' y20 0)).length c67] (pC (bD g68)) E ⟨E,E,E⟩ (aP E (bG (by kernel_rfl) (aX (B':=(.new 4 28 [.slice none 0 0] (.new 16 28 [.slice a22 y20.length c23] .nil))) (Bs E E) ?_))))))))
   refine tT (id:=0) (vV [0,0] E (y56 ++ (at' y20 0)) ⟨E,E,E⟩ (tU ?_))
   refine aV (aN ((List.set y20 (Int.toNat 0) (y56 ++ (at' y20 0))),a22,c23) h (Es E) ⟨E,E,E,E,E,(congrArg (fun n=>([.slice a22 n c23]:List Value)) (List.length_set.trans E)),E,E,V⟩ [] E [0] (by simp only [List.length_set,List.length_replicate,bX,dG,mN];rfl))
  rintro ⟨x73,a74,c75⟩ h
  subst hj97
  refine aR aA 3 [] [] [(7,.v (.bool true))] (.new 4 28 [.slice a74 x73.length c75] .nil) ⟨⟨E,V⟩,(Bs E E)⟩ E E ?_
  cases h
  exact JS.ret aA (a74,c75) V E E [0] E

def jL (x0:EdQ) (x1:Int) (x2:Int) (x3:Int):Option (EdQ×Int):=
  (aH (iJ x0.2.2.1 x1 x2) fun (y29,y30,y31)=>
  (bif (bif (!y31) then true else (decide ((y30.length:Int)=0))) then
  (aH (dW x0) fun (y37,y38)=>
  some (y37,y38))
  else
  (aY (fun (x53:Int)=>
  (aH (nH x0 y29 2) fun (y56:EdQ)=>
  (aH (mT x0.2.2.2.2.2.2.2.2.2.2.1 y30 x53) fun (y70,y71)=>
  some ((y56.1,y56.2.1,y56.2.2.1,y56.2.2.2.1,y56.2.2.2.2.1,y56.2.2.2.2.2.1,y56.2.2.2.2.2.2.1,y56.2.2.2.2.2.2.2.1,y56.2.2.2.2.2.2.2.2.1,y56.2.2.2.2.2.2.2.2.2.1,y70,y56.2.2.2.2.2.2.2.2.2.2.2.1,y56.2.2.2.2.2.2.2.2.2.2.2.2.1,y56.2.2.2.2.2.2.2.2.2.2.2.2.2.1,y56.2.2.2.2.2.2.2.2.2.2.2.2.2.2.1,y56.2.2.2.2.2.2.2.2.2.2.2.2.2.2.2.1,y56.2.2.2.2.2.2.2.2.2.2.2.2.2.2.2.2),0)))) fun j54=>
  (bif (!(decide (x0.2.2.2.2.2.2.2.2.2.1=2))) then
  j54 0
  else
  j54 x3))))

theorem pB (x0:EdQ) (x1:Int) (x2:Int) (x3:Int) (q5:P6) (r:EdQ×Int) (h:jL x0 x1 x2 x3=some r):
  FC Tryz.prog 71 [.agg (aK x0 q5).toArray,.int .i64 x1,.int .i64 x2,.int .i64 x3] (cY x0 q5 []) (fun _:P6=>True) (fun q=>.tuple #[.agg (aK r.1 q).toArray,.int .i64 r.2]) (fun q=>(cY r.1 q [])):=
 by
  refine FC.of (T:=TTx) Tryz.call71 Tryz.func71 E E fun w0=>?_
  unfold jL at h
  refine aR aA 3 [] [7,8] [(4,.bp 7 0),(8,.bp 8 0)] (.new 7 33 (aK x0 q5) (.new 8 33 bP .nil)) ⟨(Es E),(Bs E E)⟩ E E (JS.seq (JS.region (aB aA 4 [] [] [(16,.v (.agg #[.slice q5.1 x0.2.2.1.1.length q5.2.1,.int .i64 x0.2.2.1.2])),(17,.v (I x1)),(18,.v (I x2))] _ E ⟨(Es E),E⟩ ?_)))
  obtain ⟨⟨y29,y30,y31⟩,hy32,h⟩:=aE h
  refine JO.call E E E E (pY x0.2.2.1 x1 x2 q5.1 q5.2.1 _ hy32) E [0] E E ?_
  rintro ⟨a33,c34,a35,c36⟩ -
  refine aS aA 8 [] [19] [(10,.bp 19 0),(11,.v (.slice a35 y30.length c36)),(12,.v (.bool y31))] (.new 7 33 (aK x0 q5) (.new 8 33 bP (.new 19 25 [.slice a33 y29.1.length c34,.int .i64 y29.2] .nil))) E ⟨(Es E),(Bs E E)⟩ (aC E (JS.seq (aD aA 7 [(29,.v (.bool (bif (!y31) then true else (decide ((y30.length:Int)=0)))))] ⟨⟨E,V⟩,E⟩ E E ?_)))
  refine aL E h (fun h=>?_) (fun h=>?_)
  ·
   refine JS.seq (JS.region (aB aA 1 [] [] [(30,.v (.agg (aK x0 q5).toArray))] _ E ⟨⟨E,V⟩,E⟩ ?_))
   obtain ⟨⟨y37,y38⟩,hy39,h⟩:=aE h
   refine JO.call E E E E (eV x0 q5 _ hy39) E [0,1,2,3,4,5] E E fun q40 _=>aS aA 4 [] [] [(9,.v (I y38))] (.new 8 33 (aK y37 q40) .nil) E ⟨⟨E,V⟩,(Bs E E)⟩ (aC E ?_)
   cases h
   exact JS.ret aA q40 V E E [0,0,0,0,0,0] E
  refine JS.skip ?_
  obtain ⟨j54,hj78,h⟩:=aO h
  refine eH (ι:=Int) ⟨fun z=>j54 z=some r,fun z=>[(3,.v (I z)),(4,.bp 7 0),(8,.bp 8 0),(10,.bp 19 0),(11,.v (.slice a35 y30.length c36))],fun z=>(.new 7 33 (aK x0 q5) (.new 8 33 bP (.new 19 25 [.slice a33 y29.1.length c34,.int .i64 y29.2] .nil))),fun z=>(cY x0 q5 []),fun z=>[⟨(.int .i64),⟨a35,y30.length,c36⟩,y30⟩,⟨(.int .i64),⟨a33,y29.1.length,c34⟩,y29.1⟩],fun z=>0⟩ ?_ ?_
  ·
   refine aD aA 3 [(36,.v (.bool (!(decide ((Q8 x0).2.1=2)))))] ⟨⟨E,V⟩,E⟩ E E ?_
   refine aL E h (fun h=>?_) (fun h=>?_)
   ·
    refine tS aA 1 [(3,.v (I 0))] ⟨⟨E,V⟩,E⟩ E E (aN 0 h (Es E) (Bs E E) [0,1,2,3,4,5] E [1,0] E)
   refine JS.skip (aN x3 h (Es E) (Bs E E) [0,1,2,3,4,5] E [1,0] E)
  rintro x53 h
  subst hj78
  refine JS.seq (JS.region (aB aA 2 [] [] [(37,.v (.agg (aK x0 q5).toArray)),(38,.v (.agg #[.slice a33 y29.1.length c34,.int .i64 y29.2]))] _ E ⟨(Es E),E⟩ ?_))
  refine bnw h fun y56 hy57 h=>JO.call E E E E (uI x0 y29 2 q5 a33 c34 _ hy57) E [0,1,2,3,4,5,7] E E fun q58 _=>aS aA 2 [] [63] [(13,.bp 63 0)] (.new 7 33 (aK x0 q5) (.new 8 33 bP (.new 63 33 (aK y56 q58) .nil))) E ⟨⟨E,V⟩,(Bs E E)⟩ (aC E (JS.seq (JS.region (aB aA 4 [] [] [(42,.v (.agg #[.slice q5.2.2.1 (Q8 x0).2.2.1.length q5.2.2.2.1])),(43,.v (.slice a35 y30.length c36)),(44,.v (I x53))] _ E ⟨(Es E),E⟩ ?_))))
  obtain ⟨⟨y70,y71⟩,hy72,h⟩:=aE h
  refine JO.call E E E E (aBo (Q8 x0).2.2.1 y30 x53 q5.2.2.1 q5.2.2.2.1 a35 c36 _ hy72) E [1,12] E E ?_
  rintro ⟨a73,c74⟩ -
  refine aS aA 5 [] [] [] (.new 8 33 bP (.new 63 33 (aK (U10 y56 y70) (q58.1,q58.2.1,a73,c74,(Q4 q58))) .nil)) E ⟨V,(Bs E E)⟩ (aC E (aR aA 3 [] [] [(9,.v (I 0))] (.new 8 33 (aK (U10 y56 y70) (q58.1,q58.2.1,a73,c74,(Q4 q58))) .nil) ⟨⟨E,V⟩,(Bs E E)⟩ E E ?_))
  cases h
  exact JS.ret aA (U3 (U2 q58 a73) c74) V E E [1,0,1,1,1,1] E

def jK (x0:EdQ) (x1:Int):Option (EdQ×Int×Bool):=
  (aH (eK x0) fun (y27:EdQ)=>
  (aY (fun ((x95,x96):Int×EdQ)=>
  some (x96,x95,true)) fun j109=>
  (bif (decide (x1=99)) then
  j109 (3,y27)
  else
  (bif (decide (x1=108)) then
  j109 (5,y27)
  else
  (bif (decide (x1=100)) then
  (bif (decide (0<(x0.2.2.1.1.length:Int))) then
  (aH (qJ x0 x0.2.2.1.2 (min (W (x0.2.2.1.2+(max x0.2.2.2.1 1))) (x0.2.2.1.1.length:Int))) fun (y41,y42)=>
  j109 (y42,y41))
  else
  j109 (4,y27))
  else
  (bif (decide (x1=117)) then
  (aH (jL x0 0 x0.2.2.1.2 2) fun (y57,y58)=>
  j109 (y58,y57))
  else
  (bif (decide (x1=119)) then
  (aH (iF x0.2.2.1.1 x0.2.2.1.2 true) fun (y72:Int)=>
  (aH (jL x0 y72 x0.2.2.1.2 2) fun (y74,y75)=>
  j109 (y75,y74)))
  else
  some ((false,0,([],0),0,0,0,0,0,0,0,[],[],0,([],0),[],0,([],0)),0,false))))))))

theorem xW (x0:EdQ) (x1:Int) (q3:P6) (r:EdQ×Int×Bool) (h:jK x0 x1=some r):
  FC Tryz.prog 86 [.agg (aK x0 q3).toArray,.int .i64 x1] (cY x0 q3 []) (fun _:P6=>True) (fun q=>.tuple #[.agg (aK r.1 q).toArray,.int .i64 r.2.1,.bool r.2.2]) (fun q=>(cY r.1 q [])):=
 by
  refine FC.of (T:=TTx) Tryz.call86 Tryz.func86 E E fun w0=>?_
  unfold jK at h
  refine aR aA 4 [] [7,8] [(2,.bp 7 0),(4,.bp 8 0)] (.new 7 33 (aK x0 q3) (.new 8 33 bP .nil)) ⟨(Es E),(Bs E E)⟩ E E (JS.seq (iO E (by kernel_rfl) (fN aA 8 [] [(7,.v (I x0.2.2.1.2)),(8,.v (I (max x0.2.2.2.1 1)))] E (Es E) (oM E (JS.seq (JS.region (aB aA 1 [] [] [(17,.v (.agg (aK x0 q3).toArray))] _ E ⟨⟨E,V⟩,E⟩ ?_)))))))
  refine bnw h fun y27 hy28 h=>JO.call E E E E (kJ x0 q3 _ hy28) E [0,1,2,3,4,5] E E fun q29 _=>aS aA 3 [] [29] [(9,.bp 29 0)] (.new 7 33 (aK x0 q3) (.new 8 33 bP (.new 29 33 (aK y27 q29) .nil))) E ⟨⟨E,V⟩,(Bs E E)⟩ (aC E (JS.seq (aD aA 1 [(19,.v (I x1))] ⟨⟨E,V⟩,E⟩ E E ?_)))
  obtain ⟨j109,hj123,h⟩:=aO h
  refine bF (ι:=Int×EdQ×P6) ⟨fun z=>j109 (z.1,z.2.1)=some r,fun z=>[(4,.bp 8 0),(9,.bp 29 0),(10,.v (I z.1))],fun z=>(.new 8 33 bP (.new 29 33 (aK z.2.1 z.2.2) .nil)),fun z=>[],fun z=>(cY z.2.1 z.2.2 []),fun z=>0⟩ ?_ ?_
  ·
   refine aD aA 2 [(21,.v (.bool (decide (x1=99))))] ⟨⟨E,V⟩,E⟩ E E ?_
   refine aL E h (fun h=>?_) (fun h=>?_)
   ·
    refine tS aA 1 [(10,.v (I 3))] ⟨⟨E,V⟩,E⟩ E E (aV (cJ (3,y27,q29) h (Es E) (Bs E E) [] E [0,1,2,3,4,5] E E))
   refine aD aA 2 [(23,.v (.bool (decide (x1=108))))] ⟨⟨E,V⟩,E⟩ E E ?_
   refine aL E h (fun h=>?_) (fun h=>?_)
   ·
    refine tS aA 1 [(10,.v (I 5))] ⟨⟨E,V⟩,E⟩ E E (aV (cJ (5,y27,q29) h (Es E) (Bs E E) [] E [0,1,2,3,4,5] E E))
   refine aD aA 2 [(25,.v (.bool (decide (x1=100))))] ⟨⟨E,V⟩,E⟩ E E ?_
   refine aL E h (fun h=>?_) (fun h=>?_)
   ·
    refine aD aA 1 [(10,.v (I 4))] ⟨⟨E,V⟩,E⟩ E E (aD aA 5 [(31,.v (.bool (decide (0<(x0.2.2.1.1.length:Int)))))] ⟨⟨E,V⟩,E⟩ E E ?_)
    refine aL E h (fun h=>?_) (fun h=>?_)
    ·
     refine JS.region (aB aA 10 [(W (x0.2.2.1.2+(max x0.2.2.2.1 1)))] [] [(33,.v (.agg (aK x0 q3).toArray)),(34,.v (I x0.2.2.1.2)),(42,.v (I (min (W (x0.2.2.1.2+(max x0.2.2.2.1 1))) (x0.2.2.1.1.length:Int))))] _ E ⟨⟨V,E⟩,(Es E),E⟩ ?_)
     obtain ⟨⟨y41,y42⟩,hy43,h⟩:=aE h
     refine JO.call E E E E (yA x0 x0.2.2.1.2 (min (W (x0.2.2.1.2+(max x0.2.2.2.1 1))) (x0.2.2.1.1.length:Int)) q3 _ hy43) E [0,1,2,3,4,5] E E fun q44 _=>aS aA 5 [] [] [(10,.v (I y42))] (.new 8 33 bP (.new 29 33 (aK y41 q44) .nil)) E ⟨⟨E,V⟩,(Bs E E)⟩ (aC E (aV (cJ (y42,y41,q44) h (Es E) (Bs E E) [] E [0,1,2,3,4,5] E E)))
    refine JS.skip (aV (cJ (4,y27,q29) h (Es E) (Bs E E) [] E [0,1,2,3,4,5] E E))
   refine aD aA 2 [(46,.v (.bool (decide (x1=117))))] ⟨⟨E,V⟩,E⟩ E E ?_
   refine aL E h (fun h=>?_) (fun h=>?_)
   ·
    refine JS.region (aB aA 2 [] [] [(49,.v (.agg (aK x0 q3).toArray)),(50,.v (I x0.2.2.1.2))] _ E ⟨(Es E),E⟩ ?_)
    obtain ⟨⟨y57,y58⟩,hy59,h⟩:=aE h
    refine JO.call E E E E (pB x0 0 x0.2.2.1.2 2 q3 _ hy59) E [0,1,2,3,4,5] E E fun q60 _=>aS aA 5 [] [] [(10,.v (I y58))] (.new 8 33 bP (.new 29 33 (aK y57 q60) .nil)) E ⟨⟨E,V⟩,(Bs E E)⟩ (aC E (aV (cJ (y58,y57,q60) h (Es E) (Bs E E) [] E [0,1,2,3,4,5] E E)))
   refine aD aA 2 [(54,.v (.bool (decide (x1=119))))] ⟨⟨E,V⟩,E⟩ E E ?_
   refine aL E h (fun h=>?_) (fun h=>?_)
   ·
    obtain ⟨y72,hy73,h⟩:=aE h
    obtain ⟨⟨y74,y75⟩,hy76,h⟩:=aE h
    refine bE E (.new 7 33 (aK x0 q3) .nil) [] [7,8,9,10,11,12] ⟨E,E,E,E,V⟩ E (fun be89=>?_)
    refine bV aA aG true 10 [0,4,6] E (by kernel_rfl) [] [(57,.v (.agg (aK x0 q3).toArray)),(61,.v (I x0.2.2.1.2)),(63,.v (I x0.2.2.1.2))] ⟨E,E,E,E,V⟩ [] E E (Es E) (aT aA aG 9 [1] E (by kernel_rfl) [] [(58,.bp 7 2)] E ⟨E,V⟩ (bV aA aG true 7 [2,3] E (by kernel_rfl) [] [(60,.v (.slice q3.1 x0.2.2.1.1.length q3.2.1))] ⟨E,E,E,E,V⟩ [] E E ⟨E,V⟩ (JA.one 5 (by kernel_rfl) (JK.call E E E E (wV x0.2.2.1.1 x0.2.2.1.2 true q3.1 q3.2.1 _ hy73) E [0] E E fun _ _=>aJ ⟨E,E,E,E,V⟩ [] E (JA.one 7 (by kernel_rfl) (JK.call E E E E (pB x0 y72 x0.2.2.1.2 2 q3 _ hy76) E [0,1,2,3,4,5] E E ?_))))))
    rintro q77 -
    refine aP E (aT aA aG 2 [8,9,10] E (by kernel_rfl) [] [(65,.v (.agg (aK y74 q77).toArray)),(66,.v (I y75))] E (Es E) (JA.one 11 (by kernel_rfl) (bA aA E E E E E E E E (aP E (aT aA aG 0 [12] E (by kernel_rfl) [] [(10,.v (I y75))] E ⟨E,V⟩ (bG (by kernel_rfl) (aX (B':=(.new 8 33 bP (.new 29 33 (aK y74 q77) .nil))) (Bs E E) (aV (cJ (y75,y74,q77) h (Es E) (Bs E E) [] E [0,1,2,3,4,5] E E)))))))))
   refine aR aA 4 [] [] [(5,.v (I 0)),(6,.v (.bool false))] (.new 8 33 bP .nil) ⟨(Es E),(Bs E E)⟩ E E ?_
   cases h
   refine aW (.int .i64) Sl.nil E E (aW (.sl (.int .i64)) Sl.nil E E (aW (.pair (.sl (.int .i64)) (.int .i64)) Sl.nil E E (aW (.int .i64) Sl.nil E E (aW (.int .i64) Sl.nil E E (aW (.int .i64) Sl.nil E E (JS.ret aA (none,0,none,0,none,0,none,0,none,0,none,0) V E E [5,4,3,2,1,0] E))))))
  rintro ⟨x95,x96,q97⟩ h
  subst hj123
  refine aR aA 5 [] [] [(5,.v (I x95)),(6,.v (.bool true))] (.new 8 33 (aK x96 q97) .nil) ⟨(Es E),(Bs E E)⟩ E E ?_
  cases h
  exact JS.ret aA q97 V E E [0,0,0,0,0,0] E

def lK (x0:List Int) (x1:Int) (j21:(List Int)→Option (List Int)) (k15:(List Int×Int)→Option (List Int)):(List Int×Int)→Option (List Int):=fun (x7,x10)=>
  (bif (bif (decide (x10<x1)) then (decide ((x7.length:Int)≤400)) else false) then
  (aI (x7.length+x0.length≤536870912) <|
  k15 ((x7 ++ x0),(W (x10+1))))
  else
  j21 x7)

def nL (x0:List Int) (x1:Int):Option (List Int):=
  (aY (fun (x18:List Int)=>
  some x18) fun j21=>
  (bI (lK x0 x1 j21) bO (([]:List Int),0)))

theorem xV (x0:List Int) (x1:Int) (a3:Option Addr) (c4:Nat) (r:List Int) (h:nL x0 x1=some r):
  FC Tryz.prog 85 [.slice a3 x0.length c4,.int .i64 x1] [⟨(.int .i64),⟨a3,x0.length,c4⟩,x0⟩] (fun _:Option Addr×Nat=>True) (fun q=>.slice q.1 r.length q.2) (fun q=>[⟨(.int .i64),⟨q.1,r.length,q.2⟩,r⟩]):=
 by
  refine FC.of (T:=TTx) Tryz.call85 Tryz.func85 E E fun w0=>?_
  unfold nL at h
  refine aD aA 1 [] ⟨V,E⟩ E E (aD aA 1 [(5,.v (.slice none 0 0))] ⟨⟨E,V⟩,E⟩ E E (JS.seq (aD aA 1 [(6,.v (I 0))] ⟨⟨E,V⟩,E⟩ E E ?_)))
  obtain ⟨j21,hj25,h⟩:=aO h
  refine bF (ι:=List Int×Option Addr×Nat) ⟨fun z=>j21 z.1=some r,fun z=>[(5,.v (.slice z.2.1 z.1.length z.2.2))],fun z=>.nil,fun z=>[],fun z=>[⟨(.int .i64),⟨z.2.1,z.1.length,z.2.2⟩,z.1⟩],fun z=>0⟩ ?_ ?_
  ·
   refine aW (.int .i64) Sl.nil E E (JS.loop (ι:=Nat×List Int×Int×Option Addr×Nat) ⟨fun z=>bI (lK x0 x1 j21) z.1 (z.2.1,z.2.2.1)=some r,fun z=>[(0,.v (.slice a3 x0.length c4)),(1,.v (I x1)),(5,.v (.slice z.2.2.2.1 z.2.1.length (Q4 z))),(6,.v (I z.2.2.1))],fun z=>.nil,fun z=>[⟨(.int .i64),⟨a3,x0.length,c4⟩,x0⟩],fun z=>[⟨(.int .i64),⟨z.2.2.2.1,z.2.1.length,(Q4 z)⟩,z.2.1⟩],fun z=>z.1⟩ (bO,([]:List Int),0,none,0) h (Es E) V [0] E [0] E ?_)
   rintro ⟨n16,x7,x10,a8,c9⟩ h
   obtain ⟨n16,rfl,h⟩:=bM h
   rw [lK] at h
   refine JS.seq (aD aA 8 [(14,.v (.bool (bif (decide (x10<x1)) then (decide ((x7.length:Int)≤400)) else false)))] ⟨⟨E,V⟩,E⟩ E E ?_)
   refine aL E h (fun h=>?_) (fun h=>?_)
   ·
    refine JS.skip (JS.seq (JS.block (JS.region (aB aA 2 [] [] [(17,.v (.slice a8 x7.length c9)),(18,.v (.slice a3 x0.length c4))] _ E ⟨(Es E),E⟩ ?_))))
    obtain ⟨g11,h⟩:=aF h
    refine eN aA E E E E ⟨E,E,E,E,V,E,E,E,E⟩ E E E [0] E 0 E g11 E fun a12 c13=>aB aA 1 [] [] [(5,.v (.slice a12 (x7 ++ x0).length c13))] _ E ⟨⟨E,V⟩,E⟩ (aC E (aV (cW aA 3 [(W (x10+1))] [] [(6,.v (I (W (x10+1))))] _ ⟨⟨V,E⟩,⟨E,V⟩,E⟩ E E (bZ (n16,(x7 ++ x0),(W (x10+1)),a12,c13) h (Nat.lt_succ_self _) (Es E) V [0] E [0] E))))
   refine JS.exit E (aN (x7,a8,c9) h ⟨E,V⟩ V [] E [0] E)
  rintro ⟨x18,a19,c20⟩ h
  subst hj25
  refine aD aA 2 [(4,.v (.slice a19 x18.length c20))] ⟨⟨E,V⟩,E⟩ E E ?_
  cases h
  exact JS.ret aA (a19,c20) V E E [0] E

def kW (x0:List Int×Int) (x1:List Int):Option ((List Int×Int)×Bool):=
  (aH (dB x0) fun (y11:Bool)=>
  (bif (bif (!y11) then true else (decide (400<(x1.length:Int)))) then
  some (([],0),false)
  else
  (aY (fun (x38:List Int)=>
  (aH (dB (x38,(W (x0.2+(x1.length:Int))))) fun (y45:Bool)=>
  (bif (!y45) then
  some (([],0),false)
  else
  some ((x38,(W (x0.2+(x1.length:Int)))),true)))) fun j41=>
  (aI (0≤(0:Int)∧(0:Int)≤x0.2∧x0.2≤(x0.1.length:Int)) <|
  (aH (cG (bC x0.1 (0:Int) x0.2)) fun (y18:List Int)=>
  (aI (y18.length+x1.length≤536870912) <|
  (aI (0≤x0.2∧x0.2≤(x0.1.length:Int)∧(x0.1.length:Int)≤(x0.1.length:Int)) <|
  (aI ((y18 ++ x1).length+(bC x0.1 x0.2 (x0.1.length:Int)).length≤536870912) <|
  j41 ((y18 ++ x1) ++ (bC x0.1 x0.2 (x0.1.length:Int)))))))))))

theorem nF (x0:List Int×Int) (x1:List Int) (a3:Option Addr) (c4:Nat) (a7:Option Addr) (c8:Nat) (r:(List Int×Int)×Bool) (h:kW x0 x1=some r):
  FC Tryz.prog 128 [.agg #[.slice a3 x0.1.length c4,.int .i64 x0.2],.slice a7 x1.length c8] [⟨(.int .i64),⟨a3,x0.1.length,c4⟩,x0.1⟩,⟨(.int .i64),⟨a7,x1.length,c8⟩,x1⟩] (fun _:Option Addr×Nat=>True) (fun q=>.tuple #[.agg #[.slice q.1 r.1.1.length q.2,.int .i64 r.1.2],.bool r.2]) (fun q=>[⟨(.int .i64),⟨q.1,r.1.1.length,q.2⟩,r.1.1⟩]):=
 by
  refine FC.of (T:=TTx) Tryz.call128 Tryz.func128 E E fun w0=>?_
  unfold kW at h
  refine aR aA 3 [] [3,4] [(2,.bp 3 0),(4,.bp 4 0)] (.new 3 25 [.slice a3 x0.1.length c4,.int .i64 x0.2] (.new 4 25 [.slice none 0 0,.int .i64 0] .nil)) ⟨(Es E),(Bs E E)⟩ E E (JS.seq (JS.seq (JS.region (aB aA 1 [] [] [(7,.v (.agg #[.slice a3 x0.1.length c4,.int .i64 x0.2]))] _ E ⟨⟨E,V⟩,E⟩ ?_))))
  refine bnw h fun y11 hy12 h=>JO.call E E E E (eL x0 a3 c4 _ hy12) E [0] E E fun _ _=>aB aA 6 [] [] [(14,.v (.bool (bif (!y11) then true else (decide (400<(x1.length:Int))))))] _ E ⟨⟨E,V⟩,E⟩ (aC E ?_)
  refine aL E h (fun h=>?_) (fun h=>?_)
  ·
   refine aR aA 3 [] [] [(5,.v (.bool false))] (.new 4 25 [.slice none 0 0,.int .i64 0] .nil) ⟨⟨E,V⟩,(Bs E E)⟩ E E ?_
   cases h
   refine aW (.int .i64) Sl.nil E E (JS.ret aA (none,0) V E E [0] E)
  refine JS.skip (JS.seq ?_)
  obtain ⟨j41,hj57,h⟩:=aO h
  refine sL (ι:=List Int×Option Addr×Nat) ⟨fun z=>j41 z.1=some r,fun z=>[(4,.bp 4 0),(6,.bp 30 0)],fun z=>(.new 4 25 [.slice none 0 0,.int .i64 0] (.new 30 25 [.slice z.2.1 z.1.length z.2.2,.int .i64 (W (x0.2+(x1.length:Int)))] .nil)),fun z=>[],fun z=>[⟨(.int .i64),⟨z.2.1,z.1.length,z.2.2⟩,z.1⟩],fun z=>0⟩ ?_ ?_
  ·
   obtain ⟨g13,h⟩:=aF h
   obtain ⟨y18,hy19,h⟩:=aE h
   obtain ⟨g22,h⟩:=aF h
   obtain ⟨g25,h⟩:=aF h
   obtain ⟨g29,h⟩:=aF h
   refine sK 0 E (0:Int) x0.2 fun a14 c15 hu16=>sK 1 E x0.2 (x0.1.length:Int) fun a26 c27 hu28=>gR 2 E fun hs55=>?_
   refine bE E (.new 3 25 [.slice a3 x0.1.length c4,.int .i64 x0.2] .nil) [] [19,21] ⟨E,E,E,E,V⟩ E (fun be34=>?_)
   refine aT aA aG 20 [0,2] E (by kernel_rfl) [] [(16,.bp 3 0),(18,.bp 3 1)] E (Es E) (bV aA aG true 8 [1,3,6,8,9,10,11,14,15,16,17,18] E (by kernel_rfl) [(W (x0.2+(x1.length:Int)))] [(17,.v (.slice a3 x0.1.length c4)),(19,.v (I x0.2)),(22,.v (.slice a7 x1.length c8)),(25,.v (.slice a3 x0.1.length c4)),(27,.v (I x0.2)),(34,.v (I (W (x0.2+(x1.length:Int)))))] ⟨E,E,E,E,V⟩ [] E E ⟨⟨V,E⟩,(Es E)⟩ (mD aA aG 4 E (by kernel_rfl) E E E E E E (0:Int) x0.2 E E ⟨g13.1,g13.2.1,g13.2.2,hs55.cap,hu16 g13⟩ E (mD aA aG 12 E (by kernel_rfl) E E E E E E x0.2 (x0.1.length:Int) E E ⟨g25.1,g25.2.1,g25.2.2,hs55.cap,hu28 g25⟩ E ?_)))
   refine JA.all (rs:=[5,20]) (by kernel_rfl) E (List.forall_mem_cons.2 ⟨?_,List.forall_mem_cons.2 ⟨?_,(fun _ hx=>absurd hx List.not_mem_nil)⟩⟩)
   ·
    refine JK.call E E E E (cS (bC x0.1 (0:Int) x0.2) a14 c15 _ hy19) E [1] E E ?_
    rintro ⟨a20,c21⟩ -
    refine aJ ⟨E,E,E,E,V⟩ [] E ?_
    refine JA.all (rs:=[7,20]) (by kernel_rfl) E (List.forall_mem_cons.2 ⟨?_,List.forall_mem_cons.2 ⟨?_,(fun _ hx=>absurd hx List.not_mem_nil)⟩⟩)
    ·
     refine bB aA E E E E ⟨E,E,E,E,V,E,E,E,E⟩ E E E [0] E 3 E g22 E fun a23 c24=>aJ ⟨E,E,E,E,V⟩ [] E ?_
     refine JA.all (rs:=[13,20]) (by kernel_rfl) E (List.forall_mem_cons.2 ⟨?_,List.forall_mem_cons.2 ⟨?_,(fun _ hx=>absurd hx List.not_mem_nil)⟩⟩)
     ·
      refine bB aA E E E E ⟨E,E,E,E,V,E,E,E,E⟩ E E E [0] E 0 E g29 E fun a30 c31=>aJ ⟨E,E,E,E,V⟩ [] E (aT aA aG 2 [19] E (by kernel_rfl) [] [(35,.v (.agg #[.slice a30 ((y18 ++ x1) ++ (bC x0.1 x0.2 (x0.1.length:Int))).length c31,.int .i64 (W (x0.2+(x1.length:Int)))]))] E ⟨E,V⟩ (JA.one 20 (by kernel_rfl) (JK.alloc aA E E E E E 30 E (eF _ E) (aJ ⟨E,E,E,E,V⟩ [] E (JA.one 21 (by kernel_rfl) (bA aA E E E E E E E E (aP E (bG (by kernel_rfl) (aX (B':=(.new 4 25 [.slice none 0 0,.int .i64 0] (.new 30 25 [.slice a30 ((y18 ++ x1) ++ (bC x0.1 x0.2 (x0.1.length:Int))).length c31,.int .i64 (W (x0.2+(x1.length:Int)))] .nil))) (Bs E E) (aN (((y18 ++ x1) ++ (bC x0.1 x0.2 (x0.1.length:Int))),a30,c31) h (Es E) (Bs E E) [] E [0] E))))))))))
     refine JK.alloc aA E E E E E 30 E (eF _ E) (aJ ⟨E,E,E,E,V⟩ [] E (JA.one 13 (by kernel_rfl) (bB aA E E E E ⟨E,E,E,E,V,E,E,E,E⟩ E E E [0] E 0 E g29 E fun a30 c31=>aJ ⟨E,E,E,E,V⟩ [] E (aT aA aG 1 [19] E (by kernel_rfl) [] [(35,.v (.agg #[.slice a30 ((y18 ++ x1) ++ (bC x0.1 x0.2 (x0.1.length:Int))).length c31,.int .i64 (W (x0.2+(x1.length:Int)))]))] E ⟨E,V⟩ (JA.one 21 (by kernel_rfl) (bA aA E E E E E E E E (aP E (bG (by kernel_rfl) (aX (B':=(.new 4 25 [.slice none 0 0,.int .i64 0] (.new 30 25 [.slice a30 ((y18 ++ x1) ++ (bC x0.1 x0.2 (x0.1.length:Int))).length c31,.int .i64 (W (x0.2+(x1.length:Int)))] .nil))) (Bs E E) (aN (((y18 ++ x1) ++ (bC x0.1 x0.2 (x0.1.length:Int))),a30,c31) h (Es E) (Bs E E) [] E [0] E))))))))))
    refine JK.alloc aA E E E E E 30 E (eF _ E) (aJ ⟨E,E,E,E,V⟩ [] E (JA.one 7 (by kernel_rfl) (bB aA E E E E ⟨E,E,E,E,V,E,E,E,E⟩ E E E [0] E 3 E g22 E fun a23 c24=>aJ ⟨E,E,E,E,V⟩ [] E (JA.one 13 (by kernel_rfl) (bB aA E E E E ⟨E,E,E,E,V,E,E,E,E⟩ E E E [0] E 0 E g29 E fun a30 c31=>aJ ⟨E,E,E,E,V⟩ [] E (aT aA aG 1 [19] E (by kernel_rfl) [] [(35,.v (.agg #[.slice a30 ((y18 ++ x1) ++ (bC x0.1 x0.2 (x0.1.length:Int))).length c31,.int .i64 (W (x0.2+(x1.length:Int)))]))] E ⟨E,V⟩ (JA.one 21 (by kernel_rfl) (bA aA E E E E E E E E (aP E (bG (by kernel_rfl) (aX (B':=(.new 4 25 [.slice none 0 0,.int .i64 0] (.new 30 25 [.slice a30 ((y18 ++ x1) ++ (bC x0.1 x0.2 (x0.1.length:Int))).length c31,.int .i64 (W (x0.2+(x1.length:Int)))] .nil))) (Bs E E) (aN (((y18 ++ x1) ++ (bC x0.1 x0.2 (x0.1.length:Int))),a30,c31) h (Es E) (Bs E E) [] E [0] E))))))))))))
   refine JK.alloc aA E E E E E 30 E (eF _ E) (aJ ⟨E,E,E,E,V⟩ [] E (JA.one 5 (by kernel_rfl) (JK.call E E E E (cS (bC x0.1 (0:Int) x0.2) a14 c15 _ hy19) E [1] E E ?_)))
   rintro ⟨a20,c21⟩ -
   refine aJ ⟨E,E,E,E,V⟩ [] E (JA.one 7 (by kernel_rfl) (bB aA E E E E ⟨E,E,E,E,V,E,E,E,E⟩ E E E [0] E 3 E g22 E fun a23 c24=>aJ ⟨E,E,E,E,V⟩ [] E (JA.one 13 (by kernel_rfl) (bB aA E E E E ⟨E,E,E,E,V,E,E,E,E⟩ E E E [0] E 0 E g29 E fun a30 c31=>aJ ⟨E,E,E,E,V⟩ [] E (aT aA aG 1 [19] E (by kernel_rfl) [] [(35,.v (.agg #[.slice a30 ((y18 ++ x1) ++ (bC x0.1 x0.2 (x0.1.length:Int))).length c31,.int .i64 (W (x0.2+(x1.length:Int)))]))] E ⟨E,V⟩ (JA.one 21 (by kernel_rfl) (bA aA E E E E E E E E (aP E (bG (by kernel_rfl) (aX (B':=(.new 4 25 [.slice none 0 0,.int .i64 0] (.new 30 25 [.slice a30 ((y18 ++ x1) ++ (bC x0.1 x0.2 (x0.1.length:Int))).length c31,.int .i64 (W (x0.2+(x1.length:Int)))] .nil))) (Bs E E) (aN (((y18 ++ x1) ++ (bC x0.1 x0.2 (x0.1.length:Int))),a30,c31) h (Es E) (Bs E E) [] E [0] E)))))))))))
  rintro ⟨x38,a39,c40⟩ h
  subst hj57
  refine JS.seq (JS.seq (JS.region (aB aA 1 [] [] [(36,.v (.agg #[.slice a39 x38.length c40,.int .i64 (W (x0.2+(x1.length:Int)))]))] _ E ⟨⟨E,V⟩,E⟩ ?_)))
  refine bnw h fun y45 hy46 h=>JO.call E E E E (eL (x38,(W (x0.2+(x1.length:Int)))) a39 c40 _ hy46) E [0] E E fun _ _=>aB aA 1 [] [] [(38,.v (.bool (!y45)))] _ E ⟨⟨E,V⟩,E⟩ (aC E ?_)
  refine aL E h (fun h=>?_) (fun h=>?_)
  ·
   refine aR aA 3 [] [] [(5,.v (.bool false))] (.new 4 25 [.slice none 0 0,.int .i64 0] .nil) ⟨⟨E,V⟩,(Bs E E)⟩ E E ?_
   cases h
   refine aW (.int .i64) Sl.nil E E (JS.ret aA (none,0) V E E [0] E)
  refine JS.skip (aR aA 3 [] [] [(5,.v (.bool true))] (.new 4 25 [.slice a39 x38.length c40,.int .i64 (W (x0.2+(x1.length:Int)))] .nil) ⟨⟨E,V⟩,(Bs E E)⟩ E E ?_)
  cases h
  exact JS.ret aA (a39,c40) V E E [0] E

def kA (x0:EdQ) (x1:List Int) (x2:Int):Option (EdQ×Int):=
  (aH (kW x0.2.2.1 x1) fun (y32,y33)=>
  (bif (!y33) then
  (aH (dW x0) fun (y37,y38)=>
  some (y37,y38))
  else
  (aH (nH x0 y32 x2) fun (y52:EdQ)=>
  some (y52,0))))

theorem rB (x0:EdQ) (x1:List Int) (x2:Int) (q4:P6) (a28:Option Addr) (c29:Nat) (r:EdQ×Int) (h:kA x0 x1 x2=some r):
  FC Tryz.prog 84 [.agg (aK x0 q4).toArray,.slice a28 x1.length c29,.int .i64 x2] (cY x0 q4 [⟨(.int .i64),⟨a28,x1.length,c29⟩,x1⟩]) (fun _:P6=>True) (fun q=>.tuple #[.agg (aK r.1 q).toArray,.int .i64 r.2]) (fun q=>(cY r.1 q [])):=
 by
  refine FC.of (T:=TTx) Tryz.call84 Tryz.func84 E E fun w0=>?_
  unfold kA at h
  refine aR aA 3 [] [8,9] [(3,.bp 8 0),(6,.bp 9 0)] (.new 8 33 (aK x0 q4) (.new 9 33 bP .nil)) ⟨(Es E),(Bs E E)⟩ E E (JS.seq (JS.region (aB aA 3 [] [] [(12,.v (.agg #[.slice q4.1 x0.2.2.1.1.length q4.2.1,.int .i64 x0.2.2.1.2])),(13,.v (.slice a28 x1.length c29))] _ E ⟨(Es E),E⟩ ?_)))
  obtain ⟨⟨y32,y33⟩,hy34,h⟩:=aE h
  refine JO.call E E E E (nF x0.2.2.1 x1 q4.1 q4.2.1 a28 c29 _ hy34) E [0,6] E E ?_
  rintro ⟨a35,c36⟩ -
  refine aS aA 6 [] [16] [(8,.bp 16 0),(9,.v (.bool y33))] (.new 8 33 (aK x0 q4) (.new 9 33 bP (.new 16 25 [.slice a35 y32.1.length c36,.int .i64 y32.2] .nil))) E ⟨(Es E),(Bs E E)⟩ (aC E (JS.seq (aD aA 2 [(18,.v (.bool (!y33)))] ⟨⟨E,V⟩,E⟩ E E ?_)))
  refine aL E h (fun h=>?_) (fun h=>?_)
  ·
   refine JS.seq (JS.region (aB aA 1 [] [] [(19,.v (.agg (aK x0 q4).toArray))] _ E ⟨⟨E,V⟩,E⟩ ?_))
   obtain ⟨⟨y37,y38⟩,hy39,h⟩:=aE h
   refine JO.call E E E E (eV x0 q4 _ hy39) E [0,1,2,3,4,5] E E fun q40 _=>aS aA 4 [] [] [(7,.v (I y38))] (.new 9 33 (aK y37 q40) .nil) E ⟨⟨E,V⟩,(Bs E E)⟩ (aC E ?_)
   cases h
   exact JS.ret aA q40 V E E [0,0,0,0,0,0] E
  refine JS.skip (JS.seq (JS.region (aB aA 3 [] [] [(23,.v (.agg (aK x0 q4).toArray)),(24,.v (.agg #[.slice a35 y32.1.length c36,.int .i64 y32.2])),(25,.v (I x2))] _ E ⟨(Es E),E⟩ ?_)))
  refine bnw h fun y52 hy53 h=>JO.call E E E E (uI x0 y32 x2 q4 a35 c36 _ hy53) E [0,1,2,3,4,5,7] E E fun q54 _=>aS aA 2 [] [] [(7,.v (I 0))] (.new 9 33 (aK y52 q54) .nil) E ⟨⟨E,V⟩,(Bs E E)⟩ (aC E ?_)
  cases h
  exact JS.ret aA q54 V E E [0,0,0,0,0,0] E

def kS (x0:EdQ) (x1:Int×List (List UInt8)) (x2:Int×Int):Option (EdQ×Int×Bool):=
  (aY (fun ((x256,x257):Int×EdQ)=>
  some (x257,x256,true)) fun j270=>
  (bif (decide (x2.1=1)) then
  (aH (nL ([x2.2]:List Int) (max x0.2.2.2.1 1)) fun (y33:List Int)=>
  (aH (kA x0 y33 1) fun (y37,y38)=>
  j270 (y38,y37)))
  else
  (bif (decide (x2.1=6)) then
  (aH (nL ([9]:List Int) (max x0.2.2.2.1 1)) fun (y54:List Int)=>
  (aH (kA x0 y54 1) fun (y58,y59)=>
  j270 (y59,y58)))
  else
  (bif (decide (x2.1=4)) then
  (aH (eK x0) fun (y74:EdQ)=>
  j270 (2,y74))
  else
  (bif (decide (x2.1=2)) then
  (aH (jK x0 x2.2) fun (y88,y89,y90)=>
  some (y88,y89,y90))
  else
  (bif (decide (x2.1=5)) then
  (aH (qJ x0 (max (W (x0.2.2.1.2 - (max x0.2.2.2.1 1))) 0) x0.2.2.1.2) fun (y104,y105)=>
  j270 (y105,y104))
  else
  (bif (decide (x2.1=14)) then
  (aH (qJ x0 x0.2.2.1.2 (min (W (x0.2.2.1.2+(max x0.2.2.2.1 1))) (x0.2.2.1.1.length:Int))) fun (y119,y120)=>
  j270 (y120,y119))
  else
  (bif (decide (x2.1=11)) then
  (aH (eS x0.2.2.1 (W (x0.2.2.1.2 - (max x0.2.2.2.1 1)))) fun (y134:List Int×Int)=>
  (aH (eT x0 y134) fun (y138,y139)=>
  j270 (y139,y138)))
  else
  (bif (decide (x2.1=10)) then
  (aH (eS x0.2.2.1 (W (x0.2.2.1.2+(max x0.2.2.2.1 1)))) fun (y154:List Int×Int)=>
  (aH (eT x0 y154) fun (y158,y159)=>
  j270 (y159,y158)))
  else
  (bif (decide (x2.1=12)) then
  (aH (eS x0.2.2.1 0) fun (y174:List Int×Int)=>
  (aH (eT x0 y174) fun (y178,y179)=>
  j270 (y179,y178)))
  else
  (bif (decide (x2.1=13)) then
  (aH (eS x0.2.2.1 (x0.2.2.1.1.length:Int)) fun (y194:List Int×Int)=>
  (aH (eT x0 y194) fun (y198,y199)=>
  j270 (y199,y198)))
  else
  (bif (decide (x2.1=8)) then
  (aH (pI x0 x1 (-1)) fun (y214,y215)=>
  j270 (y215,y214))
  else
  (bif (decide (x2.1=9)) then
  (aH (pI x0 x1 1) fun (y229,y230)=>
  j270 (y230,y229))
  else
  some ((false,0,([],0),0,0,0,0,0,0,0,[],[],0,([],0),[],0,([],0)),0,false))))))))))))))

theorem xX (x0:EdQ) (x1:Int×List (List UInt8)) (x2:Int×Int) (q4:P6) (a28:Option Addr) (c29:Nat) (r:EdQ×Int×Bool) (h:kS x0 x1 x2=some r):
  FC Tryz.prog 66 [.agg (aK x0 q4).toArray,.agg #[.int .i64 x1.1,.slice a28 x1.2.length c29],.agg #[.int .i64 x2.1,.int .i64 x2.2]] (cY x0 q4 [⟨.str,⟨a28,x1.2.length,c29⟩,x1.2⟩]) (fun _:P6=>True) (fun q=>.tuple #[.agg (aK r.1 q).toArray,.int .i64 r.2.1,.bool r.2.2]) (fun q=>(cY r.1 q [])):=
 by
  refine FC.of (T:=TTx) Tryz.call66 Tryz.func66 E E fun w0=>?_
  unfold kS at h
  refine aR aA 6 [] [8,9,10,11] [(3,.bp 8 0),(4,.bp 9 0),(5,.bp 10 0),(6,.bp 11 0)] (.new 8 33 (aK x0 q4) (.new 9 36 [.int .i64 x1.1,.slice a28 x1.2.length c29] (.new 10 55 [.int .i64 x2.1,.int .i64 x2.2] (.new 11 33 bP .nil)))) ⟨(Es E),(Bs E E)⟩ E E (JS.seq (iO E (by kernel_rfl) (fN aA 13 [] [(9,.v (I x0.2.2.1.2)),(10,.v (I (max x0.2.2.2.1 1))),(11,.v (I (x0.2.2.1.1.length:Int)))] E (Es E) (oM E (aR aA 1 [] [12] [(12,.bp 12 0)] (.new 8 33 (aK x0 q4) (.new 9 36 [.int .i64 x1.1,.slice a28 x1.2.length c29] (.new 10 55 [.int .i64 x2.1,.int .i64 x2.2] (.new 11 33 bP (.new 12 33 bP .nil))))) ⟨⟨E,V⟩,(Bs E E)⟩ E E (aD aA 1 [] ⟨V,E⟩ E E (JS.seq (aD aA 2 [(25,.v (I x2.1))] ⟨⟨E,V⟩,E⟩ E E ?_))))))))
  obtain ⟨j270,hj296,h⟩:=aO h
  refine bF (ι:=Int×EdQ×P6) ⟨fun z=>j270 (z.1,z.2.1)=some r,fun z=>[(6,.bp 11 0),(12,.bp 12 0),(13,.v (I z.1))],fun z=>(.new 11 33 bP (.new 12 33 (aK z.2.1 z.2.2) .nil)),fun z=>[],fun z=>(cY z.2.1 z.2.2 []),fun z=>0⟩ ?_ ?_
  ·
   refine aD aA 2 [(27,.v (.bool (decide (x2.1=1))))] ⟨⟨E,V⟩,E⟩ E E ?_
   refine aL E h (fun h=>?_) (fun h=>?_)
   ·
    obtain ⟨y33,hy34,h⟩:=aE h
    obtain ⟨⟨y37,y38⟩,hy39,h⟩:=aE h
    refine bE E (.new 8 33 (aK x0 q4) (.new 10 55 [.int .i64 x2.1,.int .i64 x2.2] .nil)) [] [6,7,8,9,10,11] ⟨E,E,E,E,E,E,E,E,V⟩ E (fun be52=>?_)
    refine bV aA aG true 10 [0,4] E (by kernel_rfl) [] [(30,.v (.agg (aK x0 q4).toArray)),(34,.v (I (max x0.2.2.2.1 1)))] ⟨E,E,E,E,E,E,E,E,V⟩ [] E E (Es E) (aT aA aG 9 [1] E (by kernel_rfl) [] [(31,.bp 10 1)] E ⟨E,V⟩ (bV aA aG true 8 [2] E (by kernel_rfl) [] [(32,.v (I x2.2))] ⟨E,E,E,E,E,E,E,E,V⟩ [] E E ⟨E,V⟩ (JA.one 3 (by kernel_rfl) (JK.buildSlice aA E E E E E E E E E E E [] E (.int .i64) [x2.2] ⟨E,E⟩ E E fun a32=>aJ ⟨E,E,E,E,E,E,E,E,V⟩ [] E (JA.one 5 (by kernel_rfl) (JK.call E E E E (xV ([x2.2]:List Int) (max x0.2.2.2.1 1) a32 (([x2.2]:List Int).length) _ hy34) E [7] E E ?_))))))
    rintro ⟨a35,c36⟩ -
    refine aJ ⟨E,E,E,E,E,E,E,E,V⟩ [] E (JA.one 6 (by kernel_rfl) (JK.call E E E E (rB x0 y33 1 q4 a35 c36 _ hy39) E [0,1,2,3,4,5,7] E E ?_))
    rintro q40 -
    refine aP E (aT aA aG 2 [7,8,9] E (by kernel_rfl) [] [(37,.v (.agg (aK y37 q40).toArray)),(38,.v (I y38))] E (Es E) (JA.one 10 (by kernel_rfl) (bA aA E E E E E E E E (aP E (aT aA aG 0 [11] E (by kernel_rfl) [] [(13,.v (I y38))] E ⟨E,V⟩ (bG (by kernel_rfl) (aX (B':=(.new 11 33 bP (.new 12 33 (aK y37 q40) .nil))) (Bs E E) (aV (cJ (y38,y37,q40) h (Es E) (Bs E E) [] E [0,1,2,3,4,5] E E)))))))))
   refine aD aA 2 [(39,.v (.bool (decide (x2.1=6))))] ⟨⟨E,V⟩,E⟩ E E ?_
   refine aL E h (fun h=>?_) (fun h=>?_)
   ·
    obtain ⟨y54,hy55,h⟩:=aE h
    obtain ⟨⟨y58,y59⟩,hy60,h⟩:=aE h
    refine bE E (.new 8 33 (aK x0 q4) .nil) [] [4,5,6,7,8,9] ⟨E,E,E,E,V⟩ E (fun be73=>?_)
    refine bV aA aG true 8 [0,2] E (by kernel_rfl) [] [(42,.v (.agg (aK x0 q4).toArray)),(44,.v (I (max x0.2.2.2.1 1)))] ⟨E,E,E,E,V⟩ [] E E (Es E) (JA.one 1 (by kernel_rfl) (JK.buildSlice aA E E E E E E E E E E E [] E (.int .i64) [9] ⟨E,E⟩ E E fun a53=>aJ ⟨E,E,E,E,V⟩ [] E (JA.one 3 (by kernel_rfl) (JK.call E E E E (xV ([9]:List Int) (max x0.2.2.2.1 1) a53 (([9]:List Int).length) _ hy55) E [7] E E ?_))))
    rintro ⟨a56,c57⟩ -
    refine aJ ⟨E,E,E,E,V⟩ [] E (JA.one 4 (by kernel_rfl) (JK.call E E E E (rB x0 y54 1 q4 a56 c57 _ hy60) E [0,1,2,3,4,5,7] E E ?_))
    rintro q61 -
    refine aP E (aT aA aG 2 [5,6,7] E (by kernel_rfl) [] [(47,.v (.agg (aK y58 q61).toArray)),(48,.v (I y59))] E (Es E) (JA.one 8 (by kernel_rfl) (bA aA E E E E E E E E (aP E (aT aA aG 0 [9] E (by kernel_rfl) [] [(13,.v (I y59))] E ⟨E,V⟩ (bG (by kernel_rfl) (aX (B':=(.new 11 33 bP (.new 12 33 (aK y58 q61) .nil))) (Bs E E) (aV (cJ (y59,y58,q61) h (Es E) (Bs E E) [] E [0,1,2,3,4,5] E E)))))))))
   refine aD aA 2 [(49,.v (.bool (decide (x2.1=4))))] ⟨⟨E,V⟩,E⟩ E E ?_
   refine aL E h (fun h=>?_) (fun h=>?_)
   ·
    refine JS.region (aB aA 1 [] [] [(51,.v (.agg (aK x0 q4).toArray))] _ E ⟨⟨E,V⟩,E⟩ ?_)
    refine bnw h fun y74 hy75 h=>JO.call E E E E (kJ x0 q4 _ hy75) E [0,1,2,3,4,5] E E fun q76 _=>aS aA 2 [] [] [(13,.v (I 2))] (.new 11 33 bP (.new 12 33 (aK y74 q76) .nil)) E ⟨⟨E,V⟩,(Bs E E)⟩ (aC E (aV (cJ (2,y74,q76) h (Es E) (Bs E E) [] E [0,1,2,3,4,5] E E)))
   refine aD aA 2 [(53,.v (.bool (decide (x2.1=2))))] ⟨⟨E,V⟩,E⟩ E E ?_
   refine aL E h (fun h=>?_) (fun h=>?_)
   ·
    refine JS.seq (JS.region (aB aA 3 [] [] [(55,.v (.agg (aK x0 q4).toArray)),(57,.v (I x2.2))] _ E ⟨(Es E),E⟩ ?_))
    obtain ⟨⟨y88,y89,y90⟩,hy91,h⟩:=aE h
    refine JO.call E E E E (xW x0 x2.2 q4 _ hy91) E [0,1,2,3,4,5] E E fun q92 _=>aS aA 6 [] [] [(7,.v (I y89)),(8,.v (.bool y90))] (.new 11 33 (aK y88 q92) .nil) E ⟨(Es E),(Bs E E)⟩ (aC E ?_)
    cases h
    exact JS.ret aA q92 V E E [0,0,0,0,0,0] E
   refine aD aA 2 [(62,.v (.bool (decide (x2.1=5))))] ⟨⟨E,V⟩,E⟩ E E ?_
   refine aL E h (fun h=>?_) (fun h=>?_)
   ·
    refine JS.region (aB aA 6 [(W (x0.2.2.1.2 - (max x0.2.2.2.1 1)))] [] [(65,.v (.agg (aK x0 q4).toArray)),(69,.v (I (max (W (x0.2.2.1.2 - (max x0.2.2.2.1 1))) 0))),(70,.v (I x0.2.2.1.2))] _ E ⟨⟨V,E⟩,(Es E),E⟩ ?_)
    obtain ⟨⟨y104,y105⟩,hy106,h⟩:=aE h
    refine JO.call E E E E (yA x0 (max (W (x0.2.2.1.2 - (max x0.2.2.2.1 1))) 0) x0.2.2.1.2 q4 _ hy106) E [0,1,2,3,4,5] E E fun q107 _=>aS aA 5 [] [] [(13,.v (I y105))] (.new 11 33 bP (.new 12 33 (aK y104 q107) .nil)) E ⟨⟨E,V⟩,(Bs E E)⟩ (aC E (aV (cJ (y105,y104,q107) h (Es E) (Bs E E) [] E [0,1,2,3,4,5] E E)))
   refine aD aA 2 [(74,.v (.bool (decide (x2.1=14))))] ⟨⟨E,V⟩,E⟩ E E ?_
   refine aL E h (fun h=>?_) (fun h=>?_)
   ·
    refine JS.region (aB aA 7 [(W (x0.2.2.1.2+(max x0.2.2.2.1 1)))] [] [(77,.v (.agg (aK x0 q4).toArray)),(78,.v (I x0.2.2.1.2)),(83,.v (I (min (W (x0.2.2.1.2+(max x0.2.2.2.1 1))) (x0.2.2.1.1.length:Int))))] _ E ⟨⟨V,E⟩,(Es E),E⟩ ?_)
    obtain ⟨⟨y119,y120⟩,hy121,h⟩:=aE h
    refine JO.call E E E E (yA x0 x0.2.2.1.2 (min (W (x0.2.2.1.2+(max x0.2.2.2.1 1))) (x0.2.2.1.1.length:Int)) q4 _ hy121) E [0,1,2,3,4,5] E E fun q122 _=>aS aA 5 [] [] [(13,.v (I y120))] (.new 11 33 bP (.new 12 33 (aK y119 q122) .nil)) E ⟨⟨E,V⟩,(Bs E E)⟩ (aC E (aV (cJ (y120,y119,q122) h (Es E) (Bs E E) [] E [0,1,2,3,4,5] E E)))
   refine aD aA 2 [(87,.v (.bool (decide (x2.1=11))))] ⟨⟨E,V⟩,E⟩ E E ?_
   refine aL E h (fun h=>?_) (fun h=>?_)
   ·
    obtain ⟨y134,hy135,h⟩:=aE h
    obtain ⟨⟨y138,y139⟩,hy140,h⟩:=aE h
    refine bE E (.new 8 33 (aK x0 q4) .nil) [] [7,8,9,10,11,12] ⟨E,E,E,E,V⟩ E (fun be153=>?_)
    refine bV aA aG true 7 [0,1,2,3,4,5] E (by kernel_rfl) [(W (x0.2.2.1.2 - (max x0.2.2.2.1 1)))] [(90,.v (.agg (aK x0 q4).toArray)),(92,.v (.agg #[.slice q4.1 x0.2.2.1.1.length q4.2.1,.int .i64 x0.2.2.1.2])),(95,.v (I (W (x0.2.2.1.2 - (max x0.2.2.2.1 1)))))] ⟨E,E,E,E,V⟩ [] E E ⟨⟨V,E⟩,(Es E)⟩ (JA.one 6 (by kernel_rfl) (JK.call E E E E (kI x0.2.2.1 (W (x0.2.2.1.2 - (max x0.2.2.2.1 1))) q4.1 q4.2.1 _ hy135) E [0] E E ?_))
    rintro ⟨a136,c137⟩ -
    refine aJ ⟨E,E,E,E,V⟩ [] E (JA.one 7 (by kernel_rfl) (JK.call E E E E (lC x0 y134 q4 a136 c137 _ hy140) E [0,1,2,3,4,5,7] E E ?_))
    rintro q141 -
    refine aP E (aT aA aG 2 [8,9,10] E (by kernel_rfl) [] [(98,.v (.agg (aK y138 q141).toArray)),(99,.v (I y139))] E (Es E) (JA.one 11 (by kernel_rfl) (bA aA E E E E E E E E (aP E (aT aA aG 0 [12] E (by kernel_rfl) [] [(13,.v (I y139))] E ⟨E,V⟩ (bG (by kernel_rfl) (aX (B':=(.new 11 33 bP (.new 12 33 (aK y138 q141) .nil))) (Bs E E) (aV (cJ (y139,y138,q141) h (Es E) (Bs E E) [] E [0,1,2,3,4,5] E E)))))))))
   refine aD aA 2 [(100,.v (.bool (decide (x2.1=10))))] ⟨⟨E,V⟩,E⟩ E E ?_
   refine aL E h (fun h=>?_) (fun h=>?_)
   ·
    obtain ⟨y154,hy155,h⟩:=aE h
    obtain ⟨⟨y158,y159⟩,hy160,h⟩:=aE h
    refine bE E (.new 8 33 (aK x0 q4) .nil) [] [7,8,9,10,11,12] ⟨E,E,E,E,V⟩ E (fun be173=>?_)
    refine bV aA aG true 7 [0,1,2,3,4,5] E (by kernel_rfl) [(W (x0.2.2.1.2+(max x0.2.2.2.1 1)))] [(103,.v (.agg (aK x0 q4).toArray)),(105,.v (.agg #[.slice q4.1 x0.2.2.1.1.length q4.2.1,.int .i64 x0.2.2.1.2])),(108,.v (I (W (x0.2.2.1.2+(max x0.2.2.2.1 1)))))] ⟨E,E,E,E,V⟩ [] E E ⟨⟨V,E⟩,(Es E)⟩ (JA.one 6 (by kernel_rfl) (JK.call E E E E (kI x0.2.2.1 (W (x0.2.2.1.2+(max x0.2.2.2.1 1))) q4.1 q4.2.1 _ hy155) E [0] E E ?_))
    rintro ⟨a156,c157⟩ -
    refine aJ ⟨E,E,E,E,V⟩ [] E (JA.one 7 (by kernel_rfl) (JK.call E E E E (lC x0 y154 q4 a156 c157 _ hy160) E [0,1,2,3,4,5,7] E E ?_))
    rintro q161 -
    refine aP E (aT aA aG 2 [8,9,10] E (by kernel_rfl) [] [(111,.v (.agg (aK y158 q161).toArray)),(112,.v (I y159))] E (Es E) (JA.one 11 (by kernel_rfl) (bA aA E E E E E E E E (aP E (aT aA aG 0 [12] E (by kernel_rfl) [] [(13,.v (I y159))] E ⟨E,V⟩ (bG (by kernel_rfl) (aX (B':=(.new 11 33 bP (.new 12 33 (aK y158 q161) .nil))) (Bs E E) (aV (cJ (y159,y158,q161) h (Es E) (Bs E E) [] E [0,1,2,3,4,5] E E)))))))))
   refine aD aA 2 [(113,.v (.bool (decide (x2.1=12))))] ⟨⟨E,V⟩,E⟩ E E ?_
   refine aL E h (fun h=>?_) (fun h=>?_)
   ·
    obtain ⟨y174,hy175,h⟩:=aE h
    obtain ⟨⟨y178,y179⟩,hy180,h⟩:=aE h
    refine bE E (.new 8 33 (aK x0 q4) .nil) [] [4,5,6,7,8,9] ⟨E,E,E,E,V⟩ E (fun be193=>?_)
    refine bV aA aG true 7 [0,1,2] E (by kernel_rfl) [] [(116,.v (.agg (aK x0 q4).toArray)),(118,.v (.agg #[.slice q4.1 x0.2.2.1.1.length q4.2.1,.int .i64 x0.2.2.1.2]))] ⟨E,E,E,E,V⟩ [] E E (Es E) (JA.one 3 (by kernel_rfl) (JK.call E E E E (kI x0.2.2.1 0 q4.1 q4.2.1 _ hy175) E [0] E E ?_))
    rintro ⟨a176,c177⟩ -
    refine aJ ⟨E,E,E,E,V⟩ [] E (JA.one 4 (by kernel_rfl) (JK.call E E E E (lC x0 y174 q4 a176 c177 _ hy180) E [0,1,2,3,4,5,7] E E ?_))
    rintro q181 -
    refine aP E (aT aA aG 2 [5,6,7] E (by kernel_rfl) [] [(121,.v (.agg (aK y178 q181).toArray)),(122,.v (I y179))] E (Es E) (JA.one 8 (by kernel_rfl) (bA aA E E E E E E E E (aP E (aT aA aG 0 [9] E (by kernel_rfl) [] [(13,.v (I y179))] E ⟨E,V⟩ (bG (by kernel_rfl) (aX (B':=(.new 11 33 bP (.new 12 33 (aK y178 q181) .nil))) (Bs E E) (aV (cJ (y179,y178,q181) h (Es E) (Bs E E) [] E [0,1,2,3,4,5] E E)))))))))
   refine aD aA 2 [(123,.v (.bool (decide (x2.1=13))))] ⟨⟨E,V⟩,E⟩ E E ?_
   refine aL E h (fun h=>?_) (fun h=>?_)
   ·
    obtain ⟨y194,hy195,h⟩:=aE h
    obtain ⟨⟨y198,y199⟩,hy200,h⟩:=aE h
    refine bE E (.new 8 33 (aK x0 q4) .nil) [] [5,6,7,8,9,10] ⟨E,E,E,E,V⟩ E (fun be213=>?_)
    refine bV aA aG true 7 [0,1,2,3] E (by kernel_rfl) [] [(126,.v (.agg (aK x0 q4).toArray)),(128,.v (.agg #[.slice q4.1 x0.2.2.1.1.length q4.2.1,.int .i64 x0.2.2.1.2])),(129,.v (I (x0.2.2.1.1.length:Int)))] ⟨E,E,E,E,V⟩ [] E E (Es E) (JA.one 4 (by kernel_rfl) (JK.call E E E E (kI x0.2.2.1 (x0.2.2.1.1.length:Int) q4.1 q4.2.1 _ hy195) E [0] E E ?_))
    rintro ⟨a196,c197⟩ -
    refine aJ ⟨E,E,E,E,V⟩ [] E (JA.one 5 (by kernel_rfl) (JK.call E E E E (lC x0 y194 q4 a196 c197 _ hy200) E [0,1,2,3,4,5,7] E E ?_))
    rintro q201 -
    refine aP E (aT aA aG 2 [6,7,8] E (by kernel_rfl) [] [(132,.v (.agg (aK y198 q201).toArray)),(133,.v (I y199))] E (Es E) (JA.one 9 (by kernel_rfl) (bA aA E E E E E E E E (aP E (aT aA aG 0 [10] E (by kernel_rfl) [] [(13,.v (I y199))] E ⟨E,V⟩ (bG (by kernel_rfl) (aX (B':=(.new 11 33 bP (.new 12 33 (aK y198 q201) .nil))) (Bs E E) (aV (cJ (y199,y198,q201) h (Es E) (Bs E E) [] E [0,1,2,3,4,5] E E)))))))))
   refine aD aA 2 [(134,.v (.bool (decide (x2.1=8))))] ⟨⟨E,V⟩,E⟩ E E ?_
   refine aL E h (fun h=>?_) (fun h=>?_)
   ·
    refine JS.region (aB aA 2 [] [] [(137,.v (.agg (aK x0 q4).toArray)),(138,.v (.agg #[.int .i64 x1.1,.slice a28 x1.2.length c29]))] _ E ⟨(Es E),E⟩ ?_)
    obtain ⟨⟨y214,y215⟩,hy216,h⟩:=aE h
    refine JO.call E E E E (aAg x0 x1 (-1) q4 a28 c29 _ hy216) E [0,1,2,3,4,5,6] E E fun q217 _=>aS aA 5 [] [] [(13,.v (I y215))] (.new 11 33 bP (.new 12 33 (aK y214 q217) .nil)) E ⟨⟨E,V⟩,(Bs E E)⟩ (aC E (aV (cJ (y215,y214,q217) h (Es E) (Bs E E) [] E [0,1,2,3,4,5] E E)))
   refine aD aA 2 [(142,.v (.bool (decide (x2.1=9))))] ⟨⟨E,V⟩,E⟩ E E ?_
   refine aL E h (fun h=>?_) (fun h=>?_)
   ·
    refine JS.region (aB aA 2 [] [] [(145,.v (.agg (aK x0 q4).toArray)),(146,.v (.agg #[.int .i64 x1.1,.slice a28 x1.2.length c29]))] _ E ⟨(Es E),E⟩ ?_)
    obtain ⟨⟨y229,y230⟩,hy231,h⟩:=aE h
    refine JO.call E E E E (aAg x0 x1 1 q4 a28 c29 _ hy231) E [0,1,2,3,4,5,6] E E fun q232 _=>aS aA 5 [] [] [(13,.v (I y230))] (.new 11 33 bP (.new 12 33 (aK y229 q232) .nil)) E ⟨⟨E,V⟩,(Bs E E)⟩ (aC E (aV (cJ (y230,y229,q232) h (Es E) (Bs E E) [] E [0,1,2,3,4,5] E E)))
   refine aR aA 4 [] [] [(7,.v (I 0)),(8,.v (.bool false))] (.new 11 33 bP .nil) ⟨(Es E),(Bs E E)⟩ E E ?_
   cases h
   refine aW (.int .i64) Sl.nil E E (aW (.sl (.int .i64)) Sl.nil E E (aW (.pair (.sl (.int .i64)) (.int .i64)) Sl.nil E E (aW (.int .i64) Sl.nil E E (aW (.int .i64) Sl.nil E E (aW (.int .i64) Sl.nil E E (JS.ret aA (none,0,none,0,none,0,none,0,none,0,none,0) V E E [5,4,3,2,1,0] E))))))
  rintro ⟨x256,x257,q258⟩ h
  subst hj296
  refine aR aA 5 [] [] [(7,.v (I x256)),(8,.v (.bool true))] (.new 11 33 (aK x257 q258) .nil) ⟨(Es E),(Bs E E)⟩ E E ?_
  cases h
  exact JS.ret aA q258 V E E [0,0,0,0,0,0] E

def rY (x0:EdQ):Option (EdQ×Int):=
  (aH (dR x0 0) fun (y26:EdQ)=>
  (aH (cM x0.2.2.1) fun (y40:List Int×Int)=>
  some ((y26.1,3,y26.2.2.1,y26.2.2.2.1,y26.2.2.2.2.1,y26.2.2.2.2.2.1,y26.2.2.2.2.2.2.1,y26.2.2.2.2.2.2.2.1,y26.2.2.2.2.2.2.2.2.1,y26.2.2.2.2.2.2.2.2.2.1,y26.2.2.2.2.2.2.2.2.2.2.1,y26.2.2.2.2.2.2.2.2.2.2.2.1,y26.2.2.2.2.2.2.2.2.2.2.2.2.1,y26.2.2.2.2.2.2.2.2.2.2.2.2.2.1,[],0,y40),0)))

theorem aG6 (x0:EdQ) (q2:P6) (r:EdQ×Int) (h:rY x0=some r):
  FC Tryz.prog 105 [.agg (aK x0 q2).toArray] (cY x0 q2 []) (fun _:Option Addr×Nat×Option Addr×Nat×Option Addr×Nat×Option Addr×Nat×Option Addr×Nat=>True) (fun q=>.tuple #[.agg (aK (U14 r.1 []) (q.1,q.2.1,q.2.2.1,q.2.2.2.1,(Q4 q).1,(Q4 q).2.1,(Q4 q).2.2.1,(Q4 q).2.2.2.1,none,0,(Q8 q))).toArray,.int .i64 r.2]) (fun q=>[⟨(.int .i64),⟨q.1,r.1.2.2.1.1.length,q.2.1⟩,r.1.2.2.1.1⟩,⟨(.sl (.int .i64)),⟨q.2.2.1,r.1.2.2.2.2.2.2.2.2.2.2.1.length,q.2.2.2.1⟩,r.1.2.2.2.2.2.2.2.2.2.2.1⟩,⟨(.pair (.sl (.int .i64)) (.int .i64)),⟨(Q4 q).1,r.1.2.2.2.2.2.2.2.2.2.2.2.1.length,(Q4 q).2.1⟩,r.1.2.2.2.2.2.2.2.2.2.2.2.1⟩,⟨(.int .i64),⟨(Q4 q).2.2.1,r.1.2.2.2.2.2.2.2.2.2.2.2.2.2.1.1.length,(Q4 q).2.2.2.1⟩,r.1.2.2.2.2.2.2.2.2.2.2.2.2.2.1.1⟩,⟨(.int .i64),⟨(Q8 q).1,r.1.2.2.2.2.2.2.2.2.2.2.2.2.2.2.2.2.1.length,(Q8 q).2⟩,r.1.2.2.2.2.2.2.2.2.2.2.2.2.2.2.2.2.1⟩]):=
 by
  refine FC.of (T:=TTx) Tryz.call105 Tryz.func105 E E fun w0=>?_
  unfold rY at h
  refine aR aA 3 [] [7,8] [(1,.bp 7 0),(2,.bp 8 0)] (.new 7 33 (aK x0 q2) (.new 8 33 bP .nil)) ⟨(Es E),(Bs E E)⟩ E E (JS.seq (JS.region (aB aA 1 [] [] [(5,.v (.agg (aK x0 q2).toArray))] _ E ⟨⟨E,V⟩,E⟩ ?_)))
  refine bnw h fun y26 hy27 h=>JO.call E E E E (lB x0 0 q2 _ hy27) E [0,1,2,3,4,5] E E fun q28 _=>aS aA 2 [] [29] [(4,.bp 29 0)] (.new 7 33 (aK x0 q2) (.new 8 33 bP (.new 29 33 (aK y26 q28) .nil))) E ⟨⟨E,V⟩,(Bs E E)⟩ (aC E (JS.seq (JS.region (aB aA 2 [] [] [(8,.v (.agg #[.slice q2.1 x0.2.2.1.1.length q2.2.1,.int .i64 x0.2.2.1.2]))] _ E ⟨⟨E,V⟩,E⟩ ?_))))
  refine bnw h fun y40 hy41 h=>JO.call E E E E (dJ x0.2.2.1 q2.1 q2.2.1 _ hy41) E [0] E E ?_
  rintro ⟨a42,c43⟩ -
  refine aS aA 8 [] [] [] (.new 8 33 bP (.new 29 33 (aK (y26.1,3,y26.2.2.1,y26.2.2.2.1,(Q4 y26).1,(Q4 y26).2.1,(Q4 y26).2.2.1,(Q4 y26).2.2.2.1,(Q8 y26).1,(Q8 y26).2.1,(Q8 y26).2.2.1,(Q8 y26).2.2.2.1,(Q12 y26).1,(Q12 y26).2.1,[],0,y40) (q28.1,q28.2.1,q28.2.2.1,q28.2.2.2.1,(Q4 q28).1,(Q4 q28).2.1,(Q4 q28).2.2.1,(Q4 q28).2.2.2.1,none,0,a42,c43)) .nil)) E ⟨V,(Bs E E)⟩ (aC E (aR aA 3 [] [] [(3,.v (I 0))] (.new 8 33 (aK (y26.1,3,y26.2.2.1,y26.2.2.2.1,(Q4 y26).1,(Q4 y26).2.1,(Q4 y26).2.2.1,(Q4 y26).2.2.2.1,(Q8 y26).1,(Q8 y26).2.1,(Q8 y26).2.2.1,(Q8 y26).2.2.2.1,(Q12 y26).1,(Q12 y26).2.1,[],0,y40) (q28.1,q28.2.1,q28.2.2.1,q28.2.2.2.1,(Q4 q28).1,(Q4 q28).2.1,(Q4 q28).2.2.1,(Q4 q28).2.2.2.1,none,0,a42,c43)) .nil) ⟨⟨E,V⟩,(Bs E E)⟩ E E ?_))
  cases h
  exact JS.ret aA (q28.1,q28.2.1,q28.2.2.1,q28.2.2.2.1,(Q4 q28).1,(Q4 q28).2.1,(Q4 q28).2.2.1,(Q4 q28).2.2.2.1,a42,c43) V E E [1,1,1,1,0] E

def lM (x0:List (List Int×Int)):Option ((List (List Int×Int))×(List Int×Int)×Bool):=
  (aH (kC x0) fun (y6:Bool)=>
  (bif (bif (!y6) then true else (decide ((x0.length:Int)=0))) then
  some ([],([],0),false)
  else
  (aI (0≤(0:Int)∧(0:Int)≤(W ((x0.length:Int) - 1))∧(W ((x0.length:Int) - 1))≤(x0.length:Int)) <|
  (aH (fZ (bC x0 0 (W ((x0.length:Int) - 1)))) fun (y11:List (List Int×Int))=>
  (aI (0≤(W ((x0.length:Int) - 1))∧(W ((x0.length:Int) - 1))<(x0.length:Int)) <|
  (aH (cM ((at' x0 (W ((x0.length:Int) - 1))).1,(at' x0 (W ((x0.length:Int) - 1))).2)) fun (y22:List Int×Int)=>
  some (y11,y22,true)))))))

theorem zL (x0:List (List Int×Int)) (a2:Option Addr) (c3:Nat) (r:(List (List Int×Int))×(List Int×Int)×Bool) (h:lM x0=some r):
  FC Tryz.prog 138 [.agg #[.slice a2 x0.length c3]] [⟨(.pair (.sl (.int .i64)) (.int .i64)),⟨a2,x0.length,c3⟩,x0⟩] (fun _:Option Addr×Nat×Option Addr×Nat=>True) (fun q=>.tuple #[.agg #[.slice q.1 r.1.length q.2.1],.agg #[.slice q.2.2.1 r.2.1.1.length q.2.2.2,.int .i64 r.2.1.2],.bool r.2.2]) (fun q=>[⟨(.pair (.sl (.int .i64)) (.int .i64)),⟨q.1,r.1.length,q.2.1⟩,r.1⟩,⟨(.int .i64),⟨q.2.2.1,r.2.1.1.length,q.2.2.2⟩,r.2.1.1⟩]):=
 by
  refine FC.of (T:=TTx) Tryz.call138 Tryz.func138 E E fun w0=>?_
  unfold lM at h
  refine aR aA 4 [] [2,3,4] [(1,.bp 2 0),(2,.bp 3 0),(3,.bp 4 0)] (.new 2 31 [.slice a2 x0.length c3] (.new 3 31 [.slice none 0 0] (.new 4 25 [.slice none 0 0,.int .i64 0] .nil))) ⟨(Es E),(Bs E E)⟩ E E (aD aA 4 [(5,.v (I (x0.length:Int)))] ⟨⟨E,V⟩,E⟩ E E (JS.seq (JS.seq (JS.region (aB aA 1 [] [] [(10,.v (.agg #[.slice a2 x0.length c3]))] _ E ⟨⟨E,V⟩,E⟩ ?_)))))
  refine bnw h fun y6 hy7 h=>JO.call E E E E (rE x0 a2 c3 _ hy7) E [0] E E fun _ _=>aB aA 5 [] [] [(16,.v (.bool (bif (!y6) then true else (decide ((x0.length:Int)=0)))))] _ E ⟨⟨E,V⟩,E⟩ (aC E ?_)
  refine aL E h (fun h=>?_) (fun h=>?_)
  ·
   refine aR aA 5 [] [] [(4,.v (.bool false))] (.new 3 31 [.slice none 0 0] (.new 4 25 [.slice none 0 0,.int .i64 0] .nil)) ⟨⟨E,V⟩,(Bs E E)⟩ E E ?_
   cases h
   refine aW (.pair (.sl (.int .i64)) (.int .i64)) Sl.nil E E (aW (.int .i64) Sl.nil E E (JS.ret aA (none,0,none,0) V E E [1,0] E))
  refine JS.skip (JS.seq (JS.region (aB aA 4 [(W ((x0.length:Int) - 1))] [] [(20,.v (.slice a2 x0.length c3)),(22,.v (I (W ((x0.length:Int) - 1))))] _ E ⟨⟨V,E⟩,(Es E),E⟩ ?_)))
  obtain ⟨g8,h⟩:=aF h
  refine yY aA E E E E E E E E 0 E (0:Int) (W ((x0.length:Int) - 1)) E E g8 E fun a9 c10=>aB aA 1 [] [] [(24,.v (.agg #[.slice a9 (bC x0 0 (W ((x0.length:Int) - 1))).length c10]))] _ E ⟨⟨E,V⟩,E⟩ ?_
  refine bnw h fun y11 hy12 h=>JO.call E E E E (oR (bC x0 0 (W ((x0.length:Int) - 1))) a9 c10 _ hy12) E [0] E E ?_
  rintro ⟨a13,c14⟩ -
  refine aS aA 2 [] [16] [(6,.bp 16 0)] (.new 2 31 [.slice a2 x0.length c3] (.new 3 31 [.slice none 0 0] (.new 4 25 [.slice none 0 0,.int .i64 0] (.new 16 31 [.slice a13 y11.length c14] .nil)))) E ⟨⟨E,V⟩,(Bs E E)⟩ (aC E (JS.seq ?_))
  obtain ⟨g16,h⟩:=aF h
  refine bnw h fun y22 hy23 h=>aJh 1 E (Int.toNat (W ((x0.length:Int) - 1))) (at' x0 (W ((x0.length:Int) - 1))) E fun a17 c18 ys19 hl20 hy21=>gR 3 E fun hs32=>?_
  refine bE E (.new 2 31 [.slice a2 x0.length c3] (.new 16 31 [.slice a13 y11.length c14] .nil)) [0] [8,9,10] ⟨E,E,E,E,E,E,E,E,V⟩ E (fun be28=>?_)
  refine bV aA aG true 5 [0,1,2,3,4,5] E (by kernel_rfl) [(W ((x0.length:Int) - 1))] [(26,.v (.agg #[.slice a13 y11.length c14])),(31,.ep ⟨a2,x0.length,c3⟩ (Int.toNat (W ((x0.length:Int) - 1))*2))] ⟨E,E,E,E,E,E,E,E,V⟩ [0] E E ⟨⟨V,E⟩,hs32.ix g16,(Es E)⟩ (rZ aA aG 6 E (by kernel_rfl) E E E E E 0 E E (Int.toNat (W ((x0.length:Int) - 1))) 0 ((Sl.v ⟨a17,((at' x0 (W ((x0.length:Int) - 1))).1).length,c18⟩),(at' x0 (W ((x0.length:Int) - 1))).2) ⟨hy21 (rJ g16),E⟩ E E E ⟨E,E,E,E,E,E,E,E,V⟩ [0] E (JA.one 7 (by kernel_rfl) (JK.call E E E E (dJ ((at' x0 (W ((x0.length:Int) - 1))).1,(at' x0 (W ((x0.length:Int) - 1))).2) a17 c18 _ hy23) E [1] E E ?_)))
  rintro ⟨a24,c25⟩ -
  refine aJ ⟨E,E,E,E,E,E,E,E,V⟩ [0] E (JA.one 8 (by kernel_rfl) (bA aA E E E E E E E E (aP E (JA.one 9 (by kernel_rfl) (bA aA E E E E E E E E (aP E (aT aA aG 0 [10] E (by kernel_rfl) [] [(4,.v (.bool true))] E ⟨E,V⟩ (bG (by kernel_rfl) (aX (B':=(.new 3 31 [.slice a13 y11.length c14] (.new 4 25 [.slice a24 y22.1.length c25,.int .i64 y22.2] .nil))) (Bs E E) ?_)))))))))
  cases h
  exact JS.ret aA (a13,c14,a24,c25) V E E [1,0] E

def rX (x0:EdQ):Option (EdQ×Int):=
  (aH (lM x0.2.2.2.2.2.2.2.2.2.2.2.1) fun (y26,y27,y28)=>
  (bif (!y28) then
  (aH (dW x0) fun (y34,y35)=>
  some (y34,y35))
  else
  (aH (dR x0 0) fun (y49:EdQ)=>
  (aH (fL y27 x0.2.1) fun (y63:List Int×Int)=>
  some ((y49.1,y49.2.1,(y27.1,y63.2),y49.2.2.2.1,y49.2.2.2.2.1,y49.2.2.2.2.2.1,y49.2.2.2.2.2.2.1,y49.2.2.2.2.2.2.2.1,y49.2.2.2.2.2.2.2.2.1,y49.2.2.2.2.2.2.2.2.2.1,y49.2.2.2.2.2.2.2.2.2.2.1,y26,y49.2.2.2.2.2.2.2.2.2.2.2.2.1,y49.2.2.2.2.2.2.2.2.2.2.2.2.2.1,y49.2.2.2.2.2.2.2.2.2.2.2.2.2.2.1,y49.2.2.2.2.2.2.2.2.2.2.2.2.2.2.2.1,y49.2.2.2.2.2.2.2.2.2.2.2.2.2.2.2.2),0)))))

theorem aG5 (x0:EdQ) (q2:P6) (r:EdQ×Int) (h:rX x0=some r):
  FC Tryz.prog 104 [.agg (aK x0 q2).toArray] (cY x0 q2 []) (fun _:P6=>True) (fun q=>.tuple #[.agg (aK r.1 q).toArray,.int .i64 r.2]) (fun q=>(cY r.1 q [])):=
 by
  refine FC.of (T:=TTx) Tryz.call104 Tryz.func104 E E fun w0=>?_
  unfold rX at h
  refine aR aA 3 [] [7,8] [(1,.bp 7 0),(2,.bp 8 0)] (.new 7 33 (aK x0 q2) (.new 8 33 bP .nil)) ⟨(Es E),(Bs E E)⟩ E E (JS.seq (JS.region (aB aA 2 [] [] [(10,.v (.agg #[.slice (Q4 q2).1 (Q8 x0).2.2.2.1.length (Q4 q2).2.1]))] _ E ⟨⟨E,V⟩,E⟩ ?_)))
  obtain ⟨⟨y26,y27,y28⟩,hy29,h⟩:=aE h
  refine JO.call E E E E (zL (Q8 x0).2.2.2.1 (Q4 q2).1 (Q4 q2).2.1 _ hy29) E [2] E E ?_
  rintro ⟨a30,c31,a32,c33⟩ -
  refine aS aA 9 [] [19,20] [(4,.bp 19 0),(5,.bp 20 0),(6,.v (.bool y28))] (.new 7 33 (aK x0 q2) (.new 8 33 bP (.new 19 31 [.slice a30 y26.length c31] (.new 20 25 [.slice a32 y27.1.length c33,.int .i64 y27.2] .nil)))) E ⟨(Es E),(Bs E E)⟩ (aC E (JS.seq (aD aA 2 [(16,.v (.bool (!y28)))] ⟨⟨E,V⟩,E⟩ E E ?_)))
  refine aL E h (fun h=>?_) (fun h=>?_)
  ·
   refine JS.seq (JS.region (aB aA 1 [] [] [(17,.v (.agg (aK x0 q2).toArray))] _ E ⟨⟨E,V⟩,E⟩ ?_))
   obtain ⟨⟨y34,y35⟩,hy36,h⟩:=aE h
   refine JO.call E E E E (eV x0 q2 _ hy36) E [0,1,2,3,4,5] E E fun q37 _=>aS aA 4 [] [] [(3,.v (I y35))] (.new 8 33 (aK y34 q37) .nil) E ⟨⟨E,V⟩,(Bs E E)⟩ (aC E ?_)
   cases h
   exact JS.ret aA q37 V E E [0,0,0,0,0,0] E
  refine JS.skip (JS.seq (JS.region (aB aA 1 [] [] [(21,.v (.agg (aK x0 q2).toArray))] _ E ⟨⟨E,V⟩,E⟩ ?_)))
  refine bnw h fun y49 hy50 h=>JO.call E E E E (lB x0 0 q2 _ hy50) E [0,1,2,3,4,5] E E fun q51 _=>aS aA 2 [] [62] [(7,.bp 62 0)] (.new 7 33 (aK x0 q2) (.new 8 33 bP (.new 19 31 [.slice a30 y26.length c31] (.new 20 25 [.slice a32 y27.1.length c33,.int .i64 y27.2] (.new 62 33 (aK y49 q51) .nil))))) E ⟨⟨E,V⟩,(Bs E E)⟩ (aC E (JS.seq ?_))
  refine bnw h fun y63 hy64 h=>bE E (.new 7 33 (aK x0 q2) (.new 19 31 [.slice a30 y26.length c31] (.new 20 25 [.slice a32 y27.1.length c33,.int .i64 y27.2] .nil))) [] [7,8] ⟨E,E,E,E,E,E,E,E,E,E,E,E,V⟩ E (fun be65=>?_)
  refine bV aA aG true 5 [0,1,2,4] E (by kernel_rfl) [] [(23,.v (.agg #[.slice a32 y27.1.length c33,.int .i64 y27.2])),(25,.v (I x0.2.1)),(27,.v (.agg #[.slice a30 y26.length c31]))] ⟨E,E,E,E,E,E,E,E,E,E,E,E,V⟩ [] E E (Es E) (JA.one 3 (by kernel_rfl) (JK.call E E E E (nS y27 x0.2.1 a32 c33 _ hy64) E [13] E E fun _ _=>aJ ⟨E,E,E,E,E,E,E,E,E,E,E,E,V⟩ [] E (bV aA aG true 3 [5] E (by kernel_rfl) [] [(28,.bp 62 2)] ⟨E,E,E,E,E,E,E,E,E,E,E,E,V⟩ [] E E ⟨E,V⟩ (JA.one 6 (by kernel_rfl) (bA aA E E E E E E E E (aJ ⟨E,E,E,E,E,E,E,E,E,E,E,E,V⟩ [] E (aT aA aG 1 [7] E (by kernel_rfl) [] [(29,.bp 62 12)] E ⟨E,V⟩ (JA.one 8 (by kernel_rfl) (bA aA E E E E E E E E (aP E (bG (by kernel_rfl) (aX (B':=(.new 8 33 bP (.new 62 33 (aK (U11 (U2 y49 (y27.1,y63.2)) y26) (a32,c33,q51.2.2.1,q51.2.2.2.1,a30,c31,(Q4 q51).2.2)) .nil))) (Bs E E) (aR aA 3 [] [] [(3,.v (I 0))] (.new 8 33 (aK (U11 (U2 y49 (y27.1,y63.2)) y26) (a32,c33,q51.2.2.1,q51.2.2.2.1,a30,c31,(Q4 q51).2.2)) .nil) ⟨⟨E,V⟩,(Bs E E)⟩ E E ?_)))))))))))))
  cases h
  exact JS.ret aA (a32,c33,q51.2.2.1,q51.2.2.2.1,a30,c31,(Q4 q51).2.2) V E E [7,1,5,2,2,2] E

def lO (x0:List Int×Int):Option ((List Int×Int)×Bool):=
  (aH (dB x0) fun (y6:Bool)=>
  (bif (bif (bif (!y6) then true else (decide ((x0.1.length:Int)<2))) then true else (decide (x0.2=0))) then
  some (([],0),false)
  else
  (aH (eS x0 (W ((min x0.2 (W ((x0.1.length:Int) - 1)))+1))) fun (y8:List Int×Int)=>
  (aI (0≤(min x0.2 (W ((x0.1.length:Int) - 1)))∧(min x0.2 (W ((x0.1.length:Int) - 1)))<(x0.1.length:Int)) <|
  (aI (0≤(W ((min x0.2 (W ((x0.1.length:Int) - 1))) - 1))∧(W ((min x0.2 (W ((x0.1.length:Int) - 1))) - 1))<(x0.1.length:Int)) <|
  (aI (0≤(W ((min x0.2 (W ((x0.1.length:Int) - 1))) - 1))∧(W ((min x0.2 (W ((x0.1.length:Int) - 1))) - 1))<(y8.1.length:Int)) <|
  (aI (0≤(min x0.2 (W ((x0.1.length:Int) - 1)))∧(min x0.2 (W ((x0.1.length:Int) - 1)))<(y8.1.length:Int)) <|
  some (((List.set (List.set y8.1 (Int.toNat (W ((min x0.2 (W ((x0.1.length:Int) - 1))) - 1))) (at' x0.1 (min x0.2 (W ((x0.1.length:Int) - 1))))) (Int.toNat (min x0.2 (W ((x0.1.length:Int) - 1)))) (at' x0.1 (W ((min x0.2 (W ((x0.1.length:Int) - 1))) - 1)))),y8.2),true))))))))

theorem zO (x0:List Int×Int) (a2:Option Addr) (c3:Nat) (r:(List Int×Int)×Bool) (h:lO x0=some r):
  FC Tryz.prog 103 [.agg #[.slice a2 x0.1.length c3,.int .i64 x0.2]] [⟨(.int .i64),⟨a2,x0.1.length,c3⟩,x0.1⟩] (fun _:Option Addr×Nat=>True) (fun q=>.tuple #[.agg #[.slice q.1 r.1.1.length q.2,.int .i64 r.1.2],.bool r.2]) (fun q=>[⟨(.int .i64),⟨q.1,r.1.1.length,q.2⟩,r.1.1⟩]):=
 by
  refine FC.of (T:=TTx) Tryz.call103 Tryz.func103 E E fun w0=>?_
  unfold lO at h
  refine aR aA 3 [] [2,3] [(1,.bp 2 0),(2,.bp 3 0)] (.new 2 25 [.slice a2 x0.1.length c3,.int .i64 x0.2] (.new 3 25 [.slice none 0 0,.int .i64 0] .nil)) ⟨(Es E),(Bs E E)⟩ E E (aD aA 4 [(4,.v (I (x0.1.length:Int)))] ⟨⟨E,V⟩,E⟩ E E (JS.seq (JS.seq (JS.region (aB aA 1 [] [] [(10,.v (.agg #[.slice a2 x0.1.length c3,.int .i64 x0.2]))] _ E ⟨⟨E,V⟩,E⟩ ?_)))))
  refine bnw h fun y6 hy7 h=>JO.call E E E E (eL x0 a2 c3 _ hy7) E [0] E E fun _ _=>aB aA 10 [] [] [(21,.v (.bool (bif (bif (!y6) then true else (decide ((x0.1.length:Int)<2))) then true else (decide (x0.2=0)))))] _ E ⟨⟨E,V⟩,E⟩ (aC E ?_)
  refine aL E h (fun h=>?_) (fun h=>?_)
  ·
   refine aR aA 3 [] [] [(3,.v (.bool false))] (.new 3 25 [.slice none 0 0,.int .i64 0] .nil) ⟨⟨E,V⟩,(Bs E E)⟩ E E ?_
   cases h
   refine aW (.int .i64) Sl.nil E E (JS.ret aA (none,0) V E E [0] E)
  refine JS.skip (qP aA 6 [(W ((x0.1.length:Int) - 1))] [] [(5,.v (I (min x0.2 (W ((x0.1.length:Int) - 1)))))] _ ⟨⟨V,E⟩,⟨E,V⟩,E⟩ E E (JS.seq (JS.region (aB aA 3 [(W ((min x0.2 (W ((x0.1.length:Int) - 1)))+1))] [] [(28,.v (.agg #[.slice a2 x0.1.length c3,.int .i64 x0.2])),(30,.v (I (W ((min x0.2 (W ((x0.1.length:Int) - 1)))+1))))] _ E ⟨⟨V,E⟩,(Es E),E⟩ ?_))))
  refine bnw h fun y8 hy9 h=>JO.call E E E E (kI x0 (W ((min x0.2 (W ((x0.1.length:Int) - 1)))+1)) a2 c3 _ hy9) E [0] E E ?_
  rintro ⟨a10,c11⟩ -
  refine aS aA 2 [] [11] [(6,.bp 11 0)] (.new 2 25 [.slice a2 x0.1.length c3,.int .i64 x0.2] (.new 3 25 [.slice none 0 0,.int .i64 0] (.new 11 25 [.slice a10 y8.1.length c11,.int .i64 y8.2] .nil))) E ⟨⟨E,V⟩,(Bs E E)⟩ (aC E (JS.seq ?_))
  obtain ⟨g13,h⟩:=aF h
  obtain ⟨g14,h⟩:=aF h
  obtain ⟨g16,h⟩:=aF h
  obtain ⟨g17,h⟩:=aF h
  refine gR 0 E fun hs24=>gR 1 E fun hs25=>?_
  refine bE E (.new 2 25 [.slice a2 x0.1.length c3,.int .i64 x0.2] (.new 11 25 [.slice a10 y8.1.length c11,.int .i64 y8.2] .nil)) [0] [20,21] ⟨E,E,E,E,E,E,E,E,V⟩ E (fun be20=>?_)
  refine bV aA aG true 6 [0,1,2,3,4,5,6,7,8,9,10,12,13,14,15,16] E (by kernel_rfl) [(W ((min x0.2 (W ((x0.1.length:Int) - 1))) - 1)),(W ((min x0.2 (W ((x0.1.length:Int) - 1))) - 1))] [(33,.v (.slice a10 y8.1.length c11)),(35,.v (I (W ((min x0.2 (W ((x0.1.length:Int) - 1))) - 1)))),(37,.v (.slice a10 y8.1.length c11)),(38,.v (I (min x0.2 (W ((x0.1.length:Int) - 1))))),(42,.ep ⟨a2,x0.1.length,c3⟩ (Int.toNat (min x0.2 (W ((x0.1.length:Int) - 1)))*1)),(48,.ep ⟨a2,x0.1.length,c3⟩ (Int.toNat (W ((min x0.2 (W ((x0.1.length:Int) - 1))) - 1))*1))] ⟨E,E,E,E,E,E,E,E,V⟩ [0] E E ⟨⟨V,E⟩,hs24.ix g13,⟨V,E⟩,hs24.ix g14,(Es E)⟩ (JA.load aA aG 11 E (by kernel_rfl) E E E E E E 0 E E (Int.toNat (min x0.2 (W ((x0.1.length:Int) - 1)))) 0 (at' x0.1 (min x0.2 (W ((x0.1.length:Int) - 1)))) ⟨bD g13,E⟩ E E ⟨E,E,E,E,E,E,E,E,V⟩ [0] E (JA.load aA aG 17 E (by kernel_rfl) E E E E E E 0 E E (Int.toNat (W ((min x0.2 (W ((x0.1.length:Int) - 1))) - 1))) 0 (at' x0.1 (W ((min x0.2 (W ((x0.1.length:Int) - 1))) - 1))) ⟨bD g14,E⟩ E E ⟨E,E,E,E,E,E,E,E,V⟩ [0] E (bV aA aG true 3 [18] E (by kernel_rfl) [] [(50,.ep ⟨a10,y8.1.length,c11⟩ (Int.toNat (W ((min x0.2 (W ((x0.1.length:Int) - 1))) - 1))*1))] ⟨E,E,E,E,E,E,E,E,V⟩ [0] E E ⟨hs25.ix g16,⟨E,V⟩⟩ (JA.one 19 (by kernel_rfl) (pM aA E E E E E E E E E [0] (fs:=[]) E (Int.toNat (W ((min x0.2 (W ((x0.1.length:Int) - 1))) - 1))) 0 (at' y8.1 (W ((min x0.2 (W ((x0.1.length:Int) - 1))) - 1))) (at' x0.1 (min x0.2 (W ((x0.1.length:Int) - 1)))) ⟨bD g16,E⟩ ⟨E,E,E⟩ (aJ ⟨E,E,E,E,E,E,E,E,V⟩ [0] E (aT aA aG 1 [20] E (by kernel_rfl) [] [(51,.ep ⟨a10,y8.1.length,c11⟩ (Int.toNat (min x0.2 (W ((x0.1.length:Int) - 1)))*1))] E ⟨hs25.ix g17,⟨E,V⟩⟩ (JA.one 21 (by kernel_rfl) (pM aA E E E E E E E E E [0] (fs:=[]) E (Int.toNat (min x0.2 (W ((x0.1.length:Int) - 1)))) 0 (at' (List.set y8.1 (Int.toNat (W ((min x0.2 (W ((x0.1.length:Int) - 1))) - 1))) (at' x0.1 (min x0.2 (W ((x0.1.length:Int) - 1))))) (min x0.2 (W ((x0.1.length:Int) - 1)))) (at' x0.1 (W ((min x0.2 (W ((x0.1.length:Int) - 1))) - 1))) ⟨aI9 (List.length_set.trans E) g17,E⟩ ⟨E,E,E⟩ (aP E (bG (by kernel_rfl) (aX (B':=(.new 3 25 [.slice none 0 0,.int .i64 0] (.new 11 25 [.slice a10 y8.1.length c11,.int .i64 y8.2] .nil))) (Bs E E) (aR aA 3 [] [] [(3,.v (.bool true))] (.new 3 25 [.slice a10 y8.1.length c11,.int .i64 y8.2] .nil) ⟨⟨E,V⟩,(Bs E E)⟩ E E ?_)))))))))))))
  cases h
  exact JS.ret aA (a10,c11) V E (by simp only [List.length_set,List.length_replicate,bX,dG,mN];rfl) [0] (by simp only [List.length_set,List.length_replicate,bX,dG,mN];rfl)

def dT (x0:List (List Int)):Option (List Int):=
  (aH (iI x0) fun (y6:Bool)=>
  (bif (bif (!y6) then true else (decide ((x0.length:Int)=0))) then
  some ([])
  else
  (aI (0≤(0:Int)∧0<(x0.length:Int)) <|
  (aH (cG (at' x0 0)) fun (y15:List Int)=>
  some y15))))

theorem iR (x0:List (List Int)) (a2:Option Addr) (c3:Nat) (r:List Int) (h:dT x0=some r):
  FC Tryz.prog 7 [.agg #[.slice a2 x0.length c3]] [⟨(.sl (.int .i64)),⟨a2,x0.length,c3⟩,x0⟩] (fun _:Option Addr×Nat=>True) (fun q=>.slice q.1 r.length q.2) (fun q=>[⟨(.int .i64),⟨q.1,r.length,q.2⟩,r⟩]):=
 by
  refine FC.of (T:=TTx) Tryz.call7 Tryz.func7 E E fun w0=>?_
  unfold dT at h
  refine aR aA 2 [] [2] [(1,.bp 2 0)] (.new 2 28 [.slice a2 x0.length c3] .nil) ⟨⟨E,V⟩,(Bs E E)⟩ E E (JS.seq (JS.seq (JS.region (aB aA 1 [] [] [(3,.v (.agg #[.slice a2 x0.length c3]))] _ E ⟨⟨E,V⟩,E⟩ ?_))))
  refine bnw h fun y6 hy7 h=>JO.call E E E E (oJ x0 a2 c3 _ hy7) E [0] E E fun _ _=>aB aA 7 [] [] [(11,.v (.bool (bif (!y6) then true else (decide ((x0.length:Int)=0)))))] _ E ⟨⟨E,V⟩,E⟩ (aC E ?_)
  refine aL E h (fun h=>?_) (fun h=>?_)
  ·
   refine aD aA 1 [(2,.v (.slice none 0 0))] ⟨⟨E,V⟩,E⟩ E E ?_
   cases h
   refine aW (.int .i64) Sl.nil E E (JS.ret aA (none,0) V E E [0] E)
  refine JS.skip (JS.seq (JS.region (bT 0 E fun hs20=>?_)))
  obtain ⟨g9,h⟩:=aF h
  refine aB aA 4 [] [] [(15,.ep ⟨a2,x0.length,c3⟩ (Int.toNat 0*1))] _ E ⟨hs20.ix g9,hs20.fa g9,⟨E,V⟩,E⟩ (mV 0 E (Int.toNat 0) (at' x0 0) E fun a10 c11 ys12 hl13 hy14=>dX aA E E E E E E 0 E E (Int.toNat 0) 0 (Sl.v ⟨a10,(at' x0 0).length,c11⟩) ⟨hy14 (rJ g9),E⟩ E E E ?_)
  refine bnw h fun y15 hy16 h=>JO.call E E E E (cS (at' x0 0) a10 c11 _ hy16) E [1] E E ?_
  rintro ⟨a17,c18⟩ -
  refine aB aA 1 [] [] [(2,.v (.slice a17 y15.length c18))] _ E ⟨⟨E,V⟩,E⟩ (aC E ?_)
  cases h
  exact JS.ret aA (a17,c18) V E E [0] E

def rW (x0:EdQ):Option (EdQ×Int):=
  (aH (dT x0.2.2.2.2.2.2.2.2.2.2.1) fun (y26:List Int)=>
  (bif (decide ((y26.length:Int)=0)) then
  (aH (dW x0) fun (y30,y31)=>
  some (y30,y31))
  else
  (aH (kA x0 y26 3) fun (y45,y46)=>
  some (y45,y46))))

theorem aG4 (x0:EdQ) (q2:P6) (r:EdQ×Int) (h:rW x0=some r):
  FC Tryz.prog 102 [.agg (aK x0 q2).toArray] (cY x0 q2 []) (fun _:P6=>True) (fun q=>.tuple #[.agg (aK r.1 q).toArray,.int .i64 r.2]) (fun q=>(cY r.1 q [])):=
 by
  refine FC.of (T:=TTx) Tryz.call102 Tryz.func102 E E fun w0=>?_
  unfold rW at h
  refine aR aA 3 [] [7,8] [(1,.bp 7 0),(2,.bp 8 0)] (.new 7 33 (aK x0 q2) (.new 8 33 bP .nil)) ⟨(Es E),(Bs E E)⟩ E E (JS.seq (JS.region (aB aA 2 [] [] [(6,.v (.agg #[.slice q2.2.2.1 (Q8 x0).2.2.1.length q2.2.2.2.1]))] _ E ⟨⟨E,V⟩,E⟩ ?_)))
  refine bnw h fun y26 hy27 h=>JO.call E E E E (iR (Q8 x0).2.2.1 q2.2.2.1 q2.2.2.2.1 _ hy27) E [1] E E ?_
  rintro ⟨a28,c29⟩ -
  refine aB aA 1 [] [] [(4,.v (.slice a28 y26.length c29))] _ E ⟨⟨E,V⟩,E⟩ (aC E (JS.seq (aD aA 3 [(10,.v (.bool (decide ((y26.length:Int)=0))))] ⟨⟨E,V⟩,E⟩ E E ?_)))
  refine aL E h (fun h=>?_) (fun h=>?_)
  ·
   refine JS.seq (JS.region (aB aA 1 [] [] [(11,.v (.agg (aK x0 q2).toArray))] _ E ⟨⟨E,V⟩,E⟩ ?_))
   obtain ⟨⟨y30,y31⟩,hy32,h⟩:=aE h
   refine JO.call E E E E (eV x0 q2 _ hy32) E [0,1,2,3,4,5] E E fun q33 _=>aS aA 4 [] [] [(3,.v (I y31))] (.new 8 33 (aK y30 q33) .nil) E ⟨⟨E,V⟩,(Bs E E)⟩ (aC E ?_)
   cases h
   exact JS.ret aA q33 V E E [0,0,0,0,0,0] E
  refine JS.skip (JS.seq (JS.region (aB aA 2 [] [] [(15,.v (.agg (aK x0 q2).toArray)),(16,.v (.slice a28 y26.length c29))] _ E ⟨(Es E),E⟩ ?_)))
  obtain ⟨⟨y45,y46⟩,hy47,h⟩:=aE h
  refine JO.call E E E E (rB x0 y26 3 q2 a28 c29 _ hy47) E [0,1,2,3,4,5,6] E E fun q48 _=>aS aA 4 [] [] [(3,.v (I y46))] (.new 8 33 (aK y45 q48) .nil) E ⟨⟨E,V⟩,(Bs E E)⟩ (aC E ?_)
  cases h
  exact JS.ret aA q48 V E E [0,0,0,0,0,0] E

def gN (x0:EdQ) (x1:Int×List (List UInt8)) (x2:Int):Option (EdQ×Int):=
  (bif (sO [(97,12),(101,13),(98,11),(102,10),(112,8),(110,9)] x2) then
  (aH (kS x0 x1 ((sP [(97,12),(101,13),(98,11),(102,10),(112,8),(110,9)] x2),0)) fun (y54,y55,y56)=>
  some (y54,y55))
  else
  (bif (decide (x2=107)) then
  (aH (jL x0 x0.2.2.1.2 (x0.2.2.1.1.length:Int) 1) fun (y70,y71)=>
  some (y70,y71))
  else
  (bif (decide (x2=121)) then
  (aH (rW x0) fun (y85,y86)=>
  some (y85,y86))
  else
  (bif (decide (x2=116)) then
  (aH (lO x0.2.2.1) fun (y100,y101)=>
  (bif (!y101) then
  (aH (dW x0) fun (y105,y106)=>
  some (y105,y106))
  else
  (aH (eT x0 y100) fun (y120,y121)=>
  some (y120,y121))))
  else
  (bif (decide (x2=95)) then
  (aH (rX x0) fun (y136,y137)=>
  some (y136,y137))
  else
  (bif (decide (x2=114)) then
  (aH (rY x0) fun (y151,y152)=>
  some ((y151.1,y151.2.1,y151.2.2.1,y151.2.2.2.1,y151.2.2.2.2.1,y151.2.2.2.2.2.1,y151.2.2.2.2.2.2.1,y151.2.2.2.2.2.2.2.1,y151.2.2.2.2.2.2.2.2.1,y151.2.2.2.2.2.2.2.2.2.1,y151.2.2.2.2.2.2.2.2.2.2.1,y151.2.2.2.2.2.2.2.2.2.2.2.1,y151.2.2.2.2.2.2.2.2.2.2.2.2.1,y151.2.2.2.2.2.2.2.2.2.2.2.2.2.1,[],y151.2.2.2.2.2.2.2.2.2.2.2.2.2.2.2.1,y151.2.2.2.2.2.2.2.2.2.2.2.2.2.2.2.2),y152))
  else
  (aH (dW x0) fun (y164,y165)=>
  some (y164,y165))))))))

theorem xZ (x0:EdQ) (x1:Int×List (List UInt8)) (x2:Int) (q4:P6) (a28:Option Addr) (c29:Nat) (r:EdQ×Int) (h:gN x0 x1 x2=some r):
  FC Tryz.prog 72 [.agg (aK x0 q4).toArray,.agg #[.int .i64 x1.1,.slice a28 x1.2.length c29],.int .i64 x2] (cY x0 q4 [⟨.str,⟨a28,x1.2.length,c29⟩,x1.2⟩]) (fun _:P6=>True) (fun q=>.tuple #[.agg (aK r.1 q).toArray,.int .i64 r.2]) (fun q=>(cY r.1 q [])):=
 by
  refine FC.of (T:=TTx) Tryz.call72 Tryz.func72 E E fun w0=>?_
  unfold gN at h
  refine aR aA 4 [] [8,9,10] [(3,.bp 8 0),(4,.bp 9 0),(6,.bp 10 0)] (.new 8 33 (aK x0 q4) (.new 9 36 [.int .i64 x1.1,.slice a28 x1.2.length c29] (.new 10 33 bP .nil))) ⟨(Es E),(Bs E E)⟩ E E (JS.seq (JS.region (JO.makeMap E E E E E fun r32 w33 X34 m35=>JO.insert m35 E E E E Tryz.underlying123 Tryz.underlying3 E E E E fun w36 X37 m38=>JO.insert m38 E E E E Tryz.underlying123 Tryz.underlying3 E E E E fun w39 X40 m41=>JO.insert m41 E E E E Tryz.underlying123 Tryz.underlying3 E E E E fun w42 X43 m44=>JO.insert m44 E E E E Tryz.underlying123 Tryz.underlying3 E E E E fun w45 X46 m47=>JO.insert m47 E E E E Tryz.underlying123 Tryz.underlying3 E E E E fun w48 X49 m50=>JO.insert m50 E E E E Tryz.underlying123 Tryz.underlying3 E E E E fun w51 X52 m53=>aB aA 2 [] [] [(8,.v (.map (some r32)))] _ E ⟨⟨E,V⟩,E⟩ (aC E (JS.seq (JS.seq (JS.region (aB aA 2 [] [] [(19,.v (.map (some r32))),(20,.v (I x2))] _ E ⟨(Es E),E⟩ (aGj m53 E E E E Tryz.underlying123 Tryz.underlying3 (fun _=>by kernel_rfl) E E E (aB aA 5 [] [] [(9,.v (I (sP [(97,12),(101,13),(98,11),(102,10),(112,8),(110,9)] x2))),(10,.v (.bool (sO [(97,12),(101,13),(98,11),(102,10),(112,8),(110,9)] x2)))] _ E ⟨(Es E),E⟩ (aC E (aD aA 1 [(24,.v (.bool (sO [(97,12),(101,13),(98,11),(102,10),(112,8),(110,9)] x2)))] ⟨⟨E,V⟩,E⟩ E E ?_))))))))))))
  refine aL E h (fun h=>?_) (fun h=>?_)
  ·
   refine JS.seq (JS.region (aB aA 4 [] [] [(26,.v (.agg (aK x0 q4).toArray)),(27,.v (.agg #[.int .i64 x1.1,.slice a28 x1.2.length c29])),(29,.v (.agg #[.int .i64 (sP [(97,12),(101,13),(98,11),(102,10),(112,8),(110,9)] x2),.int .i64 0]))] _ E ⟨(Es E),E⟩ ?_))
   obtain ⟨⟨y54,y55,y56⟩,hy57,h⟩:=aE h
   refine JO.call E E E E (xX x0 x1 ((sP [(97,12),(101,13),(98,11),(102,10),(112,8),(110,9)] x2),0) q4 a28 c29 _ hy57) E [0,1,2,3,4,5,6] E E fun q58 _=>aS aA 8 [] [55] [(11,.bp 55 0),(12,.v (I y55))] (.new 10 33 bP (.new 55 33 (aK y54 q58) .nil)) E ⟨(Es E),(Bs E E)⟩ (aC E (aR aA 4 [] [] [(7,.v (I y55))] (.new 10 33 (aK y54 q58) .nil) ⟨⟨E,V⟩,(Bs E E)⟩ E E ?_))
   cases h
   exact JS.ret aA q58 V E E [0,0,0,0,0,0] E
  refine JS.skip (JS.seq (aD aA 1 [(36,.v (I x2))] ⟨⟨E,V⟩,E⟩ E E (JS.block (aD aA 2 [(37,.v (.bool (decide (x2=107))))] ⟨⟨E,V⟩,E⟩ E E ?_))))
  refine aL E h (fun h=>?_) (fun h=>?_)
  ·
   refine JS.seq (JS.region (aB aA 8 [] [] [(39,.v (.agg (aK x0 q4).toArray)),(42,.v (I x0.2.2.1.2)),(46,.v (I (x0.2.2.1.1.length:Int)))] _ E ⟨(Es E),E⟩ ?_))
   obtain ⟨⟨y70,y71⟩,hy72,h⟩:=aE h
   refine JO.call E E E E (pB x0 x0.2.2.1.2 (x0.2.2.1.1.length:Int) 1 q4 _ hy72) E [0,1,2,3,4,5] E E fun q73 _=>aS aA 4 [] [] [(7,.v (I y71))] (.new 10 33 (aK y70 q73) .nil) E ⟨⟨E,V⟩,(Bs E E)⟩ (aC E ?_)
   cases h
   exact JS.ret aA q73 V E E [0,0,0,0,0,0] E
  refine aD aA 2 [(50,.v (.bool (decide (x2=121))))] ⟨⟨E,V⟩,E⟩ E E ?_
  refine aL E h (fun h=>?_) (fun h=>?_)
  ·
   refine JS.seq (JS.region (aB aA 1 [] [] [(52,.v (.agg (aK x0 q4).toArray))] _ E ⟨⟨E,V⟩,E⟩ ?_))
   obtain ⟨⟨y85,y86⟩,hy87,h⟩:=aE h
   refine JO.call E E E E (aG4 x0 q4 _ hy87) E [0,1,2,3,4,5] E E fun q88 _=>aS aA 4 [] [] [(7,.v (I y86))] (.new 10 33 (aK y85 q88) .nil) E ⟨⟨E,V⟩,(Bs E E)⟩ (aC E ?_)
   cases h
   exact JS.ret aA q88 V E E [0,0,0,0,0,0] E
  refine aD aA 2 [(56,.v (.bool (decide (x2=116))))] ⟨⟨E,V⟩,E⟩ E E ?_
  refine aL E h (fun h=>?_) (fun h=>?_)
  ·
   refine JS.seq (JS.region (aB aA 2 [] [] [(60,.v (.agg #[.slice q4.1 x0.2.2.1.1.length q4.2.1,.int .i64 x0.2.2.1.2]))] _ E ⟨⟨E,V⟩,E⟩ ?_))
   obtain ⟨⟨y100,y101⟩,hy102,h⟩:=aE h
   refine JO.call E E E E (zO x0.2.2.1 q4.1 q4.2.1 _ hy102) E [0] E E ?_
   rintro ⟨a103,c104⟩ -
   refine aS aA 6 [] [104] [(14,.bp 104 0),(15,.v (.bool y101))] (.new 8 33 (aK x0 q4) (.new 10 33 bP (.new 104 25 [.slice a103 y100.1.length c104,.int .i64 y100.2] .nil))) E ⟨(Es E),(Bs E E)⟩ (aC E (JS.seq (aD aA 2 [(65,.v (.bool (!y101)))] ⟨⟨E,V⟩,E⟩ E E ?_)))
   refine aL E h (fun h=>?_) (fun h=>?_)
   ·
    refine JS.seq (JS.region (aB aA 1 [] [] [(66,.v (.agg (aK x0 q4).toArray))] _ E ⟨⟨E,V⟩,E⟩ ?_))
    obtain ⟨⟨y105,y106⟩,hy107,h⟩:=aE h
    refine JO.call E E E E (eV x0 q4 _ hy107) E [0,1,2,3,4,5] E E fun q108 _=>aS aA 4 [] [] [(7,.v (I y106))] (.new 10 33 (aK y105 q108) .nil) E ⟨⟨E,V⟩,(Bs E E)⟩ (aC E ?_)
    cases h
    exact JS.ret aA q108 V E E [0,0,0,0,0,0] E
   refine JS.skip (JS.seq (JS.region (aB aA 2 [] [] [(70,.v (.agg (aK x0 q4).toArray)),(71,.v (.agg #[.slice a103 y100.1.length c104,.int .i64 y100.2]))] _ E ⟨(Es E),E⟩ ?_)))
   obtain ⟨⟨y120,y121⟩,hy122,h⟩:=aE h
   refine JO.call E E E E (lC x0 y100 q4 a103 c104 _ hy122) E [0,1,2,3,4,5,7] E E fun q123 _=>aS aA 4 [] [] [(7,.v (I y121))] (.new 10 33 (aK y120 q123) .nil) E ⟨⟨E,V⟩,(Bs E E)⟩ (aC E ?_)
   cases h
   exact JS.ret aA q123 V E E [0,0,0,0,0,0] E
  refine aD aA 2 [(75,.v (.bool (decide (x2=95))))] ⟨⟨E,V⟩,E⟩ E E ?_
  refine aL E h (fun h=>?_) (fun h=>?_)
  ·
   refine JS.seq (JS.region (aB aA 1 [] [] [(77,.v (.agg (aK x0 q4).toArray))] _ E ⟨⟨E,V⟩,E⟩ ?_))
   obtain ⟨⟨y136,y137⟩,hy138,h⟩:=aE h
   refine JO.call E E E E (aG5 x0 q4 _ hy138) E [0,1,2,3,4,5] E E fun q139 _=>aS aA 4 [] [] [(7,.v (I y137))] (.new 10 33 (aK y136 q139) .nil) E ⟨⟨E,V⟩,(Bs E E)⟩ (aC E ?_)
   cases h
   exact JS.ret aA q139 V E E [0,0,0,0,0,0] E
  refine aD aA 2 [(81,.v (.bool (decide (x2=114))))] ⟨⟨E,V⟩,E⟩ E E ?_
  refine aL E h (fun h=>?_) (fun h=>?_)
  ·
   refine JS.seq (JS.region (aB aA 1 [] [] [(83,.v (.agg (aK x0 q4).toArray))] _ E ⟨⟨E,V⟩,E⟩ ?_))
   obtain ⟨⟨y151,y152⟩,hy153,h⟩:=aE h
   refine JO.call E E E E (aG6 x0 q4 _ hy153) E [0,1,2,3,4,5] E E ?_
   rintro ⟨a154,c155,a156,c157,a158,c159,a160,c161,a162,c163⟩ -
   refine aS aA 4 [] [] [(7,.v (I y152))] (.new 10 33 (aK (U14 y151 []) (a154,c155,a156,c157,a158,c159,a160,c161,none,0,a162,c163)) .nil) E ⟨⟨E,V⟩,(Bs E E)⟩ (aC E ?_)
   cases h
   refine aW (.int .i64) Sl.nil E E (JS.ret aA (a154,c155,a156,c157,a158,c159,a160,c161,none,0,a162,c163) V E E [1,1,1,1,0,0] E)
  refine JS.skip (aV (JS.seq (JS.region (aB aA 1 [] [] [(87,.v (.agg (aK x0 q4).toArray))] _ E ⟨⟨E,V⟩,E⟩ ?_))))
  obtain ⟨⟨y164,y165⟩,hy166,h⟩:=aE h
  refine JO.call E E E E (eV x0 q4 _ hy166) E [0,1,2,3,4,5] E E fun q167 _=>aS aA 4 [] [] [(7,.v (I y165))] (.new 10 33 (aK y164 q167) .nil) E ⟨⟨E,V⟩,(Bs E E)⟩ (aC E ?_)
  cases h
  exact JS.ret aA q167 V E E [0,0,0,0,0,0] E

def gJ (x0:List Int) (j28:Int→Option Int) (k19:Int→Option Int):Int→Option Int:=fun x9=>
  (aI (((decide (0<x9))=true)→0≤(W (x9 - 1))∧(W (x9 - 1))<(x0.length:Int)) <|
  (bU ((decide (0<x9))=true) (fF (at' x0 (W (x9 - 1)))) (0:Int) fun (y15:Int)=>
  (bif (bif (decide (0<x9)) then (!(decide (y15=1))) else false) then
  k19 (W (x9 - 1))
  else
  j28 x9)))

def gI (x0:List Int) (j54:Int→Option Int) (k45:Int→Option Int):Int→Option Int:=fun x35=>
  (aI (((decide (0<x35))=true)→0≤(W (x35 - 1))∧(W (x35 - 1))<(x0.length:Int)) <|
  (bU ((decide (0<x35))=true) (fF (at' x0 (W (x35 - 1)))) (0:Int) fun (y41:Int)=>
  (bif (bif (decide (0<x35)) then (decide (y41=1)) else false) then
  k45 (W (x35 - 1))
  else
  j54 x35)))

def iW (x0:List Int) (x1:Int):Option Int:=
  (aH (hZ x1 (x0.length:Int)) fun (y7:Int)=>
  (aY (fun (x27:Int)=>
  (aY (fun (x53:Int)=>
  some x53) fun j54=>
  (bI (gI x0 j54) bO x27))) fun j28=>
  (bI (gJ x0 j28) bO y7)))

theorem sU (x0:List Int) (x1:Int) (a3:Option Addr) (c4:Nat) (r:Int) (h:iW x0 x1=some r):
  FC Tryz.prog 70 [.slice a3 x0.length c4,.int .i64 x1] [⟨(.int .i64),⟨a3,x0.length,c4⟩,x0⟩] (fun _:Unit=>True) (fun _=>.int .i64 r) (fun _=>[]):=
 by
  refine FC.of (T:=TTx) Tryz.call70 Tryz.func70 E E fun w0=>?_
  unfold iW at h
  refine aD aA 1 [] ⟨V,E⟩ E E (JS.seq (JS.region (aB aA 3 [] [] [(5,.v (I x1)),(7,.v (I (x0.length:Int)))] _ E ⟨(Es E),E⟩ ?_)))
  refine bnw h fun y7 hy8 h=>JO.call E E E E (rA x1 (x0.length:Int) _ hy8) E [] E E fun _ _=>aB aA 1 [] [] [(1,.v (I y7))] _ E ⟨⟨E,V⟩,E⟩ (aC E (JS.seq ?_))
  obtain ⟨j28,hj76,h⟩:=aO h
  refine bF (ι:=Int) ⟨fun z=>j28 z=some r,fun z=>[(0,.v (.slice a3 x0.length c4)),(1,.v (I z))],fun z=>.nil,fun z=>[⟨(.int .i64),⟨a3,x0.length,c4⟩,x0⟩],fun z=>[],fun z=>0⟩ ?_ ?_
  ·
   refine JS.loop (ι:=Nat×Int) ⟨fun z=>bI (gJ x0 j28) z.1 z.2=some r,fun z=>[(0,.v (.slice a3 x0.length c4)),(1,.v (I z.2))],fun z=>.nil,fun z=>[⟨(.int .i64),⟨a3,x0.length,c4⟩,x0⟩],fun z=>[],fun z=>z.1⟩ (bO,y7) h (Es E) V [0] E [] E ?_
   rintro ⟨n20,x9⟩ h
   obtain ⟨n20,rfl,h⟩:=bM h
   rw [gJ] at h
   refine JS.seq (JS.seq (JS.region (bT 0 E fun hs64=>?_)))
   obtain ⟨g12,h⟩:=aF h
   refine aB aA 7 [(W (x9 - 1))] [] [(11,.v (.bool (decide (0<x9)))),(15,.cd [(11,true)] (.ep ⟨a3,x0.length,c4⟩ (Int.toNat (W (x9 - 1))*1)))] _ E ⟨(fun q63=>⟨V,E⟩),(fun q65=>hs64.ix (g12 q65)),(Es E),E⟩ (JO.load aA E E E E E E E 0 E E (Int.toNat (W (x9 - 1))) 0 (at' x0 (W (x9 - 1))) (fun q66=>⟨bD (g12 q66),E⟩) E E ?_)
   obtain ⟨y15,hy16,-,h⟩:=aU h
   refine bJ E E E E (fun q67=>lD (at' x0 (W (x9 - 1))) _ (hy16 q67)) E [] E E (aB aA 2 [] [] [(19,.v (.bool (bif (decide (0<x9)) then (!(decide (y15=1))) else false)))] _ E ⟨⟨E,V⟩,E⟩ (aC E ?_))
   refine aL E h (fun h=>?_) (fun h=>?_)
   ·
    refine JS.skip (JS.block (cW aA 3 [(W (x9 - 1))] [] [(1,.v (I (W (x9 - 1))))] _ ⟨⟨V,E⟩,⟨E,V⟩,E⟩ E E (aV (bZ (n20,(W (x9 - 1))) h (Nat.lt_succ_self _) (Es E) V [0] E [] E))))
   refine JS.exit E (aN x9 h (Es E) V [0] E [] E)
  rintro x27 h
  subst hj76
  refine JS.seq ?_
  obtain ⟨j54,hj75,h⟩:=aO h
  refine bF (ι:=Int) ⟨fun z=>j54 z=some r,fun z=>[(1,.v (I z))],fun z=>.nil,fun z=>[],fun z=>[],fun z=>0⟩ ?_ ?_
  ·
   refine JS.loop (ι:=Nat×Int) ⟨fun z=>bI (gI x0 j54) z.1 z.2=some r,fun z=>[(0,.v (.slice a3 x0.length c4)),(1,.v (I z.2))],fun z=>.nil,fun z=>[⟨(.int .i64),⟨a3,x0.length,c4⟩,x0⟩],fun z=>[],fun z=>z.1⟩ (bO,x27) h (Es E) V [0] E [] E ?_
   rintro ⟨n46,x35⟩ h
   obtain ⟨n46,rfl,h⟩:=bM h
   rw [gI] at h
   refine JS.seq (JS.seq (JS.region (bT 0 E fun hs70=>?_)))
   obtain ⟨g38,h⟩:=aF h
   refine aB aA 7 [(W (x35 - 1))] [] [(24,.v (.bool (decide (0<x35)))),(28,.cd [(24,true)] (.ep ⟨a3,x0.length,c4⟩ (Int.toNat (W (x35 - 1))*1)))] _ E ⟨(fun q69=>⟨V,E⟩),(fun q71=>hs70.ix (g38 q71)),(Es E),E⟩ (JO.load aA E E E E E E E 0 E E (Int.toNat (W (x35 - 1))) 0 (at' x0 (W (x35 - 1))) (fun q72=>⟨bD (g38 q72),E⟩) E E ?_)
   obtain ⟨y41,hy42,-,h⟩:=aU h
   refine bJ E E E E (fun q73=>lD (at' x0 (W (x35 - 1))) _ (hy42 q73)) E [] E E (aB aA 2 [] [] [(32,.v (.bool (bif (decide (0<x35)) then (decide (y41=1)) else false)))] _ E ⟨⟨E,V⟩,E⟩ (aC E ?_))
   refine aL E h (fun h=>?_) (fun h=>?_)
   ·
    refine JS.skip (JS.block (cW aA 3 [(W (x35 - 1))] [] [(1,.v (I (W (x35 - 1))))] _ ⟨⟨V,E⟩,⟨E,V⟩,E⟩ E E (aV (bZ (n46,(W (x35 - 1))) h (Nat.lt_succ_self _) (Es E) V [0] E [] E))))
   refine JS.exit E (aN x35 h ⟨E,V⟩ V [] E [] E)
  rintro x53 h
  subst hj75
  refine aD aA 2 [(4,.v (I x53))] ⟨⟨E,V⟩,E⟩ E E ?_
  cases h
  exact JS.ret aA () V E E [] E

def jN (x0:List Int) (j26:Int→Option Int) (k18:Int→Option Int):Int→Option Int:=fun x9=>
  (aI (((decide (x9<(x0.length:Int)))=true)→0≤x9∧x9<(x0.length:Int)) <|
  (bU ((decide (x9<(x0.length:Int)))=true) (fF (at' x0 x9)) (0:Int) fun (y14:Int)=>
  (bif (bif (decide (x9<(x0.length:Int))) then (!(decide (y14=1))) else false) then
  k18 (W (x9+1))
  else
  j26 x9)))

def jM (x0:List Int) (j49:Int→Option Int) (k41:Int→Option Int):Int→Option Int:=fun x32=>
  (aI (((decide (x32<(x0.length:Int)))=true)→0≤x32∧x32<(x0.length:Int)) <|
  (bU ((decide (x32<(x0.length:Int)))=true) (fF (at' x0 x32)) (0:Int) fun (y37:Int)=>
  (bif (bif (decide (x32<(x0.length:Int))) then (decide (y37=1)) else false) then
  k41 (W (x32+1))
  else
  j49 x32)))

def kB (x0:List Int) (x1:Int):Option Int:=
  (aH (hZ x1 (x0.length:Int)) fun (y7:Int)=>
  (aY (fun (x25:Int)=>
  (aY (fun (x48:Int)=>
  some x48) fun j49=>
  (bI (jM x0 j49) bO x25))) fun j26=>
  (bI (jN x0 j26) bO y7)))

theorem rD (x0:List Int) (x1:Int) (a3:Option Addr) (c4:Nat) (r:Int) (h:kB x0 x1=some r):
  FC Tryz.prog 93 [.slice a3 x0.length c4,.int .i64 x1] [⟨(.int .i64),⟨a3,x0.length,c4⟩,x0⟩] (fun _:Unit=>True) (fun _=>.int .i64 r) (fun _=>[]):=
 by
  refine FC.of (T:=TTx) Tryz.call93 Tryz.func93 E E fun w0=>?_
  unfold kB at h
  refine aD aA 1 [] ⟨V,E⟩ E E (JS.seq (JS.region (aB aA 3 [] [] [(5,.v (I x1)),(7,.v (I (x0.length:Int)))] _ E ⟨(Es E),E⟩ ?_)))
  refine bnw h fun y7 hy8 h=>JO.call E E E E (rA x1 (x0.length:Int) _ hy8) E [] E E fun _ _=>aB aA 1 [] [] [(1,.v (I y7))] _ E ⟨⟨E,V⟩,E⟩ (aC E (JS.seq ?_))
  obtain ⟨j26,hj68,h⟩:=aO h
  refine bF (ι:=Int) ⟨fun z=>j26 z=some r,fun z=>[(0,.v (.slice a3 x0.length c4)),(1,.v (I z))],fun z=>.nil,fun z=>[⟨(.int .i64),⟨a3,x0.length,c4⟩,x0⟩],fun z=>[],fun z=>0⟩ ?_ ?_
  ·
   refine JS.loop (ι:=Nat×Int) ⟨fun z=>bI (jN x0 j26) z.1 z.2=some r,fun z=>[(0,.v (.slice a3 x0.length c4)),(1,.v (I z.2))],fun z=>.nil,fun z=>[⟨(.int .i64),⟨a3,x0.length,c4⟩,x0⟩],fun z=>[],fun z=>z.1⟩ (bO,y7) h (Es E) V [0] E [] E ?_
   rintro ⟨n19,x9⟩ h
   obtain ⟨n19,rfl,h⟩:=bM h
   rw [jN] at h
   refine JS.seq (JS.seq (JS.region (bT 0 E fun hs57=>?_)))
   obtain ⟨g11,h⟩:=aF h
   refine aB aA 8 [] [] [(13,.v (.bool (decide (x9<(x0.length:Int))))),(16,.cd [(13,true)] (.ep ⟨a3,x0.length,c4⟩ (Int.toNat x9*1)))] _ E ⟨(fun q58=>hs57.ix (g11 q58)),(Es E),E⟩ (JO.load aA E E E E E E E 0 E E (Int.toNat x9) 0 (at' x0 x9) (fun q59=>⟨bD (g11 q59),E⟩) E E ?_)
   obtain ⟨y14,hy15,-,h⟩:=aU h
   refine bJ E E E E (fun q60=>lD (at' x0 x9) _ (hy15 q60)) E [] E E (aB aA 2 [] [] [(20,.v (.bool (bif (decide (x9<(x0.length:Int))) then (!(decide (y14=1))) else false)))] _ E ⟨⟨E,V⟩,E⟩ (aC E ?_))
   refine aL E h (fun h=>?_) (fun h=>?_)
   ·
    refine JS.skip (JS.block (cW aA 3 [(W (x9+1))] [] [(1,.v (I (W (x9+1))))] _ ⟨⟨V,E⟩,⟨E,V⟩,E⟩ E E (aV (bZ (n19,(W (x9+1))) h (Nat.lt_succ_self _) (Es E) V [0] E [] E))))
   refine JS.exit E (aN x9 h (Es E) V [0] E [] E)
  rintro x25 h
  subst hj68
  refine JS.seq ?_
  obtain ⟨j49,hj67,h⟩:=aO h
  refine bF (ι:=Int) ⟨fun z=>j49 z=some r,fun z=>[(1,.v (I z))],fun z=>.nil,fun z=>[],fun z=>[],fun z=>0⟩ ?_ ?_
  ·
   refine JS.loop (ι:=Nat×Int) ⟨fun z=>bI (jM x0 j49) z.1 z.2=some r,fun z=>[(0,.v (.slice a3 x0.length c4)),(1,.v (I z.2))],fun z=>.nil,fun z=>[⟨(.int .i64),⟨a3,x0.length,c4⟩,x0⟩],fun z=>[],fun z=>z.1⟩ (bO,x25) h (Es E) V [0] E [] E ?_
   rintro ⟨n42,x32⟩ h
   obtain ⟨n42,rfl,h⟩:=bM h
   rw [jM] at h
   refine JS.seq (JS.seq (JS.region (bT 0 E fun hs62=>?_)))
   obtain ⟨g34,h⟩:=aF h
   refine aB aA 8 [] [] [(27,.v (.bool (decide (x32<(x0.length:Int))))),(30,.cd [(27,true)] (.ep ⟨a3,x0.length,c4⟩ (Int.toNat x32*1)))] _ E ⟨(fun q63=>hs62.ix (g34 q63)),(Es E),E⟩ (JO.load aA E E E E E E E 0 E E (Int.toNat x32) 0 (at' x0 x32) (fun q64=>⟨bD (g34 q64),E⟩) E E ?_)
   obtain ⟨y37,hy38,-,h⟩:=aU h
   refine bJ E E E E (fun q65=>lD (at' x0 x32) _ (hy38 q65)) E [] E E (aB aA 2 [] [] [(34,.v (.bool (bif (decide (x32<(x0.length:Int))) then (decide (y37=1)) else false)))] _ E ⟨⟨E,V⟩,E⟩ (aC E ?_))
   refine aL E h (fun h=>?_) (fun h=>?_)
   ·
    refine JS.skip (JS.block (cW aA 3 [(W (x32+1))] [] [(1,.v (I (W (x32+1))))] _ ⟨⟨V,E⟩,⟨E,V⟩,E⟩ E E (aV (bZ (n42,(W (x32+1))) h (Nat.lt_succ_self _) (Es E) V [0] E [] E))))
   refine JS.exit E (aN x32 h ⟨E,V⟩ V [] E [] E)
  rintro x48 h
  subst hj67
  refine aD aA 2 [(4,.v (I x48))] ⟨⟨E,V⟩,E⟩ E E ?_
  cases h
  exact JS.ret aA () V E E [] E

def iX (x0:List (List Int)):Option (List (List Int)):=
  (aH (iI x0) fun (y6:Bool)=>
  (bif (!y6) then
  some ([])
  else
  (aH (gA x0) fun (y8:List (List Int))=>
  (aY (fun (x44:List (List Int))=>
  some x44) fun j47=>
  (bif (decide (0<(y8.length:Int))) then
  (aY (fun (x35:List (List Int))=>
  j47 x35) fun j38=>
  (aI (0≤(1:Int)∧(1:Int)≤(y8.length:Int)∧(y8.length:Int)≤(y8.length:Int)) <|
  (aI (y8.length≤536870912) <|
  (aI (0≤(0:Int)∧0<(y8.length:Int)) <|
  (aI (y8.length≤536870912) <|
  j38 (List.drop 1 y8 ++ [(at' y8 0)]))))))
  else
  j47 y8)))))

theorem zN (x0:List (List Int)) (a2:Option Addr) (c3:Nat) (r:List (List Int)) (h:iX x0=some r):
  FC Tryz.prog 132 [.agg #[.slice a2 x0.length c3]] [⟨(.sl (.int .i64)),⟨a2,x0.length,c3⟩,x0⟩] (fun _:Option Addr×Nat=>True) (fun q=>.agg #[.slice q.1 r.length q.2]) (fun q=>[⟨(.sl (.int .i64)),⟨q.1,r.length,q.2⟩,r⟩]):=
 by
  refine FC.of (T:=TTx) Tryz.call132 Tryz.func132 E E fun w0=>?_
  unfold iX at h
  refine aR aA 2 [] [2,3] [(1,.bp 2 0),(2,.bp 3 0)] (.new 2 28 [.slice a2 x0.length c3] (.new 3 28 [.slice none 0 0] .nil)) ⟨(Es E),(Bs E E)⟩ E E (JS.seq (JS.seq (JS.region (aB aA 1 [] [] [(4,.v (.agg #[.slice a2 x0.length c3]))] _ E ⟨⟨E,V⟩,E⟩ ?_))))
  refine bnw h fun y6 hy7 h=>JO.call E E E E (oJ x0 a2 c3 _ hy7) E [0] E E fun _ _=>aB aA 1 [] [] [(6,.v (.bool (!y6)))] _ E ⟨⟨E,V⟩,E⟩ (aC E ?_)
  refine aL E h (fun h=>?_) (fun h=>?_)
  ·
   refine aR aA 2 [] [] [] (.new 3 28 [.slice none 0 0] .nil) ⟨V,(Bs E E)⟩ E E ?_
   cases h
   refine aW (.sl (.int .i64)) Sl.nil E E (JS.ret aA (none,0) V E E [0] E)
  refine JS.skip (JS.seq (JS.region (aB aA 1 [] [] [(8,.v (.agg #[.slice a2 x0.length c3]))] _ E ⟨⟨E,V⟩,E⟩ ?_)))
  refine bnw h fun y8 hy9 h=>JO.call E E E E (oS x0 a2 c3 _ hy9) E [0] E E ?_
  rintro ⟨a10,c11⟩ -
  refine aS aA 2 [] [11] [(3,.bp 11 0)] (.new 3 28 [.slice none 0 0] (.new 11 28 [.slice a10 y8.length c11] .nil)) E ⟨⟨E,V⟩,(Bs E E)⟩ (aC E ?_)
  obtain ⟨j47,hj66,h⟩:=aO h
  refine eH (ι:=List (List Int)×Option Addr×Nat) ⟨fun z=>j47 z.1=some r,fun z=>[(2,.bp 3 0),(3,.bp 11 0)],fun z=>(.new 3 28 [.slice none 0 0] (.new 11 28 [.slice z.2.1 z.1.length z.2.2] .nil)),fun z=>[],fun z=>[⟨(.sl (.int .i64)),⟨z.2.1,z.1.length,z.2.2⟩,z.1⟩],fun z=>0⟩ ?_ ?_
  ·
   refine aD aA 4 [(13,.v (.bool (decide (0<(y8.length:Int)))))] ⟨⟨E,V⟩,E⟩ E E ?_
   refine aL E h (fun h=>?_) (fun h=>?_)
   ·
    obtain ⟨j38,hj64,h⟩:=aO h
    refine sL (ι:=List (List Int)×Option Addr×Nat) ⟨fun z=>j38 z.1=some r,fun z=>[(2,.bp 3 0),(3,.bp 11 0)],fun z=>(.new 3 28 [.slice none 0 0] (.new 11 28 [.slice z.2.1 z.1.length z.2.2] .nil)),fun z=>[],fun z=>[⟨(.sl (.int .i64)),⟨z.2.1,z.1.length,z.2.2⟩,z.1⟩],fun z=>0⟩ ?_ ?_
    ·
     obtain ⟨g12,h⟩:=aF h
     obtain ⟨g14,h⟩:=aF h
     obtain ⟨g17,h⟩:=aF h
     obtain ⟨g26,h⟩:=aF h
     refine aHm 0 E (Int.toNat 0) (at' y8 0) E (by omega) fun a18 c19 l20 zs21 hl22 hz23 h024=>?_
     obtain rfl:([.slice a18 (at' y8 0).length c19]:List Value)=l20:=Option.some.inj hl22
     refine gR 1 E fun hs63=>?_
     refine bE E (.new 11 28 [.slice a10 y8.length c11] .nil) [1] [9,10,11] ⟨E,E,E,E,V⟩ E (fun be31=>?_)
     refine bV aA aG true 7 [0,1,4,5,6] E (by kernel_rfl) [] [(15,.v (.slice a10 y8.length c11)),(20,.ep ⟨a10,y8.length,c11⟩ (Int.toNat 0*1))] ⟨E,E,E,E,V⟩ [1] E E ⟨(hs63.cast (aD3 hz23)).ix g17,(Es E)⟩ (rZ aA aG 7 E (by kernel_rfl) E E E E E 0 E E (Int.toNat 0) 0 ((at' y8 0),[.slice a18 (at' y8 0).length c19]) ⟨h024,E⟩ E E E ⟨E,E,E,E,V⟩ [1] E (mD aA aG 2 E (by kernel_rfl) E E E E E E (1:Int) (y8.length:Int) E E ⟨g12.1,g12.2.1,g12.2.2,(hs63.cast (aD3 hz23)).cap,(E:(vF ⟨a10,y8.length,c11⟩ 1 1 y8.length)=(vF ⟨a10,y8.length,c11⟩ 1 1 y8.length))⟩ E ?_))
     refine JA.all (rs:=[3,8]) (by kernel_rfl) E (List.forall_mem_cons.2 ⟨?_,List.forall_mem_cons.2 ⟨?_,(fun _ hx=>absurd hx List.not_mem_nil)⟩⟩)
     ·
      refine aGk (.alt (.sl (.int .i64))) Sl.nil E E (zA aA E E E E ⟨E,E,E,E,V,E,E,E,E⟩ E 1 y8.length E 0 E 2 E ⟨by omega,by rw [← hz23,List.length_map]⟩ (by simp only [List.length_nil];omega) E fun a15 c16=>aJ ⟨E,E,E,E,V⟩ [2] E (JA.one 8 (by kernel_rfl) (JK.buildSlice aA E E E E E E E E E E E [] E (.alt (.sl (.int .i64))) [Sum.inr [.slice a18 (at' y8 0).length c19]] ⟨E,E,E⟩ E E fun a25=>aJ ⟨E,E,E,E,V⟩ [3] E (JA.one 9 (by kernel_rfl) (wN aA E E E E ⟨E,E,E,E,V,E,E,E,E⟩ E E [1,0] E (by have:=congrArg List.length hz23;simp [aDg] at this ⊢;omega) E (List.drop 1 y8 ++ [(at' y8 0)]).length (by rw [← hz23];simp [aDg]) fun a27 c28=>aP E (aT aA aG 1 [10] E (by kernel_rfl) [] [(24,.bp 11 0)] E ⟨E,V⟩ (JA.one 11 (by kernel_rfl) (bA aA E E E E E E E E (aP E (bG (by kernel_rfl) (aX (B':=(.new 3 28 [.slice none 0 0] (.new 11 28 [.slice a27 (List.drop 1 y8 ++ [(at' y8 0)]).length c28] .nil))) (Bs E E) (aAu [0,0] E hz23 h024 E (aN ((List.drop 1 y8 ++ [(at' y8 0)]),a27,c28) h (Es E) (Bs E E) [] E [0] E)))))))))))))
     refine JK.buildSlice aA E E E E E E E E E E E [] E (.alt (.sl (.int .i64))) [Sum.inr [.slice a18 (at' y8 0).length c19]] ⟨E,E,E⟩ E E fun a25=>aJ ⟨E,E,E,E,V⟩ [2] E (JA.one 3 (by kernel_rfl) (aGk (.alt (.sl (.int .i64))) Sl.nil E E (zA aA E E E E ⟨E,E,E,E,V,E,E,E,E⟩ E 1 y8.length E 0 E 3 E ⟨by omega,by rw [← hz23,List.length_map]⟩ (by simp only [List.length_nil];omega) E fun a15 c16=>aJ ⟨E,E,E,E,V⟩ [3] E (JA.one 9 (by kernel_rfl) (wN aA E E E E ⟨E,E,E,E,V,E,E,E,E⟩ E E [0,0] E (by have:=congrArg List.length hz23;simp [aDg] at this ⊢;omega) E (List.drop 1 y8 ++ [(at' y8 0)]).length (by rw [← hz23];simp [aDg]) fun a27 c28=>aP E (aT aA aG 1 [10] E (by kernel_rfl) [] [(24,.bp 11 0)] E ⟨E,V⟩ (JA.one 11 (by kernel_rfl) (bA aA E E E E E E E E (aP E (bG (by kernel_rfl) (aX (B':=(.new 3 28 [.slice none 0 0] (.new 11 28 [.slice a27 (List.drop 1 y8 ++ [(at' y8 0)]).length c28] .nil))) (Bs E E) (aAu [0,0] E hz23 h024 E (aN ((List.drop 1 y8 ++ [(at' y8 0)]),a27,c28) h (Es E) (Bs E E) [] E [0] E)))))))))))))
    rintro ⟨x35,a36,c37⟩ h
    subst hj64
    exact aN (x35,a36,c37) h (Es E) (Bs E E) [] E [0] E
   refine JS.skip (aN (y8,a10,c11) h (Es E) (Bs E E) [] E [0] E)
  rintro ⟨x44,a45,c46⟩ h
  subst hj66
  refine aR aA 2 [] [] [] (.new 3 28 [.slice a45 x44.length c46] .nil) ⟨V,(Bs E E)⟩ E E ?_
  cases h
  exact JS.ret aA (a45,c46) V E E [0] E

def lJ (x0:EdQ):Option (EdQ×Int):=
  (aH (dT x0.2.2.2.2.2.2.2.2.2.2.1) fun (y26:List Int)=>
  (aI (((bif (bif (!(decide (x0.2.2.2.2.2.2.2.2.2.1=3))) then true else (decide ((y26.length:Int)=0))) then true else (decide ((W (x0.2.2.1.2 - (y26.length:Int)))<0)))=false)→0≤(W (x0.2.2.1.2 - (y26.length:Int)))∧(W (x0.2.2.1.2 - (y26.length:Int)))≤x0.2.2.1.2∧x0.2.2.1.2≤(x0.2.2.1.1.length:Int)) <|
  (bU ((bif (bif (!(decide (x0.2.2.2.2.2.2.2.2.2.1=3))) then true else (decide ((y26.length:Int)=0))) then true else (decide ((W (x0.2.2.1.2 - (y26.length:Int)))<0)))=false) (fY (bC x0.2.2.1.1 (W (x0.2.2.1.2 - (y26.length:Int))) x0.2.2.1.2) y26) false fun (y36:Bool)=>
  (bif (bif (bif (bif (!(decide (x0.2.2.2.2.2.2.2.2.2.1=3))) then true else (decide ((y26.length:Int)=0))) then true else (decide ((W (x0.2.2.1.2 - (y26.length:Int)))<0))) then true else (!y36)) then
  (aH (dW x0) fun (y39,y40)=>
  some (y39,y40))
  else
  (aH (iJ x0.2.2.1 (W (x0.2.2.1.2 - (y26.length:Int))) x0.2.2.1.2) fun (y54,y55,y56)=>
  (aH (iX x0.2.2.2.2.2.2.2.2.2.2.1) fun (y62:List (List Int))=>
  (aY (fun ((x76,x77,x80):Bool×List Int×Int)=>
  (bif (!x76) then
  (aH (dW x0) fun (y82,y83)=>
  some (y82,y83))
  else
  (aH (eK x0) fun (y97:EdQ)=>
  (aH (nH (y97.1,y97.2.1,y97.2.2.1,y97.2.2.2.1,y97.2.2.2.2.1,y97.2.2.2.2.2.1,y97.2.2.2.2.2.2.1,y97.2.2.2.2.2.2.2.1,y97.2.2.2.2.2.2.2.2.1,y97.2.2.2.2.2.2.2.2.2.1,y62,y97.2.2.2.2.2.2.2.2.2.2.2.1,y97.2.2.2.2.2.2.2.2.2.2.2.2.1,y97.2.2.2.2.2.2.2.2.2.2.2.2.2.1,y97.2.2.2.2.2.2.2.2.2.2.2.2.2.2.1,y97.2.2.2.2.2.2.2.2.2.2.2.2.2.2.2.1,y97.2.2.2.2.2.2.2.2.2.2.2.2.2.2.2.2) (x77,x80) 3) fun (y111:EdQ)=>
  some (y111,0))))) fun j81=>
  (aH (dT y62) fun (y66:List Int)=>
  (aH (kW y54 y66) fun (y70,y71)=>
  j81 (y71,y70.1,y70.2))))))))))

theorem zK (x0:EdQ) (q2:P6) (r:EdQ×Int) (h:lJ x0=some r):
  FC Tryz.prog 95 [.agg (aK x0 q2).toArray] (cY x0 q2 []) (fun _:P6=>True) (fun q=>.tuple #[.agg (aK r.1 q).toArray,.int .i64 r.2]) (fun q=>(cY r.1 q [])):=
 by
  refine FC.of (T:=TTx) Tryz.call95 Tryz.func95 E E fun w0=>?_
  unfold lJ at h
  refine aR aA 3 [] [7,8] [(1,.bp 7 0),(2,.bp 8 0)] (.new 7 33 (aK x0 q2) (.new 8 33 bP .nil)) ⟨(Es E),(Bs E E)⟩ E E (JS.seq (JS.region (aB aA 2 [] [] [(14,.v (.agg #[.slice q2.2.2.1 (Q8 x0).2.2.1.length q2.2.2.2.1]))] _ E ⟨⟨E,V⟩,E⟩ ?_)))
  refine bnw h fun y26 hy27 h=>JO.call E E E E (iR (Q8 x0).2.2.1 q2.2.2.1 q2.2.2.2.1 _ hy27) E [1] E E ?_
  rintro ⟨a28,c29⟩ -
  refine aB aA 1 [] [] [(4,.v (.slice a28 y26.length c29))] _ E ⟨⟨E,V⟩,E⟩ (aC E (qP aA 7 [(W (x0.2.2.1.2 - (y26.length:Int)))] [] [(5,.v (I (W (x0.2.2.1.2 - (y26.length:Int)))))] _ ⟨⟨V,E⟩,⟨E,V⟩,E⟩ E E (JS.seq (JS.seq (JS.region (aB aA 20 [] [] [(34,.v (.bool (bif (bif (!(decide ((Q8 x0).2.1=3))) then true else (decide ((y26.length:Int)=0))) then true else (decide ((W (x0.2.2.1.2 - (y26.length:Int)))<0))))),(37,.cd [(34,false)] (.v (.slice q2.1 x0.2.2.1.1.length q2.2.1))),(38,.cd [(34,false)] (.v (I (W (x0.2.2.1.2 - (y26.length:Int)))))),(41,.cd [(34,false)] (.v (I x0.2.2.1.2)))] _ E ⟨(Es E),E⟩ ?_))))))
  obtain ⟨g30,h⟩:=aF h
  refine aKl 0 E (W (x0.2.2.1.2 - (y26.length:Int))) x0.2.2.1.2 fun a31 c32 hu33=>bT 1 E fun hs128=>aHo aA E E E E E E E (W (x0.2.2.1.2 - (y26.length:Int))) x0.2.2.1.2 E E (fun q129=>⟨(g30 q129).1,(g30 q129).2.1,(g30 q129).2.2,hs128.cap,hu33 (g30 q129)⟩) E (aB aA 1 [] [] [(43,.cd [(34,false)] (.v (.slice a28 y26.length c29)))] _ E ⟨⟨E,V⟩,E⟩ ?_)
  obtain ⟨y36,hy37,-,h⟩:=aU h
  refine bJ E E E E (fun q130=>oP (bC x0.2.2.1.1 (W (x0.2.2.1.2 - (y26.length:Int))) x0.2.2.1.2) y26 a31 c32 a28 c29 _ (hy37 q130)) E [0,7] E E (aB aA 2 [] [] [(46,.v (.bool (bif (bif (bif (!(decide ((Q8 x0).2.1=3))) then true else (decide ((y26.length:Int)=0))) then true else (decide ((W (x0.2.2.1.2 - (y26.length:Int)))<0))) then true else (!y36))))] _ E ⟨⟨E,V⟩,E⟩ (aC E ?_))
  refine aL E h (fun h=>?_) (fun h=>?_)
  ·
   refine JS.seq (JS.region (aB aA 1 [] [] [(47,.v (.agg (aK x0 q2).toArray))] _ E ⟨⟨E,V⟩,E⟩ ?_))
   obtain ⟨⟨y39,y40⟩,hy41,h⟩:=aE h
   refine JO.call E E E E (eV x0 q2 _ hy41) E [1,2,3,4,5,6] E E fun q42 _=>aS aA 4 [] [] [(3,.v (I y40))] (.new 8 33 (aK y39 q42) .nil) E ⟨⟨E,V⟩,(Bs E E)⟩ (aC E ?_)
   cases h
   exact JS.ret aA q42 V E E [0,0,0,0,0,0] E
  refine JS.skip (JS.seq (JS.region (aB aA 6 [] [] [(53,.v (.agg #[.slice q2.1 x0.2.2.1.1.length q2.2.1,.int .i64 x0.2.2.1.2])),(54,.v (I (W (x0.2.2.1.2 - (y26.length:Int))))),(57,.v (I x0.2.2.1.2))] _ E ⟨(Es E),E⟩ ?_)))
  obtain ⟨⟨y54,y55,y56⟩,hy57,h⟩:=aE h
  refine JO.call E E E E (pY x0.2.2.1 (W (x0.2.2.1.2 - (y26.length:Int))) x0.2.2.1.2 q2.1 q2.2.1 _ hy57) E [1] E E ?_
  rintro ⟨a58,c59,a60,c61⟩ -
  refine aS aA 8 [] [52] [(6,.bp 52 0)] (.new 7 33 (aK x0 q2) (.new 8 33 bP (.new 52 25 [.slice a58 y54.1.length c59,.int .i64 y54.2] .nil))) E ⟨⟨E,V⟩,(Bs E E)⟩ (aC E (JS.seq (JS.region (aB aA 2 [] [] [(63,.v (.agg #[.slice q2.2.2.1 (Q8 x0).2.2.1.length q2.2.2.2.1]))] _ E ⟨⟨E,V⟩,E⟩ ?_))))
  refine bnw h fun y62 hy63 h=>JO.call E E E E (zN (Q8 x0).2.2.1 q2.2.2.1 q2.2.2.2.1 _ hy63) E [2] E E ?_
  rintro ⟨a64,c65⟩ -
  refine aS aA 2 [] [58] [(9,.bp 58 0)] (.new 7 33 (aK x0 q2) (.new 8 33 bP (.new 52 25 [.slice a58 y54.1.length c59,.int .i64 y54.2] (.new 58 28 [.slice a64 y62.length c65] .nil)))) E ⟨⟨E,V⟩,(Bs E E)⟩ (aC E (JS.seq ?_))
  obtain ⟨j81,hj132,h⟩:=aO h
  refine sL (ι:=Bool×List Int×Int×Option Addr×Nat) ⟨fun z=>j81 (z.1,z.2.1,z.2.2.1)=some r,fun z=>[(1,.bp 7 0),(2,.bp 8 0),(9,.bp 58 0),(10,.bp 70 0),(11,.v (.bool z.1))],fun z=>(.new 7 33 (aK x0 q2) (.new 8 33 bP (.new 58 28 [.slice a64 y62.length c65] (.new 70 25 [.slice z.2.2.2.1 z.2.1.length (Q4 z),.int .i64 z.2.2.1] .nil)))),fun z=>(cY x0 q2 []),fun z=>[⟨(.int .i64),⟨z.2.2.2.1,z.2.1.length,(Q4 z)⟩,z.2.1⟩,⟨(.sl (.int .i64)),⟨a64,y62.length,c65⟩,y62⟩],fun z=>0⟩ ?_ ?_
  ·
   obtain ⟨y66,hy67,h⟩:=aE h
   obtain ⟨⟨y70,y71⟩,hy72,h⟩:=aE h
   refine bE E (.new 52 25 [.slice a58 y54.1.length c59,.int .i64 y54.2] (.new 58 28 [.slice a64 y62.length c65] .nil)) [] [3,4,5,6,8,9] ⟨E,E,E,E,E,E,E,E,V⟩ E (fun be75=>?_)
   refine bV aA aG true 8 [0,1] E (by kernel_rfl) [] [(66,.v (.agg #[.slice a58 y54.1.length c59,.int .i64 y54.2])),(67,.v (.agg #[.slice a64 y62.length c65]))] ⟨E,E,E,E,E,E,E,E,V⟩ [] E E (Es E) ?_
   refine JA.all (rs:=[2,7]) (by kernel_rfl) E (List.forall_mem_cons.2 ⟨?_,List.forall_mem_cons.2 ⟨?_,(fun _ hx=>absurd hx List.not_mem_nil)⟩⟩)
   ·
    refine JK.call E E E E (iR y62 a64 c65 _ hy67) E [7] E E ?_
    rintro ⟨a68,c69⟩ -
    refine aJ ⟨E,E,E,E,E,E,E,E,V⟩ [] E ?_
    refine JA.all (rs:=[3,7]) (by kernel_rfl) E (List.forall_mem_cons.2 ⟨?_,List.forall_mem_cons.2 ⟨?_,(fun _ hx=>absurd hx List.not_mem_nil)⟩⟩)
    ·
     refine JK.call E E E E (nF y54 y66 a58 c59 a68 c69 _ hy72) E [9,7] E E ?_
     rintro ⟨a73,c74⟩ -
     refine aP E (aT aA aG 3 [4,5,6] E (by kernel_rfl) [] [(70,.v (.agg #[.slice a73 y70.1.length c74,.int .i64 y70.2])),(71,.v (.bool y71))] E (Es E) (JA.one 7 (by kernel_rfl) (JK.alloc aA E E E E E 70 E (eF _ E) (aJ ⟨E,E,E,E,E,E,E,E,V⟩ [] E (JA.one 8 (by kernel_rfl) (bA aA E E E E E E E E (aP E (aT aA aG 0 [9] E (by kernel_rfl) [] [(11,.v (.bool y71))] E ⟨E,V⟩ (bG (by kernel_rfl) (aX (B':=(.new 7 33 (aK x0 q2) (.new 8 33 bP (.new 58 28 [.slice a64 y62.length c65] (.new 70 25 [.slice a73 y70.1.length c74,.int .i64 y70.2] .nil))))) (Bs E E) (aN (y71,y70.1,y70.2,a73,c74) h (Es E) (Bs E E) [1,2,3,4,5,6] E [0,1] E)))))))))))
    refine JK.alloc aA E E E E E 70 E (eF _ E) (aJ ⟨E,E,E,E,E,E,E,E,V⟩ [] E (JA.one 3 (by kernel_rfl) (JK.call E E E E (nF y54 y66 a58 c59 a68 c69 _ hy72) E [9,7] E E ?_)))
    rintro ⟨a73,c74⟩ -
    refine aP E (aT aA aG 2 [4,5,6] E (by kernel_rfl) [] [(70,.v (.agg #[.slice a73 y70.1.length c74,.int .i64 y70.2])),(71,.v (.bool y71))] E (Es E) (JA.one 8 (by kernel_rfl) (bA aA E E E E E E E E (aP E (aT aA aG 0 [9] E (by kernel_rfl) [] [(11,.v (.bool y71))] E ⟨E,V⟩ (bG (by kernel_rfl) (aX (B':=(.new 7 33 (aK x0 q2) (.new 8 33 bP (.new 58 28 [.slice a64 y62.length c65] (.new 70 25 [.slice a73 y70.1.length c74,.int .i64 y70.2] .nil))))) (Bs E E) (aN (y71,y70.1,y70.2,a73,c74) h (Es E) (Bs E E) [1,2,3,4,5,6] E [0,1] E))))))))
   refine JK.alloc aA E E E E E 70 E (eF _ E) (aJ ⟨E,E,E,E,E,E,E,E,V⟩ [] E (JA.one 2 (by kernel_rfl) (JK.call E E E E (iR y62 a64 c65 _ hy67) E [7] E E ?_)))
   rintro ⟨a68,c69⟩ -
   refine aJ ⟨E,E,E,E,E,E,E,E,V⟩ [] E (JA.one 3 (by kernel_rfl) (JK.call E E E E (nF y54 y66 a58 c59 a68 c69 _ hy72) E [9,7] E E ?_))
   rintro ⟨a73,c74⟩ -
   refine aP E (aT aA aG 2 [4,5,6] E (by kernel_rfl) [] [(70,.v (.agg #[.slice a73 y70.1.length c74,.int .i64 y70.2])),(71,.v (.bool y71))] E (Es E) (JA.one 8 (by kernel_rfl) (bA aA E E E E E E E E (aP E (aT aA aG 0 [9] E (by kernel_rfl) [] [(11,.v (.bool y71))] E ⟨E,V⟩ (bG (by kernel_rfl) (aX (B':=(.new 7 33 (aK x0 q2) (.new 8 33 bP (.new 58 28 [.slice a64 y62.length c65] (.new 70 25 [.slice a73 y70.1.length c74,.int .i64 y70.2] .nil))))) (Bs E E) (aN (y71,y70.1,y70.2,a73,c74) h (Es E) (Bs E E) [1,2,3,4,5,6] E [0,1] E))))))))
  rintro ⟨x76,x77,x80,a78,c79⟩ h
  subst hj132
  refine JS.seq (aD aA 2 [(73,.v (.bool (!x76)))] ⟨⟨E,V⟩,E⟩ E E ?_)
  refine aL E h (fun h=>?_) (fun h=>?_)
  ·
   refine JS.seq (JS.region (aB aA 1 [] [] [(74,.v (.agg (aK x0 q2).toArray))] _ E ⟨⟨E,V⟩,E⟩ ?_))
   obtain ⟨⟨y82,y83⟩,hy84,h⟩:=aE h
   refine JO.call E E E E (eV x0 q2 _ hy84) E [0,1,2,3,4,5] E E fun q85 _=>aS aA 4 [] [] [(3,.v (I y83))] (.new 8 33 (aK y82 q85) .nil) E ⟨⟨E,V⟩,(Bs E E)⟩ (aC E ?_)
   cases h
   exact JS.ret aA q85 V E E [0,0,0,0,0,0] E
  refine JS.skip (JS.seq (JS.region (aB aA 1 [] [] [(78,.v (.agg (aK x0 q2).toArray))] _ E ⟨⟨E,V⟩,E⟩ ?_)))
  refine bnw h fun y97 hy98 h=>JO.call E E E E (kJ x0 q2 _ hy98) E [0,1,2,3,4,5] E E fun q99 _=>aS aA 2 [] [120] [(12,.bp 120 0)] (.new 8 33 bP (.new 58 28 [.slice a64 y62.length c65] (.new 70 25 [.slice a78 x77.length c79,.int .i64 x80] (.new 120 33 (aK y97 q99) .nil)))) E ⟨⟨E,V⟩,(Bs E E)⟩ (aC E (aR aA 3 [] [] [] (.new 8 33 bP (.new 70 25 [.slice a78 x77.length c79,.int .i64 x80] (.new 120 33 (aK (U10 y97 y62) (q99.1,q99.2.1,a64,c65,(Q4 q99))) .nil))) ⟨V,(Bs E E)⟩ E E (JS.seq (JS.region (aB aA 2 [] [] [(82,.v (.agg (aK (U10 y97 y62) (q99.1,q99.2.1,a64,c65,(Q4 q99))).toArray)),(83,.v (.agg #[.slice a78 x77.length c79,.int .i64 x80]))] _ E ⟨(Es E),E⟩ ?_)))))
  refine bnw h fun y111 hy112 h=>JO.call E E E E (uI (U10 y97 y62) (x77,x80) 3 (q99.1,q99.2.1,a64,c65,(Q4 q99)) a78 c79 _ hy112) E [6,13,8,9,10,11,12] E E fun q113 _=>aS aA 2 [] [] [(3,.v (I 0))] (.new 8 33 (aK y111 q113) .nil) E ⟨⟨E,V⟩,(Bs E E)⟩ (aC E ?_)
  cases h
  exact JS.ret aA q113 V E E [0,0,0,0,0,0] E

def pJ (x0:Int):Option Int:=
  (aH (fT x0) fun (y2:Bool)=>
  (bif y2 then
  some (W (x0+32))
  else
  some x0))

theorem aE8 (x0:Int) (r:Int) (h:pJ x0=some r) :
  FC Tryz.prog 136 [.int .i64 x0] [] (fun _:Unit=>True) (fun _=>.int .i64 r) (fun _=>[]):=
 by
  refine FC.of (T:=TTx) Tryz.call136 Tryz.func136 E E fun w0=>?_
  unfold pJ at h
  refine aD aA 1 [] ⟨V,E⟩ E E (JS.seq (JS.seq (JS.region (aB aA 1 [] [] [(3,.v (I x0))] _ E ⟨⟨E,V⟩,E⟩ ?_))))
  refine bnw h fun y2 hy3 h=>JO.call E E E E (pW x0 _ hy3) E [] E E fun _ _=>aC E ?_
  refine aL E h (fun h=>?_) (fun h=>?_)
  ·
   refine qP aA 3 [(W (x0+32))] [] [(2,.v (I (W (x0+32))))] _ ⟨⟨V,E⟩,⟨E,V⟩,E⟩ E E ?_
   cases h
   exact JS.ret aA () V E E [] E
  refine JS.skip (aD aA 2 [(2,.v (I x0))] ⟨⟨E,V⟩,E⟩ E E ?_)
  cases h
  exact JS.ret aA () V E E [] E

def pH (x0:Int):Option Int:=
  (aH (eM x0) fun (y2:Bool)=>
  (bif y2 then
  some (W (x0 - 32))
  else
  some x0))

theorem aE7 (x0:Int) (r:Int) (h:pH x0=some r) :
  FC Tryz.prog 135 [.int .i64 x0] [] (fun _:Unit=>True) (fun _=>.int .i64 r) (fun _=>[]):=
 by
  refine FC.of (T:=TTx) Tryz.call135 Tryz.func135 E E fun w0=>?_
  unfold pH at h
  refine aD aA 1 [] ⟨V,E⟩ E E (JS.seq (JS.seq (JS.region (aB aA 1 [] [] [(3,.v (I x0))] _ E ⟨⟨E,V⟩,E⟩ ?_))))
  refine bnw h fun y2 hy3 h=>JO.call E E E E (nE x0 _ hy3) E [] E E fun _ _=>aC E ?_
  refine aL E h (fun h=>?_) (fun h=>?_)
  ·
   refine qP aA 3 [(W (x0 - 32))] [] [(2,.v (I (W (x0 - 32))))] _ ⟨⟨V,E⟩,⟨E,V⟩,E⟩ E E ?_
   cases h
   exact JS.ret aA () V E E [] E
  refine JS.skip (aD aA 2 [(2,.v (I x0))] ⟨⟨E,V⟩,E⟩ E E ?_)
  cases h
  exact JS.ret aA () V E E [] E

def gK (x2:Int) (x3:Int) (j88:(List Int)→Option ((List Int×Int)×Bool)) (k76:(Bool×Int×List Int)→Option ((List Int×Int)×Bool)):(Bool×Int×List Int)→Option ((List Int×Int)×Bool):=fun (x18,x19,x24)=>
  (bif (decide (x19<x2)) then
  (aY (fun ((x51,x52):Bool×List Int)=>
  k76 (x51,(W (x19+1)),x52)) fun j55=>
  (aI (0≤x19∧x19<(x24.length:Int)) <|
  (aH (eM (at' x24 x19)) fun (y30:Bool)=>
  (bU ((!y30)=true) (fT (at' x24 x19)) false fun (y32:Bool)=>
  (bif (bif (!y30) then (!y32) else false) then
  j55 (x18,x24)
  else
  (aY (fun (x44:List Int)=>
  j55 (false,x44)) fun j47=>
  (bif (bif (decide (x3=1)) then true else (bif (decide (x3=2)) then x18 else false)) then
  (aH (pH (at' x24 x19)) fun (y35:Int)=>
  (aI (0≤x19∧x19<(x24.length:Int)) <|
  j47 (List.set x24 (Int.toNat x19) y35)))
  else
  (aH (pJ (at' x24 x19)) fun (y39:Int)=>
  (aI (0≤x19∧x19<(x24.length:Int)) <|
  j47 (List.set x24 (Int.toNat x19) y39))))))))))
  else
  j88 x24)

def iY (x0:List Int×Int) (x1:Int) (x2:Int) (x3:Int):Option ((List Int×Int)×Bool):=
  (aH (mA x0 x1 x2) fun (y9:Bool)=>
  (bU ((!y9)=false) (cN x3 0 2) false fun (y11:Bool)=>
  (bif (bif (!y9) then true else (!y11)) then
  some (([],0),false)
  else
  (aH (eS x0 x2) fun (y14:List Int×Int)=>
  (aY (fun (x85:List Int)=>
  some ((x85,y14.2),true)) fun j88=>
  (bI (gK x2 x3 j88) bO (true,x1,y14.1)))))))

theorem oT (x0:List Int×Int) (x1:Int) (x2:Int) (x3:Int) (a5:Option Addr) (c6:Nat) (r:(List Int×Int)×Bool) (h:iY x0 x1 x2 x3=some r):
  FC Tryz.prog 96 [.agg #[.slice a5 x0.1.length c6,.int .i64 x0.2],.int .i64 x1,.int .i64 x2,.int .i64 x3] [⟨(.int .i64),⟨a5,x0.1.length,c6⟩,x0.1⟩] (fun _:Option Addr×Nat=>True) (fun q=>.tuple #[.agg #[.slice q.1 r.1.1.length q.2,.int .i64 r.1.2],.bool r.2]) (fun q=>[⟨(.int .i64),⟨q.1,r.1.1.length,q.2⟩,r.1.1⟩]):=
 by
  refine FC.of (T:=TTx) Tryz.call96 Tryz.func96 E E fun w0=>?_
  unfold iY at h
  refine aR aA 3 [] [2,3] [(4,.bp 2 0),(8,.bp 3 0)] (.new 2 25 [.slice a5 x0.1.length c6,.int .i64 x0.2] (.new 3 25 [.slice none 0 0,.int .i64 0] .nil)) ⟨(Es E),(Bs E E)⟩ E E (JS.seq (JS.seq (JS.region (aB aA 3 [] [] [(14,.v (.agg #[.slice a5 x0.1.length c6,.int .i64 x0.2])),(15,.v (I x1)),(16,.v (I x2))] _ E ⟨(Es E),E⟩ ?_))))
  refine bnw h fun y9 hy10 h=>JO.call E E E E (wE x0 x1 x2 a5 c6 _ hy10) E [0] E E fun _ _=>aB aA 3 [] [] [(19,.v (.bool (!y9))),(20,.cd [(19,false)] (.v (I x3)))] _ E ⟨(Es E),E⟩ ?_
  obtain ⟨y11,hy12,-,h⟩:=aU h
  refine bJ E E E E (fun q98=>dL x3 0 2 _ (hy12 q98)) E [] E E (aB aA 2 [] [] [(23,.v (.bool (bif (!y9) then true else (!y11))))] _ E ⟨⟨E,V⟩,E⟩ (aC E ?_))
  refine aL E h (fun h=>?_) (fun h=>?_)
  ·
   refine aR aA 3 [] [] [(9,.v (.bool false))] (.new 3 25 [.slice none 0 0,.int .i64 0] .nil) ⟨⟨E,V⟩,(Bs E E)⟩ E E ?_
   cases h
   refine aW (.int .i64) Sl.nil E E (JS.ret aA (none,0) V E E [0] E)
  refine JS.skip (JS.seq (JS.region (aB aA 2 [] [] [(25,.v (.agg #[.slice a5 x0.1.length c6,.int .i64 x0.2])),(26,.v (I x2))] _ E ⟨(Es E),E⟩ ?_)))
  refine bnw h fun y14 hy15 h=>JO.call E E E E (kI x0 x2 a5 c6 _ hy15) E [0] E E ?_
  rintro ⟨a16,c17⟩ -
  refine aS aA 2 [] [13] [(10,.bp 13 0)] (.new 3 25 [.slice none 0 0,.int .i64 0] (.new 13 25 [.slice a16 y14.1.length c17,.int .i64 y14.2] .nil)) E ⟨⟨E,V⟩,(Bs E E)⟩ (aC E (aD aA 1 [(11,.v (.bool true))] ⟨⟨E,V⟩,E⟩ E E (JS.seq (aD aA 2 [(12,.v (I x1))] ⟨⟨E,V⟩,E⟩ E E ?_))))
  obtain ⟨j88,hj106,h⟩:=aO h
  refine bF (ι:=List Int×Option Addr×Nat) ⟨fun z=>j88 z.1=some r,fun z=>[(8,.bp 3 0),(10,.bp 13 0)],fun z=>(.new 3 25 [.slice none 0 0,.int .i64 0] (.new 13 25 [.slice z.2.1 z.1.length z.2.2,.int .i64 y14.2] .nil)),fun z=>[],fun z=>[⟨(.int .i64),⟨z.2.1,z.1.length,z.2.2⟩,z.1⟩],fun z=>0⟩ ?_ ?_
  ·
   refine JS.loop (ι:=Nat×Bool×Int×List Int×Option Addr×Nat) ⟨fun z=>bI (gK x2 x3 j88) z.1 (z.2.1,z.2.2.1,z.2.2.2.1)=some r,fun z=>[(2,.v (I x2)),(3,.v (I x3)),(8,.bp 3 0),(10,.bp 13 0),(11,.v (.bool z.2.1)),(12,.v (I z.2.2.1))],fun z=>(.new 3 25 [.slice none 0 0,.int .i64 0] (.new 13 25 [.slice (Q4 z).1 z.2.2.2.1.length (Q4 z).2,.int .i64 y14.2] .nil)),fun z=>[],fun z=>[⟨(.int .i64),⟨(Q4 z).1,z.2.2.2.1.length,(Q4 z).2⟩,z.2.2.2.1⟩],fun z=>z.1⟩ (bO,true,x1,y14.1,a16,c17) h (Es E) (Bs E E) [] E [0] E ?_
   rintro ⟨n77,x18,x19,x24,a25,c26⟩ h
   obtain ⟨n77,rfl,h⟩:=bM h
   rw [gK] at h
   refine JS.seq (aD aA 3 [(31,.v (.bool (decide (x19<x2))))] ⟨⟨E,V⟩,E⟩ E E ?_)
   refine aL E h (fun h=>?_) (fun h=>?_)
   ·
    refine JS.skip (JS.seq ?_)
    obtain ⟨j55,hj104,h⟩:=aO h
    refine bF (ι:=Bool×List Int×Option Addr×Nat) ⟨fun z=>j55 (z.1,z.2.1)=some r,fun z=>[(2,.v (I x2)),(3,.v (I x3)),(8,.bp 3 0),(10,.bp 13 0),(11,.v (.bool z.1)),(12,.v (I x19))],fun z=>(.new 3 25 [.slice none 0 0,.int .i64 0] (.new 13 25 [.slice z.2.2.1 z.2.1.length z.2.2.2,.int .i64 y14.2] .nil)),fun z=>[],fun z=>[⟨(.int .i64),⟨z.2.2.1,z.2.1.length,z.2.2.2⟩,z.2.1⟩],fun z=>0⟩ ?_ ?_
    ·
     refine JS.seq (JS.region (bT 0 E fun hs99=>?_))
     obtain ⟨g29,h⟩:=aF h
     refine aB aA 4 [] [] [(37,.ep ⟨a25,x24.length,c26⟩ (Int.toNat x19*1))] _ E ⟨hs99.ix g29,⟨E,V⟩,E⟩ (JO.load aA E E E E E E E 0 E E (Int.toNat x19) 0 (at' x24 x19) ⟨bD g29,E⟩ E E (aB aA 1 [] [] [(13,.v (I (at' x24 x19)))] _ E ⟨⟨E,V⟩,E⟩ (aC E (JS.seq (JS.seq (JS.region (aB aA 1 [] [] [(39,.v (I (at' x24 x19)))] _ E ⟨⟨E,V⟩,E⟩ ?_)))))))
     refine bnw h fun y30 hy31 h=>JO.call E E E E (nE (at' x24 x19) _ hy31) E [] E E fun _ _=>aB aA 3 [] [] [(42,.v (.bool (!y30))),(43,.cd [(42,true)] (.v (I (at' x24 x19))))] _ E ⟨(Es E),E⟩ ?_
     obtain ⟨y32,hy33,-,h⟩:=aU h
     refine bJ E E E E (fun q100=>pW (at' x24 x19) _ (hy33 q100)) E [] E E (aB aA 2 [] [] [(46,.v (.bool (bif (!y30) then (!y32) else false)))] _ E ⟨⟨E,V⟩,E⟩ (aC E ?_))
     refine aL E h (fun h=>?_) (fun h=>?_)
     ·
      refine JS.exit E (aN (x18,x24,a25,c26) h (Es E) (Bs E E) [] E [0] E)
     refine JS.skip ?_
     obtain ⟨j47,hj102,h⟩:=aO h
     refine eH (ι:=List Int×Option Addr×Nat) ⟨fun z=>j47 z.1=some r,fun z=>[(2,.v (I x2)),(3,.v (I x3)),(8,.bp 3 0),(10,.bp 13 0),(12,.v (I x19))],fun z=>(.new 3 25 [.slice none 0 0,.int .i64 0] (.new 13 25 [.slice z.2.1 z.1.length z.2.2,.int .i64 y14.2] .nil)),fun z=>[],fun z=>[⟨(.int .i64),⟨z.2.1,z.1.length,z.2.2⟩,z.1⟩],fun z=>0⟩ ?_ ?_
     ·
      refine aD aA 9 [(55,.v (.bool (bif (decide (x3=1)) then true else (bif (decide (x3=2)) then x18 else false))))] ⟨⟨E,V⟩,E⟩ E E ?_
      refine aL E h (fun h=>?_) (fun h=>?_)
      ·
       obtain ⟨y35,hy36,h⟩:=aE h
       obtain ⟨g37,h⟩:=aF h
       refine bE E (.new 13 25 [.slice a25 x24.length c26,.int .i64 y14.2] .nil) [] [5,6] ⟨E,E,E,E,V⟩ E (fun be38=>?_)
       refine bV aA aG true 3 [0,1,2,3] E (by kernel_rfl) [] [(57,.v (.slice a25 x24.length c26)),(58,.v (I x19)),(59,.v (I (at' x24 x19)))] ⟨E,E,E,E,V⟩ [] E E (Es E) (JA.one 4 (by kernel_rfl) (JK.call E E E E (aE7 (at' x24 x19) _ hy36) E [] E E fun _ _=>aJ ⟨E,E,E,E,V⟩ [] E (aT aA aG 1 [5] E (by kernel_rfl) [] [(61,.ep ⟨a25,x24.length,c26⟩ (Int.toNat x19*1))] E ⟨hs99.ix g37,⟨E,V⟩⟩ (JA.one 6 (by kernel_rfl) (pM aA E E E E E E E E E [0] (fs:=[]) E (Int.toNat x19) 0 (at' x24 x19) y35 ⟨bD g37,E⟩ ⟨E,E,E⟩ (aP E (bG (by kernel_rfl) (aX (B':=(.new 3 25 [.slice none 0 0,.int .i64 0] (.new 13 25 [.slice a25 x24.length c26,.int .i64 y14.2] .nil))) (Bs E E) (aN ((List.set x24 (Int.toNat x19) y35),a25,c26) h (Es E) ⟨E,E,E,E,E,(congrArg (fun n=>([.slice a25 n c26,.int .i64 y14.2]:List Value)) (List.length_set.trans E)),E,E,V⟩ [] E [0] (by simp only [List.length_set,List.length_replicate,bX,dG,mN];rfl))))))))))
      obtain ⟨y39,hy40,h⟩:=aE h
      obtain ⟨g41,h⟩:=aF h
      refine bE E (.new 13 25 [.slice a25 x24.length c26,.int .i64 y14.2] .nil) [] [5,6] ⟨E,E,E,E,V⟩ E (fun be42=>?_)
      refine bV aA aG true 3 [0,1,2,3] E (by kernel_rfl) [] [(63,.v (.slice a25 x24.length c26)),(64,.v (I x19)),(65,.v (I (at' x24 x19)))] ⟨E,E,E,E,V⟩ [] E E (Es E) (JA.one 4 (by kernel_rfl) (JK.call E E E E (aE8 (at' x24 x19) _ hy40) E [] E E fun _ _=>aJ ⟨E,E,E,E,V⟩ [] E (aT aA aG 1 [5] E (by kernel_rfl) [] [(67,.ep ⟨a25,x24.length,c26⟩ (Int.toNat x19*1))] E ⟨hs99.ix g41,⟨E,V⟩⟩ (JA.one 6 (by kernel_rfl) (pM aA E E E E E E E E E [0] (fs:=[]) E (Int.toNat x19) 0 (at' x24 x19) y39 ⟨bD g41,E⟩ ⟨E,E,E⟩ (aP E (bG (by kernel_rfl) (aX (B':=(.new 3 25 [.slice none 0 0,.int .i64 0] (.new 13 25 [.slice a25 x24.length c26,.int .i64 y14.2] .nil))) (Bs E E) (aN ((List.set x24 (Int.toNat x19) y39),a25,c26) h (Es E) ⟨E,E,E,E,E,(congrArg (fun n=>([.slice a25 n c26,.int .i64 y14.2]:List Value)) (List.length_set.trans E)),E,E,V⟩ [] E [0] (by simp only [List.length_set,List.length_replicate,bX,dG,mN];rfl))))))))))
     rintro ⟨x44,a45,c46⟩ h
     subst hj102
     refine tS aA 1 [(11,.v (.bool false))] ⟨⟨E,V⟩,E⟩ E E (aV (aN (false,x44,a45,c46) h (Es E) (Bs E E) [] E [0] E))
    rintro ⟨x51,x52,a53,c54⟩ h
    subst hj104
    refine cW aA 3 [(W (x19+1))] [] [(12,.v (I (W (x19+1))))] _ ⟨⟨V,E⟩,⟨E,V⟩,E⟩ E E (bZ (n77,x51,(W (x19+1)),x52,a53,c54) h (Nat.lt_succ_self _) (Es E) (Bs E E) [] E [0] E)
   refine JS.exit E (aN (x24,a25,c26) h (Es E) (Bs E E) [] E [0] E)
  rintro ⟨x85,a86,c87⟩ h
  subst hj106
  refine aR aA 3 [] [] [(9,.v (.bool true))] (.new 3 25 [.slice a86 x85.length c87,.int .i64 y14.2] .nil) ⟨⟨E,V⟩,(Bs E E)⟩ E E ?_
  cases h
  exact JS.ret aA (a86,c87) V E E [0] E

def iC (x0:Int) (x1:List Int):Option (Int×List Int):=
  (aH (iW x1 x0) fun (y8:Int)=>
  some (y8,x1))

theorem wT (x0:Int) (x1:List Int) (a3:Option Addr) (a4:Option Addr) (c5:Nat) (r:Int×List Int) (h:iC x0 x1=some r):
  FX Tryz.prog 91 [.int .i64 x0,.pointer a3] [⟨(.int .i64),⟨a4,x1.length,c5⟩,x1⟩] [⟨.val,⟨a3,1,1⟩,[(Sl.v ⟨a4,x1.length,c5⟩)]⟩] (fun _:Unit=>True) (fun _=>.int .i64 r.1) (fun _=>[⟨.val,⟨a3,1,1⟩,[(Sl.v ⟨a4,x1.length,c5⟩)]⟩]):=
 by
  refine FX.of (T:=TTx) Tryz.call91 Tryz.func91 E E fun w0 L0=>?_
  unfold iC at h
  refine mZ 1 a3 E ?_
  refine aD aA 1 [] ⟨V,E⟩ E E (JS.seq (JS.region (dX aA E E E E E E 1 E E 0 0 (Sl.v ⟨a4,x1.length,c5⟩) ⟨E,E⟩ E E E (aB aA 1 [] [] [(5,.v (I x0))] _ E ⟨⟨E,V⟩,E⟩ ?_))))
  refine bnw h fun y8 hy9 h=>JO.call E E E E (sU x1 x0 a4 c5 _ hy9) E [0] E E fun _ _=>aB aA 1 [] [] [(3,.v (I y8))] _ E ⟨⟨E,V⟩,E⟩ (aC E ?_)
  cases h
  exact eI aA () V E E [0] E

def cB (x1:Int) (x2:(List Int)) (j23:Int→Option (Int×List Int)) (k19:(Int×Int)→Option (Int×List Int)):(Int×Int)→Option (Int×List Int):=fun (x9,x10)=>
  (bif (decide (x10<x1)) then
  (aH (iC x9 x2) fun (y14,y15)=>
  k19 (y14,(W (x10+1))))
  else
  j23 x9)

def dD (x0:Int) (x1:Int) (x2:(List Int)):Option (Int×List Int):=
  (aY (fun (x22:Int)=>
  some (x22,x2)) fun j23=>
  (bI (cB x1 x2 j23) bO (x0,0)))

theorem oQ (x0:Int) (x1:Int) (x2:(List Int)) (a4:Option Addr) (a5:Option Addr) (c6:Nat) (r:Int×List Int) (h:dD x0 x1 x2=some r):
  FX Tryz.prog 68 [.int .i64 x0,.int .i64 x1,.func (.func 91) #[] #[.pointer a4]] [⟨(.int .i64),⟨a5,x2.length,c6⟩,x2⟩] [⟨.val,⟨a4,1,1⟩,[(Sl.v ⟨a5,x2.length,c6⟩)]⟩] (fun _:Unit=>True) (fun _=>.int .i64 r.1) (fun _=>[⟨.val,⟨a4,1,1⟩,[(Sl.v ⟨a5,x2.length,c6⟩)]⟩]):=
 by
  refine FX.of (T:=TTx) Tryz.call68 Tryz.func68 E E fun w0 L0=>?_
  unfold dD at h
  refine aD aA 1 [] ⟨V,E⟩ E E (JS.seq (aD aA 2 [(7,.v (I x1)),(8,.v (I 0))] ⟨(Es E),E⟩ E E ?_))
  obtain ⟨j23,hj27,h⟩:=aO h
  refine bF (ι:=Int) ⟨fun z=>j23 z=some r,fun z=>[(0,.v (I z))],fun z=>.nil,fun z=>[⟨(.int .i64),⟨a5,x2.length,c6⟩,x2⟩],fun z=>[⟨.val,⟨a4,1,1⟩,[(Sl.v ⟨a5,x2.length,c6⟩)]⟩],fun z=>0⟩ ?_ ?_
  ·
   refine JS.loop (ι:=Nat×Int×Int) ⟨fun z=>bI (cB x1 x2 j23) z.1 z.2=some r,fun z=>[(0,.v (I z.2.1)),(2,.v (.func (.func 91) #[] #[.pointer a4])),(7,.v (I x1)),(8,.v (I z.2.2))],fun z=>.nil,fun z=>[⟨(.int .i64),⟨a5,x2.length,c6⟩,x2⟩],fun z=>[⟨.val,⟨a4,1,1⟩,[(Sl.v ⟨a5,x2.length,c6⟩)]⟩],fun z=>z.1⟩ (bO,x0,0) h (Es E) V [0] E [0] E ?_
   rintro ⟨n20,x9,x10⟩ h
   obtain ⟨n20,rfl,h⟩:=bM h
   rw [cB] at h
   refine aD aA 1 [(9,.v (.bool (decide (x10<x1))))] ⟨⟨E,V⟩,E⟩ E E (JS.seq ?_)
   refine aL E h (fun h=>?_) (fun h=>?_)
   ·
    refine JS.skip (JS.seq (JS.block (JS.region (aB aA 2 [] [] [(10,.v (.func (.func 91) #[] #[.pointer a4])),(11,.v (I x9))] _ E ⟨(Es E),E⟩ ?_))))
    obtain ⟨⟨y14,y15⟩,hy16,h⟩:=aE h
    refine vX (vs0:=[.int .i64 x9]) (caps:=[.pointer a4]) E E E E E (wT x9 x2 a4 a5 c6 _ hy16) E [0] E [0] E E fun _ _=>aB aA 1 [] [] [(0,.v (I y14))] _ E ⟨⟨E,V⟩,E⟩ (aC E (aV (cW aA 2 [(W (x10+1))] [] [(8,.v (I (W (x10+1))))] _ ⟨⟨V,E⟩,⟨E,V⟩,E⟩ E E (bZ (n20,y14,(W (x10+1))) h (Nat.lt_succ_self _) (Es E) V [0] E [0] E))))
   refine JS.exit E (aN x9 h ⟨E,V⟩ V [0] E [0] E)
  rintro x22 h
  subst hj27
  refine aD aA 2 [(6,.v (I x22))] ⟨⟨E,V⟩,E⟩ E E ?_
  cases h
  exact eI aA () V E E [0] E

def lL (x0:Int) (x1:List Int):Option (Int×List Int):=
  (aH (kB x1 x0) fun (y8:Int)=>
  some (y8,x1))

theorem wS (x0:Int) (x1:List Int) (a3:Option Addr) (a4:Option Addr) (c5:Nat) (r:Int×List Int) (h:lL x0 x1=some r):
  FX Tryz.prog 92 [.int .i64 x0,.pointer a3] [⟨(.int .i64),⟨a4,x1.length,c5⟩,x1⟩] [⟨.val,⟨a3,1,1⟩,[(Sl.v ⟨a4,x1.length,c5⟩)]⟩] (fun _:Unit=>True) (fun _=>.int .i64 r.1) (fun _=>[⟨.val,⟨a3,1,1⟩,[(Sl.v ⟨a4,x1.length,c5⟩)]⟩]):=
 by
  refine FX.of (T:=TTx) Tryz.call92 Tryz.func92 E E fun w0 L0=>?_
  unfold lL at h
  refine mZ 1 a3 E ?_
  refine aD aA 1 [] ⟨V,E⟩ E E (JS.seq (JS.region (dX aA E E E E E E 1 E E 0 0 (Sl.v ⟨a4,x1.length,c5⟩) ⟨E,E⟩ E E E (aB aA 1 [] [] [(5,.v (I x0))] _ E ⟨⟨E,V⟩,E⟩ ?_))))
  refine bnw h fun y8 hy9 h=>JO.call E E E E (rD x1 x0 a4 c5 _ hy9) E [0] E E fun _ _=>aB aA 1 [] [] [(3,.v (I y8))] _ E ⟨⟨E,V⟩,E⟩ (aC E ?_)
  cases h
  exact eI aA () V E E [0] E

def cQ (x1:Int) (x2:(List Int)) (j23:Int→Option (Int×List Int)) (k19:(Int×Int)→Option (Int×List Int)):(Int×Int)→Option (Int×List Int):=fun (x9,x10)=>
  (bif (decide (x10<x1)) then
  (aH (lL x9 x2) fun (y14,y15)=>
  k19 (y14,(W (x10+1))))
  else
  j23 x9)

def cO (x0:Int) (x1:Int) (x2:(List Int)):Option (Int×List Int):=
  (aY (fun (x22:Int)=>
  some (x22,x2)) fun j23=>
  (bI (cQ x1 x2 j23) bO (x0,0)))

theorem jC (x0:Int) (x1:Int) (x2:(List Int)) (a4:Option Addr) (a5:Option Addr) (c6:Nat) (r:Int×List Int) (h:cO x0 x1 x2=some r):
  FX Tryz.prog 68 [.int .i64 x0,.int .i64 x1,.func (.func 92) #[] #[.pointer a4]] [⟨(.int .i64),⟨a5,x2.length,c6⟩,x2⟩] [⟨.val,⟨a4,1,1⟩,[(Sl.v ⟨a5,x2.length,c6⟩)]⟩] (fun _:Unit=>True) (fun _=>.int .i64 r.1) (fun _=>[⟨.val,⟨a4,1,1⟩,[(Sl.v ⟨a5,x2.length,c6⟩)]⟩]):=
 by
  refine FX.of (T:=TTx) Tryz.call68 Tryz.func68 E E fun w0 L0=>?_
  unfold cO at h
  refine aD aA 1 [] ⟨V,E⟩ E E (JS.seq (aD aA 2 [(7,.v (I x1)),(8,.v (I 0))] ⟨(Es E),E⟩ E E ?_))
  obtain ⟨j23,hj27,h⟩:=aO h
  refine bF (ι:=Int) ⟨fun z=>j23 z=some r,fun z=>[(0,.v (I z))],fun z=>.nil,fun z=>[⟨(.int .i64),⟨a5,x2.length,c6⟩,x2⟩],fun z=>[⟨.val,⟨a4,1,1⟩,[(Sl.v ⟨a5,x2.length,c6⟩)]⟩],fun z=>0⟩ ?_ ?_
  ·
   refine JS.loop (ι:=Nat×Int×Int) ⟨fun z=>bI (cQ x1 x2 j23) z.1 z.2=some r,fun z=>[(0,.v (I z.2.1)),(2,.v (.func (.func 92) #[] #[.pointer a4])),(7,.v (I x1)),(8,.v (I z.2.2))],fun z=>.nil,fun z=>[⟨(.int .i64),⟨a5,x2.length,c6⟩,x2⟩],fun z=>[⟨.val,⟨a4,1,1⟩,[(Sl.v ⟨a5,x2.length,c6⟩)]⟩],fun z=>z.1⟩ (bO,x0,0) h (Es E) V [0] E [0] E ?_
   rintro ⟨n20,x9,x10⟩ h
   obtain ⟨n20,rfl,h⟩:=bM h
   rw [cQ] at h
   refine aD aA 1 [(9,.v (.bool (decide (x10<x1))))] ⟨⟨E,V⟩,E⟩ E E (JS.seq ?_)
   refine aL E h (fun h=>?_) (fun h=>?_)
   ·
    refine JS.skip (JS.seq (JS.block (JS.region (aB aA 2 [] [] [(10,.v (.func (.func 92) #[] #[.pointer a4])),(11,.v (I x9))] _ E ⟨(Es E),E⟩ ?_))))
    obtain ⟨⟨y14,y15⟩,hy16,h⟩:=aE h
    refine vX (vs0:=[.int .i64 x9]) (caps:=[.pointer a4]) E E E E E (wS x9 x2 a4 a5 c6 _ hy16) E [0] E [0] E E fun _ _=>aB aA 1 [] [] [(0,.v (I y14))] _ E ⟨⟨E,V⟩,E⟩ (aC E (aV (cW aA 2 [(W (x10+1))] [] [(8,.v (I (W (x10+1))))] _ ⟨⟨V,E⟩,⟨E,V⟩,E⟩ E E (bZ (n20,y14,(W (x10+1))) h (Nat.lt_succ_self _) (Es E) V [0] E [0] E))))
   refine JS.exit E (aN x9 h ⟨E,V⟩ V [0] E [0] E)
  rintro x22 h
  subst hj27
  refine aD aA 2 [(6,.v (I x22))] ⟨⟨E,V⟩,E⟩ E E ?_
  cases h
  exact eI aA () V E E [0] E

def gM (x0:EdQ) (x1:Int):Option (EdQ×Int):=
  (aH (iA x1) fun (y29:Bool)=>
  (bif y29 then
  (aH (eK x0) fun (y31:EdQ)=>
  some ((y31.1,y31.2.1,y31.2.2.1,(min (W ((W ((W (10*x0.2.2.2.1))+x1)) - 48)) 999),y31.2.2.2.2.1,y31.2.2.2.2.2.1,y31.2.2.2.2.2.2.1,y31.2.2.2.2.2.2.2.1,y31.2.2.2.2.2.2.2.2.1,y31.2.2.2.2.2.2.2.2.2.1,y31.2.2.2.2.2.2.2.2.2.2.1,y31.2.2.2.2.2.2.2.2.2.2.2.1,y31.2.2.2.2.2.2.2.2.2.2.2.2.1,y31.2.2.2.2.2.2.2.2.2.2.2.2.2.1,y31.2.2.2.2.2.2.2.2.2.2.2.2.2.2.1,y31.2.2.2.2.2.2.2.2.2.2.2.2.2.2.2.1,y31.2.2.2.2.2.2.2.2.2.2.2.2.2.2.2.2),0))
  else
  (bif (decide (x1=98)) then
  (aH (dD x0.2.2.1.2 (max x0.2.2.2.1 1) x0.2.2.1.1) fun (y45,y46)=>
  (aH (eS x0.2.2.1 y45) fun (y48:List Int×Int)=>
  (aH (eT x0 y48) fun (y52,y53)=>
  some (y52,y53))))
  else
  (bif (decide (x1=102)) then
  (aH (cO x0.2.2.1.2 (max x0.2.2.2.1 1) x0.2.2.1.1) fun (y68,y69)=>
  (aH (eS x0.2.2.1 y68) fun (y71:List Int×Int)=>
  (aH (eT x0 y71) fun (y75,y76)=>
  some (y75,y76))))
  else
  (bif (decide (x1=100)) then
  (aH (cO x0.2.2.1.2 (max x0.2.2.2.1 1) x0.2.2.1.1) fun (y91,y92)=>
  (aH (jL x0 x0.2.2.1.2 y91 1) fun (y94,y95)=>
  some (y94,y95)))
  else
  (bif (decide (x1=121)) then
  (aH (lJ x0) fun (y110,y111)=>
  some (y110,y111))
  else
  (bif (sO [(117,1),(108,0),(99,2)] x1) then
  (aY (fun ((x146,x149):List Int×Int)=>
  (aH (eT x0 (x146,x149)) fun (y151,y152)=>
  some (y151,y152))) fun j150=>
  (aH (kB x0.2.2.1.1 x0.2.2.1.2) fun (y138:Int)=>
  (aH (iY x0.2.2.1 x0.2.2.1.2 y138 (sP [(117,1),(108,0),(99,2)] x1)) fun (y140,y141)=>
  j150 (y140.1,y140.2))))
  else
  (aH (dW x0) fun (y167,y168)=>
  some (y167,y168)))))))))

theorem xY (x0:EdQ) (x1:Int) (q3:P6) (r:EdQ×Int) (h:gM x0 x1=some r):
  FC Tryz.prog 67 [.agg (aK x0 q3).toArray,.int .i64 x1] (cY x0 q3 []) (fun _:P6=>True) (fun q=>.tuple #[.agg (aK r.1 q).toArray,.int .i64 r.2]) (fun q=>(cY r.1 q [])):=
 by
  refine FC.of (T:=TTx) Tryz.call67 Tryz.func67 E E fun w0=>?_
  unfold gM at h
  refine aR aA 3 [] [7,8] [(2,.bp 7 0),(4,.bp 8 0)] (.new 7 33 (aK x0 q3) (.new 8 33 bP .nil)) ⟨(Es E),(Bs E E)⟩ E E (JS.seq ?_)
  refine bE E (.new 7 33 (aK x0 q3) .nil) [] [12] ⟨E,E,E,E,V⟩ E (fun be27=>?_)
  refine bV aA aG true 4 [0,1,2,3,4,5,6,7,8] E (by kernel_rfl) [] [(19,.v (.slice q3.1 x0.2.2.1.1.length q3.2.1)),(22,.v (I x0.2.2.1.2)),(25,.v (I (max x0.2.2.2.1 1)))] ⟨E,E,E,E,V⟩ [] E E (Es E) (JA.one 9 (by kernel_rfl) (JK.alloc aA E E E E E 9 E (eF _ E) (aJ ⟨E,E,E,E,V⟩ [] E (JA.one 10 (by kernel_rfl) (bA aA E E E E E E E E (aJ ⟨E,E,E,E,V⟩ [] E (bV aA aG true 1 [11] E (by kernel_rfl) [] [(7,.v (I x0.2.2.1.2))] ⟨E,E,E,E,V⟩ [] E E ⟨E,V⟩ (aT aA aG 0 [12] E (by kernel_rfl) [] [(8,.v (I (max x0.2.2.2.1 1)))] E ⟨E,V⟩ (bG (by kernel_rfl) (aX (B':=(.new 7 33 (aK x0 q3) (.new 8 33 bP (.new 9 23 [.slice q3.1 x0.2.2.1.1.length q3.2.1] .nil)))) (Bs E E) (JS.seq (JS.region (aD6 9 E (B':=(.new 7 33 (aK x0 q3) (.new 8 33 bP .nil))) (Bs E E) E .val (Sl.v ⟨q3.1,x0.2.2.1.1.length,q3.2.1⟩) ⟨E,E,E⟩ (fun a28=>[(0,.v (.agg (aK x0 q3).toArray)),(1,.v (I x1)),(2,.bp 7 0),(4,.bp 8 0),(6,.ep ⟨a28,1,1⟩ 0),(7,.v (I x0.2.2.1.2)),(8,.v (I (max x0.2.2.2.1 1))),(19,.v (.slice q3.1 x0.2.2.1.1.length q3.2.1)),(22,.v (I x0.2.2.1.2)),(25,.v (I (max x0.2.2.2.1 1)))]) (fun _=>(Es E)) fun a28=>vW E E E E E E (aB aA 1 [] [] [(9,.v (.func (.func 91) #[] #[.pointer a28]))] _ E ⟨⟨E,V⟩,E⟩ (aC E (JS.seq (JS.region (vW E E E E E E (aB aA 1 [] [] [(10,.v (.func (.func 92) #[] #[.pointer a28]))] _ E ⟨⟨E,V⟩,E⟩ (aC E (JS.seq (JS.block ?_))))))))))))))))))))))
  refine JS.seq (JS.region (aB aA 1 [] [] [(29,.v (I x1))] _ E ⟨⟨E,V⟩,E⟩ ?_))
  refine bnw h fun y29 hy30 h=>JO.call E E E E (uJ x1 _ hy30) E [] E E fun _ _=>aB aA 1 [] [] [(28,.v (.bool y29))] _ E ⟨⟨E,V⟩,E⟩ (aC E ?_)
  refine aL E h (fun h=>?_) (fun h=>?_)
  ·
   refine JS.seq (JS.region (aB aA 1 [] [] [(31,.v (.agg (aK x0 q3).toArray))] _ E ⟨⟨E,V⟩,E⟩ ?_))
   refine bnw h fun y31 hy32 h=>JO.call E E E E (kJ x0 q3 _ hy32) E [0,1,2,3,4,5] E E fun q33 _=>aS aA 2 [] [35] [(11,.bp 35 0)] (.new 7 33 (aK x0 q3) (.new 8 33 bP (.new 35 33 (aK y31 q33) .nil))) E ⟨⟨E,V⟩,(Bs E E)⟩ (aC E (aR aA 9 [(W (10*x0.2.2.2.1)),(W ((W (10*x0.2.2.2.1))+x1)),(W ((W ((W (10*x0.2.2.2.1))+x1)) - 48))] [] [] (.new 8 33 bP (.new 35 33 (aK (U3 y31 (min (W ((W ((W (10*x0.2.2.2.1))+x1)) - 48)) 999)) q33) .nil)) ⟨⟨V,E⟩,⟨V,E⟩,⟨V,E⟩,V,(Bs E E)⟩ E E (aR aA 3 [] [] [(5,.v (I 0))] (.new 8 33 (aK (U3 y31 (min (W ((W ((W (10*x0.2.2.2.1))+x1)) - 48)) 999)) q33) .nil) ⟨⟨E,V⟩,(Bs E E)⟩ E E ?_)))
   cases h
   exact JS.ret aA q33 V E E [0,0,0,0,0,0] E
  refine aD aA 3 [(42,.v (.bool (decide (x1=98))))] ⟨⟨E,V⟩,E⟩ E E ?_
  refine aL E h (fun h=>?_) (fun h=>?_)
  ·
   refine JS.seq ?_
   obtain ⟨⟨y45,y46⟩,hy47,h⟩:=aE h
   obtain ⟨y48,hy49,h⟩:=aE h
   obtain ⟨⟨y52,y53⟩,hy54,h⟩:=aE h
   refine bE E (.new 7 33 (aK x0 q3) .nil) [] [8,9,10,11,12] ⟨E,E,E,E,V⟩ E (fun be67=>?_)
   refine bV aA aG true 7 [0,1,2,3,4,5] E (by kernel_rfl) [] [(45,.v (.agg (aK x0 q3).toArray)),(47,.v (.agg #[.slice q3.1 x0.2.2.1.1.length q3.2.1,.int .i64 x0.2.2.1.2])),(48,.v (I x0.2.2.1.2)),(49,.v (I (max x0.2.2.2.1 1))),(50,.v (.func (.func 91) #[] #[.pointer a28]))] ⟨E,E,E,E,V⟩ [] E E (Es E) (JA.one 6 (by kernel_rfl) (pN E E E E (oQ x0.2.2.1.2 (max x0.2.2.2.1 1) x0.2.2.1.1 a28 q3.1 q3.2.1 _ hy47) E [0] E [0] E E fun _ _=>aJ ⟨E,E,E,E,V⟩ [] E (JA.one 7 (by kernel_rfl) (JK.call E E E E (kI x0.2.2.1 y45 q3.1 q3.2.1 _ hy49) E [0] E E ?_))))
   rintro ⟨a50,c51⟩ -
   refine aJ ⟨E,E,E,E,V⟩ [] E (JA.one 8 (by kernel_rfl) (JK.call E E E E (lC x0 y48 q3 a50 c51 _ hy54) E [0,1,2,3,4,5,6] E E ?_))
   rintro q55 -
   refine aP E (aT aA aG 2 [9,10] E (by kernel_rfl) [] [(54,.v (.agg (aK y52 q55).toArray)),(55,.v (I y53))] E (Es E) (JA.one 11 (by kernel_rfl) (bA aA E E E E E E E E (aP E (aT aA aG 0 [12] E (by kernel_rfl) [] [(5,.v (I y53))] E ⟨E,V⟩ (bG (by kernel_rfl) (aX (B':=(.new 8 33 (aK y52 q55) .nil)) (Bs E E) ?_)))))))
   cases h
   exact JS.ret aA q55 V E E [0,0,0,0,0,0] E
  refine aD aA 3 [(56,.v (.bool (decide (x1=102))))] ⟨⟨E,V⟩,E⟩ E E ?_
  refine aL E h (fun h=>?_) (fun h=>?_)
  ·
   refine JS.seq ?_
   obtain ⟨⟨y68,y69⟩,hy70,h⟩:=aE h
   obtain ⟨y71,hy72,h⟩:=aE h
   obtain ⟨⟨y75,y76⟩,hy77,h⟩:=aE h
   refine bE E (.new 7 33 (aK x0 q3) .nil) [] [8,9,10,11,12] ⟨E,E,E,E,V⟩ E (fun be90=>?_)
   refine bV aA aG true 7 [0,1,2,3,4,5] E (by kernel_rfl) [] [(59,.v (.agg (aK x0 q3).toArray)),(61,.v (.agg #[.slice q3.1 x0.2.2.1.1.length q3.2.1,.int .i64 x0.2.2.1.2])),(62,.v (I x0.2.2.1.2)),(63,.v (I (max x0.2.2.2.1 1))),(64,.v (.func (.func 92) #[] #[.pointer a28]))] ⟨E,E,E,E,V⟩ [] E E (Es E) (JA.one 6 (by kernel_rfl) (pN E E E E (jC x0.2.2.1.2 (max x0.2.2.2.1 1) x0.2.2.1.1 a28 q3.1 q3.2.1 _ hy70) E [0] E [0] E E fun _ _=>aJ ⟨E,E,E,E,V⟩ [] E (JA.one 7 (by kernel_rfl) (JK.call E E E E (kI x0.2.2.1 y68 q3.1 q3.2.1 _ hy72) E [0] E E ?_))))
   rintro ⟨a73,c74⟩ -
   refine aJ ⟨E,E,E,E,V⟩ [] E (JA.one 8 (by kernel_rfl) (JK.call E E E E (lC x0 y71 q3 a73 c74 _ hy77) E [0,1,2,3,4,5,6] E E ?_))
   rintro q78 -
   refine aP E (aT aA aG 2 [9,10] E (by kernel_rfl) [] [(68,.v (.agg (aK y75 q78).toArray)),(69,.v (I y76))] E (Es E) (JA.one 11 (by kernel_rfl) (bA aA E E E E E E E E (aP E (aT aA aG 0 [12] E (by kernel_rfl) [] [(5,.v (I y76))] E ⟨E,V⟩ (bG (by kernel_rfl) (aX (B':=(.new 8 33 (aK y75 q78) .nil)) (Bs E E) ?_)))))))
   cases h
   exact JS.ret aA q78 V E E [0,0,0,0,0,0] E
  refine aD aA 3 [(70,.v (.bool (decide (x1=100))))] ⟨⟨E,V⟩,E⟩ E E ?_
  refine aL E h (fun h=>?_) (fun h=>?_)
  ·
   refine JS.seq ?_
   obtain ⟨⟨y91,y92⟩,hy93,h⟩:=aE h
   obtain ⟨⟨y94,y95⟩,hy96,h⟩:=aE h
   refine bE E (.new 7 33 (aK x0 q3) .nil) [] [6,7,8,9,10] ⟨E,E,E,E,V⟩ E (fun be109=>?_)
   refine bV aA aG true 6 [0,1,2,3,4] E (by kernel_rfl) [] [(73,.v (.agg (aK x0 q3).toArray)),(74,.v (I x0.2.2.1.2)),(75,.v (I x0.2.2.1.2)),(76,.v (I (max x0.2.2.2.1 1))),(77,.v (.func (.func 92) #[] #[.pointer a28]))] ⟨E,E,E,E,V⟩ [] E E (Es E) (JA.one 5 (by kernel_rfl) (pN E E E E (jC x0.2.2.1.2 (max x0.2.2.2.1 1) x0.2.2.1.1 a28 q3.1 q3.2.1 _ hy93) E [0] E [0] E E fun _ _=>aJ ⟨E,E,E,E,V⟩ [] E (JA.one 6 (by kernel_rfl) (JK.call E E E E (pB x0 x0.2.2.1.2 y91 1 q3 _ hy96) E [0,1,2,3,4,5] E E ?_))))
   rintro q97 -
   refine aP E (aT aA aG 2 [7,8] E (by kernel_rfl) [] [(80,.v (.agg (aK y94 q97).toArray)),(81,.v (I y95))] E (Es E) (JA.one 9 (by kernel_rfl) (bA aA E E E E E E E E (aP E (aT aA aG 0 [10] E (by kernel_rfl) [] [(5,.v (I y95))] E ⟨E,V⟩ (bG (by kernel_rfl) (aX (B':=(.new 8 33 (aK y94 q97) .nil)) (Bs E E) ?_)))))))
   cases h
   exact JS.ret aA q97 V E E [0,0,0,0,0,0] E
  refine aD aA 3 [(82,.v (.bool (decide (x1=121))))] ⟨⟨E,V⟩,E⟩ E E ?_
  refine aL E h (fun h=>?_) (fun h=>?_)
  ·
   refine JS.seq (JS.region (aB aA 1 [] [] [(85,.v (.agg (aK x0 q3).toArray))] _ E ⟨⟨E,V⟩,E⟩ ?_))
   obtain ⟨⟨y110,y111⟩,hy112,h⟩:=aE h
   refine JO.call E E E E (zK x0 q3 _ hy112) E [0,1,2,3,4,5] E E fun q113 _=>aS aA 4 [] [] [(5,.v (I y111))] (.new 8 33 (aK y110 q113) .nil) E ⟨⟨E,V⟩,(Bs E E)⟩ (aC E ?_)
   cases h
   exact JS.ret aA q113 V E E [0,0,0,0,0,0] E
  refine JS.skip (aV (JS.seq (JS.region (JO.makeMap E E E E E fun r125 w126 X127 m128=>JO.insert m128 E E E E Tryz.underlying123 Tryz.underlying3 E E E E fun w129 X130 m131=>JO.insert m131 E E E E Tryz.underlying123 Tryz.underlying3 E E E E fun w132 X133 m134=>JO.insert m134 E E E E Tryz.underlying123 Tryz.underlying3 E E E E fun w135 X136 m137=>aB aA 2 [] [] [(12,.v (.map (some r125)))] _ E ⟨⟨E,V⟩,E⟩ (aC E (JS.seq (JS.seq (JS.region (aB aA 2 [] [] [(92,.v (.map (some r125))),(93,.v (I x1))] _ E ⟨(Es E),E⟩ (aGj m137 E E E E Tryz.underlying123 Tryz.underlying3 (fun _=>by kernel_rfl) E E E (aB aA 5 [] [] [(13,.v (I (sP [(117,1),(108,0),(99,2)] x1))),(14,.v (.bool (sO [(117,1),(108,0),(99,2)] x1)))] _ E ⟨(Es E),E⟩ (aC E (aD aA 1 [(97,.v (.bool (sO [(117,1),(108,0),(99,2)] x1)))] ⟨⟨E,V⟩,E⟩ E E ?_)))))))))))))
  refine aL E h (fun h=>?_) (fun h=>?_)
  ·
   refine JS.seq ?_
   obtain ⟨j150,hj188,h⟩:=aO h
   refine sL (ι:=List Int×Int×Option Addr×Nat) ⟨fun z=>j150 (z.1,z.2.1)=some r,fun z=>[(2,.bp 7 0),(4,.bp 8 0),(15,.bp 163 0)],fun z=>(.new 7 33 (aK x0 q3) (.new 8 33 bP (.new 163 25 [.slice z.2.2.1 z.1.length z.2.2.2,.int .i64 z.2.1] .nil))),fun z=>(cY x0 q3 []),fun z=>[⟨(.int .i64),⟨z.2.2.1,z.1.length,z.2.2.2⟩,z.1⟩,⟨.val,⟨a28,1,1⟩,[(Sl.v ⟨q3.1,x0.2.2.1.1.length,q3.2.1⟩)]⟩],fun z=>0⟩ ?_ ?_
   ·
    obtain ⟨y138,hy139,h⟩:=aE h
    obtain ⟨⟨y140,y141⟩,hy142,h⟩:=aE h
    refine bE E (.new 7 33 (aK x0 q3) .nil) [6] [7,8,9,10,12,13] ⟨E,E,E,E,V⟩ E (fun be145=>?_)
    refine bV aA aG true 9 [0,1,2,4,6] E (by kernel_rfl) [] [(100,.v (.agg #[.slice q3.1 x0.2.2.1.1.length q3.2.1,.int .i64 x0.2.2.1.2])),(101,.v (I x0.2.2.1.2)),(103,.v (I x0.2.2.1.2)),(105,.v (I (sP [(117,1),(108,0),(99,2)] x1)))] ⟨E,E,E,E,V⟩ [6] E E (Es E) (rZ aA aG 3 E (by kernel_rfl) E E E E E 0 E E 0 0 (Sl.v ⟨q3.1,x0.2.2.1.1.length,q3.2.1⟩) ⟨E,E⟩ E E E ⟨E,E,E,E,V⟩ [6] E ?_)
    refine JA.all (rs:=[5,11]) (by kernel_rfl) E (List.forall_mem_cons.2 ⟨?_,List.forall_mem_cons.2 ⟨?_,(fun _ hx=>absurd hx List.not_mem_nil)⟩⟩)
    ·
     refine JK.call E E E E (rD x0.2.2.1.1 x0.2.2.1.2 q3.1 q3.2.1 _ hy139) E [0] E E fun _ _=>aJ ⟨E,E,E,E,V⟩ [6] E ?_
     refine JA.all (rs:=[7,11]) (by kernel_rfl) E (List.forall_mem_cons.2 ⟨?_,List.forall_mem_cons.2 ⟨?_,(fun _ hx=>absurd hx List.not_mem_nil)⟩⟩)
     ·
      refine JK.call E E E E (oT x0.2.2.1 x0.2.2.1.2 y138 (sP [(117,1),(108,0),(99,2)] x1) q3.1 q3.2.1 _ hy142) E [0] E E ?_
      rintro ⟨a143,c144⟩ -
      refine aP E (aT aA aG 3 [8,9,10] E (by kernel_rfl) [] [(107,.v (.agg #[.slice a143 y140.1.length c144,.int .i64 y140.2])),(108,.v (.bool y141))] E (Es E) (JA.one 11 (by kernel_rfl) (JK.alloc aA E E E E E 163 E (eF _ E) (aJ ⟨E,E,E,E,V⟩ [7] E (JA.one 12 (by kernel_rfl) (bA aA E E E E E E E E (aP E (aT aA aG 0 [13] E (by kernel_rfl) [] [] E V (bG (by kernel_rfl) (aX (B':=(.new 7 33 (aK x0 q3) (.new 8 33 bP (.new 163 25 [.slice a143 y140.1.length c144,.int .i64 y140.2] .nil)))) (Bs E E) (aN (y140.1,y140.2,a143,c144) h (Es E) (Bs E E) [0,1,2,3,4,5] E [0,0] E)))))))))))
     refine JK.alloc aA E E E E E 163 E (eF _ E) (aJ ⟨E,E,E,E,V⟩ [6] E (JA.one 7 (by kernel_rfl) (JK.call E E E E (oT x0.2.2.1 x0.2.2.1.2 y138 (sP [(117,1),(108,0),(99,2)] x1) q3.1 q3.2.1 _ hy142) E [0] E E ?_)))
     rintro ⟨a143,c144⟩ -
     refine aP E (aT aA aG 2 [8,9,10] E (by kernel_rfl) [] [(107,.v (.agg #[.slice a143 y140.1.length c144,.int .i64 y140.2])),(108,.v (.bool y141))] E (Es E) (JA.one 12 (by kernel_rfl) (bA aA E E E E E E E E (aP E (aT aA aG 0 [13] E (by kernel_rfl) [] [] E V (bG (by kernel_rfl) (aX (B':=(.new 7 33 (aK x0 q3) (.new 8 33 bP (.new 163 25 [.slice a143 y140.1.length c144,.int .i64 y140.2] .nil)))) (Bs E E) (aN (y140.1,y140.2,a143,c144) h (Es E) (Bs E E) [0,1,2,3,4,5] E [0,0] E))))))))
    refine JK.alloc aA E E E E E 163 E (eF _ E) (aJ ⟨E,E,E,E,V⟩ [6] E (JA.one 5 (by kernel_rfl) (JK.call E E E E (rD x0.2.2.1.1 x0.2.2.1.2 q3.1 q3.2.1 _ hy139) E [0] E E fun _ _=>aJ ⟨E,E,E,E,V⟩ [6] E (JA.one 7 (by kernel_rfl) (JK.call E E E E (oT x0.2.2.1 x0.2.2.1.2 y138 (sP [(117,1),(108,0),(99,2)] x1) q3.1 q3.2.1 _ hy142) E [0] E E ?_)))))
    rintro ⟨a143,c144⟩ -
    refine aP E (aT aA aG 2 [8,9,10] E (by kernel_rfl) [] [(107,.v (.agg #[.slice a143 y140.1.length c144,.int .i64 y140.2])),(108,.v (.bool y141))] E (Es E) (JA.one 12 (by kernel_rfl) (bA aA E E E E E E E E (aP E (aT aA aG 0 [13] E (by kernel_rfl) [] [] E V (bG (by kernel_rfl) (aX (B':=(.new 7 33 (aK x0 q3) (.new 8 33 bP (.new 163 25 [.slice a143 y140.1.length c144,.int .i64 y140.2] .nil)))) (Bs E E) (aN (y140.1,y140.2,a143,c144) h (Es E) (Bs E E) [0,1,2,3,4,5] E [0,0] E))))))))
   rintro ⟨x146,x149,a147,c148⟩ h
   subst hj188
   refine JS.seq (JS.region (aB aA 2 [] [] [(109,.v (.agg (aK x0 q3).toArray)),(110,.v (.agg #[.slice a147 x146.length c148,.int .i64 x149]))] _ E ⟨(Es E),E⟩ ?_))
   obtain ⟨⟨y151,y152⟩,hy153,h⟩:=aE h
   refine JO.call E E E E (lC x0 (x146,x149) q3 a147 c148 _ hy153) E [0,1,2,3,4,5,6] E E fun q154 _=>aS aA 4 [] [] [(5,.v (I y152))] (.new 8 33 (aK y151 q154) .nil) E ⟨⟨E,V⟩,(Bs E E)⟩ (aC E ?_)
   cases h
   exact JS.ret aA q154 V E E [0,0,0,0,0,0] E
  refine JS.skip (JS.seq (JS.region (aB aA 1 [] [] [(114,.v (.agg (aK x0 q3).toArray))] _ E ⟨⟨E,V⟩,E⟩ ?_)))
  obtain ⟨⟨y167,y168⟩,hy169,h⟩:=aE h
  refine JO.call E E E E (eV x0 q3 _ hy169) E [0,1,2,3,4,5] E E fun q170 _=>aS aA 4 [] [] [(5,.v (I y168))] (.new 8 33 (aK y167 q170) .nil) E ⟨⟨E,V⟩,(Bs E E)⟩ (aC E ?_)
  cases h
  exact JS.ret aA q170 V E E [0,0,0,0,0,0] E

def mI (x0:Int) (x1:List Int):Option (Int×List Int):=
  (aH (iW x1 x0) fun (y8:Int)=>
  some (y8,x1))

theorem yB (x0:Int) (x1:List Int) (a3:Option Addr) (a4:Option Addr) (c5:Nat) (r:Int×List Int) (h:mI x0 x1=some r):
  FX Tryz.prog 69 [.int .i64 x0,.pointer a3] [⟨(.int .i64),⟨a4,x1.length,c5⟩,x1⟩] [⟨.val,⟨a3,1,1⟩,[(Sl.v ⟨a4,x1.length,c5⟩)]⟩] (fun _:Unit=>True) (fun _=>.int .i64 r.1) (fun _=>[⟨.val,⟨a3,1,1⟩,[(Sl.v ⟨a4,x1.length,c5⟩)]⟩]):=
 by
  refine FX.of (T:=TTx) Tryz.call69 Tryz.func69 E E fun w0 L0=>?_
  unfold mI at h
  refine mZ 1 a3 E ?_
  refine aD aA 1 [] ⟨V,E⟩ E E (JS.seq (JS.region (dX aA E E E E E E 1 E E 0 0 (Sl.v ⟨a4,x1.length,c5⟩) ⟨E,E⟩ E E E (aB aA 1 [] [] [(5,.v (I x0))] _ E ⟨⟨E,V⟩,E⟩ ?_))))
  refine bnw h fun y8 hy9 h=>JO.call E E E E (sU x1 x0 a4 c5 _ hy9) E [0] E E fun _ _=>aB aA 1 [] [] [(3,.v (I y8))] _ E ⟨⟨E,V⟩,E⟩ (aC E ?_)
  cases h
  exact eI aA () V E E [0] E

def cV (x1:Int) (x2:(List Int)) (j23:Int→Option (Int×List Int)) (k19:(Int×Int)→Option (Int×List Int)):(Int×Int)→Option (Int×List Int):=fun (x9,x10)=>
  (bif (decide (x10<x1)) then
  (aH (mI x9 x2) fun (y14,y15)=>
  k19 (y14,(W (x10+1))))
  else
  j23 x9)

def cU (x0:Int) (x1:Int) (x2:(List Int)):Option (Int×List Int):=
  (aY (fun (x22:Int)=>
  some (x22,x2)) fun j23=>
  (bI (cV x1 x2 j23) bO (x0,0)))

theorem pA (x0:Int) (x1:Int) (x2:(List Int)) (a4:Option Addr) (a5:Option Addr) (c6:Nat) (r:Int×List Int) (h:cU x0 x1 x2=some r):
  FX Tryz.prog 68 [.int .i64 x0,.int .i64 x1,.func (.func 69) #[] #[.pointer a4]] [⟨(.int .i64),⟨a5,x2.length,c6⟩,x2⟩] [⟨.val,⟨a4,1,1⟩,[(Sl.v ⟨a5,x2.length,c6⟩)]⟩] (fun _:Unit=>True) (fun _=>.int .i64 r.1) (fun _=>[⟨.val,⟨a4,1,1⟩,[(Sl.v ⟨a5,x2.length,c6⟩)]⟩]):=
 by
  refine FX.of (T:=TTx) Tryz.call68 Tryz.func68 E E fun w0 L0=>?_
  unfold cU at h
  refine aD aA 1 [] ⟨V,E⟩ E E (JS.seq (aD aA 2 [(7,.v (I x1)),(8,.v (I 0))] ⟨(Es E),E⟩ E E ?_))
  obtain ⟨j23,hj27,h⟩:=aO h
  refine bF (ι:=Int) ⟨fun z=>j23 z=some r,fun z=>[(0,.v (I z))],fun z=>.nil,fun z=>[⟨(.int .i64),⟨a5,x2.length,c6⟩,x2⟩],fun z=>[⟨.val,⟨a4,1,1⟩,[(Sl.v ⟨a5,x2.length,c6⟩)]⟩],fun z=>0⟩ ?_ ?_
  ·
   refine JS.loop (ι:=Nat×Int×Int) ⟨fun z=>bI (cV x1 x2 j23) z.1 z.2=some r,fun z=>[(0,.v (I z.2.1)),(2,.v (.func (.func 69) #[] #[.pointer a4])),(7,.v (I x1)),(8,.v (I z.2.2))],fun z=>.nil,fun z=>[⟨(.int .i64),⟨a5,x2.length,c6⟩,x2⟩],fun z=>[⟨.val,⟨a4,1,1⟩,[(Sl.v ⟨a5,x2.length,c6⟩)]⟩],fun z=>z.1⟩ (bO,x0,0) h (Es E) V [0] E [0] E ?_
   rintro ⟨n20,x9,x10⟩ h
   obtain ⟨n20,rfl,h⟩:=bM h
   rw [cV] at h
   refine aD aA 1 [(9,.v (.bool (decide (x10<x1))))] ⟨⟨E,V⟩,E⟩ E E (JS.seq ?_)
   refine aL E h (fun h=>?_) (fun h=>?_)
   ·
    refine JS.skip (JS.seq (JS.block (JS.region (aB aA 2 [] [] [(10,.v (.func (.func 69) #[] #[.pointer a4])),(11,.v (I x9))] _ E ⟨(Es E),E⟩ ?_))))
    obtain ⟨⟨y14,y15⟩,hy16,h⟩:=aE h
    refine vX (vs0:=[.int .i64 x9]) (caps:=[.pointer a4]) E E E E E (yB x9 x2 a4 a5 c6 _ hy16) E [0] E [0] E E fun _ _=>aB aA 1 [] [] [(0,.v (I y14))] _ E ⟨⟨E,V⟩,E⟩ (aC E (aV (cW aA 2 [(W (x10+1))] [] [(8,.v (I (W (x10+1))))] _ ⟨⟨V,E⟩,⟨E,V⟩,E⟩ E E (bZ (n20,y14,(W (x10+1))) h (Nat.lt_succ_self _) (Es E) V [0] E [0] E))))
   refine JS.exit E (aN x9 h ⟨E,V⟩ V [0] E [0] E)
  rintro x22 h
  subst hj27
  refine aD aA 2 [(6,.v (I x22))] ⟨⟨E,V⟩,E⟩ E E ?_
  cases h
  exact eI aA () V E E [0] E

def lQ (x0:EdQ) (x1:Int×List (List UInt8)) (x2:Int×Int):Option (EdQ×Int):=
  (aH (oD x0 x1 x2) fun (y32:Bool)=>
  (bif (bif (!y32) then true else (!(decide (x0.2.1=0)))) then
  some ((false,0,([],0),0,0,0,0,0,0,0,[],[],0,([],0),[],0,([],0)),0)
  else
  (aH (kS x0 x1 x2) fun (y34,y35,y36)=>
  (bif y36 then
  some (y34,y35)
  else
  (bif (decide (x2.1=3)) then
  (aH (gM x0 x2.2) fun (y50,y51)=>
  some (y50,y51))
  else
  (bif (decide (x2.1=15)) then
  (aH (cU x0.2.2.1.2 (max x0.2.2.2.1 1) x0.2.2.1.1) fun (y66,y67)=>
  (aH (jL x0 y66 x0.2.2.1.2 2) fun (y69,y70)=>
  some (y69,y70)))
  else
  (bif (decide (x2.1=2)) then
  (aH (gN x0 x1 x2.2) fun (y84,y85)=>
  some (y84,y85))
  else
  (aH (dW x0) fun (y99,y100)=>
  some (y99,y100)))))))))

theorem zQ (x0:EdQ) (x1:Int×List (List UInt8)) (x2:Int×Int) (q4:P6) (a28:Option Addr) (c29:Nat) (r:EdQ×Int) (h:lQ x0 x1 x2=some r):
  FC Tryz.prog 55 [.agg (aK x0 q4).toArray,.agg #[.int .i64 x1.1,.slice a28 x1.2.length c29],.agg #[.int .i64 x2.1,.int .i64 x2.2]] (cY x0 q4 [⟨.str,⟨a28,x1.2.length,c29⟩,x1.2⟩]) (fun _:P6=>True) (fun q=>.tuple #[.agg (aK r.1 q).toArray,.int .i64 r.2]) (fun q=>(cY r.1 q [])):=
 by
  refine FC.of (T:=TTx) Tryz.call55 Tryz.func55 E E fun w0=>?_
  unfold lQ at h
  refine aR aA 5 [] [8,9,10,11] [(3,.bp 8 0),(4,.bp 9 0),(5,.bp 10 0),(6,.bp 11 0)] (.new 8 33 (aK x0 q4) (.new 9 36 [.int .i64 x1.1,.slice a28 x1.2.length c29] (.new 10 55 [.int .i64 x2.1,.int .i64 x2.2] (.new 11 33 bP .nil)))) ⟨(Es E),(Bs E E)⟩ E E (JS.seq (JS.seq (JS.region (aB aA 3 [] [] [(13,.v (.agg (aK x0 q4).toArray)),(14,.v (.agg #[.int .i64 x1.1,.slice a28 x1.2.length c29])),(15,.v (.agg #[.int .i64 x2.1,.int .i64 x2.2]))] _ E ⟨(Es E),E⟩ ?_))))
  refine bnw h fun y32 hy33 h=>JO.call E E E E (aC5 x0 x1 x2 q4 a28 c29 _ hy33) E [0,1,2,3,4,5,6] E E fun _ _=>aB aA 6 [] [] [(22,.v (.bool (bif (!y32) then true else (!(decide (x0.2.1=0))))))] _ E ⟨⟨E,V⟩,E⟩ (aC E ?_)
  refine aL E h (fun h=>?_) (fun h=>?_)
  ·
   refine aR aA 3 [] [] [(7,.v (I 0))] (.new 11 33 bP .nil) ⟨⟨E,V⟩,(Bs E E)⟩ E E ?_
   cases h
   refine aW (.int .i64) Sl.nil E E (aW (.sl (.int .i64)) Sl.nil E E (aW (.pair (.sl (.int .i64)) (.int .i64)) Sl.nil E E (aW (.int .i64) Sl.nil E E (aW (.int .i64) Sl.nil E E (aW (.int .i64) Sl.nil E E (JS.ret aA (none,0,none,0,none,0,none,0,none,0,none,0) V E E [5,4,3,2,1,0] E))))))
  refine JS.skip (JS.seq (JS.seq (JS.region (aB aA 3 [] [] [(25,.v (.agg (aK x0 q4).toArray)),(26,.v (.agg #[.int .i64 x1.1,.slice a28 x1.2.length c29])),(27,.v (.agg #[.int .i64 x2.1,.int .i64 x2.2]))] _ E ⟨(Es E),E⟩ ?_))))
  obtain ⟨⟨y34,y35,y36⟩,hy37,h⟩:=aE h
  refine JO.call E E E E (xX x0 x1 x2 q4 a28 c29 _ hy37) E [0,1,2,3,4,5,6] E E fun q38 _=>aS aA 8 [] [36] [(8,.bp 36 0),(9,.v (I y35)),(10,.v (.bool y36))] (.new 8 33 (aK x0 q4) (.new 9 36 [.int .i64 x1.1,.slice a28 x1.2.length c29] (.new 10 55 [.int .i64 x2.1,.int .i64 x2.2] (.new 11 33 bP (.new 36 33 (aK y34 q38) .nil))))) E ⟨(Es E),(Bs E E)⟩ (aC E (aD aA 1 [(32,.v (.bool y36))] ⟨⟨E,V⟩,E⟩ E E ?_))
  refine aL E h (fun h=>?_) (fun h=>?_)
  ·
   refine aR aA 4 [] [] [(7,.v (I y35))] (.new 11 33 (aK y34 q38) .nil) ⟨⟨E,V⟩,(Bs E E)⟩ E E ?_
   cases h
   exact JS.ret aA q38 V E E [0,0,0,0,0,0] E
  refine JS.skip (JS.seq (aD aA 2 [(36,.v (I x2.1))] ⟨⟨E,V⟩,E⟩ E E (JS.block (aD aA 2 [(37,.v (.bool (decide (x2.1=3))))] ⟨⟨E,V⟩,E⟩ E E ?_))))
  refine aL E h (fun h=>?_) (fun h=>?_)
  ·
   refine JS.seq (JS.region (aB aA 3 [] [] [(39,.v (.agg (aK x0 q4).toArray)),(41,.v (I x2.2))] _ E ⟨(Es E),E⟩ ?_))
   obtain ⟨⟨y50,y51⟩,hy52,h⟩:=aE h
   refine JO.call E E E E (xY x0 x2.2 q4 _ hy52) E [0,1,2,3,4,5] E E fun q53 _=>aS aA 4 [] [] [(7,.v (I y51))] (.new 11 33 (aK y50 q53) .nil) E ⟨⟨E,V⟩,(Bs E E)⟩ (aC E ?_)
   cases h
   exact JS.ret aA q53 V E E [0,0,0,0,0,0] E
  refine aD aA 2 [(45,.v (.bool (decide (x2.1=15))))] ⟨⟨E,V⟩,E⟩ E E ?_
  refine aL E h (fun h=>?_) (fun h=>?_)
  ·
   refine aR aA 5 [] [58] [(11,.bp 58 0)] (.new 8 33 (aK x0 q4) (.new 11 33 bP (.new 58 23 [.slice q4.1 x0.2.2.1.1.length q4.2.1] .nil))) ⟨⟨E,V⟩,(Bs E E)⟩ E E (JS.seq (JS.region (aB aA 6 [] [] [(52,.v (I x0.2.2.1.2)),(55,.v (I (max x0.2.2.2.1 1)))] _ E ⟨(Es E),E⟩ (aD6 58 E (B':=(.new 8 33 (aK x0 q4) (.new 11 33 bP .nil))) (Bs E E) E .val (Sl.v ⟨q4.1,x0.2.2.1.1.length,q4.2.1⟩) ⟨E,E,E⟩ (fun a65=>[(0,.v (.agg (aK x0 q4).toArray)),(1,.v (.agg #[.int .i64 x1.1,.slice a28 x1.2.length c29])),(2,.v (.agg #[.int .i64 x2.1,.int .i64 x2.2])),(3,.bp 8 0),(6,.bp 11 0),(9,.v (I y35)),(10,.v (.bool y36)),(11,.ep ⟨a65,1,1⟩ 0),(13,.v (.agg (aK x0 q4).toArray)),(14,.v (.agg #[.int .i64 x1.1,.slice a28 x1.2.length c29])),(15,.v (.agg #[.int .i64 x2.1,.int .i64 x2.2])),(16,.v (.bool y32)),(22,.v (.bool (bif (!y32) then true else (!(decide (x0.2.1=0)))))),(25,.v (.agg (aK x0 q4).toArray)),(26,.v (.agg #[.int .i64 x1.1,.slice a28 x1.2.length c29])),(27,.v (.agg #[.int .i64 x2.1,.int .i64 x2.2])),(28,.v (.tuple #[.agg (aK y34 q38).toArray,.int .i64 y35,.bool y36])),(32,.v (.bool y36)),(36,.v (I x2.1)),(37,.v (.bool (decide (x2.1=3)))),(45,.v (.bool (decide (x2.1=15)))),(52,.v (I x0.2.2.1.2)),(55,.v (I (max x0.2.2.2.1 1)))]) (fun _=>(Es E)) fun a65=>vW E E E E E E ?_))))
   obtain ⟨⟨y66,y67⟩,hy68,h⟩:=aE h
   refine cE E E E E (pA x0.2.2.1.2 (max x0.2.2.2.1 1) x0.2.2.1.1 a65 q4.1 q4.2.1 _ hy68) E [0] E [0] E E fun _ _=>aB aA 1 [] [] [(12,.v (I y66))] _ E ⟨⟨E,V⟩,E⟩ (aC E (JS.seq (JS.region (aB aA 5 [] [] [(58,.v (.agg (aK x0 q4).toArray)),(59,.v (I y66)),(62,.v (I x0.2.2.1.2))] _ E ⟨(Es E),E⟩ ?_))))
   obtain ⟨⟨y69,y70⟩,hy71,h⟩:=aE h
   refine JO.call E E E E (pB x0 y66 x0.2.2.1.2 2 q4 _ hy71) E [0,1,2,3,4,5] E E fun q72 _=>aS aA 4 [] [] [(7,.v (I y70))] (.new 11 33 (aK y69 q72) .nil) E ⟨⟨E,V⟩,(Bs E E)⟩ (aC E ?_)
   cases h
   exact JS.ret aA q72 V E E [0,0,0,0,0,0] E
  refine aD aA 2 [(66,.v (.bool (decide (x2.1=2))))] ⟨⟨E,V⟩,E⟩ E E ?_
  refine aL E h (fun h=>?_) (fun h=>?_)
  ·
   refine JS.seq (JS.region (aB aA 4 [] [] [(68,.v (.agg (aK x0 q4).toArray)),(69,.v (.agg #[.int .i64 x1.1,.slice a28 x1.2.length c29])),(71,.v (I x2.2))] _ E ⟨(Es E),E⟩ ?_))
   obtain ⟨⟨y84,y85⟩,hy86,h⟩:=aE h
   refine JO.call E E E E (xZ x0 x1 x2.2 q4 a28 c29 _ hy86) E [0,1,2,3,4,5,6] E E fun q87 _=>aS aA 4 [] [] [(7,.v (I y85))] (.new 11 33 (aK y84 q87) .nil) E ⟨⟨E,V⟩,(Bs E E)⟩ (aC E ?_)
   cases h
   exact JS.ret aA q87 V E E [0,0,0,0,0,0] E
  refine JS.skip (aV (JS.seq (JS.region (aB aA 1 [] [] [(75,.v (.agg (aK x0 q4).toArray))] _ E ⟨⟨E,V⟩,E⟩ ?_))))
  obtain ⟨⟨y99,y100⟩,hy101,h⟩:=aE h
  refine JO.call E E E E (eV x0 q4 _ hy101) E [0,1,2,3,4,5] E E fun q102 _=>aS aA 4 [] [] [(7,.v (I y100))] (.new 11 33 (aK y99 q102) .nil) E ⟨⟨E,V⟩,(Bs E E)⟩ (aC E ?_)
  cases h
  exact JS.ret aA q102 V E E [0,0,0,0,0,0] E

def pL (x0:EdQ) (x1:Int×List (List UInt8)) (x2:Int×Int):Option (EdQ×Int):=
  (bif (decide (x0.2.1=0)) then
  (aH (lQ x0 x1 x2) fun (y32,y33)=>
  some (y32,y33))
  else
  (bif (decide (x0.2.1=3)) then
  none
  else
  none))

theorem aFa (x0:EdQ) (x1:Int×List (List UInt8)) (x2:Int×Int) (q4:P6) (a28:Option Addr) (c29:Nat) (r:EdQ×Int) (h:pL x0 x1 x2=some r):
  FC Tryz.prog 37 [.agg (aK x0 q4).toArray,.agg #[.int .i64 x1.1,.slice a28 x1.2.length c29],.agg #[.int .i64 x2.1,.int .i64 x2.2]] (cY x0 q4 [⟨.str,⟨a28,x1.2.length,c29⟩,x1.2⟩]) (fun _:P6=>True) (fun q=>.tuple #[.agg (aK r.1 q).toArray,.int .i64 r.2]) (fun q=>(cY r.1 q [])):=
 by
  refine FC.of (T:=TTx) Tryz.call37 Tryz.func37 E E fun w0=>?_
  unfold pL at h
  refine aR aA 5 [] [8,9,10,11] [(3,.bp 8 0),(4,.bp 9 0),(5,.bp 10 0),(6,.bp 11 0)] (.new 8 33 (aK x0 q4) (.new 9 36 [.int .i64 x1.1,.slice a28 x1.2.length c29] (.new 10 55 [.int .i64 x2.1,.int .i64 x2.2] (.new 11 33 bP .nil)))) ⟨(Es E),(Bs E E)⟩ E E (JS.seq (aD aA 2 [(9,.v (I x0.2.1))] ⟨⟨E,V⟩,E⟩ E E (JS.block (aD aA 2 [(10,.v (.bool (decide (x0.2.1=0))))] ⟨⟨E,V⟩,E⟩ E E ?_))))
  refine aL E h (fun h=>?_) (fun h=>?_)
  ·
   refine JS.seq (JS.region (aB aA 3 [] [] [(12,.v (.agg (aK x0 q4).toArray)),(13,.v (.agg #[.int .i64 x1.1,.slice a28 x1.2.length c29])),(14,.v (.agg #[.int .i64 x2.1,.int .i64 x2.2]))] _ E ⟨(Es E),E⟩ ?_))
   obtain ⟨⟨y32,y33⟩,hy34,h⟩:=aE h
   refine JO.call E E E E (zQ x0 x1 x2 q4 a28 c29 _ hy34) E [0,1,2,3,4,5,6] E E fun q35 _=>aS aA 4 [] [] [(7,.v (I y33))] (.new 11 33 (aK y32 q35) .nil) E ⟨⟨E,V⟩,(Bs E E)⟩ (aC E ?_)
   cases h
   exact JS.ret aA q35 V E E [0,0,0,0,0,0] E
  refine aD aA 2 [(18,.v (.bool (decide (x0.2.1=3))))] ⟨⟨E,V⟩,E⟩ E E ?_
  refine aL E h (fun h=>?_) (fun h=>?_)
  ·
   refine JS.seq ?_
   cases h
  refine JS.skip (aV (JS.seq ?_))
  cases h

def jS (x2:List (Int×Int)) (j124:Unit→Option (EdQ×List Int)) (k119:Int→Option (EdQ×List Int)):Int→Option (EdQ×List Int):=fun x41=>
  (bif (decide (x41<(x2.length:Int))) then
  (aI (0≤x41∧x41<(x2.length:Int)) <|
  (aH (mB (at' x2 x41)) fun (y112:Bool)=>
  (bif (!y112) then
  some ((false,0,([],0),0,0,0,0,0,0,0,[],[],0,([],0),[],0,([],0)),[])
  else
  k119 (W (x41+1)))))
  else
  j124 ())

def jR (x1:Int×List (List UInt8)) (x2:List (Int×Int)) (j258:(List Int×EdQ)→Option (EdQ×List Int)) (k238:(List Int×Int×Bool×Int×List Int×Int×Int×Int×Int×Int×Int×Int×Int×List (List Int)×(List (List Int×Int))×Int×List Int×Int×List Int×Int×List Int×Int)→Option (EdQ×List Int)):(List Int×Int×Bool×Int×List Int×Int×Int×Int×Int×Int×Int×Int×Int×List (List Int)×(List (List Int×Int))×Int×List Int×Int×List Int×Int×List Int×Int)→Option (EdQ×List Int):=fun (x142,x145,x182,x183,x184,x187,x188,x189,x190,x191,x192,x193,x194,x195,x198,x201,x202,x205,x206,x209,x210,x213)=>
  (bif (decide (x145<(x2.length:Int))) then
  (aI (0≤x145∧x145<(x2.length:Int)) <|
  (aH (pL (x182,x183,(x184,x187),x188,x189,x190,x191,x192,x193,x194,x195,x198,x201,(x202,x205),x206,x209,(x210,x213)) x1 (at' x2 x145)) fun (y216,y217)=>
  (aI (x142.length+([y217]:List Int).length≤536870912) <|
  k238 ((x142 ++ ([y217]:List Int)),(W (x145+1)),y216.1,y216.2.1,y216.2.2.1.1,y216.2.2.1.2,y216.2.2.2.1,y216.2.2.2.2.1,y216.2.2.2.2.2.1,y216.2.2.2.2.2.2.1,y216.2.2.2.2.2.2.2.1,y216.2.2.2.2.2.2.2.2.1,y216.2.2.2.2.2.2.2.2.2.1,y216.2.2.2.2.2.2.2.2.2.2.1,y216.2.2.2.2.2.2.2.2.2.2.2.1,y216.2.2.2.2.2.2.2.2.2.2.2.2.1,y216.2.2.2.2.2.2.2.2.2.2.2.2.2.1.1,y216.2.2.2.2.2.2.2.2.2.2.2.2.2.1.2,y216.2.2.2.2.2.2.2.2.2.2.2.2.2.2.1,y216.2.2.2.2.2.2.2.2.2.2.2.2.2.2.2.1,y216.2.2.2.2.2.2.2.2.2.2.2.2.2.2.2.2.1,y216.2.2.2.2.2.2.2.2.2.2.2.2.2.2.2.2.2))))
  else
  j258 (x142,(x182,x183,(x184,x187),x188,x189,x190,x191,x192,x193,x194,x195,x198,x201,(x202,x205),x206,x209,(x210,x213))))

def oF (x0:EdQ) (x1:Int×List (List UInt8)) (x2:List (Int×Int)):Option (EdQ×List Int):=
  (aH (lR x0) fun (y36:Bool)=>
  (bU ((!y36)=false) (iL x1) false fun (y38:Bool)=>
  (bif (bif (!y36) then true else (!y38)) then
  some ((false,0,([],0),0,0,0,0,0,0,0,[],[],0,([],0),[],0,([],0)),[])
  else
  (aY (fun (_:Unit)=>
  (aH (eK x0) fun (y128:EdQ)=>
  (aY (fun ((x242,x245):List Int×EdQ)=>
  some (x245,x242)) fun j258=>
  (bI (jR x1 x2 j258) bO (([]:List Int),0,y128.1,y128.2.1,y128.2.2.1.1,y128.2.2.1.2,y128.2.2.2.1,y128.2.2.2.2.1,y128.2.2.2.2.2.1,y128.2.2.2.2.2.2.1,y128.2.2.2.2.2.2.2.1,y128.2.2.2.2.2.2.2.2.1,y128.2.2.2.2.2.2.2.2.2.1,y128.2.2.2.2.2.2.2.2.2.2.1,y128.2.2.2.2.2.2.2.2.2.2.2.1,y128.2.2.2.2.2.2.2.2.2.2.2.2.1,y128.2.2.2.2.2.2.2.2.2.2.2.2.2.1.1,y128.2.2.2.2.2.2.2.2.2.2.2.2.2.1.2,y128.2.2.2.2.2.2.2.2.2.2.2.2.2.2.1,y128.2.2.2.2.2.2.2.2.2.2.2.2.2.2.2.1,y128.2.2.2.2.2.2.2.2.2.2.2.2.2.2.2.2.1,y128.2.2.2.2.2.2.2.2.2.2.2.2.2.2.2.2.2))))) fun j124=>
  (bI (jS x2 j124) bO 0)))))

theorem aC8 (x0:EdQ) (x1:Int×List (List UInt8)) (x2:List (Int×Int)) (q4:P6) (a28:Option Addr) (c29:Nat) (a32:Option Addr) (c33:Nat) (r:EdQ×List Int) (h:oF x0 x1 x2=some r):
  FC Tryz.prog 17 [.agg (aK x0 q4).toArray,.agg #[.int .i64 x1.1,.slice a28 x1.2.length c29],.slice a32 x2.length c33] (cY x0 q4 [⟨.str,⟨a28,x1.2.length,c29⟩,x1.2⟩,⟨(.pair (.int .i64) (.int .i64)),⟨a32,x2.length,c33⟩,x2⟩]) (fun _:Option Addr×Nat×P6=>True) (fun q=>.tuple #[.agg (aK r.1 (q.1,q.2.1,q.2.2.1,q.2.2.2.1,(Q4 q).1,(Q4 q).2.1,(Q4 q).2.2.1,(Q4 q).2.2.2.1,(Q8 q).1,(Q8 q).2.1,(Q8 q).2.2.1,(Q8 q).2.2.2.1)).toArray,.slice (Q12 q).1 r.2.length (Q12 q).2]) (fun q=>(cY r.1 (q.1,q.2.1,q.2.2.1,q.2.2.2.1,(Q4 q).1,(Q4 q).2.1,(Q4 q).2.2.1,(Q4 q).2.2.2.1,(Q8 q).1,(Q8 q).2.1,(Q8 q).2.2.1,(Q8 q).2.2.2.1) [⟨(.int .i64),⟨(Q12 q).1,r.2.length,(Q12 q).2⟩,r.2⟩])):=
 by
  refine FC.of (T:=TTx) Tryz.call17 Tryz.func17 E E fun w0=>?_
  unfold oF at h
  refine aR aA 4 [] [9,10,11] [(3,.bp 9 0),(4,.bp 10 0),(6,.bp 11 0)] (.new 9 33 (aK x0 q4) (.new 10 36 [.int .i64 x1.1,.slice a28 x1.2.length c29] (.new 11 33 bP .nil))) ⟨(Es E),(Bs E E)⟩ E E (JS.seq (JS.seq (JS.region (aB aA 1 [] [] [(16,.v (.agg (aK x0 q4).toArray))] _ E ⟨⟨E,V⟩,E⟩ ?_))))
  refine bnw h fun y36 hy37 h=>JO.call E E E E (sH x0 q4 _ hy37) E [0,1,2,3,4,5] E E fun _ _=>aB aA 3 [] [] [(19,.v (.bool (!y36))),(20,.cd [(19,false)] (.v (.agg #[.int .i64 x1.1,.slice a28 x1.2.length c29])))] _ E ⟨(Es E),E⟩ ?_
  obtain ⟨y38,hy39,-,h⟩:=aU h
  refine bJ E E E E (fun q264=>oK x1 a28 c29 _ (hy39 q264)) E [6] E E (aB aA 2 [] [] [(23,.v (.bool (bif (!y36) then true else (!y38))))] _ E ⟨⟨E,V⟩,E⟩ (aC E ?_))
  refine aL E h (fun h=>?_) (fun h=>?_)
  ·
   refine aR aA 3 [] [] [(7,.v (.slice none 0 0))] (.new 11 33 bP .nil) ⟨⟨E,V⟩,(Bs E E)⟩ E E ?_
   cases h
   refine aW (.int .i64) Sl.nil E E (aW (.sl (.int .i64)) Sl.nil E E (aW (.pair (.sl (.int .i64)) (.int .i64)) Sl.nil E E (aW (.int .i64) Sl.nil E E (aW (.int .i64) Sl.nil E E (aW (.int .i64) Sl.nil E E (aW (.int .i64) Sl.nil E E (JS.ret aA (none,0,none,0,none,0,none,0,none,0,none,0,none,0) V E E [6,5,4,3,2,1,0] E)))))))
  refine JS.skip (JS.seq (aD aA 3 [(25,.v (.slice a32 x2.length c33)),(26,.v (I (x2.length:Int))),(27,.v (I 0))] ⟨(Es E),E⟩ E E ?_))
  obtain ⟨j124,hj271,h⟩:=aO h
  refine bF (ι:=Unit) ⟨fun _=>j124 ()=some r,fun _=>[(2,.v (.slice a32 x2.length c33)),(3,.bp 9 0),(4,.bp 10 0),(6,.bp 11 0)],fun _=>(.new 9 33 (aK x0 q4) (.new 10 36 [.int .i64 x1.1,.slice a28 x1.2.length c29] (.new 11 33 bP .nil))),fun _=>(⟨(.pair (.int .i64) (.int .i64)),⟨a32,x2.length,c33⟩,x2⟩ :: (cY x0 q4 [⟨.str,⟨a28,x1.2.length,c29⟩,x1.2⟩])),fun _=>[],fun _=>0⟩ ?_ ?_
  ·
   refine JS.loop (ι:=Nat×Int) ⟨fun z=>bI (jS x2 j124) z.1 z.2=some r,fun z=>[(2,.v (.slice a32 x2.length c33)),(3,.bp 9 0),(4,.bp 10 0),(6,.bp 11 0),(25,.v (.slice a32 x2.length c33)),(26,.v (I (x2.length:Int))),(27,.v (I z.2))],fun z=>(.new 9 33 (aK x0 q4) (.new 10 36 [.int .i64 x1.1,.slice a28 x1.2.length c29] (.new 11 33 bP .nil))),fun z=>(⟨(.pair (.int .i64) (.int .i64)),⟨a32,x2.length,c33⟩,x2⟩ :: (cY x0 q4 [⟨.str,⟨a28,x1.2.length,c29⟩,x1.2⟩])),fun z=>[],fun z=>z.1⟩ (bO,0) h (Es E) (Bs E E) [7,0,1,2,3,4,5,6] E [] E ?_
   rintro ⟨n120,x41⟩ h
   obtain ⟨n120,rfl,h⟩:=bM h
   rw [jS] at h
   refine aD aA 1 [(28,.v (.bool (decide (x41<(x2.length:Int)))))] ⟨⟨E,V⟩,E⟩ E E (JS.seq ?_)
   refine aL E h (fun h=>?_) (fun h=>?_)
   ·
    refine JS.skip (JS.seq (JS.block (JS.seq (JS.region (bT 0 E fun hs265=>?_)))))
    obtain ⟨g111,h⟩:=aF h
    refine aB aA 1 [] [] [(29,.ep ⟨a32,x2.length,c33⟩ (Int.toNat x41*2))] _ E ⟨hs265.ix g111,⟨E,V⟩,E⟩ (dX aA E E E E E E 0 E E (Int.toNat x41) 0 (at' x2 x41) ⟨bD g111,E⟩ E E E (aS aA 2 [] [99] [(9,.bp 99 0)] (.new 9 33 (aK x0 q4) (.new 10 36 [.int .i64 x1.1,.slice a28 x1.2.length c29] (.new 11 33 bP (.new 99 55 [.int .i64 (at' x2 x41).1,.int .i64 (at' x2 x41).2] .nil)))) E ⟨⟨E,V⟩,(Bs E E)⟩ (aC E (JS.seq (JS.region (aB aA 1 [] [] [(31,.v (.agg #[.int .i64 (at' x2 x41).1,.int .i64 (at' x2 x41).2]))] _ E ⟨⟨E,V⟩,E⟩ ?_))))))
    refine bnw h fun y112 hy113 h=>JO.call E E E E (tI (at' x2 x41) _ hy113) E [] E E fun _ _=>aB aA 1 [] [] [(33,.v (.bool (!y112)))] _ E ⟨⟨E,V⟩,E⟩ (aC E ?_)
    refine aL E h (fun h=>?_) (fun h=>?_)
    ·
     refine aR aA 3 [] [] [(7,.v (.slice none 0 0))] (.new 11 33 bP .nil) ⟨⟨E,V⟩,(Bs E E)⟩ E E ?_
     cases h
     refine aW (.int .i64) Sl.nil E E (aW (.sl (.int .i64)) Sl.nil E E (aW (.pair (.sl (.int .i64)) (.int .i64)) Sl.nil E E (aW (.int .i64) Sl.nil E E (aW (.int .i64) Sl.nil E E (aW (.int .i64) Sl.nil E E (aW (.int .i64) Sl.nil E E (JS.ret aA (none,0,none,0,none,0,none,0,none,0,none,0,none,0) V E E [6,5,4,3,2,1,0] E)))))))
    refine JS.skip (aV (cW aA 2 [(W (x41+1))] [] [(27,.v (I (W (x41+1))))] _ ⟨⟨V,E⟩,⟨E,V⟩,E⟩ E E (bZ (n120,(W (x41+1))) h (Nat.lt_succ_self _) (Es E) (Bs E E) [0,1,2,3,4,5,6,7] E [] E)))
   refine JS.exit E (aN () h (Es E) (Bs E E) [0,1,2,3,4,5,6,7] E [] E)
  rintro _ h
  subst hj271
  refine JS.seq (JS.region (aB aA 1 [] [] [(36,.v (.agg (aK x0 q4).toArray))] _ E ⟨⟨E,V⟩,E⟩ ?_))
  refine bnw h fun y128 hy129 h=>JO.call E E E E (kJ x0 q4 _ hy129) E [1,2,3,4,5,6] E E fun q130 _=>aS aA 2 [] [125] [(10,.bp 125 0)] (.new 10 36 [.int .i64 x1.1,.slice a28 x1.2.length c29] (.new 11 33 bP (.new 125 33 (aK y128 q130) .nil))) E ⟨⟨E,V⟩,(Bs E E)⟩ (aC E (aD aA 1 [(11,.v (.slice none 0 0))] ⟨⟨E,V⟩,E⟩ E E (JS.seq (aD aA 3 [(38,.v (.slice a32 x2.length c33)),(39,.v (I (x2.length:Int))),(40,.v (I 0))] ⟨(Es E),E⟩ E E ?_))))
  obtain ⟨j258,hj270,h⟩:=aO h
  refine bF (ι:=List Int×EdQ×Option Addr×Nat×P6) ⟨fun z=>j258 (z.1,z.2.1)=some r,fun z=>[(6,.bp 11 0),(10,.bp 125 0),(11,.v (.slice z.2.2.1 z.1.length z.2.2.2.1))],fun z=>(.new 11 33 bP (.new 125 33 (aK z.2.1 (Q4 z)) .nil)),fun z=>[],fun z=>(⟨(.int .i64),⟨z.2.2.1,z.1.length,z.2.2.2.1⟩,z.1⟩ :: (cY z.2.1 (Q4 z) [])),fun z=>0⟩ ?_ ?_
  ·
   refine aW (.int .i64) Sl.nil E E (JS.loop (ι:=Nat×List Int×Int×Bool×Int×List Int×Int×Int×Int×Int×Int×Int×Int×Int×List (List Int)×(List (List Int×Int))×Int×List Int×Int×List Int×Int×List Int×Int×Option Addr×Nat×P6) ⟨fun z=>bI (jR x1 x2 j258) z.1 (z.2.1,z.2.2.1,z.2.2.2.1,(Q4 z).1,(Q4 z).2.1,(Q4 z).2.2.1,(Q4 z).2.2.2.1,(Q8 z).1,(Q8 z).2.1,(Q8 z).2.2.1,(Q8 z).2.2.2.1,(Q12 z).1,(Q12 z).2.1,(Q12 z).2.2.1,(Q12 z).2.2.2.1,(Q16 z).1,(Q16 z).2.1,(Q16 z).2.2.1,(Q16 z).2.2.2.1,(Q20 z).1,(Q20 z).2.1,(Q20 z).2.2.1)=some r,fun z=>[(4,.bp 10 0),(6,.bp 11 0),(10,.bp 125 0),(11,.v (.slice (Q20 z).2.2.2.1 z.2.1.length (Q24 z).1)),(38,.v (.slice a32 x2.length c33)),(39,.v (I (x2.length:Int))),(40,.v (I z.2.2.1))],fun z=>(.new 10 36 [.int .i64 x1.1,.slice a28 x1.2.length c29] (.new 11 33 bP (.new 125 33 (aK (z.2.2.2.1,(Q4 z).1,((Q4 z).2.1,(Q4 z).2.2.1),(Q4 z).2.2.2.1,(Q8 z).1,(Q8 z).2.1,(Q8 z).2.2.1,(Q8 z).2.2.2.1,(Q12 z).1,(Q12 z).2.1,(Q12 z).2.2.1,(Q12 z).2.2.2.1,(Q16 z).1,((Q16 z).2.1,(Q16 z).2.2.1),(Q16 z).2.2.2.1,(Q20 z).1,((Q20 z).2.1,(Q20 z).2.2.1)) (Q24 z).2) .nil))),fun z=>[⟨(.pair (.int .i64) (.int .i64)),⟨a32,x2.length,c33⟩,x2⟩,⟨.str,⟨a28,x1.2.length,c29⟩,x1.2⟩],fun z=>[⟨(.int .i64),⟨(Q20 z).2.2.2.1,z.2.1.length,(Q24 z).1⟩,z.2.1⟩,⟨(.int .i64),⟨(Q24 z).2.1,(Q4 z).2.1.length,(Q24 z).2.2.1⟩,(Q4 z).2.1⟩,⟨(.sl (.int .i64)),⟨(Q24 z).2.2.2.1,(Q12 z).2.2.1.length,(Q28 z).1⟩,(Q12 z).2.2.1⟩,⟨(.pair (.sl (.int .i64)) (.int .i64)),⟨(Q28 z).2.1,(Q12 z).2.2.2.1.length,(Q28 z).2.2.1⟩,(Q12 z).2.2.2.1⟩,⟨(.int .i64),⟨(Q28 z).2.2.2.1,(Q16 z).2.1.length,(Q32 z).1⟩,(Q16 z).2.1⟩,⟨(.int .i64),⟨(Q32 z).2.1,(Q16 z).2.2.2.1.length,(Q32 z).2.2.1⟩,(Q16 z).2.2.2.1⟩,⟨(.int .i64),⟨(Q32 z).2.2.2.1,(Q20 z).2.1.length,(Q32 z).2.2.2.2⟩,(Q20 z).2.1⟩],fun z=>z.1⟩ (bO,([]:List Int),0,y128.1,y128.2.1,y128.2.2.1.1,y128.2.2.1.2,y128.2.2.2.1,(Q4 y128).1,(Q4 y128).2.1,(Q4 y128).2.2.1,(Q4 y128).2.2.2.1,(Q8 y128).1,(Q8 y128).2.1,(Q8 y128).2.2.1,(Q8 y128).2.2.2.1,(Q12 y128).1,(Q12 y128).2.1.1,(Q12 y128).2.1.2,(Q12 y128).2.2.1,(Q12 y128).2.2.2.1,(Q16 y128).1,(Q16 y128).2,none,0,q130) h (Es E) (Bs E E) [0,7] E [0,0,0,0,0,0,0] E ?_)
   rintro ⟨n239,x142,x145,x182,x183,x184,x187,x188,x189,x190,x191,x192,x193,x194,x195,x198,x201,x202,x205,x206,x209,x210,x213,a143,c144,q185⟩ h
   obtain ⟨n239,rfl,h⟩:=bM h
   rw [jR] at h
   refine aD aA 1 [(41,.v (.bool (decide (x145<(x2.length:Int)))))] ⟨⟨E,V⟩,E⟩ E E (JS.seq ?_)
   refine aL E h (fun h=>?_) (fun h=>?_)
   ·
    refine JS.skip (JS.seq (JS.block (JS.seq (JS.region (bT 0 E fun hs268=>?_)))))
    obtain ⟨g215,h⟩:=aF h
    refine aB aA 1 [] [] [(42,.ep ⟨a32,x2.length,c33⟩ (Int.toNat x145*2))] _ E ⟨hs268.ix g215,⟨E,V⟩,E⟩ (dX aA E E E E E E 0 E E (Int.toNat x145) 0 (at' x2 x145) ⟨bD g215,E⟩ E E E (aS aA 2 [] [213] [(13,.bp 213 0)] (.new 10 36 [.int .i64 x1.1,.slice a28 x1.2.length c29] (.new 11 33 bP (.new 125 33 (aK (x182,x183,(x184,x187),x188,x189,x190,x191,x192,x193,x194,x195,x198,x201,(x202,x205),x206,x209,(x210,x213)) q185) (.new 213 55 [.int .i64 (at' x2 x145).1,.int .i64 (at' x2 x145).2] .nil)))) E ⟨⟨E,V⟩,(Bs E E)⟩ (aC E (JS.seq (JS.region (aB aA 3 [] [] [(45,.v (.agg (aK (x182,x183,(x184,x187),x188,x189,x190,x191,x192,x193,x194,x195,x198,x201,(x202,x205),x206,x209,(x210,x213)) q185).toArray)),(46,.v (.agg #[.int .i64 x1.1,.slice a28 x1.2.length c29])),(47,.v (.agg #[.int .i64 (at' x2 x145).1,.int .i64 (at' x2 x145).2]))] _ E ⟨(Es E),E⟩ ?_))))))
    obtain ⟨⟨y216,y217⟩,hy218,h⟩:=aE h
    refine JO.call E E E E (aFa (x182,x183,(x184,x187),x188,x189,x190,x191,x192,x193,x194,x195,x198,x201,(x202,x205),x206,x209,(x210,x213)) x1 (at' x2 x145) q185 a28 c29 _ hy218) E [3,4,5,6,7,8,1] E E fun q219 _=>aS aA 6 [] [235] [(14,.bp 235 0),(15,.v (I y217))] (.new 10 36 [.int .i64 x1.1,.slice a28 x1.2.length c29] (.new 11 33 bP (.new 125 33 (aK (x182,x183,(x184,x187),x188,x189,x190,x191,x192,x193,x194,x195,x198,x201,(x202,x205),x206,x209,(x210,x213)) q185) (.new 235 33 (aK y216 q219) .nil)))) E ⟨(Es E),(Bs E E)⟩ (aC E (aR aA 2 [] [] [] (.new 10 36 [.int .i64 x1.1,.slice a28 x1.2.length c29] (.new 11 33 bP (.new 125 33 (aK y216 q219) .nil))) ⟨V,(Bs E E)⟩ E E (aCa [true,true,true,true,true,true,true,false,false,false,false,false,false] [⟨(.pair (.int .i64) (.int .i64)),⟨a32,x2.length,c33⟩,x2⟩,⟨.str,⟨a28,x1.2.length,c29⟩,x1.2⟩] (cY y216 q219 [⟨(.int .i64),⟨a143,x142.length,c144⟩,x142⟩]) E E (JS.region (aB aA 2 [] [] [(52,.v (.slice a143 x142.length c144)),(53,.v (I y217))] _ E ⟨(Es E),E⟩ ?_)))))
    refine kF E (JK.buildSlice aA E E E E E E E E E E E [] E (.int .i64) [y217] ⟨E,E⟩ E E fun a231=>kE ?_)
    obtain ⟨g232,h⟩:=aF h
    refine eN aA E E E E ⟨E,E,E,E,V,E,E,E,E⟩ E E E [7] E 2 E g232 E fun a233 c234=>aB aA 1 [] [] [(11,.v (.slice a233 (x142 ++ ([y217]:List Int)).length c234))] _ E ⟨⟨E,V⟩,E⟩ (aC E (aV (cW aA 2 [(W (x145+1))] [] [(40,.v (I (W (x145+1))))] _ ⟨⟨V,E⟩,⟨E,V⟩,E⟩ E E (aJi (n239,(x142 ++ ([y217]:List Int)),(W (x145+1)),y216.1,y216.2.1,y216.2.2.1.1,y216.2.2.1.2,y216.2.2.2.1,(Q4 y216).1,(Q4 y216).2.1,(Q4 y216).2.2.1,(Q4 y216).2.2.2.1,(Q8 y216).1,(Q8 y216).2.1,(Q8 y216).2.2.1,(Q8 y216).2.2.2.1,(Q12 y216).1,(Q12 y216).2.1.1,(Q12 y216).2.1.2,(Q12 y216).2.2.1,(Q12 y216).2.2.2.1,(Q16 y216).1,(Q16 y216).2,a233,c234,q219) h (Nat.lt_succ_self _) (Es E) (Bs E E) [0,1] E [0,2,3,4,5,6,7] E E))))
   refine JS.exit E (cJ (x142,(x182,x183,(x184,x187),x188,x189,x190,x191,x192,x193,x194,x195,x198,x201,(x202,x205),x206,x209,(x210,x213)),a143,c144,q185) h (Es E) (Bs E E) [] E [0,1,2,3,4,5,6] E E)
  rintro ⟨x242,x245,a243,c244,q246⟩ h
  subst hj270
  refine aR aA 4 [] [] [(7,.v (.slice a243 x242.length c244))] (.new 11 33 (aK x245 q246) .nil) ⟨⟨E,V⟩,(Bs E E)⟩ E E ?_
  cases h
  exact JS.ret aA (q246.1,q246.2.1,q246.2.2.1,q246.2.2.2.1,(Q4 q246).1,(Q4 q246).2.1,(Q4 q246).2.2.1,(Q4 q246).2.2.2.1,(Q8 q246).1,(Q8 q246).2.1,(Q8 q246).2.2.1,(Q8 q246).2.2.2,a243,c244) V E E [1,1,1,1,1,1,0] E

end
end Go.Eng
