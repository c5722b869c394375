/- The walks of the functions that FnExactViKey reaches: what each computes, as a plain function (M_..), and that the model computes it (ok_..). Condition of each: that the plain function answers. -/
import Derived.Test.YtlpgcohnjhomgaaGreatFnExactViKeyWalkA
set_option linter.unusedVariables false
set_option linter.unusedSimpArgs false
namespace Go.Eng
open Go Go.Proofs
noncomputable section

def fG (b:List Int) (c:Bool) (d:Int→Option Int) (e:Int→Option Int):Int→Option Int:=fun a=>(aP (((decide (a<(b.length:Int)))=true)→0≤a∧a<(b.length:Int)) <|(bW ((decide (a<(b.length:Int)))=true) (dJ (at' b a) c) (0:Int) fun f=>(bif (bif decide (a<(b.length:Int)) then (decide (f=0)) else false) then e (W (a+1)) else d a)))

def jF (b:List Int) (c:Bool) (d:Int) (e:Int→Option Int) (f:Int→Option Int):Int→Option Int:=fun a=>(aP (((decide ((W (a+1))<(b.length:Int)))=true)→0≤(W (a+1))∧(W (a+1))<(b.length:Int)) <|(bW ((decide ((W (a+1))<(b.length:Int)))=true) (dJ (at' b (W (a+1))) c) (0:Int) fun g=>(bif (bif decide ((W (a+1))<(b.length:Int)) then (decide (g=d)) else false) then f (W (a+1)) else e a)))

def nZ (a:List Int) (d:Int) (c:Bool):Option Int:= (aF (bV d (a.length:Int)) fun e=>(aS (fun (b:Int)=>(bif decide ((a.length:Int)≤b) then (aF (bV (W ((a.length:Int) - 1)) (a.length:Int)) fun f=> some f) else (aP (0≤b∧b<(a.length:Int)) <|(aF (dJ (at' a b) c) fun g=>(aS (fun (h:Int)=> some h) fun i=>(aW (jF a c g i) bG b)))))) fun j=>(aW (fG a c j) bG (W (e+1)))))

theorem aF6 (a:List Int) (i:Int) (b:Bool) (d:Option Addr) (e:Nat) (r:Int) (h:nZ a i b=some r):
 FC Tryz.prog 297 [sL d a e,I i,.bool b] [fI d e a] (fun _:Unit=>True) (fun _=>I r) (fun _=>[]):= by
 refine FC.of (T:=TTx) Tryz.call297 Tryz.func297 E E fun R=>?_
 unfold nZ at h
 refine aC aA 1 [] ev5 E E (JS.seq (JS.region (aB aA 3 [] [] [(8,.v (I i)),(10,.v (I (a.length:Int)))] _ E ⟨(Es E),E⟩ ?_)))
 refine bnw h fun k t h=>JO.call E E E E (bN i (a.length:Int) _ t) E [] E E fun _ _=>aB aA 2 [(W (k+1))] [] [(1,.v (I (W (k+1))))] _ E ev3 (aD E (JS.seq ?_))
 obtain ⟨l,u,h⟩:=aN h
 refine aX (ι:=Int) ⟨fun z=>l z=some r,fun z=>[(0,.v (sL d a e)),(1,.v (I z)),(2,.v (.bool b))],fun z=>.nil,fun z=>[fI d e a],fun z=>[],fun z=>0⟩ ?_ ?_
 ·
  refine JS.loop (ι:=Nat×Int) ⟨fun z=>aW (fG a b l) z.1 z.2=some r,fun z=>[(0,.v (sL d a e)),(1,.v (I z.2)),(2,.v (.bool b))],fun z=>.nil,fun z=>[fI d e a],fun z=>[],fun z=>z.1⟩ (bG,(W (k+1))) h (Es E) V [0] E [] E ?_
  rintro ⟨m,f⟩ h
  obtain ⟨m,rfl,h⟩:=bC h
  rw [fG] at h
  refine JS.seq (JS.seq (JS.region (bJ 0 E fun w=>?_)))
  obtain ⟨n,h⟩:=aK h
  refine aB aA 8 [] [] [(17,.v (.bool (decide (f<(a.length:Int))))),(20,.cd [(17,true)] (.ep ⟨d,a.length,e⟩ (Int.toNat f*1)))] _ E ⟨(fun x=>w.ix (n x)),(Es E),E⟩ (JO.load aA E E E E E E E 0 E E (Int.toNat f) 0 (at' a f) (fun y=>⟨bD (n y),E⟩) E E (aB aA 1 [] [] [(22,.cd [(17,true)] (.v (.bool b)))] _ E ev1 ?_))
  obtain ⟨A,B,-,h⟩:=aY h
  refine bL E E E E (fun C=>fK (at' a f) b _ (B C)) E [] E E (aB aA 2 [] [] [(25,.v (.bool (bif (decide (f<(a.length:Int))) then (decide (A=0)) else false)))] _ E ev1 (aD E ?_))
  refine aH E h (fun h=>?_) (fun h=>?_)
  ·
   refine JS.skip (JS.block (bY aA 3 [(W (f+1))] [] [(1,.v (I (W (f+1))))] _ ev3 E E (aV (bR (m,(W (f+1))) h (Nat.lt_succ_self _) (Es E) V [0] E [] E))))
  refine JS.exit E (aQ f h (Es E) V [0] E [] E)
 rintro g h
 subst u
 refine JS.seq (aC aA 4 [(31,.v (.bool (decide ((a.length:Int)≤g))))] ev1 E E ?_)
 refine aH E h (fun h=>?_) (fun h=>?_)
 ·
  refine JS.seq (JS.region (aB aA 5 [(W ((a.length:Int) - 1))] [] [(34,.v (I (W ((a.length:Int) - 1)))),(36,.v (I (a.length:Int)))] _ E ⟨ev5,(Es E),E⟩ ?_))
  refine bnw h fun D F h=>JO.call E E E E (bN (W ((a.length:Int) - 1)) (a.length:Int) _ F) E [] E E fun _ _=>aB aA 1 [] [] [(6,.v (I D))] _ E ev1 (aD E ?_)
  cases h
  exact JS.ret aA () V E E [] E
 refine JS.skip (JS.seq (JS.region (bJ 0 E fun G=>?_)))
 obtain ⟨o,h⟩:=aK h
 refine aB aA 3 [] [] [(40,.ep ⟨d,a.length,e⟩ (Int.toNat g*1))] _ E ⟨G.ix o,ev2,E⟩ (JO.load aA E E E E E E E 0 E E (Int.toNat g) 0 (at' a g) ⟨bD o,E⟩ E E (aB aA 1 [] [] [(42,.v (.bool b))] _ E ev1 ?_))
 refine bnw h fun j H h=>JO.call E E E E (fK (at' a g) b _ H) E [] E E fun _ _=>aB aA 1 [] [] [(7,.v (I j))] _ E ev1 (aD E (JS.seq ?_))
 obtain ⟨p,J,h⟩:=aN h
 refine aX (ι:=Int) ⟨fun z=>p z=some r,fun z=>[(1,.v (I z))],fun z=>.nil,fun z=>[],fun z=>[],fun z=>0⟩ ?_ ?_
 ·
  refine JS.loop (ι:=Nat×Int) ⟨fun z=>aW (jF a b j p) z.1 z.2=some r,fun z=>[(0,.v (sL d a e)),(1,.v (I z.2)),(2,.v (.bool b)),(7,.v (I j))],fun z=>.nil,fun z=>[fI d e a],fun z=>[],fun z=>z.1⟩ (bG,g) h (Es E) V [0] E [] E ?_
  rintro ⟨q,c⟩ h
  obtain ⟨q,rfl,h⟩:=bC h
  rw [jF] at h
  refine JS.seq (JS.seq (JS.region (bJ 0 E fun K=>?_)))
  obtain ⟨s,h⟩:=aK h
  refine aB aA 10 [(W (c+1)),(W (c+1))] [] [(49,.v (.bool (decide ((W (c+1))<(a.length:Int))))),(53,.cd [(49,true)] (.ep ⟨d,a.length,e⟩ (Int.toNat (W (c+1))*1)))] _ E ⟨ev5,(fun S=>ev5),(fun L=>K.ix (s L)),(Es E),E⟩ (JO.load aA E E E E E E E 0 E E (Int.toNat (W (c+1))) 0 (at' a (W (c+1))) (fun M=>⟨bD (s M),E⟩) E E (aB aA 1 [] [] [(55,.cd [(49,true)] (.v (.bool b)))] _ E ev1 ?_))
  obtain ⟨N,O,-,h⟩:=aY h
  refine bL E E E E (fun P=>fK (at' a (W (c+1))) b _ (O P)) E [] E E (aB aA 3 [] [] [(59,.v (.bool (bif (decide ((W (c+1))<(a.length:Int))) then (decide (N=j)) else false)))] _ E ev1 (aD E ?_))
  refine aH E h (fun h=>?_) (fun h=>?_)
  ·
   refine JS.skip (JS.block (bY aA 3 [(W (c+1))] [] [(1,.v (I (W (c+1))))] _ ev3 E E (aV (bR (q,(W (c+1))) h (Nat.lt_succ_self _) (Es E) V [0] E [] E))))
  refine JS.exit E (aQ c h ev2 V [] E [] E)
 rintro Q h
 subst J
 refine aC aA 2 [(6,.v (I Q))] ev1 E E ?_
 cases h
 exact JS.ret aA () V E E [] E

def jT (b:List Int) (c:Int) (a:Int):Option Int:= (aS (fun (f:Bool)=>(bif f then (aF (qQ b c (decide (a<97))) fun g=> some g) else (aS (fun (h:Bool)=>(bif h then (aF (jG b c (decide (a<97))) fun i=> some i) else (aF (nZ b c (decide (a<97))) fun j=> some j))) fun d=>(bif decide (a=98) then d (decide (a=98)) else d (decide (a=66)))))) fun e=>(bif decide (a=119) then e (decide (a=119)) else e (decide (a=87))))

theorem aJ0 (b:List Int) (e:Int) (a:Int) (c:Option Addr) (d:Nat) (r:Int) (h:jT b e a=some r):
 FC Tryz.prog 291 [sL c b d,I e,I a] [fI c d b] (fun _:Unit=>True) (fun _=>I r) (fun _=>[]):= by
 refine FC.of (T:=TTx) Tryz.call291 Tryz.func291 E E fun q=>?_
 unfold jT at h
 refine aC aA 1 [] ev5 E E (aC aA 3 [(7,.v (.bool (decide (a<97))))] ev1 E E (JS.seq (aC aA 1 [(10,.v (I a))] ev1 E E (JS.block ?_))))
 obtain ⟨f,g,h⟩:=aN h
 refine bZ (ι:=Bool) ⟨fun z=>f z=some r,fun z=>[(0,.v (sL c b d)),(1,.v (I e)),(7,.v (.bool (decide (a<97)))),(10,.v (I a)),(11,.v (.bool z))],fun z=>.nil,fun z=>[fI c d b],fun z=>[],fun z=>0⟩ ?_ ?_
 ·
  refine aC aA 2 [(11,.v (.bool (decide (a=119))))] ev1 E E ?_
  refine aH E h (fun h=>?_) (fun h=>?_)
  ·
   refine JS.skip (aQ (decide (a=119)) h (Es E) V [0] E [] E)
  refine eR aA 2 [(11,.v (.bool (decide (a=87))))] ev1 E E (aQ (decide (a=87)) h (Es E) V [0] E [] E)
 rintro s h
 subst g
 refine aH E h (fun h=>?_) (fun h=>?_)
 ·
  refine JS.seq (JS.region (aB aA 3 [] [] [(14,.v (sL c b d)),(15,.v (I e)),(16,.v (.bool (decide (a<97))))] _ E ⟨(Es E),E⟩ ?_))
  refine bnw h fun i j h=>JO.call E E E E (aHv b e (decide (a<97)) c d _ j) E [0] E E fun _ _=>aB aA 1 [] [] [(6,.v (I i))] _ E ev1 (aD E ?_)
  cases h
  exact JS.ret aA () V E E [] E
 obtain ⟨k,l,h⟩:=aN h
 refine bZ (ι:=Bool) ⟨fun z=>k z=some r,fun z=>[(0,.v (sL c b d)),(1,.v (I e)),(7,.v (.bool (decide (a<97)))),(18,.v (.bool z))],fun z=>.nil,fun z=>[fI c d b],fun z=>[],fun z=>0⟩ ?_ ?_
 ·
  refine aC aA 2 [(18,.v (.bool (decide (a=98))))] ev1 E E ?_
  refine aH E h (fun h=>?_) (fun h=>?_)
  ·
   refine JS.skip (aQ (decide (a=98)) h (Es E) V [0] E [] E)
  refine eR aA 2 [(18,.v (.bool (decide (a=66))))] ev1 E E (aQ (decide (a=66)) h (Es E) V [0] E [] E)
 rintro t h
 subst l
 refine aH E h (fun h=>?_) (fun h=>?_)
 ·
  refine JS.seq (JS.region (aB aA 3 [] [] [(21,.v (sL c b d)),(22,.v (I e)),(23,.v (.bool (decide (a<97))))] _ E ⟨(Es E),E⟩ ?_))
  refine bnw h fun m n h=>JO.call E E E E (yX b e (decide (a<97)) c d _ n) E [0] E E fun _ _=>aB aA 1 [] [] [(6,.v (I m))] _ E ev1 (aD E ?_)
  cases h
  exact JS.ret aA () V E E [] E
 refine JS.skip (aV (JS.seq (JS.region (aB aA 3 [] [] [(25,.v (sL c b d)),(26,.v (I e)),(27,.v (.bool (decide (a<97))))] _ E ⟨(Es E),E⟩ ?_))))
 refine bnw h fun o p h=>JO.call E E E E (aF6 b e (decide (a<97)) c d _ p) E [0] E E fun _ _=>aB aA 1 [] [] [(6,.v (I o))] _ E ev1 (aD E ?_)
 cases h
 exact JS.ret aA () V E E [] E

def kT (b:List Int) (c:Int→Option (Int×Bool×Bool)) (d:Int→Option (Int×Bool×Bool)):Int→Option (Int×Bool×Bool):=fun a=>(aP (((decide (a<(b.length:Int)))=true)→0≤a∧a<(b.length:Int)) <|(bW ((decide (a<(b.length:Int)))=true) (qG (at' b a)) (0:Int) fun e=>(bif (bif decide (a<(b.length:Int)) then (decide (e=0)) else false) then d (W (a+1)) else c a)))

def dV (c:List Int) (d:Int) (e:Int) (f:Int→Option (Int×Bool×Bool)) (g:(Int×Int)→Option (Int×Bool×Bool)):(Int×Int)→Option (Int×Bool×Bool):=fun (a,b)=>(bif decide (b<e) then (aF (jT c a d) fun h=> g (h,(W (b+1)))) else f a)

def kE (b:List Int) (g:Int) (a:Int) (h:Int):Option (Int×Bool×Bool):= (aF (bV g (b.length:Int)) fun e=>(aF (nK h) fun d=>(aS (fun (_:Unit)=> some (0,false,false)) fun i=>(bif decide (a=104) then (aF (bV (W (e - d)) (b.length:Int)) fun j=> some (j,false,true)) else (aS (fun (k:Bool)=>(bif k then (aF (bV (W (e+d)) (b.length:Int)) fun l=> some (l,false,true)) else (bif decide (a=124) then (aF (bV (W (d - 1)) (b.length:Int)) fun m=> some (m,false,true)) else (bif decide (a=48) then some (0,false,true) else (bif decide (a=94) then (aS (fun (n:Int)=> some (n,false,true)) fun o=>(aW (kT b o) bG 0)) else (bif decide (a=36) then (aF (bV (W ((b.length:Int) - 1)) (b.length:Int)) fun p=> some (p,(decide (0<(b.length:Int))),true)) else (aS (fun (q:Bool)=>(bif q then (aS (fun (r:Int)=> some (r,(bif (bif decide (a=101) then true else (decide (a=69))) then (decide (0<(b.length:Int))) else false),true)) fun s=>(aW (dV b a d s) bG (e,0))) else i ())) fun c=>(bif decide (a=119) then c (decide (a=119)) else (bif decide (a=87) then c (decide (a=87)) else (bif decide (a=98) then c (decide (a=98)) else (bif decide (a=66) then c (decide (a=66)) else (bif decide (a=101) then c (decide (a=101)) else c (decide (a=69)))))))))))))) fun f=>(bif decide (a=108) then f (decide (a=108)) else f (decide (a=32))))))))

theorem wH (a:List Int) (i:Int) (b:Int) (j:Int) (c:Option Addr) (d:Nat) (r:Int×Bool×Bool) (h:kE a i b j=some r):
 FC Tryz.prog 270 [sL c a d,I i,I b,I j] [fI c d a] (fun _:Unit=>True) (fun _=>.tuple #[I r.1,.bool r.2.1,.bool r.2.2]) (fun _=>[]):= by
 refine FC.of (T:=TTx) Tryz.call270 Tryz.func270 E E fun w0=>?_
 unfold kE at h
 refine aC aA 3 [] ev5 E E (JS.seq (JS.region (aB aA 3 [] [] [(13,.v (I i)),(15,.v (I (a.length:Int)))] _ E ⟨(Es E),E⟩ ?_)))
 refine bnw h fun f t h=>JO.call E E E E (bN i (a.length:Int) _ t) E [] E E fun _ _=>aB aA 1 [] [] [(1,.v (I f))] _ E ev1 (aD E (JS.seq (JS.region (aB aA 1 [] [] [(17,.v (I j))] _ E ev1 ?_))))
 refine bnw h fun e u h=>JO.call E E E E (aBd j _ u) E [] E E fun _ _=>aB aA 1 [] [] [(3,.v (I e))] _ E ev1 (aD E (JS.seq (aC aA 1 [(19,.v (I b))] ev1 E E ?_)))
 obtain ⟨w,x,h⟩:=aN h
 refine aX (ι:=Unit) ⟨fun _=>w ()=some r,fun _=>[],fun _=>.nil,fun _=>[],fun _=>[],fun _=>0⟩ ?_ ?_
 ·
  refine aC aA 2 [(20,.v (.bool (decide (b=104))))] ev1 E E ?_
  refine aH E h (fun h=>?_) (fun h=>?_)
  ·
   refine JS.seq (JS.region (aB aA 5 [(W (f - e))] [] [(24,.v (I (W (f - e)))),(26,.v (I (a.length:Int)))] _ E ⟨ev5,(Es E),E⟩ ?_))
   refine bnw h fun y A h=>JO.call E E E E (bN (W (f - e)) (a.length:Int) _ A) E [] E E fun _ _=>aB aA 3 [] [] [(8,.v (I y)),(9,.v (.bool false)),(10,.v (.bool true))] _ E ⟨(Es E),E⟩ (aD E ?_)
   cases h
   exact JS.ret aA () V E E [] E
  obtain ⟨B,C,h⟩:=aN h
  refine bZ (ι:=Bool) ⟨fun z=>B z=some r,fun z=>[(0,.v (sL c a d)),(1,.v (I f)),(2,.v (I b)),(3,.v (I e)),(19,.v (I b)),(28,.v (.bool z))],fun z=>.nil,fun z=>[fI c d a],fun z=>[],fun z=>0⟩ ?_ ?_
  ·
   refine aC aA 2 [(28,.v (.bool (decide (b=108))))] ev1 E E ?_
   refine aH E h (fun h=>?_) (fun h=>?_)
   ·
    refine JS.skip (aQ (decide (b=108)) h (Es E) V [0] E [] E)
   refine eR aA 2 [(28,.v (.bool (decide (b=32))))] ev1 E E (aQ (decide (b=32)) h (Es E) V [0] E [] E)
  rintro a2 h
  subst C
  refine aH E h (fun h=>?_) (fun h=>?_)
  ·
   refine JS.seq (JS.region (aB aA 5 [(W (f+e))] [] [(33,.v (I (W (f+e)))),(35,.v (I (a.length:Int)))] _ E ⟨ev5,(Es E),E⟩ ?_))
   refine bnw h fun D F h=>JO.call E E E E (bN (W (f+e)) (a.length:Int) _ F) E [] E E fun _ _=>aB aA 3 [] [] [(8,.v (I D)),(9,.v (.bool false)),(10,.v (.bool true))] _ E ⟨(Es E),E⟩ (aD E ?_)
   cases h
   exact JS.ret aA () V E E [] E
  refine aC aA 2 [(37,.v (.bool (decide (b=124))))] ev1 E E ?_
  refine aH E h (fun h=>?_) (fun h=>?_)
  ·
   refine JS.seq (JS.region (aB aA 4 [(W (e - 1))] [] [(40,.v (I (W (e - 1)))),(42,.v (I (a.length:Int)))] _ E ⟨ev5,(Es E),E⟩ ?_))
   refine bnw h fun G H h=>JO.call E E E E (bN (W (e - 1)) (a.length:Int) _ H) E [] E E fun _ _=>aB aA 3 [] [] [(8,.v (I G)),(9,.v (.bool false)),(10,.v (.bool true))] _ E ⟨(Es E),E⟩ (aD E ?_)
   cases h
   exact JS.ret aA () V E E [] E
  refine aC aA 2 [(44,.v (.bool (decide (b=48))))] ev1 E E ?_
  refine aH E h (fun h=>?_) (fun h=>?_)
  ·
   refine aC aA 3 [(8,.v (I 0)),(9,.v (.bool false)),(10,.v (.bool true))] ⟨(Es E),E⟩ E E ?_
   cases h
   exact JS.ret aA () V E E [] E
  refine aC aA 2 [(46,.v (.bool (decide (b=94))))] ev1 E E ?_
  refine aH E h (fun h=>?_) (fun h=>?_)
  ·
   refine aC aA 1 [(11,.v (I 0))] ev1 E E (JS.seq ?_)
   obtain ⟨m,J,h⟩:=aN h
   refine aX (ι:=Int) ⟨fun z=>m z=some r,fun z=>[(11,.v (I z))],fun z=>.nil,fun z=>[],fun z=>[],fun z=>0⟩ ?_ ?_
   ·
    refine JS.loop (ι:=Nat×Int) ⟨fun z=>aW (kT a m) z.1 z.2=some r,fun z=>[(0,.v (sL c a d)),(11,.v (I z.2))],fun z=>.nil,fun z=>[fI c d a],fun z=>[],fun z=>z.1⟩ (bG,0) h (Es E) V [0] E [] E ?_
    rintro ⟨n,g⟩ h
    obtain ⟨n,rfl,h⟩:=bC h
    rw [kT] at h
    refine JS.seq (JS.seq (JS.region (bJ 0 E fun K=>?_)))
    obtain ⟨o,h⟩:=aK h
    refine aB aA 8 [] [] [(52,.v (.bool (decide (g<(a.length:Int))))),(55,.cd [(52,true)] (.ep ⟨c,a.length,d⟩ (Int.toNat g*1)))] _ E ⟨(fun L=>K.ix (o L)),(Es E),E⟩ (JO.load aA E E E E E E E 0 E E (Int.toNat g) 0 (at' a g) (fun M=>⟨bD (o M),E⟩) E E ?_)
    obtain ⟨N,O,-,h⟩:=aY h
    refine bL E E E E (fun P=>aCo (at' a g) _ (O P)) E [] E E (aB aA 2 [] [] [(59,.v (.bool (bif (decide (g<(a.length:Int))) then (decide (N=0)) else false)))] _ E ev1 (aD E ?_))
    refine aH E h (fun h=>?_) (fun h=>?_)
    ·
     refine JS.skip (JS.block (bY aA 3 [(W (g+1))] [] [(11,.v (I (W (g+1))))] _ ev3 E E (aV (bR (n,(W (g+1))) h (Nat.lt_succ_self _) (Es E) V [0] E [] E))))
    refine JS.exit E (aQ g h ev2 V [] E [] E)
   rintro Q h
   subst J
   refine aC aA 4 [(8,.v (I Q)),(9,.v (.bool false)),(10,.v (.bool true))] ⟨(Es E),E⟩ E E ?_
   cases h
   exact JS.ret aA () V E E [] E
  refine aC aA 2 [(63,.v (.bool (decide (b=36))))] ev1 E E ?_
  refine aH E h (fun h=>?_) (fun h=>?_)
  ·
   refine JS.seq (JS.region (aB aA 5 [(W ((a.length:Int) - 1))] [] [(67,.v (I (W ((a.length:Int) - 1)))),(69,.v (I (a.length:Int)))] _ E ⟨ev5,(Es E),E⟩ ?_))
   refine bnw h fun R S h=>JO.call E E E E (bN (W ((a.length:Int) - 1)) (a.length:Int) _ S) E [] E E fun _ _=>aB aA 6 [] [] [(8,.v (I R)),(9,.v (.bool (decide (0<(a.length:Int))))),(10,.v (.bool true))] _ E ⟨(Es E),E⟩ (aD E ?_)
   cases h
   exact JS.ret aA () V E E [] E
  obtain ⟨U,X,h⟩:=aN h
  refine bZ (ι:=Bool) ⟨fun z=>U z=some r,fun z=>[(0,.v (sL c a d)),(1,.v (I f)),(2,.v (I b)),(3,.v (I e)),(74,.v (.bool z))],fun z=>.nil,fun z=>[fI c d a],fun z=>[],fun z=>0⟩ ?_ ?_
  ·
   refine aC aA 2 [(74,.v (.bool (decide (b=119))))] ev1 E E ?_
   refine aH E h (fun h=>?_) (fun h=>?_)
   ·
    refine JS.skip (aQ (decide (b=119)) h (Es E) V [0] E [] E)
   refine aC aA 2 [(74,.v (.bool (decide (b=87))))] ev1 E E ?_
   refine aH E h (fun h=>?_) (fun h=>?_)
   ·
    refine JS.skip (aQ (decide (b=87)) h (Es E) V [0] E [] E)
   refine aC aA 2 [(74,.v (.bool (decide (b=98))))] ev1 E E ?_
   refine aH E h (fun h=>?_) (fun h=>?_)
   ·
    refine JS.skip (aQ (decide (b=98)) h (Es E) V [0] E [] E)
   refine aC aA 2 [(74,.v (.bool (decide (b=66))))] ev1 E E ?_
   refine aH E h (fun h=>?_) (fun h=>?_)
   ·
    refine JS.skip (aQ (decide (b=66)) h (Es E) V [0] E [] E)
   refine aC aA 2 [(74,.v (.bool (decide (b=101))))] ev1 E E ?_
   refine aH E h (fun h=>?_) (fun h=>?_)
   ·
    refine JS.skip (aQ (decide (b=101)) h (Es E) V [0] E [] E)
   refine eR aA 2 [(74,.v (.bool (decide (b=69))))] ev1 E E (aQ (decide (b=69)) h (Es E) V [0] E [] E)
  rintro a3 h
  subst X
  refine aH E h (fun h=>?_) (fun h=>?_)
  ·
   refine JS.seq (aC aA 1 [(12,.v (I 0))] ev1 E E ?_)
   obtain ⟨p,Y,h⟩:=aN h
   refine aX (ι:=Int) ⟨fun z=>p z=some r,fun z=>[(0,.v (sL c a d)),(1,.v (I z)),(2,.v (I b))],fun z=>.nil,fun z=>[fI c d a],fun z=>[],fun z=>0⟩ ?_ ?_
   ·
    refine JS.loop (ι:=Nat×Int×Int) ⟨fun z=>aW (dV a b e p) z.1 z.2=some r,fun z=>[(0,.v (sL c a d)),(1,.v (I z.2.1)),(2,.v (I b)),(3,.v (I e)),(12,.v (I z.2.2))],fun z=>.nil,fun z=>[fI c d a],fun z=>[],fun z=>z.1⟩ (bG,f,0) h (Es E) V [0] E [] E ?_
    rintro ⟨q,l,k⟩ h
    obtain ⟨q,rfl,h⟩:=bC h
    rw [dV] at h
    refine JS.seq (aC aA 3 [(83,.v (.bool (decide (k<e))))] ev1 E E ?_)
    refine aH E h (fun h=>?_) (fun h=>?_)
    ·
     refine JS.skip (JS.seq (JS.block (JS.region (aB aA 3 [] [] [(86,.v (sL c a d)),(87,.v (I l)),(88,.v (I b))] _ E ⟨(Es E),E⟩ ?_))))
     obtain ⟨s,Z,h⟩:=aE h
     refine JO.call E E E E (aJ0 a l b c d _ Z) E [0] E E fun _ _=>aB aA 1 [] [] [(1,.v (I s))] _ E ev1 (aD E (aV (bY aA 3 [(W (k+1))] [] [(12,.v (I (W (k+1))))] _ ev3 E E (bR (q,s,(W (k+1))) h (Nat.lt_succ_self _) (Es E) V [0] E [] E))))
    refine JS.exit E (aQ l h (Es E) V [0] E [] E)
   rintro a0 h
   subst Y
   refine aC aA 15 [(8,.v (I a0)),(9,.v (.bool (bif (bif (decide (b=101)) then true else (decide (b=69))) then (decide (0<(a.length:Int))) else false))),(10,.v (.bool true))] ⟨(Es E),E⟩ E E ?_
   cases h
   exact JS.ret aA () V E E [] E
  refine JS.skip (aV (aQ () h V V [] E [] E))
 rintro _ h
 subst x
 refine aC aA 3 [(8,.v (I 0)),(9,.v (.bool false)),(10,.v (.bool false))] ⟨(Es E),E⟩ E E ?_
 cases h
 exact JS.ret aA () V E E [] E

def fN (a:EdQ) (b:Int):Option (EdQ×Int):= (aF (kQ a) fun c=>(aF (kE a.2.2.1.1 a.2.2.1.2 b c) fun (d,e,h)=>(aF (pZ a d e) fun (f,g)=> some (f,g))))

theorem lX (a:EdQ) (c:Int) (b:P6) (r:EdQ×Int) (h:fN a c=some r):
 FC Tryz.prog 212 [.agg (cD a b).toArray,I c] (bP a b []) (fun _:P6=>True) (fun q=>.tuple #[.agg (aG r.1 q).toArray,I r.2]) (fun q=>(bP r.1 q [])):= by
 refine FC.of (T:=TTx) Tryz.call212 Tryz.func212 E E fun n=>?_
 unfold fN at h
 refine aM aA 3 [] [7,8] [(2,.bp 7 0),(4,.bp 8 0)] (.new 7 46 (aG a b) (.new 8 46 bA .nil)) ⟨(Es E),(Bs E E)⟩ E E (JS.seq ?_)
 obtain ⟨g,i,h⟩:=aE h
 obtain ⟨⟨d,e,o⟩,j,h⟩:=aE h
 refine dF E (by kernel_rfl) (cX aA 8 [] [(12,.v (sL b.1 a.2.2.1.1 b.2.1)),(15,.v (I a.2.2.1.2)),(16,.v (I c)),(17,.v (.agg (aG a b).toArray))] E (Es E) (JQ.call E E E E (pX a b _ i) E [0,1,2,3,4,5] E E (JQ.call E E E E (wH a.2.2.1.1 a.2.2.1.2 c g b.1 b.2.1 _ j) E [0] E E (cX aA 7 [] [(6,.v (I d)),(7,.v (.bool e))] E (Es E) (iN E (JS.seq (JS.region (aB aA 3 [] [] [(23,.v (.agg (aG a b).toArray)),(24,.v (I d)),(25,.v (.bool e))] _ E ⟨(Es E),E⟩ ?_))))))))
 obtain ⟨⟨k,l⟩,m,h⟩:=aE h
 refine JO.call E E E E (aCh a d e b _ m) E [0,1,2,3,4,5] E E fun f _=>aL aA 4 [] [] [(5,.v (I l))] (.new 8 46 (aG k f) .nil) E ⟨ev2,(Bs E E)⟩ (aD E ?_)
 cases h
 exact JS.ret aA f V E E [0,0,0,0,0,0] E

def qU (a:Int×List (List UInt8)):Option Int:= (aF (mL a) fun b=>(bif (bif (!b) then true else (decide ((a.2.length:Int)=0))) then some 0 else some (W ((W (a.1+(a.2.length:Int))) - 1))))

theorem aHz (a:Int×List (List UInt8)) (b:Option Addr) (c:Nat) (r:Int) (h:qU a=some r):
 FC Tryz.prog 80 [.agg #[I a.1,sL b a.2 c]] [⟨.str,⟨b,a.2.length,c⟩,a.2⟩] (fun _:Unit=>True) (fun _=>I r) (fun _=>[]):= by
 refine FC.of (T:=TTx) Tryz.call80 Tryz.func80 E E fun f=>?_
 unfold qU at h
 refine aM aA 2 [] [2] [(1,.bp 2 0)] (.new 2 50 [I a.1,sL b a.2 c] .nil) ⟨ev2,(Bs E E)⟩ E E (JS.seq (JS.seq (JS.region (aB aA 1 [] [] [(3,.v (.agg #[I a.1,sL b a.2 c]))] _ E ev1 ?_))))
 refine bnw h fun d e h=>JO.call E E E E (vQ a b c _ e) E [0] E E fun _ _=>aB aA 7 [] [] [(11,.v (.bool (bif (!d) then true else (decide ((a.2.length:Int)=0)))))] _ E ev1 (aD E ?_)
 refine aH E h (fun h=>?_) (fun h=>?_)
 ·
  refine aC aA 1 [(2,.v (I 0))] ev1 E E ?_
  cases h
  exact JS.ret aA () V E E [] E
 refine JS.skip (gH aA 8 [(W (a.1+(a.2.length:Int))),(W ((W (a.1+(a.2.length:Int))) - 1))] [] [(2,.v (I (W ((W (a.1+(a.2.length:Int))) - 1))))] _ ⟨⟨V,E⟩,⟨V,E⟩,⟨E,V⟩,E⟩ E E ?_)
 cases h
 exact JS.ret aA () V E E [] E

def mM (a:Int×List (List UInt8)) (b:Int):Option (List UInt8×Bool):= (aF (mL a) fun c=>(bif (bif (bif (!c) then true else (decide (b<a.1))) then true else (decide ((a.2.length:Int)≤(W (b - a.1))))) then some ([],false) else (aP (0≤(W (b - a.1))∧(W (b - a.1))<(a.2.length:Int)) <|some ((at' a.2 (W (b - a.1))),true))))

theorem aJ6 (a:Int×List (List UInt8)) (b:Int) (c:Option Addr) (d:Nat) (r:List UInt8×Bool) (h:mM a b=some r):
 FC Tryz.prog 47 [.agg #[I a.1,sL c a.2 d],I b] [⟨.str,⟨c,a.2.length,d⟩,a.2⟩] (fun _:Unit=>True) (fun _=>.tuple #[.string (bs r.1),.bool r.2]) (fun _=>[]):= by
 refine FC.of (T:=TTx) Tryz.call47 Tryz.func47 E E fun j=>?_
 unfold mM at h
 refine aM aA 3 [] [2] [(2,.bp 2 0)] (.new 2 50 [I a.1,sL c a.2 d] .nil) ⟨ev2,(Bs E E)⟩ E E (JS.seq (JS.seq (JS.region (aB aA 1 [] [] [(6,.v (.agg #[I a.1,sL c a.2 d]))] _ E ev1 ?_))))
 refine bnw h fun f g h=>JO.call E E E E (vQ a c d _ g) E [0] E E fun _ _=>aB aA 17 [(W (b - a.1))] [] [(24,.v (.bool (bif (bif (!f) then true else (decide (b<a.1))) then true else (decide ((a.2.length:Int)≤(W (b - a.1)))))))] _ E ⟨(fun k=>ev5),ev2,E⟩ (aD E ?_)
 refine aH E h (fun h=>?_) (fun h=>?_)
 ·
  refine aC aA 2 [(4,.v (.string (bs []))),(5,.v (.bool false))] ⟨(Es E),E⟩ E E ?_
  cases h
  exact JS.ret aA () V E E [] E
 refine JS.skip (JS.seq (JS.region (bJ 0 E fun i=>?_)))
 obtain ⟨e,h⟩:=aK h
 refine aB aA 7 [(W (b - a.1))] [] [(31,.ep ⟨c,a.2.length,d⟩ (Int.toNat (W (b - a.1))*1))] _ E ⟨ev5,i.ix e,ev2,E⟩ (JO.load aA E E E E E E E 0 E E (Int.toNat (W (b - a.1))) 0 (at' a.2 (W (b - a.1))) ⟨bD e,E⟩ E E (aB aA 2 [] [] [(4,.v (.string (bs (at' a.2 (W (b - a.1)))))),(5,.v (.bool true))] _ E ⟨(Es E),E⟩ (aD E ?_)))
 cases h
 exact JS.ret aA () V E E [] E

def oB (a:Int):Option (List UInt8):= (aF (mK a) fun b=>(bif (!b) then some ([]) else (bif decide (a<128) then some ([(u8 (a))]:List UInt8) else (bif decide (a<2048) then some ([(u8 ((W (192+(W (Int.tdiv a 64)))))),(u8 ((W (128+(Int.tmod a 64)))))]:List UInt8) else (bif decide (a<65536) then some ([(u8 ((W (224+(W (Int.tdiv a 4096)))))),(u8 ((W (128+(Int.tmod (W (Int.tdiv a 64)) 64))))),(u8 ((W (128+(Int.tmod a 64)))))]:List UInt8) else some ([(u8 ((W (240+(W (Int.tdiv a 262144)))))),(u8 ((W (128+(Int.tmod (W (Int.tdiv a 4096)) 64))))),(u8 ((W (128+(Int.tmod (W (Int.tdiv a 64)) 64))))),(u8 ((W (128+(Int.tmod a 64)))))]:List UInt8))))))

theorem aF7 (a:Int) (r:List UInt8) (h:oB a=some r) :
 FC Tryz.prog 136 [I a] [] (fun _:Option Addr×Nat=>True) (fun q=>sL q.1 r q.2) (fun q=>[⟨.byte,⟨q.1,r.length,q.2⟩,r⟩]):= by
 refine FC.of (T:=TTx) Tryz.call136 Tryz.func136 E E fun x=>?_
 unfold oB at h
 refine aC aA 1 [] ev5 E E (JS.seq (JS.seq (JS.region (aB aA 1 [] [] [(3,.v (I a))] _ E ev1 ?_))))
 refine bnw h fun f g h=>JO.call E E E E (aD9 a _ g) E [] E E fun _ _=>aB aA 1 [] [] [(5,.v (.bool (!f)))] _ E ev1 (aD E ?_)
 refine aH E h (fun h=>?_) (fun h=>?_)
 ·
  refine aC aA 1 [(2,.v (.slice none 0 0))] ev1 E E ?_
  cases h
  refine aZ .byte Sl.nil E E (JS.ret aA (none,0) V E E [0] E)
 refine JS.skip (JS.seq (aC aA 2 [(7,.v (.bool (decide (a<128))))] ev1 E E ?_))
 refine aH E h (fun h=>?_) (fun h=>?_)
 ·
  refine JS.seq (JS.region (aB aA 2 [((u8 (a)).toNat:Int)] [] [(9,.v (.int .u8 ((u8 (a)).toNat:Int)))] _ E ⟨⟨V,fJ _⟩,ev2,E⟩ ?_))
  refine iY E (JK.buildSlice aA E E E E E E E E E E E [] E .byte [(u8 (a))] ev9 E E fun b=>iX ?_)
  refine aB aA 1 [] [] [(2,.v (sL b ([(u8 (a))]:List UInt8) ([(u8 (a))]:List UInt8).length))] _ E ev1 (aD E ?_)
  cases h
  exact JS.ret aA (b,([(u8 (a))]:List UInt8).length) V E E [0] E
 refine JS.skip (JS.seq (aC aA 2 [(12,.v (.bool (decide (a<2048))))] ev1 E E ?_))
 refine aH E h (fun h=>?_) (fun h=>?_)
 ·
  refine JS.seq (JS.region ?_)
  have i:(64:Int)≠0:=by decide
  have j:(64:Int)≠0:=by decide
  refine aB aA 8 [(W (Int.tdiv a 64)),(W (192+(W (Int.tdiv a 64)))),((u8 ((W (192+(W (Int.tdiv a 64)))))).toNat:Int),(W (128+(Int.tmod a 64))),((u8 ((W (128+(Int.tmod a 64))))).toNat:Int)] [] [(16,.v (.int .u8 ((u8 ((W (192+(W (Int.tdiv a 64)))))).toNat:Int))),(20,.v (.int .u8 ((u8 ((W (128+(Int.tmod a 64))))).toNat:Int)))] _ E ⟨⟨i,E⟩,ev5,⟨V,fJ _⟩,j,ev5,⟨V,fJ _⟩,(Es E),E⟩ ?_
  refine iY E (JK.buildSlice aA E E E E E E E E E E E [] E .byte [(u8 ((W (192+(W (Int.tdiv a 64)))))),(u8 ((W (128+(Int.tmod a 64)))))] ev9 E E fun c=>iX ?_)
  refine aB aA 1 [] [] [(2,.v (sL c ([(u8 ((W (192+(W (Int.tdiv a 64)))))),(u8 ((W (128+(Int.tmod a 64)))))]:List UInt8) ([(u8 ((W (192+(W (Int.tdiv a 64)))))),(u8 ((W (128+(Int.tmod a 64)))))]:List UInt8).length))] _ E ev1 (aD E ?_)
  cases h
  exact JS.ret aA (c,([(u8 ((W (192+(W (Int.tdiv a 64)))))),(u8 ((W (128+(Int.tmod a 64)))))]:List UInt8).length) V E E [0] E
 refine JS.skip (JS.seq (aC aA 2 [(23,.v (.bool (decide (a<65536))))] ev1 E E ?_))
 refine aH E h (fun h=>?_) (fun h=>?_)
 ·
  refine JS.seq (JS.region ?_)
  have k:(4096:Int)≠0:=by decide
  have l:(64:Int)≠0:=by decide
  have m:(64:Int)≠0:=by decide
  have n:(64:Int)≠0:=by decide
  refine aB aA 13 [(W (Int.tdiv a 4096)),(W (224+(W (Int.tdiv a 4096)))),((u8 ((W (224+(W (Int.tdiv a 4096)))))).toNat:Int),(W (Int.tdiv a 64)),(W (128+(Int.tmod (W (Int.tdiv a 64)) 64))),((u8 ((W (128+(Int.tmod (W (Int.tdiv a 64)) 64))))).toNat:Int),(W (128+(Int.tmod a 64))),((u8 ((W (128+(Int.tmod a 64))))).toNat:Int)] [] [(27,.v (.int .u8 ((u8 ((W (224+(W (Int.tdiv a 4096)))))).toNat:Int))),(32,.v (.int .u8 ((u8 ((W (128+(Int.tmod (W (Int.tdiv a 64)) 64))))).toNat:Int))),(36,.v (.int .u8 ((u8 ((W (128+(Int.tmod a 64))))).toNat:Int)))] _ E ⟨⟨k,E⟩,ev5,⟨V,fJ _⟩,⟨l,E⟩,m,ev5,⟨V,fJ _⟩,n,ev5,⟨V,fJ _⟩,(Es E),E⟩ ?_
  refine iY E (JK.buildSlice aA E E E E E E E E E E E [] E .byte [(u8 ((W (224+(W (Int.tdiv a 4096)))))),(u8 ((W (128+(Int.tmod (W (Int.tdiv a 64)) 64))))),(u8 ((W (128+(Int.tmod a 64)))))] ev9 E E fun d=>iX ?_)
  refine aB aA 1 [] [] [(2,.v (sL d ([(u8 ((W (224+(W (Int.tdiv a 4096)))))),(u8 ((W (128+(Int.tmod (W (Int.tdiv a 64)) 64))))),(u8 ((W (128+(Int.tmod a 64)))))]:List UInt8) ([(u8 ((W (224+(W (Int.tdiv a 4096)))))),(u8 ((W (128+(Int.tmod (W (Int.tdiv a 64)) 64))))),(u8 ((W (128+(Int.tmod a 64)))))]:List UInt8).length))] _ E ev1 (aD E ?_)
  cases h
  exact JS.ret aA (d,([(u8 ((W (224+(W (Int.tdiv a 4096)))))),(u8 ((W (128+(Int.tmod (W (Int.tdiv a 64)) 64))))),(u8 ((W (128+(Int.tmod a 64)))))]:List UInt8).length) V E E [0] E
 refine JS.skip (JS.seq (JS.region ?_))
 have o:(262144:Int)≠0:=by decide
 have p:(4096:Int)≠0:=by decide
 have s:(64:Int)≠0:=by decide
 have t:(64:Int)≠0:=by decide
 have u:(64:Int)≠0:=by decide
 have w:(64:Int)≠0:=by decide
 refine aB aA 18 [(W (Int.tdiv a 262144)),(W (240+(W (Int.tdiv a 262144)))),((u8 ((W (240+(W (Int.tdiv a 262144)))))).toNat:Int),(W (Int.tdiv a 4096)),(W (128+(Int.tmod (W (Int.tdiv a 4096)) 64))),((u8 ((W (128+(Int.tmod (W (Int.tdiv a 4096)) 64))))).toNat:Int),(W (Int.tdiv a 64)),(W (128+(Int.tmod (W (Int.tdiv a 64)) 64))),((u8 ((W (128+(Int.tmod (W (Int.tdiv a 64)) 64))))).toNat:Int),(W (128+(Int.tmod a 64))),((u8 ((W (128+(Int.tmod a 64))))).toNat:Int)] [] [(41,.v (.int .u8 ((u8 ((W (240+(W (Int.tdiv a 262144)))))).toNat:Int))),(46,.v (.int .u8 ((u8 ((W (128+(Int.tmod (W (Int.tdiv a 4096)) 64))))).toNat:Int))),(51,.v (.int .u8 ((u8 ((W (128+(Int.tmod (W (Int.tdiv a 64)) 64))))).toNat:Int))),(55,.v (.int .u8 ((u8 ((W (128+(Int.tmod a 64))))).toNat:Int)))] _ E ⟨⟨o,E⟩,ev5,⟨V,fJ _⟩,⟨p,E⟩,s,ev5,⟨V,fJ _⟩,⟨t,E⟩,u,ev5,⟨V,fJ _⟩,w,ev5,⟨V,fJ _⟩,(Es E),E⟩ ?_
 refine iY E (JK.buildSlice aA E E E E E E E E E E E [] E .byte [(u8 ((W (240+(W (Int.tdiv a 262144)))))),(u8 ((W (128+(Int.tmod (W (Int.tdiv a 4096)) 64))))),(u8 ((W (128+(Int.tmod (W (Int.tdiv a 64)) 64))))),(u8 ((W (128+(Int.tmod a 64)))))] ev9 E E fun e=>iX ?_)
 refine aB aA 1 [] [] [(2,.v (sL e ([(u8 ((W (240+(W (Int.tdiv a 262144)))))),(u8 ((W (128+(Int.tmod (W (Int.tdiv a 4096)) 64))))),(u8 ((W (128+(Int.tmod (W (Int.tdiv a 64)) 64))))),(u8 ((W (128+(Int.tmod a 64)))))]:List UInt8) ([(u8 ((W (240+(W (Int.tdiv a 262144)))))),(u8 ((W (128+(Int.tmod (W (Int.tdiv a 4096)) 64))))),(u8 ((W (128+(Int.tmod (W (Int.tdiv a 64)) 64))))),(u8 ((W (128+(Int.tmod a 64)))))]:List UInt8).length))] _ E ev1 (aD E ?_)
 cases h
 exact JS.ret aA (e,([(u8 ((W (240+(W (Int.tdiv a 262144)))))),(u8 ((W (128+(Int.tmod (W (Int.tdiv a 4096)) 64))))),(u8 ((W (128+(Int.tmod (W (Int.tdiv a 64)) 64))))),(u8 ((W (128+(Int.tmod a 64)))))]:List UInt8).length) V E E [0] E

def eW (c:List UInt8) (b:Int) (e:Int) (f:Int→Option (Int×Int)) (g:(Int×Int)→Option (Int×Int)):(Int×Int)→Option (Int×Int):=fun (d,a)=>(bif decide (a<e) then (aP (0≤(W (b+a))∧(W (b+a))<(c.length:Int)) <|g ((W ((W ((W (d*64))+((at' c (W (b+a))).toNat:Int))) - 128)),(W (a+1)))) else f d)

def gB (c:List UInt8) (b:Int) (g:Unit→Option (Int×Int)) (h:Int→Option (Int×Int)):Int→Option (Int×Int):=fun a=>(bif (bif decide (a≤4) then (decide (a≤(W ((c.length:Int) - b)))) else false) then (aS (fun (_:Unit)=> h (W (a+1))) fun i=>(aP (0≤b∧b<(c.length:Int)) <|(aS (fun (j:Int)=>(aS (fun (e:Int)=>(aF (oB e) fun d=>(aP (((decide ((d.length:Int)=a))=true)→0≤b∧b≤(W (b+a))∧(W (b+a))≤(c.length:Int)) <|(bif (bif decide ((d.length:Int)=a) then (decide (d=(bU c b (W (b+a))))) else false) then some (e,a) else i ())))) fun k=>(aW (eW c b a k) bG (j,1)))) fun f=>(bif decide (1<a) then (aP (0≤a∧a<(([0,0,192,224,240]:List Int).length:Int)) <|f (W (((at' c b).toNat:Int) - (at' ([0,0,192,224,240]:List Int) a)))) else f ((at' c b).toNat:Int))))) else g ())

def qS (b:List UInt8) (a:Int):Option (Int×Int):= (bif (bif decide (a<0) then true else (decide ((b.length:Int)≤a))) then some (0,0) else (aS (fun (_:Unit)=> some (0,0)) fun c=>(aW (gB b a c) bG 1)))

theorem aHx (a:List UInt8) (b:Int) (d:Option Addr) (e:Nat) (r:Int×Int) (h:qS a b=some r):
 FC Tryz.prog 231 [sL d a e,I b] [⟨.byte,⟨d,a.length,e⟩,a⟩] (fun _:Unit=>True) (fun _=>.tuple #[I r.1,I r.2]) (fun _=>[]):= by
 refine FC.of (T:=TTx) Tryz.call231 Tryz.func231 E E fun O=>?_
 unfold qS at h
 refine aC aA 2 [] ev5 E E (JS.seq (aC aA 8 [(17,.v (.bool (bif (decide (b<0)) then true else (decide ((a.length:Int)≤b)))))] ev1 E E ?_))
 refine aH E h (fun h=>?_) (fun h=>?_)
 ·
  refine aC aA 2 [(4,.v (I 0)),(5,.v (I 0))] ⟨(Es E),E⟩ E E ?_
  cases h
  exact JS.ret aA () V E E [] E
 refine JS.skip (JS.seq (aC aA 1 [(6,.v (I 1))] ev1 E E ?_))
 obtain ⟨m,x,h⟩:=aN h
 refine aX (ι:=Unit) ⟨fun _=>m ()=some r,fun _=>[],fun _=>.nil,fun _=>[],fun _=>[],fun _=>0⟩ ?_ ?_
 ·
  refine JS.loop (ι:=Nat×Int) ⟨fun z=>aW (gB a b m) z.1 z.2=some r,fun z=>[(0,.v (sL d a e)),(1,.v (I b)),(6,.v (I z.2))],fun z=>.nil,fun z=>[⟨.byte,⟨d,a.length,e⟩,a⟩],fun z=>[],fun z=>z.1⟩ (bG,1) h (Es E) V [0] E [] E ?_
  rintro ⟨n,c⟩ h
  obtain ⟨n,rfl,h⟩:=bC h
  rw [gB] at h
  refine JS.seq (gH aA 10 [(W ((a.length:Int) - b))] [] [(27,.v (.bool (bif (decide (c≤4)) then (decide (c≤(W ((a.length:Int) - b)))) else false)))] _ ⟨(fun P=>ev5),ev2,E⟩ E E ?_)
  refine aH E h (fun h=>?_) (fun h=>?_)
  ·
   refine JS.skip (JS.seq ?_)
   obtain ⟨y,A,h⟩:=aN h
   refine aX (ι:=Unit) ⟨fun _=>y ()=some r,fun _=>[(0,.v (sL d a e)),(1,.v (I b)),(6,.v (I c))],fun _=>.nil,fun _=>[⟨.byte,⟨d,a.length,e⟩,a⟩],fun _=>[],fun _=>0⟩ ?_ ?_
   ·
    refine JS.seq (JS.region (bJ 0 E fun B=>?_))
    obtain ⟨o,h⟩:=aK h
    refine aB aA 3 [] [] [(32,.ep ⟨d,a.length,e⟩ (Int.toNat b*1))] _ E ⟨B.ix o,ev2,E⟩ (JO.load aA E E E E E E E 0 E E (Int.toNat b) 0 (at' a b) ⟨bD o,E⟩ E E (aB aA 2 [((at' a b).toNat:Int)] [] [(7,.v (I ((at' a b).toNat:Int)))] _ E ⟨⟨V,aHc _⟩,ev2,E⟩ (aD E ?_)))
    obtain ⟨C,D,h⟩:=aN h
    refine bZ (ι:=Int) ⟨fun z=>C z=some r,fun z=>[(0,.v (sL d a e)),(1,.v (I b)),(6,.v (I c)),(7,.v (I z))],fun z=>.nil,fun z=>[⟨.byte,⟨d,a.length,e⟩,a⟩],fun z=>[],fun z=>0⟩ ?_ ?_
    ·
     refine aC aA 2 [(36,.v (.bool (decide (1<c))))] ev1 E E ?_
     refine aH E h (fun h=>?_) (fun h=>?_)
     ·
      refine JS.region (aB aA 1 [] [] [(37,.v (I ((at' a b).toNat:Int)))] _ E ev1 ?_)
      refine iY E (JK.buildSlice aA E E E E E E E E E E E [] E iT [0,0,192,224,240] ev9 E E fun F=>iX ?_)
      refine bJ 1 E fun G=>?_
      obtain ⟨p,h⟩:=aK h
      refine aB aA 2 [] [] [(40,.ep ⟨F,([0,0,192,224,240]:List Int).length,([0,0,192,224,240]:List Int).length⟩ (Int.toNat c*1))] _ E ⟨G.ix p,ev2,E⟩ (JO.load aA E E E E E E E 1 E E (Int.toNat c) 0 (at' ([0,0,192,224,240]:List Int) c) ⟨bD p,E⟩ E E (aB aA 2 [(W (((at' a b).toNat:Int) - (at' ([0,0,192,224,240]:List Int) c)))] [] [(7,.v (I (W (((at' a b).toNat:Int) - (at' ([0,0,192,224,240]:List Int) c)))))] _ E ev3 (aD E (aQ (W (((at' a b).toNat:Int) - (at' ([0,0,192,224,240]:List Int) c))) h (Es E) V [0] E [] E))))
     refine JS.skip (aQ ((at' a b).toNat:Int) h (Es E) V [0] E [] E)
    rintro H h
    subst D
    refine JS.seq (aC aA 1 [(8,.v (I 1))] ev1 E E ?_)
    obtain ⟨q,J,h⟩:=aN h
    refine aX (ι:=Int) ⟨fun z=>q z=some r,fun z=>[(0,.v (sL d a e)),(1,.v (I b)),(6,.v (I c)),(7,.v (I z))],fun z=>.nil,fun z=>[⟨.byte,⟨d,a.length,e⟩,a⟩],fun z=>[],fun z=>0⟩ ?_ ?_
    ·
     refine JS.loop (ι:=Nat×Int×Int) ⟨fun z=>aW (eW a b c q) z.1 z.2=some r,fun z=>[(0,.v (sL d a e)),(1,.v (I b)),(6,.v (I c)),(7,.v (I z.2.1)),(8,.v (I z.2.2))],fun z=>.nil,fun z=>[⟨.byte,⟨d,a.length,e⟩,a⟩],fun z=>[],fun z=>z.1⟩ (bG,H,1) h (Es E) V [0] E [] E ?_
     rintro ⟨s,g,f⟩ h
     obtain ⟨s,rfl,h⟩:=bC h
     rw [eW] at h
     refine JS.seq (aC aA 3 [(45,.v (.bool (decide (f<c))))] ev1 E E ?_)
     refine aH E h (fun h=>?_) (fun h=>?_)
     ·
      refine JS.skip (JS.seq (JS.block (JS.region (bJ 0 E fun K=>?_))))
      obtain ⟨t,h⟩:=aK h
      refine aB aA 7 [(W (g*64)),(W (b+f))] [] [(49,.v (I (W (g*64)))),(54,.ep ⟨d,a.length,e⟩ (Int.toNat (W (b+f))*1))] _ E ⟨ev5,ev5,K.ix t,(Es E),E⟩ (JO.load aA E E E E E E E 0 E E (Int.toNat (W (b+f))) 0 (at' a (W (b+f))) ⟨bD t,E⟩ E E (aB aA 4 [((at' a (W (b+f))).toNat:Int),(W ((W (g*64))+((at' a (W (b+f))).toNat:Int))),(W ((W ((W (g*64))+((at' a (W (b+f))).toNat:Int))) - 128))] [] [(7,.v (I (W ((W ((W (g*64))+((at' a (W (b+f))).toNat:Int))) - 128))))] _ E ⟨⟨V,aHc _⟩,ev5,ev5,ev2,E⟩ (aD E (aV (bY aA 3 [(W (f+1))] [] [(8,.v (I (W (f+1))))] _ ev3 E E (bR (s,(W ((W ((W (g*64))+((at' a (W (b+f))).toNat:Int))) - 128)),(W (f+1))) h (Nat.lt_succ_self _) (Es E) V [0] E [] E))))))
     refine JS.exit E (aQ g h (Es E) V [0] E [] E)
    rintro l h
    subst J
    refine JS.seq (JS.region (aB aA 1 [] [] [(59,.v (I l))] _ E ev1 ?_))
    refine bnw h fun i L h=>JO.call E E E E (aF7 l _ L) E [] E E ?_
    rintro ⟨u,w⟩ -
    refine aB aA 1 [] [] [(9,.v (sL u i w))] _ E ev1 (aD E (JS.seq ?_))
    obtain ⟨j,h⟩:=aK h
    refine oX 0 E b (W (b+c)) fun Q R M=>cV 1 E fun N=>?_
    refine bF E .nil [2,0] [14,15] V E (fun S=>?_)
    refine bX aA aJ true 5 [0,1,2,3,4,5,7,8,9,10,11] E (by kernel_rfl) [(W (b+c))] [(65,.v (.bool (decide ((i.length:Int)=c)))),(66,.cd [(65,true)] (.v (sL u i w))),(68,.cd [(65,true)] (.v (sL d a e))),(69,.cd [(65,true)] (.v (I b))),(72,.cd [(65,true)] (.v (I (W (b+c)))))] V [2,0] E E ⟨(fun U=>ev5),(Es E)⟩ (aHh aA aJ 6 E (by kernel_rfl) E E E E E E E 0 E E V [2,0] E (gN aA aJ 12 E (by kernel_rfl) E E E E E E b (W (b+c)) E E (fun k=>⟨(j k).1,(j k).2.1,(j k).2.2,N.cap,M (j k)⟩) E (aHh aA aJ 13 E (by kernel_rfl) E E E E E E E 1 E E V [2,0] E (aT aA aJ 0 [14,15] E (by kernel_rfl) [] [(76,.v (.bool (bif (decide ((i.length:Int)=c)) then (decide (i=(bU a b (W (b+c))))) else false)))] E ev2 (bM (by kernel_rfl) (bE (B':=.nil) V ?_))))))
    refine aH E h (fun h=>?_) (fun h=>?_)
    ·
     refine aC aA 4 [(4,.v (I l)),(5,.v (I c))] ⟨(Es E),E⟩ E E ?_
     cases h
     exact JS.ret aA () V E E [] E
    refine JS.skip (aV (aQ () h (Es E) V [1] E [] E))
   rintro _ h
   subst A
   refine bY aA 3 [(W (c+1))] [] [(6,.v (I (W (c+1))))] _ ev3 E E (bR (n,(W (c+1))) h (Nat.lt_succ_self _) (Es E) V [0] E [] E)
  refine JS.exit E (aQ () h V V [] E [] E)
 rintro _ h
 subst x
 refine aC aA 2 [(4,.v (I 0)),(5,.v (I 0))] ⟨(Es E),E⟩ E E ?_
 cases h
 exact JS.ret aA () V E E [] E

def jH (c:List UInt8) (f:(List Int)→Option (List Int×Bool)) (g:(List Int×Int)→Option (List Int×Bool)):(List Int×Int)→Option (List Int×Bool):=fun (a,b)=>(bif decide (b<(c.length:Int)) then (aF (qS c b) fun (d,e)=>(bif decide (e=0) then some ([],false) else (aP (a.length+([d]:List Int).length≤536870912) <|g ((a ++ ([d]:List Int)),(W (b+e)))))) else f a)

def sW (a:List UInt8):Option (List Int×Bool):= (bif decide (65536<(a.length:Int)) then some ([],false) else (aS (fun (b:List Int)=> some (b,true)) fun c=>(aW (jH a c) bG (([]:List Int),0))))

theorem aJ4 (a:List UInt8) (r:List Int×Bool) (h:sW a=some r) :
 FC Tryz.prog 134 [.string (bs a)] [] (fun _:Option Addr×Nat=>True) (fun q=>.tuple #[sL q.1 r.1 q.2,.bool r.2]) (fun q=>[fI q.1 q.2 r.1]):= by
 refine FC.of (T:=TTx) Tryz.call134 Tryz.func134 E E fun y=>?_
 unfold sW at h
 refine aC aA 2 [] ev5 E E (JS.seq (aC aA 3 [(11,.v (.bool (decide (65536<(a.length:Int)))))] ev1 E E ?_))
 refine aH E h (fun h=>?_) (fun h=>?_)
 ·
  refine aC aA 2 [(2,.v (.slice none 0 0)),(3,.v (.bool false))] ⟨(Es E),E⟩ E E ?_
  cases h
  refine aZ iT Sl.nil E E (JS.ret aA (none,0) V E E [0] E)
 refine JS.skip (JS.seq (JS.region (aB aA 1 [] [] [(12,.v (.string (bs a)))] _ E ev1 (aHf aA E E E E E E E E E fun c d=>aB aA 1 [] [] [(4,.v (sL c a d))] _ E ev1 (aD E (JS.seq (JS.region ?_)))))))
 refine iY E (JK.buildSlice aA E E E E E E E E E E E [] E iT [] ev9 E E fun i=>iX ?_)
 refine aB aA 1 [] [] [(5,.v (sL i ([]:List Int) ([]:List Int).length))] _ E ev1 (aD E (aC aA 1 [(6,.v (I 0))] ev1 E E (JS.seq ?_)))
 obtain ⟨j,t,h⟩:=aN h
 refine aX (ι:=List Int×Option Addr×Nat) ⟨fun z=>j z.1=some r,fun z=>[(5,.v (sL z.2.1 z.1 z.2.2))],fun z=>.nil,fun z=>[],fun z=>[fI z.2.1 z.2.2 z.1],fun z=>0⟩ ?_ ?_
 ·
  refine JS.loop (ι:=Nat×List Int×Int×Option Addr×Nat) ⟨fun z=>aW (jH a j) z.1 (z.2.1,z.2.2.1)=some r,fun z=>[(4,.v (sL c a d)),(5,.v (sL z.2.2.2.1 z.2.1 (Q4 z))),(6,.v (I z.2.2.1))],fun z=>.nil,fun z=>[],fun z=>[fI z.2.2.2.1 (Q4 z) z.2.1,⟨.byte,⟨c,a.length,d⟩,a⟩],fun z=>z.1⟩ (bG,([]:List Int),0,i,([]:List Int).length) h (Es E) V [] E [0,0] E ?_
  rintro ⟨k,g,b,l,m⟩ h
  obtain ⟨k,rfl,h⟩:=bC h
  rw [jH] at h
  refine JS.seq (aC aA 4 [(18,.v (.bool (decide (b<(a.length:Int)))))] ev1 E E ?_)
  refine aH E h (fun h=>?_) (fun h=>?_)
  ·
   refine JS.skip (JS.block (JS.seq (JS.region (aB aA 2 [] [] [(20,.v (sL c a d)),(21,.v (I b))] _ E ⟨(Es E),E⟩ ?_))))
   obtain ⟨⟨e,f⟩,u,h⟩:=aE h
   refine JO.call E E E E (aHx a b c d _ u) E [1] E E fun _ _=>aB aA 5 [] [] [(7,.v (I e)),(8,.v (I f))] _ E ⟨(Es E),E⟩ (aD E (JS.seq (aC aA 2 [(26,.v (.bool (decide (f=0))))] ev1 E E ?_)))
   refine aH E h (fun h=>?_) (fun h=>?_)
   ·
    refine aC aA 2 [(2,.v (.slice none 0 0)),(3,.v (.bool false))] ⟨(Es E),E⟩ E E ?_
    cases h
    refine aZ iT Sl.nil E E (JS.ret aA (none,0) V E E [0] E)
   refine JS.skip (JS.seq (JS.region (aB aA 2 [] [] [(27,.v (sL l g m)),(28,.v (I e))] _ E ⟨(Es E),E⟩ ?_)))
   refine iY E (JK.buildSlice aA E E E E E E E E E E E [] E iT [e] ev9 E E fun A=>iX ?_)
   obtain ⟨w,h⟩:=aK h
   refine fU aA E E E E ⟨E,E,E,E,V,E,E,E,E⟩ E E E [1] E 0 E w E fun n o=>aB aA 1 [] [] [(5,.v (sL n (g ++ ([e]:List Int)) o))] _ E ev1 (aD E (bY aA 4 [(W (b+f))] [] [(6,.v (I (W (b+f))))] _ ev3 E E (aV (bR (k,(g ++ ([e]:List Int)),(W (b+f)),n,o) h (Nat.lt_succ_self _) (Es E) V [] E [0,1] E))))
  refine JS.exit E (aQ (g,l,m) h ev2 V [] E [0] E)
 rintro ⟨x,p,s⟩ h
 subst t
 refine aC aA 3 [(2,.v (sL p x s)),(3,.v (.bool true))] ⟨(Es E),E⟩ E E ?_
 cases h
 exact JS.ret aA (p,s) V E E [0] E

def uX (b:List UInt8):Option ((List Int×Int)×Bool):= (aF (sW b) fun (a,c)=>(aF (nN (a,(a.length:Int)) c) fun (d,e)=> some (d,e)))

theorem aL9 (b:List UInt8) (r:(List Int×Int)×Bool) (h:uX b=some r) :
 FC Tryz.prog 48 [.string (bs b)] [] (fun _:Option Addr×Nat=>True) (fun q=>.tuple #[.agg #[sL q.1 r.1.1 q.2,I r.1.2],.bool r.2]) (fun q=>[fI q.1 q.2 r.1.1]):= by
 refine FC.of (T:=TTx) Tryz.call48 Tryz.func48 E E fun m=>?_
 unfold uX at h
 refine aM aA 2 [] [1] [(2,.bp 1 0)] (.new 1 38 [.slice none 0 0,I 0] .nil) ⟨ev2,(Bs E E)⟩ E E (JS.seq (JS.region (aB aA 1 [] [] [(7,.v (.string (bs b)))] _ E ev1 ?_)))
 obtain ⟨⟨a,c⟩,j,h⟩:=aE h
 refine JO.call E E E E (aJ4 b _ j) E [] E E ?_
 rintro ⟨d,e⟩ -
 refine aB aA 5 [] [] [(4,.v (sL d a e)),(5,.v (.bool c))] _ E ⟨(Es E),E⟩ (aD E (JS.seq (JS.region (aB aA 5 [] [] [(14,.v (.agg #[sL d a e,I (a.length:Int)])),(15,.v (.bool c))] _ E ⟨(Es E),E⟩ ?_))))
 obtain ⟨⟨f,k⟩,l,h⟩:=aE h
 refine eS E E E E (aBw (a,(a.length:Int)) c d e _ l) E [0] E [] E E ?_
 rintro ⟨g,i⟩ -
 refine aL aA 4 [] [] [(3,.v (.bool k))] (.new 1 38 [sL g f.1 i,I f.2] .nil) E ⟨ev2,(Bs E E)⟩ (aD E ?_)
 cases h
 exact JS.ret aA (g,i) V E E [0] E

def rV (d:EdQ) (g:Int×List (List UInt8)) (e:Int):Option (EdQ×Bool):= (aF (oF d) fun o=>(bif (bif (!o) then true else (bif (!(decide (e=1))) then (!(decide (e=(-1)))) else false)) then some ((false,0,([],0),0,0,0,0,0,0,0,[],[],0,([],0),[],0,([],0)),false) else (aF (qU g) fun h=>(aS (fun (f:Int)=>(aF (cA d) fun c=>(aF (eD c) fun a=>(bif (bif (bif (!(decide (d.2.2.2.2.2.2.2.2.2.2.2.2.1=0))) then (decide (e=1)) else false) then (decide ((W (f+e))=(W (h+1)))) else false) then (aF (dD d.2.2.2.2.2.2.2.2.2.2.2.2.2.1) fun i=>(aF (mH (a.1,a.2.1,i,a.2.2.2.1,a.2.2.2.2.1,a.2.2.2.2.2.1,a.2.2.2.2.2.2.1,a.2.2.2.2.2.2.2.1,a.2.2.2.2.2.2.2.2.1,0,c.2.2.2.2.2.2.2.2.2.2.1,([]:List (List Int×Int)),0,(([]:List Int),0),c.2.2.2.2.2.2.2.2.2.2.2.2.2.2.1,a.2.2.2.2.2.2.2.2.2.2.2.2.2.2.2.1,(c.2.2.2.2.2.2.2.2.2.2.2.2.2.2.2.2.1,a.2.2.2.2.2.2.2.2.2.2.2.2.2.2.2.2.2))) fun b=> some ((b.1,b.2.1,(i.1,b.2.2.1.2),b.2.2.2.1,b.2.2.2.2.1,b.2.2.2.2.2.1,b.2.2.2.2.2.2.1,b.2.2.2.2.2.2.2.1,b.2.2.2.2.2.2.2.2.1,b.2.2.2.2.2.2.2.2.2.1,c.2.2.2.2.2.2.2.2.2.2.1,[],b.2.2.2.2.2.2.2.2.2.2.2.2.1,([],b.2.2.2.2.2.2.2.2.2.2.2.2.2.1.2),c.2.2.2.2.2.2.2.2.2.2.2.2.2.2.1,b.2.2.2.2.2.2.2.2.2.2.2.2.2.2.2.1,(c.2.2.2.2.2.2.2.2.2.2.2.2.2.2.2.2.1,b.2.2.2.2.2.2.2.2.2.2.2.2.2.2.2.2.2)),true))) else (aF (mM g (W (f+e))) fun (p,q)=>(aF (uX p) fun (j,r)=>(bif (bif (!q) then true else (!r)) then some ((false,0,([],0),0,0,0,0,0,0,0,[],[],0,([],0),[],0,([],0)),false) else (aS (fun ((s,t):List Int×Int)=>(aS (fun (u:Int)=> some ((a.1,a.2.1,(j.1,u),a.2.2.2.1,a.2.2.2.2.1,a.2.2.2.2.2.1,a.2.2.2.2.2.2.1,a.2.2.2.2.2.2.2.1,a.2.2.2.2.2.2.2.2.1,0,c.2.2.2.2.2.2.2.2.2.2.1,[],(W (f+e)),(s,t),c.2.2.2.2.2.2.2.2.2.2.2.2.2.2.1,a.2.2.2.2.2.2.2.2.2.2.2.2.2.2.2.1,(c.2.2.2.2.2.2.2.2.2.2.2.2.2.2.2.2.1,a.2.2.2.2.2.2.2.2.2.2.2.2.2.2.2.2.2)),true)) fun k=>(bif decide (d.2.1=2) then k 0 else k j.2))) fun l=>(bif decide (d.2.2.2.2.2.2.2.2.2.2.2.2.1=0) then (aF (dD d.2.2.1) fun m=> l (m.1,m.2)) else l (c.2.2.2.2.2.2.2.2.2.2.2.2.2.1.1,a.2.2.2.2.2.2.2.2.2.2.2.2.2.1.2)))))))))) fun n=>(bif decide (d.2.2.2.2.2.2.2.2.2.2.2.2.1=0) then n (W (h+1)) else n d.2.2.2.2.2.2.2.2.2.2.2.2.1)))))

theorem aMa (d:EdQ) (f:Int×List (List UInt8)) (g:Int) (e:P6) (k:Option Addr) (l:Nat) (r:EdQ×Bool) (h:rV d f g=some r):
 FC Tryz.prog 243 [.agg (cD d e).toArray,.agg #[I f.1,sL k f.2 l],I g] (bP d e [⟨.str,⟨k,f.2.length,l⟩,f.2⟩]) (fun _:Option Addr×Nat×Option Addr×Nat×Option Addr×Nat×Option Addr×Nat×Option Addr×Nat=>True) (fun q=>.tuple #[.agg (aG (U11 r.1 []) (q.1,q.2.1,q.2.2.1,q.2.2.2.1,none,0,(Q4 q))).toArray,.bool r.2]) (fun q=>[fI q.1 q.2.1 r.1.2.2.1.1,⟨(.sl iT),⟨q.2.2.1,r.1.2.2.2.2.2.2.2.2.2.2.1.length,q.2.2.2.1⟩,r.1.2.2.2.2.2.2.2.2.2.2.1⟩,fI (Q4 q).1 (Q4 q).2.1 r.1.2.2.2.2.2.2.2.2.2.2.2.2.2.1.1,fI (Q4 q).2.2.1 (Q4 q).2.2.2.1 r.1.2.2.2.2.2.2.2.2.2.2.2.2.2.2.1,fI (Q8 q).1 (Q8 q).2 r.1.2.2.2.2.2.2.2.2.2.2.2.2.2.2.2.2.1]):= by
 refine FC.of (T:=TTx) Tryz.call243 Tryz.func243 E E fun w0=>?_
 unfold rV at h
 refine aM aA 4 [] [8,9,10] [(3,.bp 8 0),(4,.bp 9 0),(6,.bp 10 0)] (.new 8 46 (aG d e) (.new 9 50 [I f.1,sL k f.2 l] (.new 10 46 bA .nil))) ⟨(Es E),(Bs E E)⟩ E E (JS.seq (JS.seq (JS.region (aB aA 1 [] [] [(15,.v (.agg (aG d e).toArray))] _ E ev1 ?_))))
 refine bnw h fun K L h=>JO.call E E E E (wX d e _ L) E [0,1,2,3,4,5] E E fun _ _=>aB aA 9 [] [] [(25,.v (.bool (bif (!K) then true else (bif (!(decide (g=1))) then (!(decide (g=(-1)))) else false))))] _ E ev1 (aD E ?_)
 refine aH E h (fun h=>?_) (fun h=>?_)
 ·
  refine aM aA 3 [] [] [(7,.v (.bool false))] (.new 10 46 bA .nil) ⟨ev2,(Bs E E)⟩ E E ?_
  cases h
  refine aZ iT Sl.nil E E (aZ (.sl iT) Sl.nil E E (aZ iT Sl.nil E E (aZ iT Sl.nil E E (aZ iT Sl.nil E E (JS.ret aA (none,0,none,0,none,0,none,0,none,0) V E E [4,3,2,1,0] E)))))
 refine JS.skip (JS.seq (JS.region (aB aA 1 [] [] [(27,.v (.agg #[I f.1,sL k f.2 l]))] _ E ev1 ?_)))
 refine bnw h fun p M h=>JO.call E E E E (aHz f k l _ M) E [6] E E fun _ _=>aB aA 1 [] [] [(8,.v (I p))] _ E ev1 (aD E (aC aA 3 [(9,.v (I (Q12 d).1))] ev1 E E ?_))
 obtain ⟨N,O,h⟩:=aN h
 refine bZ (ι:=Int) ⟨fun z=>N z=some r,fun z=>[(2,.v (I g)),(3,.bp 8 0),(4,.bp 9 0),(6,.bp 10 0),(8,.v (I p)),(9,.v (I z))],fun z=>(.new 8 46 (aG d e) (.new 9 50 [I f.1,sL k f.2 l] (.new 10 46 bA .nil))),fun z=>(bP d e [⟨.str,⟨k,f.2.length,l⟩,f.2⟩]),fun z=>[],fun z=>0⟩ ?_ ?_
 ·
  refine aC aA 2 [(32,.v (.bool (decide ((Q12 d).1=0))))] ev1 E E ?_
  refine aH E h (fun h=>?_) (fun h=>?_)
  ·
   refine bY aA 3 [(W (p+1))] [] [(9,.v (I (W (p+1))))] _ ev3 E E (aQ (W (p+1)) h (Es E) (Bs E E) [0,1,2,3,4,5,6] E [] E)
  refine JS.skip (aQ (Q12 d).1 h (Es E) (Bs E E) [0,1,2,3,4,5,6] E [] E)
 rintro o h
 subst O
 refine JS.seq (JS.region (aB aA 1 [] [] [(35,.v (.agg (aG d e).toArray))] _ E ev1 ?_))
 refine bnw h fun c P h=>JO.call E E E E (cI d e _ P) E [0,1,2,3,4,5] E E fun b _=>bnw h fun a Q h=>JO.call E E E E (nE c b _ Q) E [7,8,9,10,11,12] E E fun _ _=>aL aA 2 [] [39] [(10,.bp 39 0)] (.new 8 46 (aG d e) (.new 9 50 [I f.1,sL k f.2 l] (.new 10 46 bA (.new 39 46 (aG (a.1,a.2.1,(c.2.2.1.1,a.2.2.1.2),a.2.2.2.1,(Q4 a).1,(Q4 a).2.1,(Q4 a).2.2.1,(Q4 a).2.2.2.1,(Q8 a).1,(Q8 a).2.1,(Q8 c).2.2.1,(Q8 c).2.2.2.1,(Q12 a).1,((Q12 c).2.1.1,(Q12 a).2.1.2),(Q12 c).2.2.1,(Q12 a).2.2.2.1,((Q16 c).1,(Q16 a).2)) b) .nil)))) E ⟨ev2,(Bs E E)⟩ (aD E (aM aA 2 [] [] [] (.new 8 46 (aG d e) (.new 9 50 [I f.1,sL k f.2 l] (.new 10 46 bA (.new 39 46 (aG (a.1,a.2.1,(c.2.2.1.1,a.2.2.1.2),a.2.2.2.1,(Q4 a).1,(Q4 a).2.1,(Q4 a).2.2.1,(Q4 a).2.2.2.1,(Q8 a).1,0,(Q8 c).2.2.1,(Q8 c).2.2.2.1,(Q12 a).1,((Q12 c).2.1.1,(Q12 a).2.1.2),(Q12 c).2.2.1,(Q12 a).2.2.2.1,((Q16 c).1,(Q16 a).2)) b) .nil)))) ⟨V,(Bs E E)⟩ E E (aM aA 3 [] [] [] (.new 8 46 (aG d e) (.new 9 50 [I f.1,sL k f.2 l] (.new 10 46 bA (.new 39 46 (aG (a.1,a.2.1,(c.2.2.1.1,a.2.2.1.2),a.2.2.2.1,(Q4 a).1,(Q4 a).2.1,(Q4 a).2.2.1,(Q4 a).2.2.2.1,(Q8 a).1,0,(Q8 c).2.2.1,[],(Q12 a).1,((Q12 c).2.1.1,(Q12 a).2.1.2),(Q12 c).2.2.1,(Q12 a).2.2.2.1,((Q16 c).1,(Q16 a).2)) (b.1,b.2.1,b.2.2.1,b.2.2.2.1,none,0,(Q4 b).2.2)) .nil)))) ⟨V,(Bs E E)⟩ E E (gH aA 4 [(W (o+g))] [] [(9,.v (I (W (o+g))))] _ ev3 E E (JS.seq (gH aA 13 [(W (p+1))] [] [(56,.v (.bool (bif (bif (!(decide ((Q12 d).1=0))) then (decide (g=1)) else false) then (decide ((W (o+g))=(W (p+1)))) else false)))] _ ⟨(fun a4=>ev5),ev2,E⟩ E E ?_))))))
 refine aH E h (fun h=>?_) (fun h=>?_)
 ·
  refine JS.seq (JS.region (aB aA 2 [] [] [(58,.v (.agg #[sL (Q4 e).2.2.1 (Q12 d).2.1.1 (Q4 e).2.2.2.1,I (Q12 d).2.1.2]))] _ E ev1 ?_))
  refine bnw h fun x R h=>JO.call E E E E (eJ (Q12 d).2.1 (Q4 e).2.2.1 (Q4 e).2.2.2.1 _ R) E [3] E E ?_
  rintro ⟨s,t⟩ -
  refine aL aA 2 [] [] [] (.new 10 46 bA (.new 39 46 (aG (a.1,a.2.1,x,a.2.2.2.1,(Q4 a).1,(Q4 a).2.1,(Q4 a).2.2.1,(Q4 a).2.2.2.1,(Q8 a).1,0,(Q8 c).2.2.1,[],(Q12 a).1,((Q12 c).2.1.1,(Q12 a).2.1.2),(Q12 c).2.2.1,(Q12 a).2.2.2.1,((Q16 c).1,(Q16 a).2)) (s,t,b.2.2.1,b.2.2.2.1,none,0,(Q4 b).2.2)) .nil)) E ⟨V,(Bs E E)⟩ (aD E (aM aA 3 [] [] [] (.new 10 46 bA (.new 39 46 (aG (a.1,a.2.1,x,a.2.2.2.1,(Q4 a).1,(Q4 a).2.1,(Q4 a).2.2.1,(Q4 a).2.2.2.1,(Q8 a).1,0,(Q8 c).2.2.1,[],(Q12 a).1,([],0),(Q12 c).2.2.1,(Q12 a).2.2.2.1,((Q16 c).1,(Q16 a).2)) (s,t,b.2.2.1,b.2.2.2.1,none,0,none,0,(Q8 b))) .nil)) ⟨V,(Bs E E)⟩ E E (aM aA 2 [] [] [] (.new 10 46 bA (.new 39 46 (aG (a.1,a.2.1,x,a.2.2.2.1,(Q4 a).1,(Q4 a).2.1,(Q4 a).2.2.1,(Q4 a).2.2.2.1,(Q8 a).1,0,(Q8 c).2.2.1,[],0,([],0),(Q12 c).2.2.1,(Q12 a).2.2.2.1,((Q16 c).1,(Q16 a).2)) (s,t,b.2.2.1,b.2.2.2.1,none,0,none,0,(Q8 b))) .nil)) ⟨V,(Bs E E)⟩ E E (JS.seq (JS.region (aB aA 1 [] [] [(64,.v (.agg (aG (a.1,a.2.1,x,a.2.2.2.1,(Q4 a).1,(Q4 a).2.1,(Q4 a).2.2.1,(Q4 a).2.2.2.1,(Q8 a).1,0,(Q8 c).2.2.1,[],0,([],0),(Q12 c).2.2.1,(Q12 a).2.2.2.1,((Q16 c).1,(Q16 a).2)) (s,t,b.2.2.1,b.2.2.2.1,none,0,none,0,(Q8 b))).toArray))] _ E ev1 ?_))))))
  refine bnw h fun i S h=>aE8 (.pair (.sl iT) iT) Sl.nil E E (aE8 iT Sl.nil E E (JO.call E E E E (yG (a.1,a.2.1,x,a.2.2.2.1,(Q4 a).1,(Q4 a).2.1,(Q4 a).2.2.1,(Q4 a).2.2.2.1,(Q8 a).1,0,(Q8 c).2.2.1,([]:List (List Int×Int)),0,(([]:List Int),0),(Q12 c).2.2.1,(Q12 a).2.2.2.1,((Q16 c).1,(Q16 a).2)) (s,t,b.2.2.1,b.2.2.2.1,none,0,none,0,(Q8 b)) _ S) E [9,11,1,0,14,15] E E fun _ _=>aL aA 2 [] [] [(7,.v (.bool true))] (.new 10 46 (aG (i.1,i.2.1,(x.1,i.2.2.1.2),i.2.2.2.1,(Q4 i).1,(Q4 i).2.1,(Q4 i).2.2.1,(Q4 i).2.2.2.1,(Q8 i).1,(Q8 i).2.1,(Q8 c).2.2.1,[],(Q12 i).1,([],(Q12 i).2.1.2),(Q12 c).2.2.1,(Q12 i).2.2.2.1,((Q16 c).1,(Q16 i).2)) (s,t,b.2.2.1,b.2.2.2.1,none,0,none,0,(Q8 b))) .nil) E ⟨ev2,(Bs E E)⟩ (aD E ?_)))
  cases h
  refine aZ iT Sl.nil E E (JS.ret aA (s,t,b.2.2.1,b.2.2.2.1,none,0,(Q8 b)) V E E [1,2,0,3,3] E)
 refine JS.skip (JS.seq (JS.region (aB aA 2 [] [] [(67,.v (.agg #[I f.1,sL k f.2 l])),(68,.v (I (W (o+g))))] _ E ⟨(Es E),E⟩ ?_)))
 obtain ⟨⟨B,F⟩,U,h⟩:=aE h
 refine JO.call E E E E (aJ6 f (W (o+g)) k l _ U) E [6] E E fun _ _=>aB aA 5 [] [] [(11,.v (.string (bs B))),(12,.v (.bool F))] _ E ⟨(Es E),E⟩ (aD E (JS.seq (JS.region (aB aA 1 [] [] [(73,.v (.string (bs B)))] _ E ev1 ?_))))
 obtain ⟨⟨j,G⟩,X,h⟩:=aE h
 refine JO.call E E E E (aL9 B _ X) E [] E E ?_
 rintro ⟨m,n⟩ -
 refine aL aA 6 [] [58] [(13,.bp 58 0),(14,.v (.bool G))] (.new 8 46 (aG d e) (.new 10 46 bA (.new 39 46 (aG (a.1,a.2.1,(c.2.2.1.1,a.2.2.1.2),a.2.2.2.1,(Q4 a).1,(Q4 a).2.1,(Q4 a).2.2.1,(Q4 a).2.2.2.1,(Q8 a).1,0,(Q8 c).2.2.1,[],(Q12 a).1,((Q12 c).2.1.1,(Q12 a).2.1.2),(Q12 c).2.2.1,(Q12 a).2.2.2.1,((Q16 c).1,(Q16 a).2)) (b.1,b.2.1,b.2.2.1,b.2.2.2.1,none,0,(Q4 b).2.2)) (.new 58 38 [sL m j.1 n,I j.2] .nil)))) E ⟨(Es E),(Bs E E)⟩ (aD E (JS.seq (aC aA 6 [(82,.v (.bool (bif (!F) then true else (!G))))] ev1 E E ?_)))
 refine aH E h (fun h=>?_) (fun h=>?_)
 ·
  refine aM aA 3 [] [] [(7,.v (.bool false))] (.new 10 46 bA .nil) ⟨ev2,(Bs E E)⟩ E E ?_
  cases h
  refine aZ iT Sl.nil E E (aZ (.sl iT) Sl.nil E E (aZ iT Sl.nil E E (aZ iT Sl.nil E E (aZ iT Sl.nil E E (JS.ret aA (none,0,none,0,none,0,none,0,none,0) V E E [4,3,2,1,0] E)))))
 refine JS.skip ?_
 obtain ⟨Y,Z,h⟩:=aN h
 refine bZ (ι:=List Int×Int×Option Addr×Nat) ⟨fun z=>Y (z.1,z.2.1)=some r,fun z=>[(3,.bp 8 0),(6,.bp 10 0),(9,.v (I (W (o+g)))),(10,.bp 39 0),(13,.bp 58 0)],fun z=>(.new 8 46 (aG d e) (.new 10 46 bA (.new 39 46 (aG (a.1,a.2.1,(c.2.2.1.1,a.2.2.1.2),a.2.2.2.1,(Q4 a).1,(Q4 a).2.1,(Q4 a).2.2.1,(Q4 a).2.2.2.1,(Q8 a).1,0,(Q8 c).2.2.1,[],(Q12 a).1,(z.1,z.2.1),(Q12 c).2.2.1,(Q12 a).2.2.2.1,((Q16 c).1,(Q16 a).2)) (b.1,b.2.1,b.2.2.1,b.2.2.2.1,none,0,z.2.2.1,z.2.2.2,(Q8 b))) (.new 58 38 [sL m j.1 n,I j.2] .nil)))),fun z=>(bP d e []),fun z=>[fI z.2.2.1 z.2.2.2 z.1,fI b.1 b.2.1 c.2.2.1.1,⟨(.sl iT),⟨b.2.2.1,(Q8 c).2.2.1.length,b.2.2.2.1⟩,(Q8 c).2.2.1⟩,fI (Q8 b).1 (Q8 b).2.1 (Q12 c).2.2.1,fI (Q8 b).2.2.1 (Q8 b).2.2.2 (Q16 c).1,fI m n j.1],fun z=>0⟩ ?_ ?_
 ·
  refine aC aA 3 [(86,.v (.bool (decide ((Q12 d).1=0))))] ev1 E E ?_
  refine aH E h (fun h=>?_) (fun h=>?_)
  ·
   refine JS.region (aB aA 2 [] [] [(88,.v (.agg #[sL e.1 d.2.2.1.1 e.2.1,I d.2.2.1.2]))] _ E ev1 ?_)
   refine bnw h fun C a0 h=>JO.call E E E E (eJ d.2.2.1 e.1 e.2.1 _ a0) E [0] E E ?_
   rintro ⟨H,J⟩ -
   refine aL aA 2 [] [] [] (.new 8 46 (aG d e) (.new 10 46 bA (.new 39 46 (aG (a.1,a.2.1,(c.2.2.1.1,a.2.2.1.2),a.2.2.2.1,(Q4 a).1,(Q4 a).2.1,(Q4 a).2.2.1,(Q4 a).2.2.2.1,(Q8 a).1,0,(Q8 c).2.2.1,[],(Q12 a).1,C,(Q12 c).2.2.1,(Q12 a).2.2.2.1,((Q16 c).1,(Q16 a).2)) (b.1,b.2.1,b.2.2.1,b.2.2.2.1,none,0,H,J,(Q8 b))) (.new 58 38 [sL m j.1 n,I j.2] .nil)))) E ⟨V,(Bs E E)⟩ (aD E (bT (C.1,C.2,H,J) h (Es E) (Bs E E) [0,1,2,3,4,5] E [0,2,3,6,7,1] E E))
  refine JS.skip (bT ((Q12 c).2.1.1,(Q12 a).2.1.2,(Q4 b).2.2.1,(Q4 b).2.2.2.1) h (Es E) (Bs E E) [0,1,2,3,4,5] E [4,1,2,5,6,0] E E)
 rintro ⟨y,A,u,w⟩ h
 subst Z
 obtain ⟨a1,a2,h⟩:=aN h
 refine bZ (ι:=Int) ⟨fun z=>a1 z=some r,fun z=>[(6,.bp 10 0),(9,.v (I (W (o+g)))),(10,.bp 39 0),(13,.bp 58 0)],fun z=>(.new 10 46 bA (.new 39 46 (aG (a.1,a.2.1,(c.2.2.1.1,a.2.2.1.2),a.2.2.2.1,(Q4 a).1,(Q4 a).2.1,(Q4 a).2.2.1,(Q4 a).2.2.2.1,(Q8 a).1,0,(Q8 c).2.2.1,[],(Q12 a).1,(y,A),(Q12 c).2.2.1,(Q12 a).2.2.2.1,((Q16 c).1,(Q16 a).2)) (b.1,b.2.1,b.2.2.1,b.2.2.2.1,none,0,u,w,(Q8 b))) (.new 58 38 [sL m j.1 n,I z] .nil))),fun z=>[],fun z=>[fI b.1 b.2.1 c.2.2.1.1,⟨(.sl iT),⟨b.2.2.1,(Q8 c).2.2.1.length,b.2.2.2.1⟩,(Q8 c).2.2.1⟩,fI u w y,fI (Q8 b).1 (Q8 b).2.1 (Q12 c).2.2.1,fI (Q8 b).2.2.1 (Q8 b).2.2.2 (Q16 c).1,fI m n j.1],fun z=>0⟩ ?_ ?_
 ·
  refine aC aA 3 [(93,.v (.bool (decide (d.2.1=2))))] ev1 E E ?_
  refine aH E h (fun h=>?_) (fun h=>?_)
  ·
   refine wP aA 2 [] [] [] (.new 10 46 bA (.new 39 46 (aG (a.1,a.2.1,(c.2.2.1.1,a.2.2.1.2),a.2.2.2.1,(Q4 a).1,(Q4 a).2.1,(Q4 a).2.2.1,(Q4 a).2.2.2.1,(Q8 a).1,0,(Q8 c).2.2.1,[],(Q12 a).1,(y,A),(Q12 c).2.2.1,(Q12 a).2.2.2.1,((Q16 c).1,(Q16 a).2)) (b.1,b.2.1,b.2.2.1,b.2.2.2.1,none,0,u,w,(Q8 b))) (.new 58 38 [sL m j.1 n,I 0] .nil))) ⟨V,(Bs E E)⟩ E E (bT 0 h (Es E) (Bs E E) [] E [1,2,0,3,4,5] E E)
  refine JS.skip (bT j.2 h (Es E) (Bs E E) [] E [1,2,0,3,4,5] E E)
 rintro D h
 subst a2
 refine aM aA 3 [] [] [] (.new 10 46 bA (.new 39 46 (aG (a.1,a.2.1,(j.1,D),a.2.2.2.1,(Q4 a).1,(Q4 a).2.1,(Q4 a).2.2.1,(Q4 a).2.2.2.1,(Q8 a).1,0,(Q8 c).2.2.1,[],(Q12 a).1,(y,A),(Q12 c).2.2.1,(Q12 a).2.2.2.1,((Q16 c).1,(Q16 a).2)) (m,n,b.2.2.1,b.2.2.2.1,none,0,u,w,(Q8 b))) .nil)) ⟨V,(Bs E E)⟩ E E (aM aA 3 [] [] [] (.new 10 46 bA (.new 39 46 (aG (a.1,a.2.1,(j.1,D),a.2.2.2.1,(Q4 a).1,(Q4 a).2.1,(Q4 a).2.2.1,(Q4 a).2.2.2.1,(Q8 a).1,0,(Q8 c).2.2.1,[],(W (o+g)),(y,A),(Q12 c).2.2.1,(Q12 a).2.2.2.1,((Q16 c).1,(Q16 a).2)) (m,n,b.2.2.1,b.2.2.2.1,none,0,u,w,(Q8 b))) .nil)) ⟨V,(Bs E E)⟩ E E (aM aA 3 [] [] [(7,.v (.bool true))] (.new 10 46 (aG (a.1,a.2.1,(j.1,D),a.2.2.2.1,(Q4 a).1,(Q4 a).2.1,(Q4 a).2.2.1,(Q4 a).2.2.2.1,(Q8 a).1,0,(Q8 c).2.2.1,[],(W (o+g)),(y,A),(Q12 c).2.2.1,(Q12 a).2.2.2.1,((Q16 c).1,(Q16 a).2)) (m,n,b.2.2.1,b.2.2.2.1,none,0,u,w,(Q8 b))) .nil) ⟨ev2,(Bs E E)⟩ E E ?_))
 cases h
 exact JS.ret aA (m,n,b.2.2.1,b.2.2.2.1,u,w,(Q8 b)) V E E [5,1,1,1,1] E

def gE (b:EdQ) (c:Int×List (List UInt8)) (d:Int):Option (EdQ×Int):= (aF (rV b c d) fun (a,e)=>(bif (!e) then (aF (cH b) fun (f,g)=> some (f,g)) else some ((a.1,a.2.1,a.2.2.1,a.2.2.2.1,a.2.2.2.2.1,a.2.2.2.2.2.1,a.2.2.2.2.2.2.1,a.2.2.2.2.2.2.2.1,a.2.2.2.2.2.2.2.2.1,a.2.2.2.2.2.2.2.2.2.1,a.2.2.2.2.2.2.2.2.2.2.1,[],a.2.2.2.2.2.2.2.2.2.2.2.2.1,a.2.2.2.2.2.2.2.2.2.2.2.2.2.1,a.2.2.2.2.2.2.2.2.2.2.2.2.2.2.1,a.2.2.2.2.2.2.2.2.2.2.2.2.2.2.2.1,a.2.2.2.2.2.2.2.2.2.2.2.2.2.2.2.2),0)))

theorem nD (b:EdQ) (a:Int×List (List UInt8)) (f:Int) (c:P6) (d:Option Addr) (e:Nat) (r:EdQ×Int) (h:gE b a f=some r):
 FC Tryz.prog 163 [.agg (cD b c).toArray,.agg #[I a.1,sL d a.2 e],I f] (bP b c [⟨.str,⟨d,a.2.length,e⟩,a.2⟩]) (fun _:P6=>True) (fun q=>.tuple #[.agg (aG r.1 q).toArray,I r.2]) (fun q=>(bP r.1 q [])):= by
 refine FC.of (T:=TTx) Tryz.call163 Tryz.func163 E E fun B=>?_
 unfold gE at h
 refine aM aA 4 [] [8,9,10] [(3,.bp 8 0),(4,.bp 9 0),(6,.bp 10 0)] (.new 8 46 (aG b c) (.new 9 50 [I a.1,sL d a.2 e] (.new 10 46 bA .nil))) ⟨(Es E),(Bs E E)⟩ E E (JS.seq (JS.region (aB aA 3 [] [] [(11,.v (.agg (aG b c).toArray)),(12,.v (.agg #[I a.1,sL d a.2 e])),(13,.v (I f))] _ E ⟨(Es E),E⟩ ?_)))
 obtain ⟨⟨t,u⟩,x,h⟩:=aE h
 refine JO.call E E E E (aMa b a f c d e _ x) E [0,1,2,3,4,5,6] E E ?_
 rintro ⟨g,i,j,k,l,m,n,o,p,s⟩ -
 refine aL aA 6 [] [29] [(8,.bp 29 0),(9,.v (.bool u))] (.new 8 46 (aG b c) (.new 10 46 bA (.new 29 46 (aG (U11 t []) (g,i,j,k,none,0,l,m,n,o,p,s)) .nil))) E ⟨(Es E),(Bs E E)⟩ (aD E (JS.seq (aC aA 2 [(18,.v (.bool (!u)))] ev1 E E ?_)))
 refine aH E h (fun h=>?_) (fun h=>?_)
 ·
  refine JS.seq (JS.region (aB aA 1 [] [] [(19,.v (.agg (aG b c).toArray))] _ E ev1 ?_))
  obtain ⟨⟨y,z⟩,A,h⟩:=aE h
  refine JO.call E E E E (cO b c _ A) E [0,1,2,3,4,5] E E fun w _=>aL aA 4 [] [] [(7,.v (I z))] (.new 10 46 (aG y w) .nil) E ⟨ev2,(Bs E E)⟩ (aD E ?_)
  cases h
  exact JS.ret aA w V E E [0,0,0,0,0,0] E
 refine JS.skip (aM aA 3 [] [] [(7,.v (I 0))] (.new 10 46 (aG (U11 t []) (g,i,j,k,none,0,l,m,n,o,p,s)) .nil) ⟨ev2,(Bs E E)⟩ E E ?_)
 cases h
 refine aZ (.pair (.sl iT) iT) Sl.nil E E (JS.ret aA (g,i,j,k,none,0,l,m,n,o,p,s) V E E [1,1,0,0,0,0] E)

def wA (a:Int):Option Int:= (bif decide (a=0) then some 1 else (bif decide (a=1) then some 0 else (bif decide (a=2) then some 3 else some 2)))

theorem aJy (a:Int) (r:Int) (h:wA a=some r) :
 FC Tryz.prog 269 [I a] [] (fun _:Unit=>True) (fun _=>I r) (fun _=>[]):= by
 refine FC.of (T:=TTx) Tryz.call269 Tryz.func269 E E fun b=>?_
 unfold wA at h
 refine aC aA 1 [] ev5 E E (JS.seq (aC aA 1 [(3,.v (I a))] ev1 E E (JS.block (aC aA 2 [(4,.v (.bool (decide (a=0))))] ev1 E E ?_))))
 refine aH E h (fun h=>?_) (fun h=>?_)
 ·
  refine aC aA 1 [(2,.v (I 1))] ev1 E E ?_
  cases h
  exact JS.ret aA () V E E [] E
 refine aC aA 2 [(6,.v (.bool (decide (a=1))))] ev1 E E ?_
 refine aH E h (fun h=>?_) (fun h=>?_)
 ·
  refine aC aA 1 [(2,.v (I 0))] ev1 E E ?_
  cases h
  exact JS.ret aA () V E E [] E
 refine aC aA 2 [(8,.v (.bool (decide (a=2))))] ev1 E E ?_
 refine aH E h (fun h=>?_) (fun h=>?_)
 ·
  refine aC aA 1 [(2,.v (I 3))] ev1 E E ?_
  cases h
  exact JS.ret aA () V E E [] E
 refine JS.skip (aV (aC aA 1 [(2,.v (I 2))] ev1 E E ?_))
 cases h
 exact JS.ret aA () V E E [] E

def lM (c:EdQ):Option (EdQ×Int):= (aF (cA c) fun b=>(aF (eD b) fun a=>(aF (dD c.2.2.1) fun d=> some ((a.1,3,(b.2.2.1.1,a.2.2.1.2),a.2.2.2.1,a.2.2.2.2.1,a.2.2.2.2.2.1,a.2.2.2.2.2.2.1,a.2.2.2.2.2.2.2.1,a.2.2.2.2.2.2.2.2.1,0,b.2.2.2.2.2.2.2.2.2.2.1,b.2.2.2.2.2.2.2.2.2.2.2.1,a.2.2.2.2.2.2.2.2.2.2.2.2.1,(b.2.2.2.2.2.2.2.2.2.2.2.2.2.1.1,a.2.2.2.2.2.2.2.2.2.2.2.2.2.1.2),b.2.2.2.2.2.2.2.2.2.2.2.2.2.2.1,a.2.2.2.2.2.2.2.2.2.2.2.2.2.2.2.1,d),0))))

theorem zQ (d:EdQ) (e:P6) (r:EdQ×Int) (h:lM d=some r):
 FC Tryz.prog 193 [.agg (cD d e).toArray] (bP d e []) (fun _:P6=>True) (fun q=>.tuple #[.agg (aG r.1 q).toArray,I r.2]) (fun q=>(bP r.1 q [])):= by
 refine FC.of (T:=TTx) Tryz.call193 Tryz.func193 E E fun m=>?_
 unfold lM at h
 refine aM aA 3 [] [7,8] [(1,.bp 7 0),(2,.bp 8 0)] (.new 7 46 (aG d e) (.new 8 46 bA .nil)) ⟨(Es E),(Bs E E)⟩ E E (JS.seq (JS.region (aB aA 1 [] [] [(5,.v (.agg (aG d e).toArray))] _ E ev1 ?_)))
 refine bnw h fun c j h=>JO.call E E E E (cI d e _ j) E [0,1,2,3,4,5] E E fun b _=>bnw h fun a k h=>JO.call E E E E (nE c b _ k) E [6,7,8,9,10,11] E E fun _ _=>aL aA 2 [] [31] [(4,.bp 31 0)] (.new 7 46 (aG d e) (.new 8 46 bA (.new 31 46 (aG (a.1,a.2.1,(c.2.2.1.1,a.2.2.1.2),a.2.2.2.1,(Q4 a).1,(Q4 a).2.1,(Q4 a).2.2.1,(Q4 a).2.2.2.1,(Q8 a).1,(Q8 a).2.1,(Q8 c).2.2.1,(Q8 c).2.2.2.1,(Q12 a).1,((Q12 c).2.1.1,(Q12 a).2.1.2),(Q12 c).2.2.1,(Q12 a).2.2.2.1,((Q16 c).1,(Q16 a).2)) b) .nil))) E ⟨ev2,(Bs E E)⟩ (aD E (aM aA 2 [] [] [] (.new 7 46 (aG d e) (.new 8 46 bA (.new 31 46 (aG (a.1,3,(c.2.2.1.1,a.2.2.1.2),a.2.2.2.1,(Q4 a).1,(Q4 a).2.1,(Q4 a).2.2.1,(Q4 a).2.2.2.1,(Q8 a).1,(Q8 a).2.1,(Q8 c).2.2.1,(Q8 c).2.2.2.1,(Q12 a).1,((Q12 c).2.1.1,(Q12 a).2.1.2),(Q12 c).2.2.1,(Q12 a).2.2.2.1,((Q16 c).1,(Q16 a).2)) b) .nil))) ⟨V,(Bs E E)⟩ E E (JS.seq (JS.region (aB aA 2 [] [] [(10,.v (.agg #[sL e.1 d.2.2.1.1 e.2.1,I d.2.2.1.2]))] _ E ev1 ?_)))))
 refine bnw h fun i l h=>JO.call E E E E (eJ d.2.2.1 e.1 e.2.1 _ l) E [0] E E ?_
 rintro ⟨f,g⟩ -
 refine aL aA 2 [] [] [] (.new 8 46 bA (.new 31 46 (aG (a.1,3,(c.2.2.1.1,a.2.2.1.2),a.2.2.2.1,(Q4 a).1,(Q4 a).2.1,(Q4 a).2.2.1,(Q4 a).2.2.2.1,(Q8 a).1,(Q8 a).2.1,(Q8 c).2.2.1,(Q8 c).2.2.2.1,(Q12 a).1,((Q12 c).2.1.1,(Q12 a).2.1.2),(Q12 c).2.2.1,(Q12 a).2.2.2.1,i) (b.1,b.2.1,b.2.2.1,b.2.2.2.1,(Q4 b).1,(Q4 b).2.1,(Q4 b).2.2.1,(Q4 b).2.2.2.1,(Q8 b).1,(Q8 b).2.1,f,g)) .nil)) E ⟨V,(Bs E E)⟩ (aD E (aM aA 2 [] [] [] (.new 8 46 bA (.new 31 46 (aG (a.1,3,(c.2.2.1.1,a.2.2.1.2),a.2.2.2.1,(Q4 a).1,(Q4 a).2.1,(Q4 a).2.2.1,(Q4 a).2.2.2.1,(Q8 a).1,0,(Q8 c).2.2.1,(Q8 c).2.2.2.1,(Q12 a).1,((Q12 c).2.1.1,(Q12 a).2.1.2),(Q12 c).2.2.1,(Q12 a).2.2.2.1,i) (b.1,b.2.1,b.2.2.1,b.2.2.2.1,(Q4 b).1,(Q4 b).2.1,(Q4 b).2.2.1,(Q4 b).2.2.2.1,(Q8 b).1,(Q8 b).2.1,f,g)) .nil)) ⟨V,(Bs E E)⟩ E E (aM aA 3 [] [] [(3,.v (I 0))] (.new 8 46 (aG (a.1,3,(c.2.2.1.1,a.2.2.1.2),a.2.2.2.1,(Q4 a).1,(Q4 a).2.1,(Q4 a).2.2.1,(Q4 a).2.2.2.1,(Q8 a).1,0,(Q8 c).2.2.1,(Q8 c).2.2.2.1,(Q12 a).1,((Q12 c).2.1.1,(Q12 a).2.1.2),(Q12 c).2.2.1,(Q12 a).2.2.2.1,i) (b.1,b.2.1,b.2.2.1,b.2.2.2.1,(Q4 b).1,(Q4 b).2.1,(Q4 b).2.2.1,(Q4 b).2.2.2.1,(Q8 b).1,(Q8 b).2.1,f,g)) .nil) ⟨ev2,(Bs E E)⟩ E E ?_)))
 cases h
 exact JS.ret aA (b.1,b.2.1,b.2.2.1,b.2.2.2.1,(Q4 b).1,(Q4 b).2.1,(Q4 b).2.2.1,(Q4 b).2.2.2.1,(Q8 b).1,(Q8 b).2.1,f,g) V E E [1,1,1,1,1,0] E

def qR (a:List (List Int×Int)):Option ((List (List Int×Int))×(List Int×Int)×Bool):= (aF (pG a) fun c=>(bif (bif (!c) then true else (decide ((a.length:Int)=0))) then some ([],([],0),false) else (aF (kD a) fun b=>(aP (0≤(0:Int)∧(0:Int)≤(W ((a.length:Int) - 1))∧(W ((a.length:Int) - 1))≤(b.length:Int)) <|(aP (0≤(W ((a.length:Int) - 1))∧(W ((a.length:Int) - 1))<(b.length:Int)) <|some ((List.take (Int.toNat (W ((a.length:Int) - 1))) b),((at' b (W ((a.length:Int) - 1))).1,(at' b (W ((a.length:Int) - 1))).2),true))))))

theorem aHw (a:List (List Int×Int)) (c:Option Addr) (d:Nat) (r:(List (List Int×Int))×(List Int×Int)×Bool) (h:qR a=some r):
 FC Tryz.prog 256 [.agg #[sL c a d]] [⟨(.pair (.sl iT) iT),⟨c,a.length,d⟩,a⟩] (fun _:Option Addr×Nat×Option Addr×Nat=>True) (fun q=>.tuple #[.agg #[sL q.1 r.1 q.2.1],.agg #[sL q.2.2.1 r.2.1.1 q.2.2.2,I r.2.1.2],.bool r.2.2]) (fun q=>[⟨(.pair (.sl iT) iT),⟨q.1,r.1.length,q.2.1⟩,r.1⟩,fI q.2.2.1 q.2.2.2 r.2.1.1]):= by
 refine FC.of (T:=TTx) Tryz.call256 Tryz.func256 E E fun x=>?_
 unfold qR at h
 refine aM aA 4 [] [2,3,4] [(1,.bp 2 0),(2,.bp 3 0),(3,.bp 4 0)] (.new 2 44 [sL c a d] (.new 3 44 [.slice none 0 0] (.new 4 38 [.slice none 0 0,I 0] .nil))) ⟨(Es E),(Bs E E)⟩ E E (aC aA 4 [(5,.v (I (a.length:Int)))] ev1 E E (JS.seq (JS.seq (JS.region (aB aA 1 [] [] [(10,.v (.agg #[sL c a d]))] _ E ev1 ?_)))))
 refine bnw h fun p s h=>JO.call E E E E (zS a c d _ s) E [0] E E fun _ _=>aB aA 5 [] [] [(16,.v (.bool (bif (!p) then true else (decide ((a.length:Int)=0)))))] _ E ev1 (aD E ?_)
 refine aH E h (fun h=>?_) (fun h=>?_)
 ·
  refine aM aA 5 [] [] [(4,.v (.bool false))] (.new 3 44 [.slice none 0 0] (.new 4 38 [.slice none 0 0,I 0] .nil)) ⟨ev2,(Bs E E)⟩ E E ?_
  cases h
  refine aZ (.pair (.sl iT) iT) Sl.nil E E (aZ iT Sl.nil E E (JS.ret aA (none,0,none,0) V E E [1,0] E))
 refine JS.skip (JS.seq (JS.region (aB aA 1 [] [] [(19,.v (.agg #[sL c a d]))] _ E ev1 ?_)))
 refine bnw h fun b t h=>JO.call E E E E (wG a c d _ t) E [0] E E ?_
 rintro ⟨e,f⟩ -
 refine aL aA 2 [] [12] [(6,.bp 12 0)] (.new 3 44 [.slice none 0 0] (.new 4 38 [.slice none 0 0,I 0] (.new 12 44 [sL e b f] .nil))) E ⟨ev2,(Bs E E)⟩ (aD E (JS.seq ?_))
 obtain ⟨g,h⟩:=aK h
 obtain ⟨m,h⟩:=aK h
 obtain ⟨k,l,n⟩:=aQs (⟨e,b.length,f⟩:Sl) 2 b (W ((a.length:Int) - 1)) rfl ⟨g.2.1,g.2.2⟩
 refine wQ (id:=0) (wF [0] E (Int.toNat (W ((a.length:Int) - 1))) (at' b (W ((a.length:Int) - 1))) E ?_)
 intro i j u w
 obtain rfl:([sL i ((at' b (W ((a.length:Int) - 1))).1) j,I (at' b (W ((a.length:Int) - 1))).2]:List Value)=u:=Option.some.inj w
 refine wR (cV 1 E fun o=>?_)
 refine bF E (.new 12 44 [sL e b f] .nil) [1] [13,14] ev4 E (fun y=>?_)
 refine bX aA aJ true 6 [0,1,2,3,6,7,8,9,10] E (by kernel_rfl) [(W ((a.length:Int) - 1)),(W ((a.length:Int) - 1))] [(22,.v (sL e b f)),(24,.v (I (W ((a.length:Int) - 1)))),(31,.ep ⟨e,b.length,f⟩ (Int.toNat (W ((a.length:Int) - 1))*2))] ev4 [1] E E ⟨ev5,ev5,(o.cast (gJ _ _ _)).ix m,(Es E)⟩ (aC5 aA aJ 11 E (by kernel_rfl) E E E E E 0 E E (Int.toNat (W ((a.length:Int) - 1))) 0 (Sum.inr [sL i ((at' b (W ((a.length:Int) - 1))).1) j,I (at' b (W ((a.length:Int) - 1))).2]) ⟨nW (bD m),E⟩ E E E ev4 [1] E (gN aA aJ 4 E (by kernel_rfl) E E E E E E (0:Int) (W ((a.length:Int) - 1)) E E ⟨g.1,g.2.1,g.2.2,(o.cast (gJ _ _ _)).cap,n⟩ E (bX aA aJ true 3 [5] E (by kernel_rfl) [] [(26,.v (.agg #[sL k (List.take (Int.toNat (W ((a.length:Int) - 1))) b) l]))] ev4 [1] E E ev2 (JA.one 12 (by kernel_rfl) (bH aA E E E E E E E E (aU ev4 [1] E (JA.one 13 (by kernel_rfl) (bH aA E E E E E E E E (aR E (aT aA aJ 0 [14] E (by kernel_rfl) [] [(4,.v (.bool true))] E ev2 (bM (by kernel_rfl) (bE (B':=(.new 3 44 [sL k (List.take (Int.toNat (W ((a.length:Int) - 1))) b) l] (.new 4 38 [sL i ((at' b (W ((a.length:Int) - 1))).1) j,I (at' b (W ((a.length:Int) - 1))).2] .nil))) (Bs E E) (aU7 [0] E (by omega) _ n ?_)))))))))))))
 cases h
 exact JS.ret aA (k,l,i,j) V E E [0,0] E

def sS (d:EdQ):Option (EdQ×Int):= (aF (qR d.2.2.2.2.2.2.2.2.2.2.2.1) fun (e,f,g)=>(bif (!g) then (aF (cH d) fun (h,i)=> some (h,i)) else (aF (cA d) fun c=>(aF (eD c) fun b=>(aF (mH (b.1,b.2.1,f,b.2.2.2.1,b.2.2.2.2.1,b.2.2.2.2.2.1,b.2.2.2.2.2.2.1,b.2.2.2.2.2.2.2.1,b.2.2.2.2.2.2.2.2.1,0,c.2.2.2.2.2.2.2.2.2.2.1,e,b.2.2.2.2.2.2.2.2.2.2.2.2.1,(c.2.2.2.2.2.2.2.2.2.2.2.2.2.1.1,b.2.2.2.2.2.2.2.2.2.2.2.2.2.1.2),c.2.2.2.2.2.2.2.2.2.2.2.2.2.2.1,b.2.2.2.2.2.2.2.2.2.2.2.2.2.2.2.1,(c.2.2.2.2.2.2.2.2.2.2.2.2.2.2.2.2.1,b.2.2.2.2.2.2.2.2.2.2.2.2.2.2.2.2.2))) fun a=> some ((a.1,a.2.1,(f.1,a.2.2.1.2),a.2.2.2.1,a.2.2.2.2.1,a.2.2.2.2.2.1,a.2.2.2.2.2.2.1,a.2.2.2.2.2.2.2.1,a.2.2.2.2.2.2.2.2.1,a.2.2.2.2.2.2.2.2.2.1,c.2.2.2.2.2.2.2.2.2.2.1,e,a.2.2.2.2.2.2.2.2.2.2.2.2.1,(c.2.2.2.2.2.2.2.2.2.2.2.2.2.1.1,a.2.2.2.2.2.2.2.2.2.2.2.2.2.1.2),c.2.2.2.2.2.2.2.2.2.2.2.2.2.2.1,a.2.2.2.2.2.2.2.2.2.2.2.2.2.2.2.1,(c.2.2.2.2.2.2.2.2.2.2.2.2.2.2.2.2.1,a.2.2.2.2.2.2.2.2.2.2.2.2.2.2.2.2.2)),0))))))

theorem aJz (f:EdQ) (e:P6) (r:EdQ×Int) (h:sS f=some r):
 FC Tryz.prog 192 [.agg (cD f e).toArray] (bP f e []) (fun _:P6=>True) (fun q=>.tuple #[.agg (aG r.1 q).toArray,I r.2]) (fun q=>(bP r.1 q [])):= by
 refine FC.of (T:=TTx) Tryz.call192 Tryz.func192 E E fun z=>?_
 unfold sS at h
 refine aM aA 3 [] [7,8] [(1,.bp 7 0),(2,.bp 8 0)] (.new 7 46 (aG f e) (.new 8 46 bA .nil)) ⟨(Es E),(Bs E E)⟩ E E (JS.seq (JS.region (aB aA 2 [] [] [(10,.v (.agg #[sL (Q4 e).1 (Q8 f).2.2.2.1 (Q4 e).2.1]))] _ E ev1 ?_)))
 obtain ⟨⟨m,g,n⟩,p,h⟩:=aE h
 refine JO.call E E E E (aHw (Q8 f).2.2.2.1 (Q4 e).1 (Q4 e).2.1 _ p) E [2] E E ?_
 rintro ⟨i,j,k,l⟩ -
 refine aL aA 9 [] [19,20] [(4,.bp 19 0),(5,.bp 20 0),(6,.v (.bool n))] (.new 7 46 (aG f e) (.new 8 46 bA (.new 19 44 [sL i m j] (.new 20 38 [sL k g.1 l,I g.2] .nil)))) E ⟨(Es E),(Bs E E)⟩ (aD E (JS.seq (aC aA 2 [(16,.v (.bool (!n)))] ev1 E E ?_)))
 refine aH E h (fun h=>?_) (fun h=>?_)
 ·
  refine JS.seq (JS.region (aB aA 1 [] [] [(17,.v (.agg (aG f e).toArray))] _ E ev1 ?_))
  obtain ⟨⟨s,t⟩,u,h⟩:=aE h
  refine JO.call E E E E (cO f e _ u) E [0,1,2,3,4,5] E E fun o _=>aL aA 4 [] [] [(3,.v (I t))] (.new 8 46 (aG s o) .nil) E ⟨ev2,(Bs E E)⟩ (aD E ?_)
  cases h
  exact JS.ret aA o V E E [0,0,0,0,0,0] E
 refine JS.skip (JS.seq (JS.region (aB aA 1 [] [] [(21,.v (.agg (aG f e).toArray))] _ E ev1 ?_)))
 refine bnw h fun b w h=>JO.call E E E E (cI f e _ w) E [0,1,2,3,4,5] E E fun c _=>bnw h fun a x h=>JO.call E E E E (nE b c _ x) E [6,7,8,9,10,11] E E fun _ _=>aL aA 2 [] [64] [(7,.bp 64 0)] (.new 8 46 bA (.new 19 44 [sL i m j] (.new 20 38 [sL k g.1 l,I g.2] (.new 64 46 (aG (a.1,a.2.1,(b.2.2.1.1,a.2.2.1.2),a.2.2.2.1,(Q4 a).1,(Q4 a).2.1,(Q4 a).2.2.1,(Q4 a).2.2.2.1,(Q8 a).1,(Q8 a).2.1,(Q8 b).2.2.1,(Q8 b).2.2.2.1,(Q12 a).1,((Q12 b).2.1.1,(Q12 a).2.1.2),(Q12 b).2.2.1,(Q12 a).2.2.2.1,((Q16 b).1,(Q16 a).2)) c) .nil)))) E ⟨ev2,(Bs E E)⟩ (aD E (aM aA 3 [] [] [] (.new 8 46 bA (.new 20 38 [sL k g.1 l,I g.2] (.new 64 46 (aG (a.1,a.2.1,(b.2.2.1.1,a.2.2.1.2),a.2.2.2.1,(Q4 a).1,(Q4 a).2.1,(Q4 a).2.2.1,(Q4 a).2.2.2.1,(Q8 a).1,(Q8 a).2.1,(Q8 b).2.2.1,m,(Q12 a).1,((Q12 b).2.1.1,(Q12 a).2.1.2),(Q12 b).2.2.1,(Q12 a).2.2.2.1,((Q16 b).1,(Q16 a).2)) (c.1,c.2.1,c.2.2.1,c.2.2.2.1,i,j,(Q4 c).2.2)) .nil))) ⟨V,(Bs E E)⟩ E E (aM aA 3 [] [] [] (.new 8 46 bA (.new 64 46 (aG (a.1,a.2.1,g,a.2.2.2.1,(Q4 a).1,(Q4 a).2.1,(Q4 a).2.2.1,(Q4 a).2.2.2.1,(Q8 a).1,(Q8 a).2.1,(Q8 b).2.2.1,m,(Q12 a).1,((Q12 b).2.1.1,(Q12 a).2.1.2),(Q12 b).2.2.1,(Q12 a).2.2.2.1,((Q16 b).1,(Q16 a).2)) (k,l,c.2.2.1,c.2.2.2.1,i,j,(Q4 c).2.2)) .nil)) ⟨V,(Bs E E)⟩ E E (aM aA 2 [] [] [] (.new 8 46 bA (.new 64 46 (aG (a.1,a.2.1,g,a.2.2.2.1,(Q4 a).1,(Q4 a).2.1,(Q4 a).2.2.1,(Q4 a).2.2.2.1,(Q8 a).1,0,(Q8 b).2.2.1,m,(Q12 a).1,((Q12 b).2.1.1,(Q12 a).2.1.2),(Q12 b).2.2.1,(Q12 a).2.2.2.1,((Q16 b).1,(Q16 a).2)) (k,l,c.2.2.1,c.2.2.2.1,i,j,(Q4 c).2.2)) .nil)) ⟨V,(Bs E E)⟩ E E (JS.seq (JS.region (aB aA 1 [] [] [(29,.v (.agg (aG (a.1,a.2.1,g,a.2.2.2.1,(Q4 a).1,(Q4 a).2.1,(Q4 a).2.2.1,(Q4 a).2.2.2.1,(Q8 a).1,0,(Q8 b).2.2.1,m,(Q12 a).1,((Q12 b).2.1.1,(Q12 a).2.1.2),(Q12 b).2.2.1,(Q12 a).2.2.2.1,((Q16 b).1,(Q16 a).2)) (k,l,c.2.2.1,c.2.2.2.1,i,j,(Q4 c).2.2)).toArray))] _ E ev1 ?_)))))))
 refine bnw h fun d y h=>JO.call E E E E (yG (a.1,a.2.1,g,a.2.2.2.1,(Q4 a).1,(Q4 a).2.1,(Q4 a).2.2.1,(Q4 a).2.2.2.1,(Q8 a).1,0,(Q8 b).2.2.1,m,(Q12 a).1,((Q12 b).2.1.1,(Q12 a).2.1.2),(Q12 b).2.2.1,(Q12 a).2.2.2.1,((Q16 b).1,(Q16 a).2)) (k,l,c.2.2.1,c.2.2.2.1,i,j,(Q4 c).2.2) _ y) E [13,7,12,9,10,11] E E fun _ _=>aL aA 2 [] [] [(3,.v (I 0))] (.new 8 46 (aG (d.1,d.2.1,(g.1,d.2.2.1.2),d.2.2.2.1,(Q4 d).1,(Q4 d).2.1,(Q4 d).2.2.1,(Q4 d).2.2.2.1,(Q8 d).1,(Q8 d).2.1,(Q8 b).2.2.1,m,(Q12 d).1,((Q12 b).2.1.1,(Q12 d).2.1.2),(Q12 b).2.2.1,(Q12 d).2.2.2.1,((Q16 b).1,(Q16 d).2)) (k,l,c.2.2.1,c.2.2.2.1,i,j,(Q4 c).2.2)) .nil) E ⟨ev2,(Bs E E)⟩ (aD E ?_)
 cases h
 exact JS.ret aA (k,l,c.2.2.1,c.2.2.2.1,i,j,(Q4 c).2.2) V E E [7,1,5,2,2,2] E

def kP (f:Int) (g:(List Int)→Option (EdQ×Int)) (h:(Int×List Int)→Option (EdQ×Int)):(Int×List Int)→Option (EdQ×Int):=fun (a,b)=>(bif decide (a<f) then (aS (fun (i:List Int)=> h ((W (a+1)),i)) fun d=>(aP (0≤a∧a<(b.length:Int)) <|(aS (fun (c:List Int)=>(bif (bif decide (65≤(at' b a)) then (decide ((at' b a)≤90)) else false) then (aP (0≤a∧a<(c.length:Int)) <|d (List.set c (Int.toNat a) (W ((at' b a)+32)))) else d c)) fun e=>(bif (bif decide (97≤(at' b a)) then (decide ((at' b a)≤122)) else false) then (aP (0≤a∧a<(b.length:Int)) <|e (List.set b (Int.toNat a) (W ((at' b a) - 32)))) else e b)))) else g b)

def qN (a:EdQ):Option (EdQ×Int):= (bif decide ((a.2.2.1.1.length:Int)=0) then (aF (cH a) fun (d,e)=> some (d,e)) else (aF (dD a.2.2.1) fun b=>(aF (kQ a) fun f=>(aF (bV (W (b.2+f)) (b.1.length:Int)) fun c=>(aS (fun (g:List Int)=>(aF (dW a (g,c) true 0) fun (h,i)=> some (h,i))) fun j=>(aW (kP c j) bG (b.2,b.1)))))))

theorem aHr (b:EdQ) (c:P6) (r:EdQ×Int) (h:qN b=some r):
 FC Tryz.prog 293 [.agg (cD b c).toArray] (bP b c []) (fun _:P6=>True) (fun q=>.tuple #[.agg (aG r.1 q).toArray,I r.2]) (fun q=>(bP r.1 q [])):= by
 refine FC.of (T:=TTx) Tryz.call293 Tryz.func293 E E fun w0=>?_
 unfold qN at h
 refine aM aA 3 [] [7,8] [(1,.bp 7 0),(2,.bp 8 0)] (.new 7 46 (aG b c) (.new 8 46 bA .nil)) ⟨(Es E),(Bs E E)⟩ E E (JS.seq (aC aA 5 [(12,.v (.bool (decide ((b.2.2.1.1.length:Int)=0))))] ev1 E E ?_))
 refine aH E h (fun h=>?_) (fun h=>?_)
 ·
  refine JS.seq (JS.region (aB aA 1 [] [] [(13,.v (.agg (aG b c).toArray))] _ E ev1 ?_))
  obtain ⟨⟨G,H⟩,J,h⟩:=aE h
  refine JO.call E E E E (cO b c _ J) E [0,1,2,3,4,5] E E fun t _=>aL aA 4 [] [] [(3,.v (I H))] (.new 8 46 (aG G t) .nil) E ⟨ev2,(Bs E E)⟩ (aD E ?_)
  cases h
  exact JS.ret aA t V E E [0,0,0,0,0,0] E
 refine JS.skip (JS.seq (JS.region (aB aA 2 [] [] [(18,.v (.agg #[sL c.1 b.2.2.1.1 c.2.1,I b.2.2.1.2]))] _ E ev1 ?_)))
 refine bnw h fun e K h=>JO.call E E E E (eJ b.2.2.1 c.1 c.2.1 _ K) E [0] E E ?_
 rintro ⟨u,w⟩ -
 refine aL aA 2 [] [35] [(4,.bp 35 0)] (.new 7 46 (aG b c) (.new 8 46 bA (.new 35 38 [sL u e.1 w,I e.2] .nil))) E ⟨ev2,(Bs E E)⟩ (aD E (JS.seq ?_))
 obtain ⟨m,L,h⟩:=aE h
 refine bnw h fun f M h=>dF E (by kernel_rfl) (cX aA 3 [] [(21,.v (I e.2)),(22,.v (.agg (aG b c).toArray))] E (Es E) (JQ.call E E E E (pX b c _ L) E [0,1,2,3,4,5] E E (cX aA 4 [(W (e.2+m))] [(24,.v (I (W (e.2+m)))),(27,.v (I (e.1.length:Int)))] E ⟨ev5,(Es E)⟩ (JQ.call E E E E (bN (W (e.2+m)) (e.1.length:Int) _ M) E [] E E (cX aA 1 [] [(5,.v (I f))] E ev2 (iN E (JS.seq (aC aA 3 [(6,.v (I e.2))] ev1 E E ?_))))))))
 obtain ⟨x,N,h⟩:=aN h
 refine aX (ι:=List Int×Option Addr×Nat) ⟨fun z=>x z.1=some r,fun z=>[(1,.bp 7 0),(2,.bp 8 0),(4,.bp 35 0),(5,.v (I f))],fun z=>(.new 7 46 (aG b c) (.new 8 46 bA (.new 35 38 [sL z.2.1 z.1 z.2.2,I e.2] .nil))),fun z=>(bP b c []),fun z=>[fI z.2.1 z.2.2 z.1],fun z=>0⟩ ?_ ?_
 ·
  refine JS.loop (ι:=Nat×Int×List Int×Option Addr×Nat) ⟨fun z=>aW (kP f x) z.1 (z.2.1,z.2.2.1)=some r,fun z=>[(1,.bp 7 0),(2,.bp 8 0),(4,.bp 35 0),(5,.v (I f)),(6,.v (I z.2.1))],fun z=>(.new 7 46 (aG b c) (.new 8 46 bA (.new 35 38 [sL z.2.2.2.1 z.2.2.1 (Q4 z),I e.2] .nil))),fun z=>(bP b c []),fun z=>[fI z.2.2.2.1 (Q4 z) z.2.2.1],fun z=>z.1⟩ (bG,e.2,e.1,u,w) h (Es E) (Bs E E) [0,1,2,3,4,5] E [0] E ?_
  rintro ⟨y,a,d,g,i⟩ h
  obtain ⟨y,rfl,h⟩:=bC h
  rw [kP] at h
  refine JS.seq (aC aA 3 [(33,.v (.bool (decide (a<f))))] ev1 E E ?_)
  refine aH E h (fun h=>?_) (fun h=>?_)
  ·
   refine JS.skip (JS.seq ?_)
   obtain ⟨O,P,h⟩:=aN h
   refine aX (ι:=List Int×Option Addr×Nat) ⟨fun z=>O z.1=some r,fun z=>[(1,.bp 7 0),(2,.bp 8 0),(4,.bp 35 0),(5,.v (I f)),(6,.v (I a))],fun z=>(.new 7 46 (aG b c) (.new 8 46 bA (.new 35 38 [sL z.2.1 z.1 z.2.2,I e.2] .nil))),fun z=>(bP b c []),fun z=>[fI z.2.1 z.2.2 z.1],fun z=>0⟩ ?_ ?_
   ·
    refine JS.seq (JS.region (bJ 6 E fun A=>?_))
    obtain ⟨B,h⟩:=aK h
    refine aB aA 4 [] [] [(39,.ep ⟨g,d.length,i⟩ (Int.toNat a*1))] _ E ⟨A.ix B,ev2,E⟩ (JO.load aA E E E E E E E 6 E E (Int.toNat a) 0 (at' d a) ⟨bD B,E⟩ E E (aB aA 1 [] [] [(7,.v (I (at' d a)))] _ E ev1 (aD E ?_)))
    obtain ⟨Q,R,h⟩:=aN h
    refine bZ (ι:=List Int×Option Addr×Nat) ⟨fun z=>Q z.1=some r,fun z=>[(1,.bp 7 0),(2,.bp 8 0),(4,.bp 35 0),(5,.v (I f)),(6,.v (I a)),(7,.v (I (at' d a)))],fun z=>(.new 7 46 (aG b c) (.new 8 46 bA (.new 35 38 [sL z.2.1 z.1 z.2.2,I e.2] .nil))),fun z=>(bP b c []),fun z=>[fI z.2.1 z.2.2 z.1],fun z=>0⟩ ?_ ?_
    ·
     refine aC aA 6 [(46,.v (.bool (bif (decide (97≤(at' d a))) then (decide ((at' d a)≤122)) else false)))] ev1 E E ?_
     refine aH E h (fun h=>?_) (fun h=>?_)
     ·
      refine JS.region ?_
      obtain ⟨C,h⟩:=aK h
      refine aB aA 6 [(W ((at' d a) - 32))] [] [(51,.v (I (W ((at' d a) - 32)))),(52,.ep ⟨g,d.length,i⟩ (Int.toNat a*1))] _ E ⟨ev5,A.ix C,(Es E),E⟩ (gY aA E E E E E E E E E [0] (fs:=[]) E (Int.toNat a) 0 (at' d a) (W ((at' d a) - 32)) ⟨bD C,E⟩ ev8 (aD E (aQ ((List.set d (Int.toNat a) (W ((at' d a) - 32))),g,i) h (Es E) ⟨E,E,E,E,E,E,E,E,E,(congrArg (fun n=>([.slice g n i,I e.2]:List Value)) (List.length_set.trans E)),E,E,V⟩ [0,1,2,3,4,5] E [0] (by simp only [List.length_set,List.length_replicate,cF,eU,sL,fI,rM,rL];rfl))))
     refine JS.skip (aQ (d,g,i) h (Es E) (Bs E E) [0,1,2,3,4,5] E [0] E)
    rintro ⟨j,k,l⟩ h
    subst R
    refine aC aA 6 [(58,.v (.bool (bif (decide (65≤(at' d a))) then (decide ((at' d a)≤90)) else false)))] ev1 E E ?_
    refine aH E h (fun h=>?_) (fun h=>?_)
    ·
     refine JS.region (bJ 6 E fun S=>?_)
     obtain ⟨D,h⟩:=aK h
     refine aB aA 6 [(W ((at' d a)+32))] [] [(63,.v (I (W ((at' d a)+32)))),(64,.ep ⟨k,j.length,l⟩ (Int.toNat a*1))] _ E ⟨ev5,S.ix D,(Es E),E⟩ (gY aA E E E E E E E E E [0] (fs:=[]) E (Int.toNat a) 0 (at' j a) (W ((at' d a)+32)) ⟨bD D,E⟩ ev8 (aD E (aV (aQ ((List.set j (Int.toNat a) (W ((at' d a)+32))),k,l) h (Es E) ⟨E,E,E,E,E,E,E,E,E,(congrArg (fun n=>([.slice k n l,I e.2]:List Value)) (List.length_set.trans E)),E,E,V⟩ [0,1,2,3,4,5] E [0] (by simp only [List.length_set,List.length_replicate,cF,eU,sL,fI,rM,rL];rfl)))))
    refine JS.skip (aV (aQ (j,k,l) h (Es E) (Bs E E) [0,1,2,3,4,5] E [0] E))
   rintro ⟨U,X,Y⟩ h
   subst P
   refine bY aA 3 [(W (a+1))] [] [(6,.v (I (W (a+1))))] _ ev3 E E (bR (y,(W (a+1)),U,X,Y) h (Nat.lt_succ_self _) (Es E) (Bs E E) [0,1,2,3,4,5] E [0] E)
  refine JS.exit E (aQ (d,g,i) h (Es E) (Bs E E) [0,1,2,3,4,5] E [0] E)
 rintro ⟨o,p,s⟩ h
 subst N
 refine aM aA 3 [] [] [] (.new 7 46 (aG b c) (.new 8 46 bA (.new 35 38 [sL p o s,I f] .nil))) ⟨V,(Bs E E)⟩ E E (JS.seq (JS.region (aB aA 2 [] [] [(67,.v (.agg (aG b c).toArray)),(68,.v (.agg #[sL p o s,I f]))] _ E ⟨(Es E),E⟩ ?_)))
 obtain ⟨⟨Z,a0⟩,a1,h⟩:=aE h
 refine JO.call E E E E (jP b (o,f) true 0 c p s _ a1) E [0,1,2,3,4,5,6] E E fun F _=>aL aA 4 [] [] [(3,.v (I a0))] (.new 8 46 (aG Z F) .nil) E ⟨ev2,(Bs E E)⟩ (aD E ?_)
 cases h
 exact JS.ret aA F V E E [0,0,0,0,0,0] E

def sX (a:List (List Int)):Option (List Int):= (aF (pH a) fun b=>(bif (bif (!b) then true else (decide ((a.length:Int)=0))) then some ([]) else (aP (0≤(0:Int)∧0<(a.length:Int)) <|(aP (([]:List Int).length+(at' a 0).length≤536870912) <|some (([]:List Int) ++ (at' a 0))))))

theorem aJ5 (a:List (List Int)) (b:Option Addr) (c:Nat) (r:List Int) (h:sX a=some r):
 FC Tryz.prog 250 [.agg #[sL b a c]] [⟨(.sl iT),⟨b,a.length,c⟩,a⟩] (fun _:Option Addr×Nat=>True) (fun q=>sL q.1 r q.2) (fun q=>[fI q.1 q.2 r]):= by
 refine FC.of (T:=TTx) Tryz.call250 Tryz.func250 E E fun o=>?_
 unfold sX at h
 refine aM aA 2 [] [2] [(1,.bp 2 0)] (.new 2 41 [sL b a c] .nil) ⟨ev2,(Bs E E)⟩ E E (JS.seq (JS.seq (JS.region (aB aA 1 [] [] [(3,.v (.agg #[sL b a c]))] _ E ev1 ?_))))
 refine bnw h fun i j h=>JO.call E E E E (zT a b c _ j) E [0] E E fun _ _=>aB aA 7 [] [] [(11,.v (.bool (bif (!i) then true else (decide ((a.length:Int)=0)))))] _ E ev1 (aD E ?_)
 refine aH E h (fun h=>?_) (fun h=>?_)
 ·
  refine aC aA 1 [(2,.v (.slice none 0 0))] ev1 E E ?_
  cases h
  refine aZ iT Sl.nil E E (JS.ret aA (none,0) V E E [0] E)
 refine JS.skip (JS.seq (JS.region ?_))
 refine iY E (JK.buildSlice aA E E E E E E E E E E E [] E iT [] ev9 E E fun p=>iX ?_)
 refine bJ 0 E fun e=>?_
 obtain ⟨d,h⟩:=aK h
 refine aB aA 4 [] [] [(16,.ep ⟨b,a.length,c⟩ (Int.toNat 0*1))] _ E ⟨e.ix d,e.fa d,ev2,E⟩ (fS 0 E (Int.toNat 0) (at' a 0) E fun k l s t m=>cN aA E E E E E E 0 E E (Int.toNat 0) 0 (Sl.v ⟨k,(at' a 0).length,l⟩) ⟨m (lR d),E⟩ E E E ?_)
 obtain ⟨n,h⟩:=aK h
 refine fU aA E E E E ⟨E,E,E,E,V,E,E,E,E⟩ E E E [0] E 1 E n E fun f g=>aB aA 1 [] [] [(2,.v (sL f (([]:List Int) ++ (at' a 0)) g))] _ E ev1 (aD E ?_)
 cases h
 exact JS.ret aA (f,g) V E E [0] E

def qF (a:List Int×Int) (b:List Int):Option ((List Int×Int)×Bool):= (aF (dX a) fun c=>(bif (!c) then some (([],0),false) else (aP (0≤(0:Int)∧(0:Int)≤a.2∧a.2≤(a.1.length:Int)) <|(aP (0≤a.2∧a.2≤(a.1.length:Int)∧(a.1.length:Int)≤(a.1.length:Int)) <|(aF (gF (bU a.1 (0:Int) a.2) b (bU a.1 a.2 (a.1.length:Int))) fun d=>(aF (nN (d,(W (a.2+(b.length:Int)))) true) fun (e,f)=> some (e,f)))))))

theorem aCn (a:List Int×Int) (b:List Int) (c:Option Addr) (d:Nat) (e:Option Addr) (f:Nat) (r:(List Int×Int)×Bool) (h:qF a b=some r):
 FC Tryz.prog 241 [.agg #[sL c a.1 d,I a.2],sL e b f] [fI c d a.1,fI e f b] (fun _:Option Addr×Nat=>True) (fun q=>.tuple #[.agg #[sL q.1 r.1.1 q.2,I r.1.2],.bool r.2]) (fun q=>[fI q.1 q.2 r.1.1]):= by
 refine FC.of (T:=TTx) Tryz.call241 Tryz.func241 E E fun F=>?_
 unfold qF at h
 refine aM aA 3 [] [3,4] [(2,.bp 3 0),(4,.bp 4 0)] (.new 3 38 [sL c a.1 d,I a.2] (.new 4 38 [.slice none 0 0,I 0] .nil)) ⟨(Es E),(Bs E E)⟩ E E (JS.seq (JS.seq (JS.region (aB aA 1 [] [] [(6,.v (.agg #[sL c a.1 d,I a.2]))] _ E ev1 ?_))))
 refine bnw h fun t u h=>JO.call E E E E (gD a c d _ u) E [0] E E fun _ _=>aB aA 1 [] [] [(8,.v (.bool (!t)))] _ E ev1 (aD E ?_)
 refine aH E h (fun h=>?_) (fun h=>?_)
 ·
  refine aM aA 3 [] [] [(5,.v (.bool false))] (.new 4 38 [.slice none 0 0,I 0] .nil) ⟨ev2,(Bs E E)⟩ E E ?_
  cases h
  refine aZ iT Sl.nil E E (JS.ret aA (none,0) V E E [0] E)
 refine JS.skip (JS.seq ?_)
 obtain ⟨g,h⟩:=aK h
 obtain ⟨i,h⟩:=aK h
 obtain ⟨m,w,h⟩:=aE h
 obtain ⟨⟨j,n⟩,x,h⟩:=aE h
 refine oX 0 E (0:Int) a.2 fun y z A=>oX 1 E a.2 (a.1.length:Int) fun B C D=>cV 2 E fun o=>?_
 refine bF E (.new 3 38 [sL c a.1 d,I a.2] .nil) [] [17,18,19,20,21,22] ev4 E (fun G=>?_)
 refine bX aA aJ true 9 [0,1,2,3,5,6,7,8,9,12,13,14,15,16] E (by kernel_rfl) [(W (a.2+(b.length:Int)))] [(11,.v (sL c a.1 d)),(13,.v (I a.2)),(15,.v (sL e b f)),(17,.v (sL c a.1 d)),(19,.v (I a.2)),(26,.v (I (W (a.2+(b.length:Int)))))] ev4 [] E E ⟨ev5,(Es E)⟩ (gN aA aJ 4 E (by kernel_rfl) E E E E E E (0:Int) a.2 E E ⟨g.1,g.2.1,g.2.2,o.cap,A g⟩ E (gN aA aJ 10 E (by kernel_rfl) E E E E E E a.2 (a.1.length:Int) E E ⟨i.1,i.2.1,i.2.2,o.cap,D i⟩ E (JA.one 11 (by kernel_rfl) (JK.call E E E E (nF (bU a.1 (0:Int) a.2) b (bU a.1 a.2 (a.1.length:Int)) y z e f B C _ w) E [1,3,0] E E ?_))))
 rintro ⟨p,s⟩ -
 refine aU ev4 [] E (aT aA aJ 5 [17] E (by kernel_rfl) [] [(27,.v (.agg #[sL p m s,I (W (a.2+(b.length:Int)))]))] E ev2 (JA.one 18 (by kernel_rfl) (aNt E E E E (aBw (m,(W (a.2+(b.length:Int)))) true p s _ x) E [0] E [] E E ?_)))
 rintro ⟨k,l⟩ -
 refine aR E (aT aA aJ 2 [19,20] E (by kernel_rfl) [] [(29,.v (.agg #[sL k j.1 l,I j.2])),(30,.v (.bool n))] E (Es E) (JA.one 21 (by kernel_rfl) (bH aA E E E E E E E E (aR E (aT aA aJ 0 [22] E (by kernel_rfl) [] [(5,.v (.bool n))] E ev2 (bM (by kernel_rfl) (bE (B':=(.new 4 38 [sL k j.1 l,I j.2] .nil)) (Bs E E) ?_)))))))
 cases h
 exact JS.ret aA (k,l) V E E [0] E

def lL (b:List Int) (d:Int) (e:(List Int)→Option (EdQ×Int)) (f:(List Int×Int)→Option (EdQ×Int)):(List Int×Int)→Option (EdQ×Int):=fun (a,c)=>(bif decide (c<d) then (aP (a.length+b.length≤536870912) <|f ((a ++ b),(W (c+1)))) else e a)

def rT (a:EdQ) (e:Int):Option (EdQ×Int):= (aF (sX a.2.2.2.2.2.2.2.2.2.2.1) fun b=>(aF (kQ a) fun c=>(bif (bif decide ((b.length:Int)=0) then true else (decide (400<(W ((b.length:Int)*c))))) then (aF (cH a) fun (f,g)=> some (f,g)) else (aS (fun (h:List Int)=>(aF (pI a.2.2.1 e) fun (i,p)=>(aF (qF i h) fun (d,j)=>(bif (!j) then (aF (cH a) fun (k,l)=> some (k,l)) else (aF (dW a (d.1,(W (d.2 - 1))) true 0) fun (m,n)=> some (m,n)))))) fun o=>(aW (lL b c o) bG (([]:List Int),0))))))

theorem aD7 (b:EdQ) (e:Int) (a:P6) (r:EdQ×Int) (h:rT b e=some r):
 FC Tryz.prog 292 [.agg (cD b a).toArray,I e] (bP b a []) (fun _:P6=>True) (fun q=>.tuple #[.agg (aG r.1 q).toArray,I r.2]) (fun q=>(bP r.1 q [])):= by
 refine FC.of (T:=TTx) Tryz.call292 Tryz.func292 E E fun w0=>?_
 unfold rT at h
 refine aM aA 3 [] [7,8] [(2,.bp 7 0),(4,.bp 8 0)] (.new 7 46 (aG b a) (.new 8 46 bA .nil)) ⟨(Es E),(Bs E E)⟩ E E (JS.seq (JS.region (aB aA 2 [] [] [(15,.v (.agg #[sL a.2.2.1 (Q8 b).2.2.1 a.2.2.2.1]))] _ E ev1 ?_)))
 refine bnw h fun c K h=>JO.call E E E E (aJ5 (Q8 b).2.2.1 a.2.2.1 a.2.2.2.1 _ K) E [1] E E ?_
 rintro ⟨i,j⟩ -
 refine aB aA 1 [] [] [(6,.v (sL i c j))] _ E ev1 (aD E (JS.seq (JS.region (aB aA 1 [] [] [(17,.v (.agg (aG b a).toArray))] _ E ev1 ?_))))
 refine bnw h fun f L h=>JO.call E E E E (pX b a _ L) E [0,1,2,3,4,5] E E fun _ _=>aB aA 1 [] [] [(7,.v (I f))] _ E ev1 (aD E (JS.seq (gH aA 10 [(W ((c.length:Int)*f))] [] [(28,.v (.bool (bif (decide ((c.length:Int)=0)) then true else (decide (400<(W ((c.length:Int)*f)))))))] _ ⟨(fun a3=>ev5),ev2,E⟩ E E ?_)))
 refine aH E h (fun h=>?_) (fun h=>?_)
 ·
  refine JS.seq (JS.region (aB aA 1 [] [] [(29,.v (.agg (aG b a).toArray))] _ E ev1 ?_))
  obtain ⟨⟨M,N⟩,O,h⟩:=aE h
  refine JO.call E E E E (cO b a _ O) E [0,1,2,3,4,5] E E fun s _=>aL aA 4 [] [] [(5,.v (I N))] (.new 8 46 (aG M s) .nil) E ⟨ev2,(Bs E E)⟩ (aD E ?_)
  cases h
  exact JS.ret aA s V E E [0,0,0,0,0,0] E
 refine JS.skip (JS.seq (JS.region ?_))
 refine iY E (JK.buildSlice aA E E E E E E E E E E E [] E iT [] ev9 E E fun t=>iX ?_)
 refine aB aA 1 [] [] [(8,.v (sL t ([]:List Int) ([]:List Int).length))] _ E ev1 (aD E (JS.seq (aC aA 1 [(9,.v (I 0))] ev1 E E ?_)))
 obtain ⟨u,P,h⟩:=aN h
 refine aX (ι:=List Int×Option Addr×Nat) ⟨fun z=>u z.1=some r,fun z=>[(1,.v (I e)),(2,.bp 7 0),(4,.bp 8 0),(8,.v (sL z.2.1 z.1 z.2.2))],fun z=>(.new 7 46 (aG b a) (.new 8 46 bA .nil)),fun z=>(bP b a []),fun z=>[fI z.2.1 z.2.2 z.1],fun z=>0⟩ ?_ ?_
 ·
  refine JS.loop (ι:=Nat×List Int×Int×Option Addr×Nat) ⟨fun z=>aW (lL c f u) z.1 (z.2.1,z.2.2.1)=some r,fun z=>[(1,.v (I e)),(2,.bp 7 0),(4,.bp 8 0),(6,.v (sL i c j)),(7,.v (I f)),(8,.v (sL z.2.2.2.1 z.2.1 (Q4 z))),(9,.v (I z.2.2.1))],fun z=>(.new 7 46 (aG b a) (.new 8 46 bA .nil)),fun z=>(bP b a []),fun z=>[fI z.2.2.2.1 (Q4 z) z.2.1,fI i j c],fun z=>z.1⟩ (bG,([]:List Int),0,t,([]:List Int).length) h (Es E) (Bs E E) [0,1,2,3,4,5] E [0,0] E ?_
  rintro ⟨w,k,l,x,y⟩ h
  obtain ⟨w,rfl,h⟩:=bC h
  rw [lL] at h
  refine JS.seq (aC aA 3 [(36,.v (.bool (decide (l<f))))] ev1 E E ?_)
  refine aH E h (fun h=>?_) (fun h=>?_)
  ·
   refine JS.skip (JS.seq (JS.block (JS.region (aB aA 2 [] [] [(39,.v (sL x k y)),(40,.v (sL i c j))] _ E ⟨(Es E),E⟩ ?_))))
   obtain ⟨Q,h⟩:=aK h
   refine fU aA E E E E ⟨E,E,E,E,V,E,E,E,E⟩ E E E [0] E 7 E Q E fun A B=>aB aA 1 [] [] [(8,.v (sL A (k ++ c) B))] _ E ev1 (aD E (aV (bY aA 3 [(W (l+1))] [] [(9,.v (I (W (l+1))))] _ ev3 E E (bR (w,(k ++ c),(W (l+1)),A,B) h (Nat.lt_succ_self _) (Es E) (Bs E E) [0,1,2,3,4,5] E [0,0] E))))
  refine JS.exit E (aQ (k,x,y) h (Es E) (Bs E E) [0,1,2,3,4,5] E [0] E)
 rintro ⟨C,D,F⟩ h
 subst P
 refine JS.seq (JS.region (aB aA 3 [] [] [(44,.v (.agg #[sL a.1 b.2.2.1.1 a.2.1,I b.2.2.1.2])),(45,.v (I e))] _ E ⟨(Es E),E⟩ ?_))
 obtain ⟨⟨g,a4⟩,R,h⟩:=aE h
 refine JO.call E E E E (zU b.2.2.1 e a.1 a.2.1 _ R) E [0] E E ?_
 rintro ⟨o,p⟩ -
 refine aL aA 6 [] [141] [(10,.bp 141 0)] (.new 7 46 (aG b a) (.new 8 46 bA (.new 141 38 [sL o g.1 p,I g.2] .nil))) E ⟨ev2,(Bs E E)⟩ (aD E (JS.seq (JS.region (aB aA 2 [] [] [(50,.v (.agg #[sL o g.1 p,I g.2])),(51,.v (sL D C F))] _ E ⟨(Es E),E⟩ ?_))))
 obtain ⟨⟨d,G⟩,S,h⟩:=aE h
 refine JO.call E E E E (aCn g C o p D F _ S) E [6,7] E E ?_
 rintro ⟨m,n⟩ -
 refine aL aA 6 [] [148] [(12,.bp 148 0),(13,.v (.bool G))] (.new 7 46 (aG b a) (.new 8 46 bA (.new 148 38 [sL m d.1 n,I d.2] .nil))) E ⟨(Es E),(Bs E E)⟩ (aD E (JS.seq (aC aA 2 [(56,.v (.bool (!G)))] ev1 E E ?_)))
 refine aH E h (fun h=>?_) (fun h=>?_)
 ·
  refine JS.seq (JS.region (aB aA 1 [] [] [(57,.v (.agg (aG b a).toArray))] _ E ev1 ?_))
  obtain ⟨⟨U,X⟩,Y,h⟩:=aE h
  refine JO.call E E E E (cO b a _ Y) E [0,1,2,3,4,5] E E fun H _=>aL aA 4 [] [] [(5,.v (I X))] (.new 8 46 (aG U H) .nil) E ⟨ev2,(Bs E E)⟩ (aD E ?_)
  cases h
  exact JS.ret aA H V E E [0,0,0,0,0,0] E
 refine JS.skip (aM aA 5 [(W (d.2 - 1))] [] [] (.new 7 46 (aG b a) (.new 8 46 bA (.new 148 38 [sL m d.1 n,I (W (d.2 - 1))] .nil))) ⟨ev5,V,(Bs E E)⟩ E E (JS.seq (JS.region (aB aA 2 [] [] [(65,.v (.agg (aG b a).toArray)),(66,.v (.agg #[sL m d.1 n,I (W (d.2 - 1))]))] _ E ⟨(Es E),E⟩ ?_))))
 obtain ⟨⟨Z,a0⟩,a1,h⟩:=aE h
 refine JO.call E E E E (jP b (d.1,(W (d.2 - 1))) true 0 a m n _ a1) E [0,1,2,3,4,5,6] E E fun J _=>aL aA 4 [] [] [(5,.v (I a0))] (.new 8 46 (aG Z J) .nil) E ⟨ev2,(Bs E E)⟩ (aD E ?_)
 cases h
 exact JS.ret aA J V E E [0,0,0,0,0,0] E

def qO (a:EdQ) (e:Int×List (List UInt8)) (b:Int):Option (EdQ×Int):= (aF (kQ a) fun d=>(bif decide (b=120) then (aF (bV (W (a.2.2.1.2+d)) (a.2.2.1.1.length:Int)) fun h=>(aF (dY a 100 a.2.2.1.2 h) fun (i,j)=> some (i,j))) else (bif decide (b=88) then (aF (bV (W (a.2.2.1.2 - d)) (a.2.2.1.1.length:Int)) fun k=>(aF (dY a 100 k a.2.2.1.2) fun (l,m)=> some (l,m))) else (bif decide (b=68) then (aF (dY a 100 a.2.2.1.2 (a.2.2.1.1.length:Int)) fun (n,o)=> some (n,o)) else (bif decide (b=67) then (aF (dY a 99 a.2.2.1.2 (a.2.2.1.1.length:Int)) fun (p,q)=> some (p,q)) else (bif decide (b=115) then (aF (bV (W (a.2.2.1.2+d)) (a.2.2.1.1.length:Int)) fun r=>(aF (dY a 99 a.2.2.1.2 r) fun (s,t)=> some (s,t))) else (bif decide (b=83) then (aF (dY a 99 0 (a.2.2.1.1.length:Int)) fun (u,v)=> some (u,v)) else (bif decide (b=114) then (aF (cA a) fun c=> some ((c.1,c.2.1,c.2.2.1,c.2.2.2.1,c.2.2.2.2.1,c.2.2.2.2.2.1,114,c.2.2.2.2.2.2.2.1,c.2.2.2.2.2.2.2.2.1,c.2.2.2.2.2.2.2.2.2.1,c.2.2.2.2.2.2.2.2.2.2.1,c.2.2.2.2.2.2.2.2.2.2.2.1,c.2.2.2.2.2.2.2.2.2.2.2.2.1,c.2.2.2.2.2.2.2.2.2.2.2.2.2.1,c.2.2.2.2.2.2.2.2.2.2.2.2.2.2.1,c.2.2.2.2.2.2.2.2.2.2.2.2.2.2.2.1,c.2.2.2.2.2.2.2.2.2.2.2.2.2.2.2.2),0)) else (bif decide (b=105) then (aF (dT a a.2.2.1.2) fun (w,x)=> some (w,x)) else (bif decide (b=73) then (aF (kE a.2.2.1.1 a.2.2.1.2 94 1) fun (y,a3,a4)=>(aF (dT a y) fun (z,A)=> some (z,A))) else (bif decide (b=97) then (aF (bV (W (a.2.2.1.2+1)) (a.2.2.1.1.length:Int)) fun B=>(aF (dT a B) fun (C,D)=> some (C,D))) else (bif decide (b=65) then (aF (dT a (a.2.2.1.1.length:Int)) fun (F,G)=> some (F,G)) else (bif decide (b=112) then (aF (bV (W (a.2.2.1.2+1)) (a.2.2.1.1.length:Int)) fun H=>(aF (rT a H) fun (J,K)=> some (J,K))) else (bif decide (b=80) then (aF (rT a a.2.2.1.2) fun (L,M)=> some (L,M)) else (bif decide (b=126) then (aF (qN a) fun (N,O)=> some (N,O)) else (bif decide (b=117) then (aF (sS a) fun (P,Q)=> some (P,Q)) else (aS (fun (R:Bool)=>(bif R then (aF (gE a e (-1)) fun (S,T)=> some (S,T)) else (aS (fun (U:Bool)=>(bif U then (aF (gE a e 1) fun (X,Y)=> some (X,Y)) else (bif decide (b=47) then (aF (lM a) fun (Z,a0)=> some (Z,a0)) else (aF (cH a) fun (a1,a2)=> some (a1,a2))))) fun f=>(bif decide (b=106) then f (decide (b=106)) else f (decide (b=43)))))) fun g=>(bif decide (b=107) then g (decide (b=107)) else g (decide (b=45))))))))))))))))))))

theorem aHs (a:EdQ) (d:Int×List (List UInt8)) (c:Int) (b:P6) (e:Option Addr) (f:Nat) (r:EdQ×Int) (h:qO a d c=some r):
 FC Tryz.prog 271 [.agg (cD a b).toArray,.agg #[I d.1,sL e d.2 f],I c] (bP a b [⟨.str,⟨e,d.2.length,f⟩,d.2⟩]) (fun _:P6=>True) (fun q=>.tuple #[.agg (aG r.1 q).toArray,I r.2]) (fun q=>(bP r.1 q [])):= by
 refine FC.of (T:=TTx) Tryz.call271 Tryz.func271 E E fun w0=>?_
 unfold qO at h
 refine aM aA 4 [] [8,9,10] [(3,.bp 8 0),(4,.bp 9 0),(6,.bp 10 0)] (.new 8 46 (aG a b) (.new 9 50 [I d.1,sL e d.2 f] (.new 10 46 bA .nil))) ⟨(Es E),(Bs E E)⟩ E E (aC aA 4 [(8,.v (I a.2.2.1.2))] ev1 E E (JS.seq (JS.region (aB aA 1 [] [] [(18,.v (.agg (aG a b).toArray))] _ E ev1 ?_))))
 refine bnw h fun g U h=>JO.call E E E E (pX a b _ U) E [0,1,2,3,4,5] E E fun _ _=>aB aA 1 [] [] [(9,.v (I g))] _ E ev1 (aD E (aC aA 5 [(10,.v (I (a.2.2.1.1.length:Int)))] ev1 E E (JS.seq (aC aA 1 [(24,.v (I c))] ev1 E E (JS.block (aC aA 2 [(25,.v (.bool (decide (c=120))))] ev1 E E ?_))))))
 refine aH E h (fun h=>?_) (fun h=>?_)
 ·
  refine JS.seq ?_
  obtain ⟨X,Y,h⟩:=aE h
  obtain ⟨⟨s,t⟩,Z,h⟩:=aE h
  refine bF E (.new 8 46 (aG a b) .nil) [] [7,8,9,10,11] ev4 E (fun f8=>?_)
  refine bX aA aJ true 6 [0,1,2,3,4,5] E (by kernel_rfl) [(W (a.2.2.1.2+g))] [(27,.v (.agg (aG a b).toArray)),(28,.v (I a.2.2.1.2)),(31,.v (I (W (a.2.2.1.2+g)))),(32,.v (I (a.2.2.1.1.length:Int)))] ev4 [] E E ⟨ev5,(Es E)⟩ (JA.one 6 (by kernel_rfl) (JK.call E E E E (bN (W (a.2.2.1.2+g)) (a.2.2.1.1.length:Int) _ Y) E [] E E fun _ _=>aU ev4 [] E (JA.one 7 (by kernel_rfl) (JK.call E E E E (gZ a 100 a.2.2.1.2 X b _ Z) E [0,1,2,3,4,5] E E ?_))))
  rintro j -
  refine aR E (aT aA aJ 2 [8,9] E (by kernel_rfl) [] [(35,.v (.agg (aG s j).toArray)),(36,.v (I t))] E (Es E) (JA.one 10 (by kernel_rfl) (bH aA E E E E E E E E (aR E (aT aA aJ 0 [11] E (by kernel_rfl) [] [(7,.v (I t))] E ev2 (bM (by kernel_rfl) (bE (B':=(.new 10 46 (aG s j) .nil)) (Bs E E) ?_)))))))
  cases h
  exact JS.ret aA j V E E [0,0,0,0,0,0] E
 refine aC aA 2 [(37,.v (.bool (decide (c=88))))] ev1 E E ?_
 refine aH E h (fun h=>?_) (fun h=>?_)
 ·
  refine JS.seq ?_
  obtain ⟨a0,a1,h⟩:=aE h
  obtain ⟨⟨u,w⟩,a2,h⟩:=aE h
  refine bF E (.new 8 46 (aG a b) .nil) [] [7,8,9,10,11] ev4 E (fun f9=>?_)
  refine bX aA aJ true 6 [0,1,2,3,4,6] E (by kernel_rfl) [(W (a.2.2.1.2 - g))] [(39,.v (.agg (aG a b).toArray)),(42,.v (I (W (a.2.2.1.2 - g)))),(43,.v (I (a.2.2.1.1.length:Int))),(45,.v (I a.2.2.1.2))] ev4 [] E E ⟨ev5,(Es E)⟩ (JA.one 5 (by kernel_rfl) (JK.call E E E E (bN (W (a.2.2.1.2 - g)) (a.2.2.1.1.length:Int) _ a1) E [] E E fun _ _=>aU ev4 [] E (JA.one 7 (by kernel_rfl) (JK.call E E E E (gZ a 100 a0 a.2.2.1.2 b _ a2) E [0,1,2,3,4,5] E E ?_))))
  rintro k -
  refine aR E (aT aA aJ 2 [8,9] E (by kernel_rfl) [] [(47,.v (.agg (aG u k).toArray)),(48,.v (I w))] E (Es E) (JA.one 10 (by kernel_rfl) (bH aA E E E E E E E E (aR E (aT aA aJ 0 [11] E (by kernel_rfl) [] [(7,.v (I w))] E ev2 (bM (by kernel_rfl) (bE (B':=(.new 10 46 (aG u k) .nil)) (Bs E E) ?_)))))))
  cases h
  exact JS.ret aA k V E E [0,0,0,0,0,0] E
 refine aC aA 2 [(49,.v (.bool (decide (c=68))))] ev1 E E ?_
 refine aH E h (fun h=>?_) (fun h=>?_)
 ·
  refine JS.seq (JS.region (aB aA 3 [] [] [(51,.v (.agg (aG a b).toArray)),(52,.v (I a.2.2.1.2)),(53,.v (I (a.2.2.1.1.length:Int)))] _ E ⟨(Es E),E⟩ ?_))
  obtain ⟨⟨a3,a4⟩,a5,h⟩:=aE h
  refine JO.call E E E E (gZ a 100 a.2.2.1.2 (a.2.2.1.1.length:Int) b _ a5) E [0,1,2,3,4,5] E E fun x _=>aL aA 4 [] [] [(7,.v (I a4))] (.new 10 46 (aG a3 x) .nil) E ⟨ev2,(Bs E E)⟩ (aD E ?_)
  cases h
  exact JS.ret aA x V E E [0,0,0,0,0,0] E
 refine aC aA 2 [(57,.v (.bool (decide (c=67))))] ev1 E E ?_
 refine aH E h (fun h=>?_) (fun h=>?_)
 ·
  refine JS.seq (JS.region (aB aA 3 [] [] [(59,.v (.agg (aG a b).toArray)),(60,.v (I a.2.2.1.2)),(61,.v (I (a.2.2.1.1.length:Int)))] _ E ⟨(Es E),E⟩ ?_))
  obtain ⟨⟨a6,a7⟩,a8,h⟩:=aE h
  refine JO.call E E E E (gZ a 99 a.2.2.1.2 (a.2.2.1.1.length:Int) b _ a8) E [0,1,2,3,4,5] E E fun y _=>aL aA 4 [] [] [(7,.v (I a7))] (.new 10 46 (aG a6 y) .nil) E ⟨ev2,(Bs E E)⟩ (aD E ?_)
  cases h
  exact JS.ret aA y V E E [0,0,0,0,0,0] E
 refine aC aA 2 [(65,.v (.bool (decide (c=115))))] ev1 E E ?_
 refine aH E h (fun h=>?_) (fun h=>?_)
 ·
  refine JS.seq ?_
  obtain ⟨a9,b0,h⟩:=aE h
  obtain ⟨⟨A,B⟩,b1,h⟩:=aE h
  refine bF E (.new 8 46 (aG a b) .nil) [] [7,8,9,10,11] ev4 E (fun g0=>?_)
  refine bX aA aJ true 6 [0,1,2,3,4,5] E (by kernel_rfl) [(W (a.2.2.1.2+g))] [(67,.v (.agg (aG a b).toArray)),(68,.v (I a.2.2.1.2)),(71,.v (I (W (a.2.2.1.2+g)))),(72,.v (I (a.2.2.1.1.length:Int)))] ev4 [] E E ⟨ev5,(Es E)⟩ (JA.one 6 (by kernel_rfl) (JK.call E E E E (bN (W (a.2.2.1.2+g)) (a.2.2.1.1.length:Int) _ b0) E [] E E fun _ _=>aU ev4 [] E (JA.one 7 (by kernel_rfl) (JK.call E E E E (gZ a 99 a.2.2.1.2 a9 b _ b1) E [0,1,2,3,4,5] E E ?_))))
  rintro l -
  refine aR E (aT aA aJ 2 [8,9] E (by kernel_rfl) [] [(75,.v (.agg (aG A l).toArray)),(76,.v (I B))] E (Es E) (JA.one 10 (by kernel_rfl) (bH aA E E E E E E E E (aR E (aT aA aJ 0 [11] E (by kernel_rfl) [] [(7,.v (I B))] E ev2 (bM (by kernel_rfl) (bE (B':=(.new 10 46 (aG A l) .nil)) (Bs E E) ?_)))))))
  cases h
  exact JS.ret aA l V E E [0,0,0,0,0,0] E
 refine aC aA 2 [(77,.v (.bool (decide (c=83))))] ev1 E E ?_
 refine aH E h (fun h=>?_) (fun h=>?_)
 ·
  refine JS.seq (JS.region (aB aA 2 [] [] [(79,.v (.agg (aG a b).toArray)),(80,.v (I (a.2.2.1.1.length:Int)))] _ E ⟨(Es E),E⟩ ?_))
  obtain ⟨⟨b2,b3⟩,b4,h⟩:=aE h
  refine JO.call E E E E (gZ a 99 0 (a.2.2.1.1.length:Int) b _ b4) E [0,1,2,3,4,5] E E fun C _=>aL aA 4 [] [] [(7,.v (I b3))] (.new 10 46 (aG b2 C) .nil) E ⟨ev2,(Bs E E)⟩ (aD E ?_)
  cases h
  exact JS.ret aA C V E E [0,0,0,0,0,0] E
 refine aC aA 2 [(84,.v (.bool (decide (c=114))))] ev1 E E ?_
 refine aH E h (fun h=>?_) (fun h=>?_)
 ·
  refine JS.seq (JS.region (aB aA 1 [] [] [(86,.v (.agg (aG a b).toArray))] _ E ev1 ?_))
  refine bnw h fun m b5 h=>JO.call E E E E (cI a b _ b5) E [0,1,2,3,4,5] E E fun i _=>aL aA 2 [] [168] [(11,.bp 168 0)] (.new 10 46 bA (.new 168 46 (aG m i) .nil)) E ⟨ev2,(Bs E E)⟩ (aD E (aM aA 2 [] [] [] (.new 10 46 bA (.new 168 46 (aG (U6 m 114) i) .nil)) ⟨V,(Bs E E)⟩ E E (aM aA 3 [] [] [(7,.v (I 0))] (.new 10 46 (aG (U6 m 114) i) .nil) ⟨ev2,(Bs E E)⟩ E E ?_)))
  cases h
  exact JS.ret aA i V E E [0,0,0,0,0,0] E
 refine aC aA 2 [(90,.v (.bool (decide (c=105))))] ev1 E E ?_
 refine aH E h (fun h=>?_) (fun h=>?_)
 ·
  refine JS.seq (JS.region (aB aA 2 [] [] [(92,.v (.agg (aG a b).toArray)),(93,.v (I a.2.2.1.2))] _ E ⟨(Es E),E⟩ ?_))
  obtain ⟨⟨b6,b7⟩,b8,h⟩:=aE h
  refine JO.call E E E E (lY a a.2.2.1.2 b _ b8) E [0,1,2,3,4,5] E E fun D _=>aL aA 4 [] [] [(7,.v (I b7))] (.new 10 46 (aG b6 D) .nil) E ⟨ev2,(Bs E E)⟩ (aD E ?_)
  cases h
  exact JS.ret aA D V E E [0,0,0,0,0,0] E
 refine aC aA 2 [(97,.v (.bool (decide (c=73))))] ev1 E E ?_
 refine aH E h (fun h=>?_) (fun h=>?_)
 ·
  refine JS.seq (JS.region (aB aA 4 [] [] [(102,.v (sL b.1 a.2.2.1.1 b.2.1)),(103,.v (I a.2.2.1.2))] _ E ⟨(Es E),E⟩ ?_))
  obtain ⟨⟨n,g1,g2⟩,b9,h⟩:=aE h
  refine JO.call E E E E (wH a.2.2.1.1 a.2.2.1.2 94 1 b.1 b.2.1 _ b9) E [0] E E fun _ _=>aB aA 7 [] [] [(12,.v (I n))] _ E ev1 (aD E (JS.seq (JS.region (aB aA 2 [] [] [(108,.v (.agg (aG a b).toArray)),(109,.v (I n))] _ E ⟨(Es E),E⟩ ?_))))
  obtain ⟨⟨c0,c1⟩,c2,h⟩:=aE h
  refine JO.call E E E E (lY a n b _ c2) E [0,1,2,3,4,5] E E fun F _=>aL aA 4 [] [] [(7,.v (I c1))] (.new 10 46 (aG c0 F) .nil) E ⟨ev2,(Bs E E)⟩ (aD E ?_)
  cases h
  exact JS.ret aA F V E E [0,0,0,0,0,0] E
 refine aC aA 2 [(113,.v (.bool (decide (c=97))))] ev1 E E ?_
 refine aH E h (fun h=>?_) (fun h=>?_)
 ·
  refine JS.seq ?_
  obtain ⟨c3,c4,h⟩:=aE h
  obtain ⟨⟨G,H⟩,c5,h⟩:=aE h
  refine bF E (.new 8 46 (aG a b) .nil) [] [5,6,7,8,9] ev4 E (fun g3=>?_)
  refine bX aA aJ true 6 [0,1,2,3] E (by kernel_rfl) [(W (a.2.2.1.2+1))] [(115,.v (.agg (aG a b).toArray)),(117,.v (I (W (a.2.2.1.2+1)))),(118,.v (I (a.2.2.1.1.length:Int)))] ev4 [] E E ⟨ev5,(Es E)⟩ (JA.one 4 (by kernel_rfl) (JK.call E E E E (bN (W (a.2.2.1.2+1)) (a.2.2.1.1.length:Int) _ c4) E [] E E fun _ _=>aU ev4 [] E (JA.one 5 (by kernel_rfl) (JK.call E E E E (lY a c3 b _ c5) E [0,1,2,3,4,5] E E ?_))))
  rintro o -
  refine aR E (aT aA aJ 2 [6,7] E (by kernel_rfl) [] [(121,.v (.agg (aG G o).toArray)),(122,.v (I H))] E (Es E) (JA.one 8 (by kernel_rfl) (bH aA E E E E E E E E (aR E (aT aA aJ 0 [9] E (by kernel_rfl) [] [(7,.v (I H))] E ev2 (bM (by kernel_rfl) (bE (B':=(.new 10 46 (aG G o) .nil)) (Bs E E) ?_)))))))
  cases h
  exact JS.ret aA o V E E [0,0,0,0,0,0] E
 refine aC aA 2 [(123,.v (.bool (decide (c=65))))] ev1 E E ?_
 refine aH E h (fun h=>?_) (fun h=>?_)
 ·
  refine JS.seq (JS.region (aB aA 2 [] [] [(125,.v (.agg (aG a b).toArray)),(126,.v (I (a.2.2.1.1.length:Int)))] _ E ⟨(Es E),E⟩ ?_))
  obtain ⟨⟨c6,c7⟩,c8,h⟩:=aE h
  refine JO.call E E E E (lY a (a.2.2.1.1.length:Int) b _ c8) E [0,1,2,3,4,5] E E fun J _=>aL aA 4 [] [] [(7,.v (I c7))] (.new 10 46 (aG c6 J) .nil) E ⟨ev2,(Bs E E)⟩ (aD E ?_)
  cases h
  exact JS.ret aA J V E E [0,0,0,0,0,0] E
 refine aC aA 2 [(130,.v (.bool (decide (c=112))))] ev1 E E ?_
 refine aH E h (fun h=>?_) (fun h=>?_)
 ·
  refine JS.seq ?_
  obtain ⟨c9,d0,h⟩:=aE h
  obtain ⟨⟨K,L⟩,d1,h⟩:=aE h
  refine bF E (.new 8 46 (aG a b) .nil) [] [5,6,7,8,9] ev4 E (fun g4=>?_)
  refine bX aA aJ true 6 [0,1,2,3] E (by kernel_rfl) [(W (a.2.2.1.2+1))] [(132,.v (.agg (aG a b).toArray)),(134,.v (I (W (a.2.2.1.2+1)))),(135,.v (I (a.2.2.1.1.length:Int)))] ev4 [] E E ⟨ev5,(Es E)⟩ (JA.one 4 (by kernel_rfl) (JK.call E E E E (bN (W (a.2.2.1.2+1)) (a.2.2.1.1.length:Int) _ d0) E [] E E fun _ _=>aU ev4 [] E (JA.one 5 (by kernel_rfl) (JK.call E E E E (aD7 a c9 b _ d1) E [0,1,2,3,4,5] E E ?_))))
  rintro p -
  refine aR E (aT aA aJ 2 [6,7] E (by kernel_rfl) [] [(138,.v (.agg (aG K p).toArray)),(139,.v (I L))] E (Es E) (JA.one 8 (by kernel_rfl) (bH aA E E E E E E E E (aR E (aT aA aJ 0 [9] E (by kernel_rfl) [] [(7,.v (I L))] E ev2 (bM (by kernel_rfl) (bE (B':=(.new 10 46 (aG K p) .nil)) (Bs E E) ?_)))))))
  cases h
  exact JS.ret aA p V E E [0,0,0,0,0,0] E
 refine aC aA 2 [(140,.v (.bool (decide (c=80))))] ev1 E E ?_
 refine aH E h (fun h=>?_) (fun h=>?_)
 ·
  refine JS.seq (JS.region (aB aA 2 [] [] [(142,.v (.agg (aG a b).toArray)),(143,.v (I a.2.2.1.2))] _ E ⟨(Es E),E⟩ ?_))
  obtain ⟨⟨d2,d3⟩,d4,h⟩:=aE h
  refine JO.call E E E E (aD7 a a.2.2.1.2 b _ d4) E [0,1,2,3,4,5] E E fun M _=>aL aA 4 [] [] [(7,.v (I d3))] (.new 10 46 (aG d2 M) .nil) E ⟨ev2,(Bs E E)⟩ (aD E ?_)
  cases h
  exact JS.ret aA M V E E [0,0,0,0,0,0] E
 refine aC aA 2 [(147,.v (.bool (decide (c=126))))] ev1 E E ?_
 refine aH E h (fun h=>?_) (fun h=>?_)
 ·
  refine JS.seq (JS.region (aB aA 1 [] [] [(149,.v (.agg (aG a b).toArray))] _ E ev1 ?_))
  obtain ⟨⟨d5,d6⟩,d7,h⟩:=aE h
  refine JO.call E E E E (aHr a b _ d7) E [0,1,2,3,4,5] E E fun N _=>aL aA 4 [] [] [(7,.v (I d6))] (.new 10 46 (aG d5 N) .nil) E ⟨ev2,(Bs E E)⟩ (aD E ?_)
  cases h
  exact JS.ret aA N V E E [0,0,0,0,0,0] E
 refine aC aA 2 [(153,.v (.bool (decide (c=117))))] ev1 E E ?_
 refine aH E h (fun h=>?_) (fun h=>?_)
 ·
  refine JS.seq (JS.region (aB aA 1 [] [] [(155,.v (.agg (aG a b).toArray))] _ E ev1 ?_))
  obtain ⟨⟨d8,d9⟩,e0,h⟩:=aE h
  refine JO.call E E E E (aJz a b _ e0) E [0,1,2,3,4,5] E E fun O _=>aL aA 4 [] [] [(7,.v (I d9))] (.new 10 46 (aG d8 O) .nil) E ⟨ev2,(Bs E E)⟩ (aD E ?_)
  cases h
  exact JS.ret aA O V E E [0,0,0,0,0,0] E
 obtain ⟨e1,e2,h⟩:=aN h
 refine bZ (ι:=Bool) ⟨fun z=>e1 z=some r,fun z=>[(3,.bp 8 0),(4,.bp 9 0),(6,.bp 10 0),(24,.v (I c)),(159,.v (.bool z))],fun z=>(.new 8 46 (aG a b) (.new 9 50 [I d.1,sL e d.2 f] (.new 10 46 bA .nil))),fun z=>(bP a b [⟨.str,⟨e,d.2.length,f⟩,d.2⟩]),fun z=>[],fun z=>0⟩ ?_ ?_
 ·
  refine aC aA 2 [(159,.v (.bool (decide (c=107))))] ev1 E E ?_
  refine aH E h (fun h=>?_) (fun h=>?_)
  ·
   refine JS.skip (aQ (decide (c=107)) h (Es E) (Bs E E) [0,1,2,3,4,5,6] E [] E)
  refine eR aA 2 [(159,.v (.bool (decide (c=45))))] ev1 E E (aQ (decide (c=45)) h (Es E) (Bs E E) [0,1,2,3,4,5,6] E [] E)
 rintro g5 h
 subst e2
 refine aH E h (fun h=>?_) (fun h=>?_)
 ·
  refine JS.seq (JS.region (aB aA 2 [] [] [(162,.v (.agg (aG a b).toArray)),(163,.v (.agg #[I d.1,sL e d.2 f]))] _ E ⟨(Es E),E⟩ ?_))
  obtain ⟨⟨e3,e4⟩,e5,h⟩:=aE h
  refine JO.call E E E E (nD a d (-1) b e f _ e5) E [0,1,2,3,4,5,6] E E fun P _=>aL aA 4 [] [] [(7,.v (I e4))] (.new 10 46 (aG e3 P) .nil) E ⟨ev2,(Bs E E)⟩ (aD E ?_)
  cases h
  exact JS.ret aA P V E E [0,0,0,0,0,0] E
 obtain ⟨e6,e7,h⟩:=aN h
 refine bZ (ι:=Bool) ⟨fun z=>e6 z=some r,fun z=>[(3,.bp 8 0),(4,.bp 9 0),(6,.bp 10 0),(24,.v (I c)),(167,.v (.bool z))],fun z=>(.new 8 46 (aG a b) (.new 9 50 [I d.1,sL e d.2 f] (.new 10 46 bA .nil))),fun z=>(bP a b [⟨.str,⟨e,d.2.length,f⟩,d.2⟩]),fun z=>[],fun z=>0⟩ ?_ ?_
 ·
  refine aC aA 2 [(167,.v (.bool (decide (c=106))))] ev1 E E ?_
  refine aH E h (fun h=>?_) (fun h=>?_)
  ·
   refine JS.skip (aQ (decide (c=106)) h (Es E) (Bs E E) [0,1,2,3,4,5,6] E [] E)
  refine eR aA 2 [(167,.v (.bool (decide (c=43))))] ev1 E E (aQ (decide (c=43)) h (Es E) (Bs E E) [0,1,2,3,4,5,6] E [] E)
 rintro g6 h
 subst e7
 refine aH E h (fun h=>?_) (fun h=>?_)
 ·
  refine JS.seq (JS.region (aB aA 2 [] [] [(170,.v (.agg (aG a b).toArray)),(171,.v (.agg #[I d.1,sL e d.2 f]))] _ E ⟨(Es E),E⟩ ?_))
  obtain ⟨⟨e8,e9⟩,f0,h⟩:=aE h
  refine JO.call E E E E (nD a d 1 b e f _ f0) E [0,1,2,3,4,5,6] E E fun Q _=>aL aA 4 [] [] [(7,.v (I e9))] (.new 10 46 (aG e8 Q) .nil) E ⟨ev2,(Bs E E)⟩ (aD E ?_)
  cases h
  exact JS.ret aA Q V E E [0,0,0,0,0,0] E
 refine aC aA 2 [(175,.v (.bool (decide (c=47))))] ev1 E E ?_
 refine aH E h (fun h=>?_) (fun h=>?_)
 ·
  refine JS.seq (JS.region (aB aA 1 [] [] [(177,.v (.agg (aG a b).toArray))] _ E ev1 ?_))
  obtain ⟨⟨f1,f2⟩,f3,h⟩:=aE h
  refine JO.call E E E E (zQ a b _ f3) E [0,1,2,3,4,5] E E fun R _=>aL aA 4 [] [] [(7,.v (I f2))] (.new 10 46 (aG f1 R) .nil) E ⟨ev2,(Bs E E)⟩ (aD E ?_)
  cases h
  exact JS.ret aA R V E E [0,0,0,0,0,0] E
 refine JS.skip (aV (JS.seq (JS.region (aB aA 1 [] [] [(181,.v (.agg (aG a b).toArray))] _ E ev1 ?_))))
 obtain ⟨⟨f4,f5⟩,f6,h⟩:=aE h
 refine JO.call E E E E (cO a b _ f6) E [0,1,2,3,4,5] E E fun S _=>aL aA 4 [] [] [(7,.v (I f5))] (.new 10 46 (aG f4 S) .nil) E ⟨ev2,(Bs E E)⟩ (aD E ?_)
 cases h
 exact JS.ret aA S V E E [0,0,0,0,0,0] E

def sR (b:EdQ) (d:Int×List (List UInt8)) (c:Int):Option (EdQ×Int):= (aF (cA b) fun a=>(bif (bif (bif decide (49≤c) then (decide (c≤57)) else false) then true else (bif decide (c=48) then (decide (0<b.2.2.2.1)) else false)) then (aF (bV (W ((W ((W (b.2.2.2.1*10))+c)) - 48)) 999) fun e=> some ((a.1,a.2.1,a.2.2.1,e,a.2.2.2.2.1,a.2.2.2.2.2.1,a.2.2.2.2.2.2.1,a.2.2.2.2.2.2.2.1,a.2.2.2.2.2.2.2.2.1,a.2.2.2.2.2.2.2.2.2.1,a.2.2.2.2.2.2.2.2.2.2.1,a.2.2.2.2.2.2.2.2.2.2.2.1,a.2.2.2.2.2.2.2.2.2.2.2.2.1,a.2.2.2.2.2.2.2.2.2.2.2.2.2.1,a.2.2.2.2.2.2.2.2.2.2.2.2.2.2.1,a.2.2.2.2.2.2.2.2.2.2.2.2.2.2.2.1,a.2.2.2.2.2.2.2.2.2.2.2.2.2.2.2.2),0)) else (aF (xK c) fun f=>(bif decide (0≤f) then some ((a.1,a.2.1,a.2.2.1,a.2.2.2.1,a.2.2.2.2.1,a.2.2.2.2.2.1,c,a.2.2.2.2.2.2.2.1,a.2.2.2.2.2.2.2.2.1,a.2.2.2.2.2.2.2.2.2.1,a.2.2.2.2.2.2.2.2.2.2.1,a.2.2.2.2.2.2.2.2.2.2.2.1,a.2.2.2.2.2.2.2.2.2.2.2.2.1,a.2.2.2.2.2.2.2.2.2.2.2.2.2.1,a.2.2.2.2.2.2.2.2.2.2.2.2.2.2.1,a.2.2.2.2.2.2.2.2.2.2.2.2.2.2.2.1,a.2.2.2.2.2.2.2.2.2.2.2.2.2.2.2.2),0) else (bif decide (c=59) then (aF (mF b b.2.2.2.2.2.2.2.1 b.2.2.2.2.2.2.2.2.1) fun (g,h)=> some (g,h)) else (bif decide (c=44) then (aF (wA b.2.2.2.2.2.2.2.2.1) fun i=>(aF (mF b b.2.2.2.2.2.2.2.1 i) fun (j,k)=> some (j,k))) else (bif (bif decide (b.2.2.2.2.1=0) then (bif (bif decide (c=100) then true else (decide (c=99))) then true else (decide (c=121))) else false) then some ((a.1,a.2.1,a.2.2.1,0,c,b.2.2.2.1,a.2.2.2.2.2.2.1,a.2.2.2.2.2.2.2.1,a.2.2.2.2.2.2.2.2.1,a.2.2.2.2.2.2.2.2.2.1,a.2.2.2.2.2.2.2.2.2.2.1,a.2.2.2.2.2.2.2.2.2.2.2.1,a.2.2.2.2.2.2.2.2.2.2.2.2.1,a.2.2.2.2.2.2.2.2.2.2.2.2.2.1,a.2.2.2.2.2.2.2.2.2.2.2.2.2.2.1,a.2.2.2.2.2.2.2.2.2.2.2.2.2.2.2.1,a.2.2.2.2.2.2.2.2.2.2.2.2.2.2.2.2),0) else (bif (bif (!(decide (b.2.2.2.2.1=0))) then (decide (c=b.2.2.2.2.1)) else false) then (aF (dY b b.2.2.2.2.1 0 (b.2.2.1.1.length:Int)) fun (l,m)=> some (l,m)) else (aF (kE b.2.2.1.1 b.2.2.1.2 c 1) fun (u,v,n)=>(bif n then (aF (fN b c) fun (o,p)=> some (o,p)) else (bif (!(decide (b.2.2.2.2.1=0))) then (aF (cH b) fun (q,r)=> some (q,r)) else (aF (qO b d c) fun (s,t)=> some (s,t)))))))))))))

theorem aJx (a:EdQ) (d:Int×List (List UInt8)) (b:Int) (c:P6) (g:Option Addr) (i:Nat) (r:EdQ×Int) (h:sR a d b=some r):
 FC Tryz.prog 211 [.agg (cD a c).toArray,.agg #[I d.1,sL g d.2 i],I b] (bP a c [⟨.str,⟨g,d.2.length,i⟩,d.2⟩]) (fun _:P6=>True) (fun q=>.tuple #[.agg (aG r.1 q).toArray,I r.2]) (fun q=>(bP r.1 q [])):= by
 refine FC.of (T:=TTx) Tryz.call211 Tryz.func211 E E fun Y=>?_
 unfold sR at h
 refine aM aA 4 [] [8,9,10] [(3,.bp 8 0),(4,.bp 9 0),(6,.bp 10 0)] (.new 8 46 (aG a c) (.new 9 50 [I d.1,sL g d.2 i] (.new 10 46 bA .nil))) ⟨(Es E),(Bs E E)⟩ E E (JS.seq (JS.region (aB aA 1 [] [] [(12,.v (.agg (aG a c).toArray))] _ E ev1 ?_)))
 refine bnw h fun f w h=>JO.call E E E E (cI a c _ w) E [0,1,2,3,4,5] E E fun e _=>aL aA 2 [] [31] [(8,.bp 31 0)] (.new 8 46 (aG a c) (.new 9 50 [I d.1,sL g d.2 i] (.new 10 46 bA (.new 31 46 (aG f e) .nil)))) E ⟨ev2,(Bs E E)⟩ (aD E (JS.seq (aC aA 15 [(28,.v (.bool (bif (bif (decide (49≤b)) then (decide (b≤57)) else false) then true else (bif (decide (b=48)) then (decide (0<a.2.2.2.1)) else false))))] ev1 E E ?_)))
 refine aH E h (fun h=>?_) (fun h=>?_)
 ·
  refine JS.seq (JS.region (aB aA 6 [(W (a.2.2.2.1*10)),(W ((W (a.2.2.2.1*10))+b)),(W ((W ((W (a.2.2.2.1*10))+b)) - 48))] [] [(34,.v (I (W ((W ((W (a.2.2.2.1*10))+b)) - 48))))] _ E ⟨⟨V,E⟩,⟨V,E⟩,⟨V,E⟩,⟨E,V⟩,E⟩ ?_))
  refine bnw h fun k x h=>JO.call E E E E (bN (W ((W ((W (a.2.2.2.1*10))+b)) - 48)) 999 _ x) E [] E E fun _ _=>aL aA 2 [] [] [] (.new 10 46 bA (.new 31 46 (aG (U3 f k) e) .nil)) E ⟨V,(Bs E E)⟩ (aD E (aM aA 3 [] [] [(7,.v (I 0))] (.new 10 46 (aG (U3 f k) e) .nil) ⟨ev2,(Bs E E)⟩ E E ?_))
  cases h
  exact JS.ret aA e V E E [0,0,0,0,0,0] E
 refine JS.skip (JS.seq (JS.seq (JS.region (aB aA 1 [] [] [(38,.v (I b))] _ E ev1 ?_))))
 refine bnw h fun y z h=>JO.call E E E E (aF9 b _ z) E [] E E fun _ _=>aB aA 1 [] [] [(40,.v (.bool (decide (0≤y))))] _ E ev1 (aD E ?_)
 refine aH E h (fun h=>?_) (fun h=>?_)
 ·
  refine aM aA 3 [] [] [] (.new 10 46 bA (.new 31 46 (aG (U6 f b) e) .nil)) ⟨V,(Bs E E)⟩ E E (aM aA 3 [] [] [(7,.v (I 0))] (.new 10 46 (aG (U6 f b) e) .nil) ⟨ev2,(Bs E E)⟩ E E ?_)
  cases h
  exact JS.ret aA e V E E [0,0,0,0,0,0] E
 refine JS.skip (JS.seq (aC aA 2 [(45,.v (.bool (decide (b=59))))] ev1 E E ?_))
 refine aH E h (fun h=>?_) (fun h=>?_)
 ·
  refine JS.seq (JS.region (aB aA 5 [] [] [(46,.v (.agg (aG a c).toArray)),(48,.v (I (Q4 a).2.2.2.1)),(50,.v (I (Q8 a).1))] _ E ⟨(Es E),E⟩ ?_))
  obtain ⟨⟨A,B⟩,C,h⟩:=aE h
  refine JO.call E E E E (yF a (Q4 a).2.2.2.1 (Q8 a).1 c _ C) E [0,1,2,3,4,5] E E fun l _=>aL aA 4 [] [] [(7,.v (I B))] (.new 10 46 (aG A l) .nil) E ⟨ev2,(Bs E E)⟩ (aD E ?_)
  cases h
  exact JS.ret aA l V E E [0,0,0,0,0,0] E
 refine JS.skip (JS.seq (aC aA 2 [(55,.v (.bool (decide (b=44))))] ev1 E E ?_))
 refine aH E h (fun h=>?_) (fun h=>?_)
 ·
  refine JS.seq ?_
  obtain ⟨D,F,h⟩:=aE h
  obtain ⟨⟨m,n⟩,G,h⟩:=aE h
  refine bF E (.new 8 46 (aG a c) .nil) [] [6,7,8,9,10] ev4 E (fun Z=>?_)
  refine bX aA aJ true 6 [0,1,2,3,4] E (by kernel_rfl) [] [(56,.v (.agg (aG a c).toArray)),(58,.v (I (Q4 a).2.2.2.1)),(60,.v (I (Q8 a).1))] ev4 [] E E (Es E) (JA.one 5 (by kernel_rfl) (JK.call E E E E (aJy (Q8 a).1 _ F) E [] E E fun _ _=>aU ev4 [] E (JA.one 6 (by kernel_rfl) (JK.call E E E E (yF a (Q4 a).2.2.2.1 D c _ G) E [0,1,2,3,4,5] E E ?_))))
  rintro j -
  refine aR E (aT aA aJ 2 [7,8] E (by kernel_rfl) [] [(63,.v (.agg (aG m j).toArray)),(64,.v (I n))] E (Es E) (JA.one 9 (by kernel_rfl) (bH aA E E E E E E E E (aR E (aT aA aJ 0 [10] E (by kernel_rfl) [] [(7,.v (I n))] E ev2 (bM (by kernel_rfl) (bE (B':=(.new 10 46 (aG m j) .nil)) (Bs E E) ?_)))))))
  cases h
  exact JS.ret aA j V E E [0,0,0,0,0,0] E
 refine JS.skip (JS.seq (aC aA 15 [(79,.v (.bool (bif (decide ((Q4 a).1=0)) then (bif (bif (decide (b=100)) then true else (decide (b=99))) then true else (decide (b=121))) else false)))] ev1 E E ?_))
 refine aH E h (fun h=>?_) (fun h=>?_)
 ·
  refine aM aA 3 [] [] [] (.new 8 46 (aG a c) (.new 10 46 bA (.new 31 46 (aG (U4 f b) e) .nil))) ⟨V,(Bs E E)⟩ E E (aM aA 4 [] [] [] (.new 10 46 bA (.new 31 46 (aG (U5 (U4 f b) a.2.2.2.1) e) .nil)) ⟨V,(Bs E E)⟩ E E (aM aA 2 [] [] [] (.new 10 46 bA (.new 31 46 (aG (U5 (U4 (U3 f 0) b) a.2.2.2.1) e) .nil)) ⟨V,(Bs E E)⟩ E E (aM aA 3 [] [] [(7,.v (I 0))] (.new 10 46 (aG (U5 (U4 (U3 f 0) b) a.2.2.2.1) e) .nil) ⟨ev2,(Bs E E)⟩ E E ?_)))
  cases h
  exact JS.ret aA e V E E [0,0,0,0,0,0] E
 refine JS.skip (JS.seq (aC aA 9 [(95,.v (.bool (bif (!(decide ((Q4 a).1=0))) then (decide (b=(Q4 a).1)) else false)))] ev1 E E ?_))
 refine aH E h (fun h=>?_) (fun h=>?_)
 ·
  refine JS.seq (JS.region (aB aA 7 [] [] [(96,.v (.agg (aG a c).toArray)),(98,.v (I (Q4 a).1)),(102,.v (I (a.2.2.1.1.length:Int)))] _ E ⟨(Es E),E⟩ ?_))
  obtain ⟨⟨H,J⟩,K,h⟩:=aE h
  refine JO.call E E E E (gZ a (Q4 a).1 0 (a.2.2.1.1.length:Int) c _ K) E [0,1,2,3,4,5] E E fun o _=>aL aA 4 [] [] [(7,.v (I J))] (.new 10 46 (aG H o) .nil) E ⟨ev2,(Bs E E)⟩ (aD E ?_)
  cases h
  exact JS.ret aA o V E E [0,0,0,0,0,0] E
 refine JS.skip (JS.seq (JS.region (aB aA 7 [] [] [(109,.v (sL c.1 a.2.2.1.1 c.2.1)),(112,.v (I a.2.2.1.2)),(113,.v (I b))] _ E ⟨(Es E),E⟩ ?_)))
 obtain ⟨⟨a0,a1,p⟩,L,h⟩:=aE h
 refine JO.call E E E E (wH a.2.2.1.1 a.2.2.1.2 b 1 c.1 c.2.1 _ L) E [0] E E fun _ _=>aB aA 7 [] [] [(11,.v (.bool p))] _ E ev1 (aD E (JS.seq (aC aA 1 [(118,.v (.bool p))] ev1 E E ?_)))
 refine aH E h (fun h=>?_) (fun h=>?_)
 ·
  refine JS.seq (JS.region (aB aA 2 [] [] [(119,.v (.agg (aG a c).toArray)),(120,.v (I b))] _ E ⟨(Es E),E⟩ ?_))
  obtain ⟨⟨M,N⟩,O,h⟩:=aE h
  refine JO.call E E E E (lX a b c _ O) E [0,1,2,3,4,5] E E fun s _=>aL aA 4 [] [] [(7,.v (I N))] (.new 10 46 (aG M s) .nil) E ⟨ev2,(Bs E E)⟩ (aD E ?_)
  cases h
  exact JS.ret aA s V E E [0,0,0,0,0,0] E
 refine JS.skip (JS.seq (aC aA 3 [(126,.v (.bool (!(decide ((Q4 a).1=0)))))] ev1 E E ?_))
 refine aH E h (fun h=>?_) (fun h=>?_)
 ·
  refine JS.seq (JS.region (aB aA 1 [] [] [(127,.v (.agg (aG a c).toArray))] _ E ev1 ?_))
  obtain ⟨⟨P,Q⟩,R,h⟩:=aE h
  refine JO.call E E E E (cO a c _ R) E [0,1,2,3,4,5] E E fun t _=>aL aA 4 [] [] [(7,.v (I Q))] (.new 10 46 (aG P t) .nil) E ⟨ev2,(Bs E E)⟩ (aD E ?_)
  cases h
  exact JS.ret aA t V E E [0,0,0,0,0,0] E
 refine JS.skip (JS.seq (JS.region (aB aA 3 [] [] [(131,.v (.agg (aG a c).toArray)),(132,.v (.agg #[I d.1,sL g d.2 i])),(133,.v (I b))] _ E ⟨(Es E),E⟩ ?_)))
 obtain ⟨⟨S,U⟩,X,h⟩:=aE h
 refine JO.call E E E E (aHs a d b c g i _ X) E [0,1,2,3,4,5,6] E E fun u _=>aL aA 4 [] [] [(7,.v (I U))] (.new 10 46 (aG S u) .nil) E ⟨ev2,(Bs E E)⟩ (aD E ?_)
 cases h
 exact JS.ret aA u V E E [0,0,0,0,0,0] E

def fQ (a:EdQ) (d:Int×List (List UInt8)) (b:Int×Int):Option (EdQ×Int):= (bif (!(decide (a.2.2.2.2.2.2.1=0))) then (aF (sQ a b) fun (f,g)=> some (f,g)) else (bif decide (b.1=1) then (aF (sR a d b.2) fun (h,i)=> some (h,i)) else (bif decide (b.1=4) then (aF (cA a) fun j=> some (j,2)) else (bif decide (b.1=7) then (aF (cH a) fun (c,k)=>(bif (bif (!(decide (a.2.2.2.1=0))) then true else (!(decide (a.2.2.2.2.1=0)))) then some ((c.1,c.2.1,c.2.2.1,c.2.2.2.1,c.2.2.2.2.1,c.2.2.2.2.2.1,c.2.2.2.2.2.2.1,c.2.2.2.2.2.2.2.1,c.2.2.2.2.2.2.2.2.1,a.2.2.2.2.2.2.2.2.2.1,c.2.2.2.2.2.2.2.2.2.2.1,c.2.2.2.2.2.2.2.2.2.2.2.1,c.2.2.2.2.2.2.2.2.2.2.2.2.1,c.2.2.2.2.2.2.2.2.2.2.2.2.2.1,c.2.2.2.2.2.2.2.2.2.2.2.2.2.2.1,c.2.2.2.2.2.2.2.2.2.2.2.2.2.2.2.1,c.2.2.2.2.2.2.2.2.2.2.2.2.2.2.2.2),0) else some (c,k))) else (bif decide (b.1=8) then (aF (gE a d (-1)) fun (l,m)=> some (l,m)) else (bif decide (b.1=9) then (aF (gE a d 1) fun (n,o)=> some (n,o)) else (aS (fun (p:Bool)=>(bif p then (aF (fN a 104) fun (q,r)=> some (q,r)) else (bif decide (b.1=10) then (aF (fN a 108) fun (s,t)=> some (s,t)) else (bif decide (b.1=12) then (aF (fN a 48) fun (u,v)=> some (u,v)) else (bif decide (b.1=13) then (aF (fN a 36) fun (w,x)=> some (w,x)) else (bif decide (b.1=14) then (aF (kQ a) fun y=>(aF (bV (W (a.2.2.1.2+y)) (a.2.2.1.1.length:Int)) fun z=>(aF (dY a 100 a.2.2.1.2 z) fun (A,B)=> some (A,B)))) else (bif (false ^^ (eqK b (2,99))) then (aF (cA a) fun C=> some (C,3)) else (bif (false ^^ (eqK b (2,108))) then (aF (cA a) fun D=> some (D,5)) else (bif (bif (false ^^ (eqK b (2,100))) then (decide ((a.2.2.1.1.length:Int)=0)) else false) then (aF (cA a) fun F=> some (F,4)) else (bif (false ^^ (eqK b (2,114))) then (aF (lM a) fun (G,H)=> some (G,H)) else (aF (cH a) fun (J,K)=> some (J,K)))))))))))) fun e=>(bif decide (b.1=11) then e (decide (b.1=11)) else e (decide (b.1=5))))))))))

theorem aEv (a:EdQ) (d:Int×List (List UInt8)) (c:Int×Int) (b:P6) (e:Option Addr) (f:Nat) (r:EdQ×Int) (h:fQ a d c=some r):
 FC Tryz.prog 120 [.agg (cD a b).toArray,.agg #[I d.1,sL e d.2 f],.agg #[I c.1,I c.2]] (bP a b [⟨.str,⟨e,d.2.length,f⟩,d.2⟩]) (fun _:P6=>True) (fun q=>.tuple #[.agg (aG r.1 q).toArray,I r.2]) (fun q=>(bP r.1 q [])):= by
 refine FC.of (T:=TTx) Tryz.call120 Tryz.func120 E E fun w0=>?_
 unfold fQ at h
 refine aM aA 5 [] [8,9,10,11] [(3,.bp 8 0),(4,.bp 9 0),(5,.bp 10 0),(6,.bp 11 0)] (.new 8 46 (aG a b) (.new 9 50 [I d.1,sL e d.2 f] (.new 10 64 [I c.1,I c.2] (.new 11 46 bA .nil)))) ⟨(Es E),(Bs E E)⟩ E E (JS.seq (aC aA 3 [(12,.v (.bool (!(decide ((Q4 a).2.2.1=0)))))] ev1 E E ?_))
 refine aH E h (fun h=>?_) (fun h=>?_)
 ·
  refine JS.seq (JS.region (aB aA 2 [] [] [(13,.v (.agg (aG a b).toArray)),(14,.v (.agg #[I c.1,I c.2]))] _ E ⟨(Es E),E⟩ ?_))
  obtain ⟨⟨H,J⟩,K,h⟩:=aE h
  refine JO.call E E E E (aJw a c b _ K) E [0,1,2,3,4,5] E E fun l _=>aL aA 4 [] [] [(7,.v (I J))] (.new 11 46 (aG H l) .nil) E ⟨ev2,(Bs E E)⟩ (aD E ?_)
  cases h
  exact JS.ret aA l V E E [0,0,0,0,0,0] E
 refine JS.skip (JS.seq (aC aA 2 [(19,.v (I c.1))] ev1 E E (JS.block (aC aA 2 [(20,.v (.bool (decide (c.1=1))))] ev1 E E ?_))))
 refine aH E h (fun h=>?_) (fun h=>?_)
 ·
  refine JS.seq (JS.region (aB aA 4 [] [] [(22,.v (.agg (aG a b).toArray)),(23,.v (.agg #[I d.1,sL e d.2 f])),(25,.v (I c.2))] _ E ⟨(Es E),E⟩ ?_))
  obtain ⟨⟨L,M⟩,N,h⟩:=aE h
  refine JO.call E E E E (aJx a d c.2 b e f _ N) E [0,1,2,3,4,5,6] E E fun m _=>aL aA 4 [] [] [(7,.v (I M))] (.new 11 46 (aG L m) .nil) E ⟨ev2,(Bs E E)⟩ (aD E ?_)
  cases h
  exact JS.ret aA m V E E [0,0,0,0,0,0] E
 refine aC aA 2 [(29,.v (.bool (decide (c.1=4))))] ev1 E E ?_
 refine aH E h (fun h=>?_) (fun h=>?_)
 ·
  refine JS.seq (JS.region (aB aA 1 [] [] [(31,.v (.agg (aG a b).toArray))] _ E ev1 ?_))
  refine bnw h fun O P h=>JO.call E E E E (cI a b _ P) E [0,1,2,3,4,5] E E fun n _=>aL aA 2 [] [] [(7,.v (I 2))] (.new 11 46 (aG O n) .nil) E ⟨ev2,(Bs E E)⟩ (aD E ?_)
  cases h
  exact JS.ret aA n V E E [0,0,0,0,0,0] E
 refine aC aA 2 [(33,.v (.bool (decide (c.1=7))))] ev1 E E ?_
 refine aH E h (fun h=>?_) (fun h=>?_)
 ·
  refine JS.seq (JS.region (aB aA 1 [] [] [(36,.v (.agg (aG a b).toArray))] _ E ev1 ?_))
  obtain ⟨⟨i,o⟩,Q,h⟩:=aE h
  refine JO.call E E E E (cO a b _ Q) E [0,1,2,3,4,5] E E fun g _=>aL aA 6 [] [95] [(8,.bp 95 0),(9,.v (I o))] (.new 8 46 (aG a b) (.new 11 46 bA (.new 95 46 (aG i g) .nil))) E ⟨(Es E),(Bs E E)⟩ (aD E (JS.seq (aC aA 8 [(47,.v (.bool (bif (!(decide (a.2.2.2.1=0))) then true else (!(decide ((Q4 a).1=0))))))] ev1 E E ?_)))
  refine aH E h (fun h=>?_) (fun h=>?_)
  ·
   refine aM aA 4 [] [] [] (.new 11 46 bA (.new 95 46 (aG (U9 i (Q8 a).2.1) g) .nil)) ⟨V,(Bs E E)⟩ E E (aM aA 3 [] [] [(7,.v (I 0))] (.new 11 46 (aG (U9 i (Q8 a).2.1) g) .nil) ⟨ev2,(Bs E E)⟩ E E ?_)
   cases h
   exact JS.ret aA g V E E [0,0,0,0,0,0] E
  refine JS.skip (aM aA 4 [] [] [(7,.v (I o))] (.new 11 46 (aG i g) .nil) ⟨ev2,(Bs E E)⟩ E E ?_)
  cases h
  exact JS.ret aA g V E E [0,0,0,0,0,0] E
 refine aC aA 2 [(54,.v (.bool (decide (c.1=8))))] ev1 E E ?_
 refine aH E h (fun h=>?_) (fun h=>?_)
 ·
  refine JS.seq (JS.region (aB aA 2 [] [] [(56,.v (.agg (aG a b).toArray)),(57,.v (.agg #[I d.1,sL e d.2 f]))] _ E ⟨(Es E),E⟩ ?_))
  obtain ⟨⟨R,S⟩,U,h⟩:=aE h
  refine JO.call E E E E (nD a d (-1) b e f _ U) E [0,1,2,3,4,5,6] E E fun p _=>aL aA 4 [] [] [(7,.v (I S))] (.new 11 46 (aG R p) .nil) E ⟨ev2,(Bs E E)⟩ (aD E ?_)
  cases h
  exact JS.ret aA p V E E [0,0,0,0,0,0] E
 refine aC aA 2 [(61,.v (.bool (decide (c.1=9))))] ev1 E E ?_
 refine aH E h (fun h=>?_) (fun h=>?_)
 ·
  refine JS.seq (JS.region (aB aA 2 [] [] [(63,.v (.agg (aG a b).toArray)),(64,.v (.agg #[I d.1,sL e d.2 f]))] _ E ⟨(Es E),E⟩ ?_))
  obtain ⟨⟨X,Y⟩,Z,h⟩:=aE h
  refine JO.call E E E E (nD a d 1 b e f _ Z) E [0,1,2,3,4,5,6] E E fun s _=>aL aA 4 [] [] [(7,.v (I Y))] (.new 11 46 (aG X s) .nil) E ⟨ev2,(Bs E E)⟩ (aD E ?_)
  cases h
  exact JS.ret aA s V E E [0,0,0,0,0,0] E
 obtain ⟨a0,a1,h⟩:=aN h
 refine bZ (ι:=Bool) ⟨fun z=>a0 z=some r,fun z=>[(3,.bp 8 0),(5,.bp 10 0),(6,.bp 11 0),(19,.v (I c.1)),(68,.v (.bool z))],fun z=>(.new 8 46 (aG a b) (.new 10 64 [I c.1,I c.2] (.new 11 46 bA .nil))),fun z=>(bP a b []),fun z=>[],fun z=>0⟩ ?_ ?_
 ·
  refine aC aA 2 [(68,.v (.bool (decide (c.1=11))))] ev1 E E ?_
  refine aH E h (fun h=>?_) (fun h=>?_)
  ·
   refine JS.skip (aQ (decide (c.1=11)) h (Es E) (Bs E E) [0,1,2,3,4,5] E [] E)
  refine eR aA 2 [(68,.v (.bool (decide (c.1=5))))] ev1 E E (aQ (decide (c.1=5)) h (Es E) (Bs E E) [0,1,2,3,4,5] E [] E)
 rintro d1 h
 subst a1
 refine aH E h (fun h=>?_) (fun h=>?_)
 ·
  refine JS.seq (JS.region (aB aA 1 [] [] [(71,.v (.agg (aG a b).toArray))] _ E ev1 ?_))
  obtain ⟨⟨a2,a3⟩,a4,h⟩:=aE h
  refine JO.call E E E E (lX a 104 b _ a4) E [0,1,2,3,4,5] E E fun t _=>aL aA 4 [] [] [(7,.v (I a3))] (.new 11 46 (aG a2 t) .nil) E ⟨ev2,(Bs E E)⟩ (aD E ?_)
  cases h
  exact JS.ret aA t V E E [0,0,0,0,0,0] E
 refine aC aA 2 [(75,.v (.bool (decide (c.1=10))))] ev1 E E ?_
 refine aH E h (fun h=>?_) (fun h=>?_)
 ·
  refine JS.seq (JS.region (aB aA 1 [] [] [(77,.v (.agg (aG a b).toArray))] _ E ev1 ?_))
  obtain ⟨⟨a5,a6⟩,a7,h⟩:=aE h
  refine JO.call E E E E (lX a 108 b _ a7) E [0,1,2,3,4,5] E E fun u _=>aL aA 4 [] [] [(7,.v (I a6))] (.new 11 46 (aG a5 u) .nil) E ⟨ev2,(Bs E E)⟩ (aD E ?_)
  cases h
  exact JS.ret aA u V E E [0,0,0,0,0,0] E
 refine aC aA 2 [(81,.v (.bool (decide (c.1=12))))] ev1 E E ?_
 refine aH E h (fun h=>?_) (fun h=>?_)
 ·
  refine JS.seq (JS.region (aB aA 1 [] [] [(83,.v (.agg (aG a b).toArray))] _ E ev1 ?_))
  obtain ⟨⟨a8,a9⟩,b0,h⟩:=aE h
  refine JO.call E E E E (lX a 48 b _ b0) E [0,1,2,3,4,5] E E fun w _=>aL aA 4 [] [] [(7,.v (I a9))] (.new 11 46 (aG a8 w) .nil) E ⟨ev2,(Bs E E)⟩ (aD E ?_)
  cases h
  exact JS.ret aA w V E E [0,0,0,0,0,0] E
 refine aC aA 2 [(87,.v (.bool (decide (c.1=13))))] ev1 E E ?_
 refine aH E h (fun h=>?_) (fun h=>?_)
 ·
  refine JS.seq (JS.region (aB aA 1 [] [] [(89,.v (.agg (aG a b).toArray))] _ E ev1 ?_))
  obtain ⟨⟨b1,b2⟩,b3,h⟩:=aE h
  refine JO.call E E E E (lX a 36 b _ b3) E [0,1,2,3,4,5] E E fun x _=>aL aA 4 [] [] [(7,.v (I b2))] (.new 11 46 (aG b1 x) .nil) E ⟨ev2,(Bs E E)⟩ (aD E ?_)
  cases h
  exact JS.ret aA x V E E [0,0,0,0,0,0] E
 refine aC aA 2 [(93,.v (.bool (decide (c.1=14))))] ev1 E E ?_
 refine aH E h (fun h=>?_) (fun h=>?_)
 ·
  refine JS.seq ?_
  obtain ⟨j,b4,h⟩:=aE h
  obtain ⟨b5,b6,h⟩:=aE h
  obtain ⟨⟨y,A⟩,b7,h⟩:=aE h
  refine bF E (.new 8 46 (aG a b) .nil) [] [15,16,17,18,19] ev4 E (fun d2=>?_)
  refine bX aA aJ true 15 [0,1,2,3,7] E (by kernel_rfl) [] [(95,.v (.agg (aG a b).toArray)),(98,.v (I a.2.2.1.2)),(102,.v (.agg (aG a b).toArray))] ev4 [] E E (Es E) (aT aA aJ 13 [4,10] E (by kernel_rfl) [] [(99,.bp 8 2),(105,.bp 8 2)] E (Es E) (bX aA aJ true 8 [5,6,11,12,13] E (by kernel_rfl) [] [(101,.v (I a.2.2.1.2)),(108,.v (I (a.2.2.1.1.length:Int)))] ev4 [] E E (Es E) (JA.one 8 (by kernel_rfl) (JK.call E E E E (pX a b _ b4) E [0,1,2,3,4,5] E E fun _ _=>aU ev4 [] E (bX aA aJ true 6 [9] E (by kernel_rfl) [(W (a.2.2.1.2+j))] [(104,.v (I (W (a.2.2.1.2+j))))] ev4 [] E E ⟨⟨V,E⟩,⟨E,V⟩⟩ (JA.one 14 (by kernel_rfl) (JK.call E E E E (bN (W (a.2.2.1.2+j)) (a.2.2.1.1.length:Int) _ b6) E [] E E fun _ _=>aU ev4 [] E (JA.one 15 (by kernel_rfl) (JK.call E E E E (gZ a 100 a.2.2.1.2 b5 b _ b7) E [0,1,2,3,4,5] E E ?_)))))))))
  rintro k -
  refine aR E (aT aA aJ 2 [16,17] E (by kernel_rfl) [] [(111,.v (.agg (aG y k).toArray)),(112,.v (I A))] E (Es E) (JA.one 18 (by kernel_rfl) (bH aA E E E E E E E E (aR E (aT aA aJ 0 [19] E (by kernel_rfl) [] [(7,.v (I A))] E ev2 (bM (by kernel_rfl) (bE (B':=(.new 11 46 (aG y k) .nil)) (Bs E E) ?_)))))))
  cases h
  exact JS.ret aA k V E E [0,0,0,0,0,0] E
 refine JS.skip (aV (JS.seq (JS.seq (JS.region (aB aA 2 [] [] [(113,.v (.agg #[I c.1,I c.2])),(114,.v (.agg #[I 2,I 99]))] _ E ⟨(Es E),E⟩ (aK5 aA E E (by kernel_rfl) E E E E E (aD E ?_)))))))
 refine aH E h (fun h=>?_) (fun h=>?_)
 ·
  refine JS.seq (JS.region (aB aA 1 [] [] [(116,.v (.agg (aG a b).toArray))] _ E ev1 ?_))
  refine bnw h fun b8 b9 h=>JO.call E E E E (cI a b _ b9) E [0,1,2,3,4,5] E E fun B _=>aL aA 2 [] [] [(7,.v (I 3))] (.new 11 46 (aG b8 B) .nil) E ⟨ev2,(Bs E E)⟩ (aD E ?_)
  cases h
  exact JS.ret aA B V E E [0,0,0,0,0,0] E
 refine JS.skip (JS.seq (JS.seq (JS.region (aB aA 2 [] [] [(118,.v (.agg #[I c.1,I c.2])),(119,.v (.agg #[I 2,I 108]))] _ E ⟨(Es E),E⟩ (aK5 aA E E (by kernel_rfl) E E E E E (aD E ?_))))))
 refine aH E h (fun h=>?_) (fun h=>?_)
 ·
  refine JS.seq (JS.region (aB aA 1 [] [] [(121,.v (.agg (aG a b).toArray))] _ E ev1 ?_))
  refine bnw h fun c0 c1 h=>JO.call E E E E (cI a b _ c1) E [0,1,2,3,4,5] E E fun C _=>aL aA 2 [] [] [(7,.v (I 5))] (.new 11 46 (aG c0 C) .nil) E ⟨ev2,(Bs E E)⟩ (aD E ?_)
  cases h
  exact JS.ret aA C V E E [0,0,0,0,0,0] E
 refine JS.skip (JS.seq (JS.seq (JS.region (aB aA 2 [] [] [(123,.v (.agg #[I c.1,I c.2])),(124,.v (.agg #[I 2,I 100]))] _ E ⟨(Es E),E⟩ (aK5 aA E E (by kernel_rfl) E E E E E (aB aA 7 [] [] [(132,.v (.bool (bif (false ^^ (eqK c (2,100))) then (decide ((a.2.2.1.1.length:Int)=0)) else false)))] _ E ev1 (aD E ?_)))))))
 refine aH E h (fun h=>?_) (fun h=>?_)
 ·
  refine JS.seq (JS.region (aB aA 1 [] [] [(133,.v (.agg (aG a b).toArray))] _ E ev1 ?_))
  refine bnw h fun c2 c3 h=>JO.call E E E E (cI a b _ c3) E [0,1,2,3,4,5] E E fun D _=>aL aA 2 [] [] [(7,.v (I 4))] (.new 11 46 (aG c2 D) .nil) E ⟨ev2,(Bs E E)⟩ (aD E ?_)
  cases h
  exact JS.ret aA D V E E [0,0,0,0,0,0] E
 refine JS.skip (JS.seq (JS.seq (JS.region (aB aA 2 [] [] [(135,.v (.agg #[I c.1,I c.2])),(136,.v (.agg #[I 2,I 114]))] _ E ⟨(Es E),E⟩ (aK5 aA E E (by kernel_rfl) E E E E E (aD E ?_))))))
 refine aH E h (fun h=>?_) (fun h=>?_)
 ·
  refine JS.seq (JS.region (aB aA 1 [] [] [(138,.v (.agg (aG a b).toArray))] _ E ev1 ?_))
  obtain ⟨⟨c4,c5⟩,c6,h⟩:=aE h
  refine JO.call E E E E (zQ a b _ c6) E [0,1,2,3,4,5] E E fun F _=>aL aA 4 [] [] [(7,.v (I c5))] (.new 11 46 (aG c4 F) .nil) E ⟨ev2,(Bs E E)⟩ (aD E ?_)
  cases h
  exact JS.ret aA F V E E [0,0,0,0,0,0] E
 refine JS.skip (JS.seq (JS.region (aB aA 1 [] [] [(142,.v (.agg (aG a b).toArray))] _ E ev1 ?_)))
 obtain ⟨⟨c7,c8⟩,c9,h⟩:=aE h
 refine JO.call E E E E (cO a b _ c9) E [0,1,2,3,4,5] E E fun G _=>aL aA 4 [] [] [(7,.v (I c8))] (.new 11 46 (aG c7 G) .nil) E ⟨ev2,(Bs E E)⟩ (aD E ?_)
 cases h
 exact JS.ret aA G V E E [0,0,0,0,0,0] E

def qB (b:EdQ) (h:Int) (i:Int) (j:Int):Option (EdQ×Int):= (aS (fun ((k,l,c,m):List Int×Bool×List Int×Int)=>(aS (fun (n:Int)=>(aF (dW b (c,m) (bif l then (decide ((c.length:Int)<(b.2.2.1.1.length:Int))) else false) 2) fun (a,d)=>(aS (fun (o:List (List Int))=> some ((a.1,a.2.1,a.2.2.1,a.2.2.2.1,a.2.2.2.2.1,a.2.2.2.2.2.1,a.2.2.2.2.2.2.1,a.2.2.2.2.2.2.2.1,a.2.2.2.2.2.2.2.2.1,a.2.2.2.2.2.2.2.2.2.1,o,a.2.2.2.2.2.2.2.2.2.2.2.1,a.2.2.2.2.2.2.2.2.2.2.2.2.1,a.2.2.2.2.2.2.2.2.2.2.2.2.2.1,a.2.2.2.2.2.2.2.2.2.2.2.2.2.2.1,a.2.2.2.2.2.2.2.2.2.2.2.2.2.2.2.1,a.2.2.2.2.2.2.2.2.2.2.2.2.2.2.2.2),d)) fun e=>(bif decide (d=0) then (aF (qE b.2.2.2.2.2.2.2.2.2.2.1 k n) fun (p,v)=> e p) else e a.2.2.2.2.2.2.2.2.2.2.1)))) fun f=>(bif (!(decide (b.2.2.2.2.2.2.2.2.2.1=2))) then f 0 else f j))) fun q=>(aF (bV h (b.2.2.1.1.length:Int)) fun r=>(aF (bV i (b.2.2.1.1.length:Int)) fun s=>(aF (jU b.2.2.1 r s) fun (g,t,u)=> q (t,u,g.1,g.2)))))

theorem aCj (a:EdQ) (o:Int) (m:Int) (p:Int) (b:P6) (r:EdQ×Int) (h:qB a o m p=some r):
 FC Tryz.prog 108 [.agg (cD a b).toArray,I o,I m,I p] (bP a b []) (fun _:P6=>True) (fun q=>.tuple #[.agg (aG r.1 q).toArray,I r.2]) (fun q=>(bP r.1 q [])):= by
 refine FC.of (T:=TTx) Tryz.call108 Tryz.func108 E E fun w0=>?_
 unfold qB at h
 refine aM aA 3 [] [7,8] [(4,.bp 7 0),(8,.bp 8 0)] (.new 7 46 (aG a b) (.new 8 46 bA .nil)) ⟨(Es E),(Bs E E)⟩ E E (aC aA 5 [(10,.v (I (a.2.2.1.1.length:Int)))] ev1 E E (JS.seq ?_))
 obtain ⟨P,Q,h⟩:=aN h
 refine yR (ι:=List Int×Bool×List Int×Int×Option Addr×Nat×Option Addr×Nat) ⟨fun z=>P (z.1,z.2.1,z.2.2.1,z.2.2.2.1)=some r,fun z=>[(3,.v (I p)),(4,.bp 7 0),(8,.bp 8 0),(10,.v (I (a.2.2.1.1.length:Int))),(11,.bp 23 0),(12,.v (sL (Q4 z).1 z.1 (Q4 z).2.1)),(13,.v (.bool z.2.1))],fun z=>(.new 7 46 (aG a b) (.new 8 46 bA (.new 23 38 [sL (Q4 z).2.2.1 z.2.2.1 (Q4 z).2.2.2,I z.2.2.2.1] .nil))),fun z=>(bP a b []),fun z=>[fI (Q4 z).1 (Q4 z).2.1 z.1,fI (Q4 z).2.2.1 (Q4 z).2.2.2 z.2.2.1],fun z=>0⟩ ?_ ?_
 ·
  obtain ⟨s,H,h⟩:=aE h
  obtain ⟨t,D,h⟩:=aE h
  obtain ⟨⟨c,j,k⟩,u,h⟩:=aE h
  refine bF E (.new 7 46 (aG a b) .nil) [] [8,9,10,11,12,14,15,16] ev4 E (fun a1=>?_)
  refine bX aA aJ true 11 [0,1,2,3,5,6] E (by kernel_rfl) [] [(22,.v (.agg #[sL b.1 a.2.2.1.1 b.2.1,I a.2.2.1.2])),(23,.v (I o)),(24,.v (I (a.2.2.1.1.length:Int))),(26,.v (I m)),(27,.v (I (a.2.2.1.1.length:Int)))] ev4 [] E E (Es E) ?_
  refine JA.all (rs:=[4,13]) (by kernel_rfl) E (List.forall_mem_cons.2 ⟨?_,List.forall_mem_cons.2 ⟨?_,(fun _ hx=>absurd hx List.not_mem_nil)⟩⟩)
  ·
   refine JK.call E E E E (bN o (a.2.2.1.1.length:Int) _ H) E [] E E fun _ _=>aU ev4 [] E ?_
   refine JA.all (rs:=[7,13]) (by kernel_rfl) E (List.forall_mem_cons.2 ⟨?_,List.forall_mem_cons.2 ⟨?_,(fun _ hx=>absurd hx List.not_mem_nil)⟩⟩)
   ·
    refine JK.call E E E E (bN m (a.2.2.1.1.length:Int) _ D) E [] E E fun _ _=>aU ev4 [] E ?_
    refine JA.all (rs:=[8,13]) (by kernel_rfl) E (List.forall_mem_cons.2 ⟨?_,List.forall_mem_cons.2 ⟨?_,(fun _ hx=>absurd hx List.not_mem_nil)⟩⟩)
    ·
     refine JK.call E E E E (fL a.2.2.1 s t b.1 b.2.1 _ u) E [0] E E ?_
     rintro ⟨e,f,g,i⟩ -
     refine aR E (aT aA aJ 4 [9,10,11,12] E (by kernel_rfl) [] [(30,.v (.agg #[sL e c.1 f,I c.2])),(31,.v (sL g j i)),(32,.v (.bool k))] E (Es E) (JA.one 13 (by kernel_rfl) (JK.alloc aA E E E E E 23 E (eZ _ E) (aU ev4 [] E (JA.one 14 (by kernel_rfl) (bH aA E E E E E E E E (aR E (aT aA aJ 0 [15,16] E (by kernel_rfl) [] [(12,.v (sL g j i)),(13,.v (.bool k))] E (Es E) (bM (by kernel_rfl) (bE (B':=(.new 7 46 (aG a b) (.new 8 46 bA (.new 23 38 [sL e c.1 f,I c.2] .nil)))) (Bs E E) (aQ (j,k,c.1,c.2,g,i,e,f) h (Es E) (Bs E E) [0,1,2,3,4,5] E [1,0] E)))))))))))
    refine JK.alloc aA E E E E E 23 E (eZ _ E) (aU ev4 [] E (JA.one 8 (by kernel_rfl) (JK.call E E E E (fL a.2.2.1 s t b.1 b.2.1 _ u) E [0] E E ?_)))
    rintro ⟨e,f,g,i⟩ -
    refine aR E (aT aA aJ 3 [9,10,11,12] E (by kernel_rfl) [] [(30,.v (.agg #[sL e c.1 f,I c.2])),(31,.v (sL g j i)),(32,.v (.bool k))] E (Es E) (JA.one 14 (by kernel_rfl) (bH aA E E E E E E E E (aR E (aT aA aJ 0 [15,16] E (by kernel_rfl) [] [(12,.v (sL g j i)),(13,.v (.bool k))] E (Es E) (bM (by kernel_rfl) (bE (B':=(.new 7 46 (aG a b) (.new 8 46 bA (.new 23 38 [sL e c.1 f,I c.2] .nil)))) (Bs E E) (aQ (j,k,c.1,c.2,g,i,e,f) h (Es E) (Bs E E) [0,1,2,3,4,5] E [1,0] E))))))))
   refine JK.alloc aA E E E E E 23 E (eZ _ E) (aU ev4 [] E (JA.one 7 (by kernel_rfl) (JK.call E E E E (bN m (a.2.2.1.1.length:Int) _ D) E [] E E fun _ _=>aU ev4 [] E (JA.one 8 (by kernel_rfl) (JK.call E E E E (fL a.2.2.1 s t b.1 b.2.1 _ u) E [0] E E ?_)))))
   rintro ⟨e,f,g,i⟩ -
   refine aR E (aT aA aJ 3 [9,10,11,12] E (by kernel_rfl) [] [(30,.v (.agg #[sL e c.1 f,I c.2])),(31,.v (sL g j i)),(32,.v (.bool k))] E (Es E) (JA.one 14 (by kernel_rfl) (bH aA E E E E E E E E (aR E (aT aA aJ 0 [15,16] E (by kernel_rfl) [] [(12,.v (sL g j i)),(13,.v (.bool k))] E (Es E) (bM (by kernel_rfl) (bE (B':=(.new 7 46 (aG a b) (.new 8 46 bA (.new 23 38 [sL e c.1 f,I c.2] .nil)))) (Bs E E) (aQ (j,k,c.1,c.2,g,i,e,f) h (Es E) (Bs E E) [0,1,2,3,4,5] E [1,0] E))))))))
  refine JK.alloc aA E E E E E 23 E (eZ _ E) (aU ev4 [] E (JA.one 4 (by kernel_rfl) (JK.call E E E E (bN o (a.2.2.1.1.length:Int) _ H) E [] E E fun _ _=>aU ev4 [] E (JA.one 7 (by kernel_rfl) (JK.call E E E E (bN m (a.2.2.1.1.length:Int) _ D) E [] E E fun _ _=>aU ev4 [] E (JA.one 8 (by kernel_rfl) (JK.call E E E E (fL a.2.2.1 s t b.1 b.2.1 _ u) E [0] E E ?_)))))))
  rintro ⟨e,f,g,i⟩ -
  refine aR E (aT aA aJ 3 [9,10,11,12] E (by kernel_rfl) [] [(30,.v (.agg #[sL e c.1 f,I c.2])),(31,.v (sL g j i)),(32,.v (.bool k))] E (Es E) (JA.one 14 (by kernel_rfl) (bH aA E E E E E E E E (aR E (aT aA aJ 0 [15,16] E (by kernel_rfl) [] [(12,.v (sL g j i)),(13,.v (.bool k))] E (Es E) (bM (by kernel_rfl) (bE (B':=(.new 7 46 (aG a b) (.new 8 46 bA (.new 23 38 [sL e c.1 f,I c.2] .nil)))) (Bs E E) (aQ (j,k,c.1,c.2,g,i,e,f) h (Es E) (Bs E E) [0,1,2,3,4,5] E [1,0] E))))))))
 rintro ⟨w,F,n,G,x,y,A,B⟩ h
 subst Q
 obtain ⟨R,S,h⟩:=aN h
 refine bZ (ι:=Int) ⟨fun z=>R z=some r,fun z=>[(3,.v (I z)),(4,.bp 7 0),(8,.bp 8 0),(10,.v (I (a.2.2.1.1.length:Int))),(11,.bp 23 0),(12,.v (sL x w y)),(13,.v (.bool F))],fun z=>(.new 7 46 (aG a b) (.new 8 46 bA (.new 23 38 [sL A n B,I G] .nil))),fun z=>(bP a b []),fun z=>[fI x y w,fI A B n],fun z=>0⟩ ?_ ?_
 ·
  refine aC aA 3 [(35,.v (.bool (!(decide ((Q8 a).2.1=2)))))] ev1 E E ?_
  refine aH E h (fun h=>?_) (fun h=>?_)
  ·
   refine eR aA 1 [(3,.v (I 0))] ev1 E E (aQ 0 h (Es E) (Bs E E) [0,1,2,3,4,5] E [0,0] E)
  refine JS.skip (aQ p h (Es E) (Bs E E) [0,1,2,3,4,5] E [0,0] E)
 rintro J h
 subst S
 refine JS.seq (JS.region (aB aA 10 [] [] [(37,.v (.agg (aG a b).toArray)),(38,.v (.agg #[sL A n B,I G])),(46,.v (.bool (bif F then (decide ((n.length:Int)<(a.2.2.1.1.length:Int))) else false)))] _ E ⟨(Es E),E⟩ ?_))
 obtain ⟨⟨l,C⟩,U,h⟩:=aE h
 refine JO.call E E E E (jP a (n,G) (bif F then (decide ((n.length:Int)<(a.2.2.1.1.length:Int))) else false) 2 b A B _ U) E [0,1,2,3,4,5,7] E E fun d _=>aL aA 6 [] [59] [(14,.bp 59 0),(15,.v (I C))] (.new 7 46 (aG a b) (.new 8 46 bA (.new 59 46 (aG l d) .nil))) E ⟨(Es E),(Bs E E)⟩ (aD E ?_)
 obtain ⟨W,X,h⟩:=aN h
 refine bZ (ι:=List (List Int)×Option Addr×Nat) ⟨fun z=>W z.1=some r,fun z=>[(8,.bp 8 0),(14,.bp 59 0),(15,.v (I C))],fun z=>(.new 8 46 bA (.new 59 46 (aG (U10 l z.1) (d.1,d.2.1,z.2.1,z.2.2,(Q4 d))) .nil)),fun z=>[],fun z=>[⟨(.sl iT),⟨z.2.1,z.1.length,z.2.2⟩,z.1⟩,fI d.1 d.2.1 l.2.2.1.1,⟨(.pair (.sl iT) iT),⟨(Q4 d).1,(Q8 l).2.2.2.1.length,(Q4 d).2.1⟩,(Q8 l).2.2.2.1⟩,fI (Q4 d).2.2.1 (Q4 d).2.2.2.1 (Q12 l).2.1.1,fI (Q8 d).1 (Q8 d).2.1 (Q12 l).2.2.1,fI (Q8 d).2.2.1 (Q8 d).2.2.2 (Q16 l).1],fun z=>0⟩ ?_ ?_
 ·
  refine aC aA 2 [(51,.v (.bool (decide (C=0))))] ev1 E E ?_
  refine aH E h (fun h=>?_) (fun h=>?_)
  ·
   refine JS.region (aB aA 4 [] [] [(54,.v (.agg #[sL b.2.2.1 (Q8 a).2.2.1 b.2.2.2.1])),(55,.v (sL x w y)),(56,.v (I J))] _ E ⟨(Es E),E⟩ ?_)
   obtain ⟨⟨K,a2⟩,Y,h⟩:=aE h
   refine JO.call E E E E (aCm (Q8 a).2.2.1 w J b.2.2.1 b.2.2.2.1 x y _ Y) E [1,12] E E ?_
   rintro ⟨L,M⟩ -
   refine aL aA 5 [] [] [] (.new 8 46 bA (.new 59 46 (aG (U10 l K) (d.1,d.2.1,L,M,(Q4 d))) .nil)) E ⟨V,(Bs E E)⟩ (aD E (bT (K,L,M) h (Es E) (Bs E E) [] E [0,1,3,4,5,6] E E))
  refine JS.skip (bT ((Q8 l).2.2.1,d.2.2.1,d.2.2.2.1) h (Es E) (Bs E E) [] E [1,0,2,3,4,5] E E)
 rintro ⟨Z,N,O⟩ h
 subst X
 refine aM aA 4 [] [] [(9,.v (I C))] (.new 8 46 (aG (U10 l Z) (d.1,d.2.1,N,O,(Q4 d))) .nil) ⟨ev2,(Bs E E)⟩ E E ?_
 cases h
 exact JS.ret aA (U3 (U2 d N) O) V E E [1,0,0,0,0,0] E

def pF (a:EdQ) (d:Int) (e:Int):Option (EdQ×Int):= (aS (fun ((f,b,g):Bool×List Int×Int)=>(aF (dW a (b,g) (bif f then (decide ((b.length:Int)<(a.2.2.1.1.length:Int))) else false) 0) fun (h,i)=> some (h,i))) fun j=>(aF (bV d (a.2.2.1.1.length:Int)) fun k=>(aF (bV e (a.2.2.1.1.length:Int)) fun l=>(aF (jU a.2.2.1 k l) fun (c,n,m)=> j (m,c.1,c.2)))))

theorem zR (a:EdQ) (k:Int) (j:Int) (c:P6) (r:EdQ×Int) (h:pF a k j=some r):
 FC Tryz.prog 161 [.agg (cD a c).toArray,I k,I j] (bP a c []) (fun _:P6=>True) (fun q=>.tuple #[.agg (aG r.1 q).toArray,I r.2]) (fun q=>(bP r.1 q [])):= by
 refine FC.of (T:=TTx) Tryz.call161 Tryz.func161 E E fun H=>?_
 unfold pF at h
 refine aM aA 3 [] [7,8] [(3,.bp 7 0),(6,.bp 8 0)] (.new 7 46 (aG a c) (.new 8 46 bA .nil)) ⟨(Es E),(Bs E E)⟩ E E (aC aA 5 [(8,.v (I (a.2.2.1.1.length:Int)))] ev1 E E (JS.seq ?_))
 obtain ⟨B,C,h⟩:=aN h
 refine yR (ι:=Bool×List Int×Int×Option Addr×Nat) ⟨fun z=>B (z.1,z.2.1,z.2.2.1)=some r,fun z=>[(3,.bp 7 0),(6,.bp 8 0),(8,.v (I (a.2.2.1.1.length:Int))),(9,.bp 23 0),(11,.v (.bool z.1))],fun z=>(.new 7 46 (aG a c) (.new 8 46 bA (.new 23 38 [sL z.2.2.2.1 z.2.1 (Q4 z),I z.2.2.1] .nil))),fun z=>(bP a c []),fun z=>[fI z.2.2.2.1 (Q4 z) z.2.1],fun z=>0⟩ ?_ ?_
 ·
  obtain ⟨l,t,h⟩:=aE h
  obtain ⟨m,s,h⟩:=aE h
  obtain ⟨⟨b,n,f⟩,o,h⟩:=aE h
  refine bF E (.new 7 46 (aG a c) .nil) [] [8,9,10,11,12,14,15,16] ev4 E (fun J=>?_)
  refine bX aA aJ true 11 [0,1,2,3,5,6] E (by kernel_rfl) [] [(18,.v (.agg #[sL c.1 a.2.2.1.1 c.2.1,I a.2.2.1.2])),(19,.v (I k)),(20,.v (I (a.2.2.1.1.length:Int))),(22,.v (I j)),(23,.v (I (a.2.2.1.1.length:Int)))] ev4 [] E E (Es E) ?_
  refine JA.all (rs:=[4,13]) (by kernel_rfl) E (List.forall_mem_cons.2 ⟨?_,List.forall_mem_cons.2 ⟨?_,(fun _ hx=>absurd hx List.not_mem_nil)⟩⟩)
  ·
   refine JK.call E E E E (bN k (a.2.2.1.1.length:Int) _ t) E [] E E fun _ _=>aU ev4 [] E ?_
   refine JA.all (rs:=[7,13]) (by kernel_rfl) E (List.forall_mem_cons.2 ⟨?_,List.forall_mem_cons.2 ⟨?_,(fun _ hx=>absurd hx List.not_mem_nil)⟩⟩)
   ·
    refine JK.call E E E E (bN j (a.2.2.1.1.length:Int) _ s) E [] E E fun _ _=>aU ev4 [] E ?_
    refine JA.all (rs:=[8,13]) (by kernel_rfl) E (List.forall_mem_cons.2 ⟨?_,List.forall_mem_cons.2 ⟨?_,(fun _ hx=>absurd hx List.not_mem_nil)⟩⟩)
    ·
     refine JK.call E E E E (fL a.2.2.1 l m c.1 c.2.1 _ o) E [0] E E ?_
     rintro ⟨d,e,g,i⟩ -
     refine aR E (aT aA aJ 4 [9,10,11,12] E (by kernel_rfl) [] [(26,.v (.agg #[sL d b.1 e,I b.2])),(27,.v (sL g n i)),(28,.v (.bool f))] E (Es E) (JA.one 13 (by kernel_rfl) (JK.alloc aA E E E E E 23 E (eZ _ E) (aU ev4 [] E (JA.one 14 (by kernel_rfl) (bH aA E E E E E E E E (aR E (aT aA aJ 0 [15,16] E (by kernel_rfl) [] [(11,.v (.bool f))] E ev2 (bM (by kernel_rfl) (bE (B':=(.new 7 46 (aG a c) (.new 8 46 bA (.new 23 38 [sL d b.1 e,I b.2] .nil)))) (Bs E E) (aQ (f,b.1,b.2,d,e) h (Es E) (Bs E E) [0,1,2,3,4,5] E [0] E)))))))))))
    refine JK.alloc aA E E E E E 23 E (eZ _ E) (aU ev4 [] E (JA.one 8 (by kernel_rfl) (JK.call E E E E (fL a.2.2.1 l m c.1 c.2.1 _ o) E [0] E E ?_)))
    rintro ⟨d,e,g,i⟩ -
    refine aR E (aT aA aJ 3 [9,10,11,12] E (by kernel_rfl) [] [(26,.v (.agg #[sL d b.1 e,I b.2])),(27,.v (sL g n i)),(28,.v (.bool f))] E (Es E) (JA.one 14 (by kernel_rfl) (bH aA E E E E E E E E (aR E (aT aA aJ 0 [15,16] E (by kernel_rfl) [] [(11,.v (.bool f))] E ev2 (bM (by kernel_rfl) (bE (B':=(.new 7 46 (aG a c) (.new 8 46 bA (.new 23 38 [sL d b.1 e,I b.2] .nil)))) (Bs E E) (aQ (f,b.1,b.2,d,e) h (Es E) (Bs E E) [0,1,2,3,4,5] E [0] E))))))))
   refine JK.alloc aA E E E E E 23 E (eZ _ E) (aU ev4 [] E (JA.one 7 (by kernel_rfl) (JK.call E E E E (bN j (a.2.2.1.1.length:Int) _ s) E [] E E fun _ _=>aU ev4 [] E (JA.one 8 (by kernel_rfl) (JK.call E E E E (fL a.2.2.1 l m c.1 c.2.1 _ o) E [0] E E ?_)))))
   rintro ⟨d,e,g,i⟩ -
   refine aR E (aT aA aJ 3 [9,10,11,12] E (by kernel_rfl) [] [(26,.v (.agg #[sL d b.1 e,I b.2])),(27,.v (sL g n i)),(28,.v (.bool f))] E (Es E) (JA.one 14 (by kernel_rfl) (bH aA E E E E E E E E (aR E (aT aA aJ 0 [15,16] E (by kernel_rfl) [] [(11,.v (.bool f))] E ev2 (bM (by kernel_rfl) (bE (B':=(.new 7 46 (aG a c) (.new 8 46 bA (.new 23 38 [sL d b.1 e,I b.2] .nil)))) (Bs E E) (aQ (f,b.1,b.2,d,e) h (Es E) (Bs E E) [0,1,2,3,4,5] E [0] E))))))))
  refine JK.alloc aA E E E E E 23 E (eZ _ E) (aU ev4 [] E (JA.one 4 (by kernel_rfl) (JK.call E E E E (bN k (a.2.2.1.1.length:Int) _ t) E [] E E fun _ _=>aU ev4 [] E (JA.one 7 (by kernel_rfl) (JK.call E E E E (bN j (a.2.2.1.1.length:Int) _ s) E [] E E fun _ _=>aU ev4 [] E (JA.one 8 (by kernel_rfl) (JK.call E E E E (fL a.2.2.1 l m c.1 c.2.1 _ o) E [0] E E ?_)))))))
  rintro ⟨d,e,g,i⟩ -
  refine aR E (aT aA aJ 3 [9,10,11,12] E (by kernel_rfl) [] [(26,.v (.agg #[sL d b.1 e,I b.2])),(27,.v (sL g n i)),(28,.v (.bool f))] E (Es E) (JA.one 14 (by kernel_rfl) (bH aA E E E E E E E E (aR E (aT aA aJ 0 [15,16] E (by kernel_rfl) [] [(11,.v (.bool f))] E ev2 (bM (by kernel_rfl) (bE (B':=(.new 7 46 (aG a c) (.new 8 46 bA (.new 23 38 [sL d b.1 e,I b.2] .nil)))) (Bs E E) (aQ (f,b.1,b.2,d,e) h (Es E) (Bs E E) [0,1,2,3,4,5] E [0] E))))))))
 rintro ⟨u,p,w,x,y⟩ h
 subst C
 refine JS.seq (JS.region (aB aA 10 [] [] [(29,.v (.agg (aG a c).toArray)),(30,.v (.agg #[sL x p y,I w])),(38,.v (.bool (bif u then (decide ((p.length:Int)<(a.2.2.1.1.length:Int))) else false)))] _ E ⟨(Es E),E⟩ ?_))
 obtain ⟨⟨D,F⟩,G,h⟩:=aE h
 refine JO.call E E E E (jP a (p,w) (bif u then (decide ((p.length:Int)<(a.2.2.1.1.length:Int))) else false) 0 c x y _ G) E [0,1,2,3,4,5,6] E E fun A _=>aL aA 4 [] [] [(7,.v (I F))] (.new 8 46 (aG D A) .nil) E ⟨ev2,(Bs E E)⟩ (aD E ?_)
 cases h
 exact JS.ret aA A V E E [0,0,0,0,0,0] E

def mG (b:Int) (d:Int) (e:(List Int)→Option (List Int)) (f:(List Int×Int)→Option (List Int)):(List Int×Int)→Option (List Int):=fun (a,c)=>(bif decide (c<d) then (aP (a.length+([b]:List Int).length≤536870912) <|f ((a ++ ([b]:List Int)),(W (c+1)))) else e a)

def qA (a:Int) (b:Int):Option (List Int):= (aS (fun (c:List Int)=> some c) fun d=>(aW (mG a b d) bG (([]:List Int),0)))

theorem aCi (a:Int) (b:Int) (r:List Int) (h:qA a b=some r) :
 FC Tryz.prog 160 [I a,I b] [] (fun _:Option Addr×Nat=>True) (fun q=>sL q.1 r q.2) (fun q=>[fI q.1 q.2 r]):= by
 refine FC.of (T:=TTx) Tryz.call160 Tryz.func160 E E fun t=>?_
 unfold qA at h
 refine aC aA 1 [] ev5 E E (JS.seq (JS.region ?_))
 refine iY E (JK.buildSlice aA E E E E E E E E E E E [] E iT [] ev9 E E fun e=>iX ?_)
 refine aB aA 1 [] [] [(5,.v (sL e ([]:List Int) ([]:List Int).length))] _ E ev1 (aD E (JS.seq (aC aA 1 [(6,.v (I 0))] ev1 E E ?_)))
 obtain ⟨f,o,h⟩:=aN h
 refine aX (ι:=List Int×Option Addr×Nat) ⟨fun z=>f z.1=some r,fun z=>[(5,.v (sL z.2.1 z.1 z.2.2))],fun z=>.nil,fun z=>[],fun z=>[fI z.2.1 z.2.2 z.1],fun z=>0⟩ ?_ ?_
 ·
  refine JS.loop (ι:=Nat×List Int×Int×Option Addr×Nat) ⟨fun z=>aW (mG a b f) z.1 (z.2.1,z.2.2.1)=some r,fun z=>[(0,.v (I a)),(1,.v (I b)),(5,.v (sL z.2.2.2.1 z.2.1 (Q4 z))),(6,.v (I z.2.2.1))],fun z=>.nil,fun z=>[],fun z=>[fI z.2.2.2.1 (Q4 z) z.2.1],fun z=>z.1⟩ (bG,([]:List Int),0,e,([]:List Int).length) h (Es E) V [] E [0] E ?_
  rintro ⟨g,c,d,i,j⟩ h
  obtain ⟨g,rfl,h⟩:=bC h
  rw [mG] at h
  refine JS.seq (aC aA 3 [(10,.v (.bool (decide (d<b))))] ev1 E E ?_)
  refine aH E h (fun h=>?_) (fun h=>?_)
  ·
   refine JS.skip (JS.seq (JS.block (JS.region (aB aA 2 [] [] [(13,.v (sL i c j)),(14,.v (I a))] _ E ⟨(Es E),E⟩ ?_))))
   refine iY E (JK.buildSlice aA E E E E E E E E E E E [] E iT [a] ev9 E E fun u=>iX ?_)
   obtain ⟨p,h⟩:=aK h
   refine fU aA E E E E ⟨E,E,E,E,V,E,E,E,E⟩ E E E [1] E 0 E p E fun k l=>aB aA 1 [] [] [(5,.v (sL k (c ++ ([a]:List Int)) l))] _ E ev1 (aD E (aV (bY aA 3 [(W (d+1))] [] [(6,.v (I (W (d+1))))] _ ev3 E E (bR (g,(c ++ ([a]:List Int)),(W (d+1)),k,l) h (Nat.lt_succ_self _) (Es E) V [] E [0] E))))
  refine JS.exit E (aQ (c,i,j) h ev2 V [] E [0] E)
 rintro ⟨s,m,n⟩ h
 subst o
 refine aC aA 2 [(4,.v (sL m s n))] ev1 E E ?_
 cases h
 exact JS.ret aA (m,n) V E E [0] E

def rU (a:EdQ) (b:List Int) (c:Int):Option (EdQ×Int):= (aF (qF a.2.2.1 b) fun (d,e)=>(aF (dW a d e c) fun (f,g)=> some (f,g)))

theorem aD8 (a:EdQ) (c:List Int) (e:Int) (b:P6) (f:Option Addr) (g:Nat) (r:EdQ×Int) (h:rU a c e=some r):
 FC Tryz.prog 159 [.agg (cD a b).toArray,sL f c g,I e] (bP a b [fI f g c]) (fun _:P6=>True) (fun q=>.tuple #[.agg (aG r.1 q).toArray,I r.2]) (fun q=>(bP r.1 q [])):= by
 refine FC.of (T:=TTx) Tryz.call159 Tryz.func159 E E fun s=>?_
 unfold rU at h
 refine aM aA 3 [] [8,9] [(3,.bp 8 0),(6,.bp 9 0)] (.new 8 46 (aG a b) (.new 9 46 bA .nil)) ⟨(Es E),(Bs E E)⟩ E E (JS.seq (JS.region (aB aA 3 [] [] [(12,.v (.agg #[sL b.1 a.2.2.1.1 b.2.1,I a.2.2.1.2])),(13,.v (sL f c g))] _ E ⟨(Es E),E⟩ ?_)))
 obtain ⟨⟨d,i⟩,m,h⟩:=aE h
 refine JO.call E E E E (aCn a.2.2.1 c b.1 b.2.1 f g _ m) E [0,6] E E ?_
 rintro ⟨j,k⟩ -
 refine aL aA 6 [] [16] [(8,.bp 16 0),(9,.v (.bool i))] (.new 8 46 (aG a b) (.new 9 46 bA (.new 16 38 [sL j d.1 k,I d.2] .nil))) E ⟨(Es E),(Bs E E)⟩ (aD E (JS.seq (JS.region (aB aA 4 [] [] [(17,.v (.agg (aG a b).toArray)),(18,.v (.agg #[sL j d.1 k,I d.2])),(19,.v (.bool i)),(20,.v (I e))] _ E ⟨(Es E),E⟩ ?_))))
 obtain ⟨⟨n,o⟩,p,h⟩:=aE h
 refine JO.call E E E E (jP a d i e b j k _ p) E [0,1,2,3,4,5,7] E E fun l _=>aL aA 4 [] [] [(7,.v (I o))] (.new 9 46 (aG n l) .nil) E ⟨ev2,(Bs E E)⟩ (aD E ?_)
 cases h
 exact JS.ret aA l V E E [0,0,0,0,0,0] E

def nJ (a:EdQ) (d:Int×List (List UInt8)) (b:Int×Int):Option (EdQ×Int):= (aF (xI a) fun c=>(aS (fun (_:Unit)=> some ((false,0,([],0),0,0,0,0,0,0,0,[],[],0,([],0),[],0,([],0)),(-1))) fun e=>(bif decide (b.1=1) then (aF (qA b.2 c) fun f=>(aF (rU a f 1) fun (g,h)=> some (g,h))) else (bif decide (b.1=6) then (aF (qA 9 c) fun i=>(aF (rU a i 1) fun (j,k)=> some (j,k))) else (bif decide (b.1=4) then (aF (cA a) fun l=> some (l,2)) else (bif decide (b.1=5) then (aF (pF a (W (a.2.2.1.2 - c)) a.2.2.1.2) fun (m,n)=> some (m,n)) else (bif decide (b.1=14) then (aF (pF a a.2.2.1.2 (W (a.2.2.1.2+c))) fun (o,p)=> some (o,p)) else (bif decide (b.1=11) then (aF (gK a (W (a.2.2.1.2 - c))) fun (q,r)=> some (q,r)) else (bif decide (b.1=10) then (aF (gK a (W (a.2.2.1.2+c))) fun (s,t)=> some (s,t)) else (bif decide (b.1=12) then (aF (gK a 0) fun (u,v)=> some (u,v)) else (bif decide (b.1=13) then (aF (gK a (a.2.2.1.1.length:Int)) fun (w,x)=> some (w,x)) else (bif decide (b.1=8) then (aF (gE a d (-1)) fun (y,z)=> some (y,z)) else (bif decide (b.1=9) then (aF (gE a d 1) fun (A,B)=> some (A,B)) else (bif decide (b.1=2) then (bif decide (b.2=99) then (aF (cA a) fun C=> some (C,3)) else (bif decide (b.2=108) then (aF (cA a) fun D=> some (D,5)) else (bif decide (b.2=100) then (bif decide ((a.2.2.1.1.length:Int)=0) then (aF (cA a) fun F=> some (F,4)) else (aF (pF a a.2.2.1.2 (W (a.2.2.1.2+c))) fun (G,H)=> some (G,H))) else (bif decide (b.2=117) then (aF (qB a 0 a.2.2.1.2 2) fun (J,K)=> some (J,K)) else (bif decide (b.2=119) then (aF (jG a.2.2.1.1 a.2.2.1.2 true) fun L=>(aF (qB a L a.2.2.1.2 2) fun (M,N)=> some (M,N))) else e ()))))) else e ()))))))))))))))

theorem aHt (a:EdQ) (e:Int×List (List UInt8)) (c:Int×Int) (b:P6) (f:Option Addr) (g:Nat) (r:EdQ×Int) (h:nJ a e c=some r):
 FC Tryz.prog 87 [.agg (cD a b).toArray,.agg #[I e.1,sL f e.2 g],.agg #[I c.1,I c.2]] (bP a b [⟨.str,⟨f,e.2.length,g⟩,e.2⟩]) (fun _:P6=>True) (fun q=>.tuple #[.agg (aG r.1 q).toArray,I r.2]) (fun q=>(bP r.1 q [])):= by
 refine FC.of (T:=TTx) Tryz.call87 Tryz.func87 E E fun w0=>?_
 unfold nJ at h
 refine aM aA 5 [] [8,9,10,11] [(3,.bp 8 0),(4,.bp 9 0),(5,.bp 10 0),(6,.bp 11 0)] (.new 8 46 (aG a b) (.new 9 50 [I e.1,sL f e.2 g] (.new 10 64 [I c.1,I c.2] (.new 11 46 bA .nil)))) ⟨(Es E),(Bs E E)⟩ E E (aC aA 4 [(8,.v (I a.2.2.1.2))] ev1 E E (JS.seq (JS.region (aB aA 1 [] [] [(14,.v (.agg (aG a b).toArray))] _ E ev1 ?_))))
 refine bnw h fun d K h=>JO.call E E E E (aIx a b _ K) E [0,1,2,3,4,5] E E fun _ _=>aB aA 1 [] [] [(9,.v (I d))] _ E ev1 (aD E (aC aA 5 [(10,.v (I (a.2.2.1.1.length:Int)))] ev1 E E (JS.seq (aC aA 2 [(21,.v (I c.1))] ev1 E E ?_))))
 obtain ⟨L,M,h⟩:=aN h
 refine aX (ι:=Unit) ⟨fun _=>L ()=some r,fun _=>[(6,.bp 11 0)],fun _=>(.new 11 46 bA .nil),fun _=>[],fun _=>[],fun _=>0⟩ ?_ ?_
 ·
  refine aC aA 2 [(22,.v (.bool (decide (c.1=1))))] ev1 E E ?_
  refine aH E h (fun h=>?_) (fun h=>?_)
  ·
   refine JS.seq ?_
   obtain ⟨N,O,h⟩:=aE h
   obtain ⟨⟨l,m⟩,P,h⟩:=aE h
   refine bF E (.new 8 46 (aG a b) (.new 10 64 [I c.1,I c.2] .nil)) [] [5,6,7,8,9] ev6 E (fun e2=>?_)
   refine bX aA aJ true 6 [0,1,2,3] E (by kernel_rfl) [] [(24,.v (.agg (aG a b).toArray)),(26,.v (I c.2)),(27,.v (I d))] ev6 [] E E (Es E) (JA.one 4 (by kernel_rfl) (JK.call E E E E (aCi c.2 d _ O) E [] E E ?_))
   rintro ⟨Q,R⟩ -
   refine aU ev6 [] E (JA.one 5 (by kernel_rfl) (JK.call E E E E (aD8 a N 1 b Q R _ P) E [0,1,2,3,4,5,7] E E ?_))
   rintro i -
   refine aR E (aT aA aJ 2 [6,7] E (by kernel_rfl) [] [(30,.v (.agg (aG l i).toArray)),(31,.v (I m))] E (Es E) (JA.one 8 (by kernel_rfl) (bH aA E E E E E E E E (aR E (aT aA aJ 0 [9] E (by kernel_rfl) [] [(7,.v (I m))] E ev2 (bM (by kernel_rfl) (bE (B':=(.new 11 46 (aG l i) .nil)) (Bs E E) ?_)))))))
   cases h
   exact JS.ret aA i V E E [0,0,0,0,0,0] E
  refine aC aA 2 [(32,.v (.bool (decide (c.1=6))))] ev1 E E ?_
  refine aH E h (fun h=>?_) (fun h=>?_)
  ·
   refine JS.seq ?_
   obtain ⟨S,U,h⟩:=aE h
   obtain ⟨⟨n,o⟩,X,h⟩:=aE h
   refine bF E (.new 8 46 (aG a b) .nil) [] [3,4,5,6,7] ev4 E (fun e3=>?_)
   refine bX aA aJ true 6 [0,1] E (by kernel_rfl) [] [(34,.v (.agg (aG a b).toArray)),(35,.v (I d))] ev4 [] E E (Es E) (JA.one 2 (by kernel_rfl) (JK.call E E E E (aCi 9 d _ U) E [] E E ?_))
   rintro ⟨Y,Z⟩ -
   refine aU ev4 [] E (JA.one 3 (by kernel_rfl) (JK.call E E E E (aD8 a S 1 b Y Z _ X) E [0,1,2,3,4,5,7] E E ?_))
   rintro j -
   refine aR E (aT aA aJ 2 [4,5] E (by kernel_rfl) [] [(38,.v (.agg (aG n j).toArray)),(39,.v (I o))] E (Es E) (JA.one 6 (by kernel_rfl) (bH aA E E E E E E E E (aR E (aT aA aJ 0 [7] E (by kernel_rfl) [] [(7,.v (I o))] E ev2 (bM (by kernel_rfl) (bE (B':=(.new 11 46 (aG n j) .nil)) (Bs E E) ?_)))))))
   cases h
   exact JS.ret aA j V E E [0,0,0,0,0,0] E
  refine aC aA 2 [(40,.v (.bool (decide (c.1=4))))] ev1 E E ?_
  refine aH E h (fun h=>?_) (fun h=>?_)
  ·
   refine JS.seq (JS.region (aB aA 1 [] [] [(42,.v (.agg (aG a b).toArray))] _ E ev1 ?_))
   refine bnw h fun a0 a1 h=>JO.call E E E E (cI a b _ a1) E [0,1,2,3,4,5] E E fun p _=>aL aA 2 [] [] [(7,.v (I 2))] (.new 11 46 (aG a0 p) .nil) E ⟨ev2,(Bs E E)⟩ (aD E ?_)
   cases h
   exact JS.ret aA p V E E [0,0,0,0,0,0] E
  refine aC aA 2 [(44,.v (.bool (decide (c.1=5))))] ev1 E E ?_
  refine aH E h (fun h=>?_) (fun h=>?_)
  ·
   refine JS.seq (JS.region (aB aA 5 [(W (a.2.2.1.2 - d))] [] [(46,.v (.agg (aG a b).toArray)),(49,.v (I (W (a.2.2.1.2 - d)))),(50,.v (I a.2.2.1.2))] _ E ⟨ev5,(Es E),E⟩ ?_))
   obtain ⟨⟨a2,a3⟩,a4,h⟩:=aE h
   refine JO.call E E E E (zR a (W (a.2.2.1.2 - d)) a.2.2.1.2 b _ a4) E [0,1,2,3,4,5] E E fun s _=>aL aA 4 [] [] [(7,.v (I a3))] (.new 11 46 (aG a2 s) .nil) E ⟨ev2,(Bs E E)⟩ (aD E ?_)
   cases h
   exact JS.ret aA s V E E [0,0,0,0,0,0] E
  refine aC aA 2 [(54,.v (.bool (decide (c.1=14))))] ev1 E E ?_
  refine aH E h (fun h=>?_) (fun h=>?_)
  ·
   refine JS.seq (JS.region (aB aA 5 [(W (a.2.2.1.2+d))] [] [(56,.v (.agg (aG a b).toArray)),(57,.v (I a.2.2.1.2)),(60,.v (I (W (a.2.2.1.2+d))))] _ E ⟨ev5,(Es E),E⟩ ?_))
   obtain ⟨⟨a5,a6⟩,a7,h⟩:=aE h
   refine JO.call E E E E (zR a a.2.2.1.2 (W (a.2.2.1.2+d)) b _ a7) E [0,1,2,3,4,5] E E fun t _=>aL aA 4 [] [] [(7,.v (I a6))] (.new 11 46 (aG a5 t) .nil) E ⟨ev2,(Bs E E)⟩ (aD E ?_)
   cases h
   exact JS.ret aA t V E E [0,0,0,0,0,0] E
  refine aC aA 2 [(64,.v (.bool (decide (c.1=11))))] ev1 E E ?_
  refine aH E h (fun h=>?_) (fun h=>?_)
  ·
   refine JS.seq (JS.region (aB aA 4 [(W (a.2.2.1.2 - d))] [] [(66,.v (.agg (aG a b).toArray)),(69,.v (I (W (a.2.2.1.2 - d))))] _ E ⟨ev5,(Es E),E⟩ ?_))
   obtain ⟨⟨a8,a9⟩,b0,h⟩:=aE h
   refine JO.call E E E E (pA a (W (a.2.2.1.2 - d)) b _ b0) E [0,1,2,3,4,5] E E fun u _=>aL aA 4 [] [] [(7,.v (I a9))] (.new 11 46 (aG a8 u) .nil) E ⟨ev2,(Bs E E)⟩ (aD E ?_)
   cases h
   exact JS.ret aA u V E E [0,0,0,0,0,0] E
  refine aC aA 2 [(73,.v (.bool (decide (c.1=10))))] ev1 E E ?_
  refine aH E h (fun h=>?_) (fun h=>?_)
  ·
   refine JS.seq (JS.region (aB aA 4 [(W (a.2.2.1.2+d))] [] [(75,.v (.agg (aG a b).toArray)),(78,.v (I (W (a.2.2.1.2+d))))] _ E ⟨ev5,(Es E),E⟩ ?_))
   obtain ⟨⟨b1,b2⟩,b3,h⟩:=aE h
   refine JO.call E E E E (pA a (W (a.2.2.1.2+d)) b _ b3) E [0,1,2,3,4,5] E E fun w _=>aL aA 4 [] [] [(7,.v (I b2))] (.new 11 46 (aG b1 w) .nil) E ⟨ev2,(Bs E E)⟩ (aD E ?_)
   cases h
   exact JS.ret aA w V E E [0,0,0,0,0,0] E
  refine aC aA 2 [(82,.v (.bool (decide (c.1=12))))] ev1 E E ?_
  refine aH E h (fun h=>?_) (fun h=>?_)
  ·
   refine JS.seq (JS.region (aB aA 1 [] [] [(84,.v (.agg (aG a b).toArray))] _ E ev1 ?_))
   obtain ⟨⟨b4,b5⟩,b6,h⟩:=aE h
   refine JO.call E E E E (pA a 0 b _ b6) E [0,1,2,3,4,5] E E fun x _=>aL aA 4 [] [] [(7,.v (I b5))] (.new 11 46 (aG b4 x) .nil) E ⟨ev2,(Bs E E)⟩ (aD E ?_)
   cases h
   exact JS.ret aA x V E E [0,0,0,0,0,0] E
  refine aC aA 2 [(88,.v (.bool (decide (c.1=13))))] ev1 E E ?_
  refine aH E h (fun h=>?_) (fun h=>?_)
  ·
   refine JS.seq (JS.region (aB aA 2 [] [] [(90,.v (.agg (aG a b).toArray)),(91,.v (I (a.2.2.1.1.length:Int)))] _ E ⟨(Es E),E⟩ ?_))
   obtain ⟨⟨b7,b8⟩,b9,h⟩:=aE h
   refine JO.call E E E E (pA a (a.2.2.1.1.length:Int) b _ b9) E [0,1,2,3,4,5] E E fun y _=>aL aA 4 [] [] [(7,.v (I b8))] (.new 11 46 (aG b7 y) .nil) E ⟨ev2,(Bs E E)⟩ (aD E ?_)
   cases h
   exact JS.ret aA y V E E [0,0,0,0,0,0] E
  refine aC aA 2 [(95,.v (.bool (decide (c.1=8))))] ev1 E E ?_
  refine aH E h (fun h=>?_) (fun h=>?_)
  ·
   refine JS.seq (JS.region (aB aA 2 [] [] [(97,.v (.agg (aG a b).toArray)),(98,.v (.agg #[I e.1,sL f e.2 g]))] _ E ⟨(Es E),E⟩ ?_))
   obtain ⟨⟨c0,c1⟩,c2,h⟩:=aE h
   refine JO.call E E E E (nD a e (-1) b f g _ c2) E [0,1,2,3,4,5,6] E E fun z _=>aL aA 4 [] [] [(7,.v (I c1))] (.new 11 46 (aG c0 z) .nil) E ⟨ev2,(Bs E E)⟩ (aD E ?_)
   cases h
   exact JS.ret aA z V E E [0,0,0,0,0,0] E
  refine aC aA 2 [(102,.v (.bool (decide (c.1=9))))] ev1 E E ?_
  refine aH E h (fun h=>?_) (fun h=>?_)
  ·
   refine JS.seq (JS.region (aB aA 2 [] [] [(104,.v (.agg (aG a b).toArray)),(105,.v (.agg #[I e.1,sL f e.2 g]))] _ E ⟨(Es E),E⟩ ?_))
   obtain ⟨⟨c3,c4⟩,c5,h⟩:=aE h
   refine JO.call E E E E (nD a e 1 b f g _ c5) E [0,1,2,3,4,5,6] E E fun A _=>aL aA 4 [] [] [(7,.v (I c4))] (.new 11 46 (aG c3 A) .nil) E ⟨ev2,(Bs E E)⟩ (aD E ?_)
   cases h
   exact JS.ret aA A V E E [0,0,0,0,0,0] E
  refine aC aA 2 [(109,.v (.bool (decide (c.1=2))))] ev1 E E ?_
  refine aH E h (fun h=>?_) (fun h=>?_)
  ·
   refine aC aA 2 [(112,.v (I c.2))] ev1 E E (JS.block (aC aA 2 [(113,.v (.bool (decide (c.2=99))))] ev1 E E ?_))
   refine aH E h (fun h=>?_) (fun h=>?_)
   ·
    refine JS.seq (JS.region (aB aA 1 [] [] [(115,.v (.agg (aG a b).toArray))] _ E ev1 ?_))
    refine bnw h fun c6 c7 h=>JO.call E E E E (cI a b _ c7) E [0,1,2,3,4,5] E E fun B _=>aL aA 2 [] [] [(7,.v (I 3))] (.new 11 46 (aG c6 B) .nil) E ⟨ev2,(Bs E E)⟩ (aD E ?_)
    cases h
    exact JS.ret aA B V E E [0,0,0,0,0,0] E
   refine aC aA 2 [(117,.v (.bool (decide (c.2=108))))] ev1 E E ?_
   refine aH E h (fun h=>?_) (fun h=>?_)
   ·
    refine JS.seq (JS.region (aB aA 1 [] [] [(119,.v (.agg (aG a b).toArray))] _ E ev1 ?_))
    refine bnw h fun c8 c9 h=>JO.call E E E E (cI a b _ c9) E [0,1,2,3,4,5] E E fun C _=>aL aA 2 [] [] [(7,.v (I 5))] (.new 11 46 (aG c8 C) .nil) E ⟨ev2,(Bs E E)⟩ (aD E ?_)
    cases h
    exact JS.ret aA C V E E [0,0,0,0,0,0] E
   refine aC aA 2 [(121,.v (.bool (decide (c.2=100))))] ev1 E E ?_
   refine aH E h (fun h=>?_) (fun h=>?_)
   ·
    refine JS.seq (aC aA 2 [(124,.v (.bool (decide ((a.2.2.1.1.length:Int)=0))))] ev1 E E ?_)
    refine aH E h (fun h=>?_) (fun h=>?_)
    ·
     refine JS.seq (JS.region (aB aA 1 [] [] [(125,.v (.agg (aG a b).toArray))] _ E ev1 ?_))
     refine bnw h fun d0 d1 h=>JO.call E E E E (cI a b _ d1) E [0,1,2,3,4,5] E E fun D _=>aL aA 2 [] [] [(7,.v (I 4))] (.new 11 46 (aG d0 D) .nil) E ⟨ev2,(Bs E E)⟩ (aD E ?_)
     cases h
     exact JS.ret aA D V E E [0,0,0,0,0,0] E
    refine JS.skip (JS.seq (JS.region (aB aA 5 [(W (a.2.2.1.2+d))] [] [(127,.v (.agg (aG a b).toArray)),(128,.v (I a.2.2.1.2)),(131,.v (I (W (a.2.2.1.2+d))))] _ E ⟨ev5,(Es E),E⟩ ?_)))
    obtain ⟨⟨d2,d3⟩,d4,h⟩:=aE h
    refine JO.call E E E E (zR a a.2.2.1.2 (W (a.2.2.1.2+d)) b _ d4) E [0,1,2,3,4,5] E E fun F _=>aL aA 4 [] [] [(7,.v (I d3))] (.new 11 46 (aG d2 F) .nil) E ⟨ev2,(Bs E E)⟩ (aD E ?_)
    cases h
    exact JS.ret aA F V E E [0,0,0,0,0,0] E
   refine aC aA 2 [(135,.v (.bool (decide (c.2=117))))] ev1 E E ?_
   refine aH E h (fun h=>?_) (fun h=>?_)
   ·
    refine JS.seq (JS.region (aB aA 2 [] [] [(137,.v (.agg (aG a b).toArray)),(138,.v (I a.2.2.1.2))] _ E ⟨(Es E),E⟩ ?_))
    obtain ⟨⟨d5,d6⟩,d7,h⟩:=aE h
    refine JO.call E E E E (aCj a 0 a.2.2.1.2 2 b _ d7) E [0,1,2,3,4,5] E E fun G _=>aL aA 4 [] [] [(7,.v (I d6))] (.new 11 46 (aG d5 G) .nil) E ⟨ev2,(Bs E E)⟩ (aD E ?_)
    cases h
    exact JS.ret aA G V E E [0,0,0,0,0,0] E
   refine aC aA 2 [(142,.v (.bool (decide (c.2=119))))] ev1 E E ?_
   refine aH E h (fun h=>?_) (fun h=>?_)
   ·
    refine JS.seq ?_
    obtain ⟨d8,d9,h⟩:=aE h
    obtain ⟨⟨H,J⟩,e0,h⟩:=aE h
    refine bF E (.new 8 46 (aG a b) .nil) [] [7,8,9,10,11] ev4 E (fun e4=>?_)
    refine bX aA aJ true 6 [0,1,2,3,4,6] E (by kernel_rfl) [] [(144,.v (.agg (aG a b).toArray)),(147,.v (sL b.1 a.2.2.1.1 b.2.1)),(148,.v (I a.2.2.1.2)),(150,.v (I a.2.2.1.2))] ev4 [] E E (Es E) (JA.one 5 (by kernel_rfl) (JK.call E E E E (yX a.2.2.1.1 a.2.2.1.2 true b.1 b.2.1 _ d9) E [0] E E fun _ _=>aU ev4 [] E (JA.one 7 (by kernel_rfl) (JK.call E E E E (aCj a d8 a.2.2.1.2 2 b _ e0) E [0,1,2,3,4,5] E E ?_))))
    rintro k -
    refine aR E (aT aA aJ 2 [8,9] E (by kernel_rfl) [] [(152,.v (.agg (aG H k).toArray)),(153,.v (I J))] E (Es E) (JA.one 10 (by kernel_rfl) (bH aA E E E E E E E E (aR E (aT aA aJ 0 [11] E (by kernel_rfl) [] [(7,.v (I J))] E ev2 (bM (by kernel_rfl) (bE (B':=(.new 11 46 (aG H k) .nil)) (Bs E E) ?_)))))))
    cases h
    exact JS.ret aA k V E E [0,0,0,0,0,0] E
   refine JS.skip (aV (aV (aQ () h ev2 (Bs E E) [] E [] E)))
  refine JS.skip (aV (aQ () h ev2 (Bs E E) [] E [] E))
 rintro _ h
 subst M
 refine aM aA 3 [] [] [(7,.v (I (-1)))] (.new 11 46 bA .nil) ⟨ev2,(Bs E E)⟩ E E ?_
 cases h
 refine aZ iT Sl.nil E E (aZ (.sl iT) Sl.nil E E (aZ (.pair (.sl iT) iT) Sl.nil E E (aZ iT Sl.nil E E (aZ iT Sl.nil E E (aZ iT Sl.nil E E (JS.ret aA (none,0,none,0,none,0,none,0,none,0,none,0) V E E [5,4,3,2,1,0] E))))))

def qT (a:EdQ) (c:Int×List (List UInt8)) (d:Int×Int):Option (EdQ×Int×Bool):= (aF (oF a) fun b=>(bW ((!b)=false) (mL c) false fun e=>(bW ((bif (!b) then true else (!e))=false) (uF d) false fun g=>(bif (bif (bif (bif (!b) then true else (!e)) then true else (!g)) then true else (bif (!(decide (a.2.1=0))) then (!(decide (a.2.1=1))) else false)) then some ((false,0,([],0),0,0,0,0,0,0,0,[],[],0,([],0),[],0,([],0)),0,false) else (aF (nJ a c d) fun (h,f)=>(bif decide (f<0) then some ((false,0,([],0),0,0,0,0,0,0,0,[],[],0,([],0),[],0,([],0)),0,false) else some (h,f,true)))))))

theorem aHy (c:EdQ) (a:Int×List (List UInt8)) (b:Int×Int) (d:P6) (e:Option Addr) (f:Nat) (r:EdQ×Int×Bool) (h:qT c a b=some r):
 FC Tryz.prog 27 [.agg (cD c d).toArray,.agg #[I a.1,sL e a.2 f],.agg #[I b.1,I b.2]] (bP c d [⟨.str,⟨e,a.2.length,f⟩,a.2⟩]) (fun _:P6=>True) (fun q=>.tuple #[.agg (aG r.1 q).toArray,I r.2.1,.bool r.2.2]) (fun q=>(bP r.1 q [])):= by
 refine FC.of (T:=TTx) Tryz.call27 Tryz.func27 E E fun w=>?_
 unfold qT at h
 refine aM aA 6 [] [8,9,10,11] [(3,.bp 8 0),(4,.bp 9 0),(5,.bp 10 0),(6,.bp 11 0)] (.new 8 46 (aG c d) (.new 9 50 [I a.1,sL e a.2 f] (.new 10 64 [I b.1,I b.2] (.new 11 46 bA .nil)))) ⟨(Es E),(Bs E E)⟩ E E (JS.seq (JS.seq (JS.region (aB aA 1 [] [] [(11,.v (.agg (aG c d).toArray))] _ E ev1 ?_))))
 refine bnw h fun g m h=>JO.call E E E E (wX c d _ m) E [0,1,2,3,4,5] E E fun _ _=>aB aA 3 [] [] [(14,.v (.bool (!g))),(15,.cd [(14,false)] (.v (.agg #[I a.1,sL e a.2 f])))] _ E ⟨(Es E),E⟩ ?_
 obtain ⟨k,n,-,h⟩:=aY h
 refine bL E E E E (fun o=>vQ a e f _ (n o)) E [6] E E (aB aA 4 [] [] [(19,.v (.bool (bif (!g) then true else (!k)))),(20,.cd [(19,false)] (.v (.agg #[I b.1,I b.2])))] _ E ⟨(Es E),E⟩ ?_)
 obtain ⟨p,s,-,h⟩:=aY h
 refine bL E E E E (fun t=>aF8 b _ (s t)) E [] E E (aB aA 12 [] [] [(33,.v (.bool (bif (bif (bif (!g) then true else (!k)) then true else (!p)) then true else (bif (!(decide (c.2.1=0))) then (!(decide (c.2.1=1))) else false))))] _ E ev1 (aD E ?_))
 refine aH E h (fun h=>?_) (fun h=>?_)
 ·
  refine aM aA 4 [] [] [(7,.v (I 0)),(8,.v (.bool false))] (.new 11 46 bA .nil) ⟨(Es E),(Bs E E)⟩ E E ?_
  cases h
  refine aZ iT Sl.nil E E (aZ (.sl iT) Sl.nil E E (aZ (.pair (.sl iT) iT) Sl.nil E E (aZ iT Sl.nil E E (aZ iT Sl.nil E E (aZ iT Sl.nil E E (JS.ret aA (none,0,none,0,none,0,none,0,none,0,none,0) V E E [5,4,3,2,1,0] E))))))
 refine JS.skip (JS.seq (JS.region (aB aA 3 [] [] [(36,.v (.agg (aG c d).toArray)),(37,.v (.agg #[I a.1,sL e a.2 f])),(38,.v (.agg #[I b.1,I b.2]))] _ E ⟨(Es E),E⟩ ?_)))
 obtain ⟨⟨l,i⟩,u,h⟩:=aE h
 refine JO.call E E E E (aHt c a b d e f _ u) E [0,1,2,3,4,5,6] E E fun j _=>aL aA 6 [] [39] [(9,.bp 39 0),(10,.v (I i))] (.new 11 46 bA (.new 39 46 (aG l j) .nil)) E ⟨(Es E),(Bs E E)⟩ (aD E (JS.seq (aC aA 2 [(43,.v (.bool (decide (i<0))))] ev1 E E ?_)))
 refine aH E h (fun h=>?_) (fun h=>?_)
 ·
  refine aM aA 4 [] [] [(7,.v (I 0)),(8,.v (.bool false))] (.new 11 46 bA .nil) ⟨(Es E),(Bs E E)⟩ E E ?_
  cases h
  refine aZ iT Sl.nil E E (aZ (.sl iT) Sl.nil E E (aZ (.pair (.sl iT) iT) Sl.nil E E (aZ iT Sl.nil E E (aZ iT Sl.nil E E (aZ iT Sl.nil E E (JS.ret aA (none,0,none,0,none,0,none,0,none,0,none,0) V E E [5,4,3,2,1,0] E))))))
 refine JS.skip (aM aA 5 [] [] [(7,.v (I i)),(8,.v (.bool true))] (.new 11 46 (aG l j) .nil) ⟨(Es E),(Bs E E)⟩ E E ?_)
 cases h
 exact JS.ret aA j V E E [0,0,0,0,0,0] E

def xJ (b:EdQ) (e:Int×List (List UInt8)) (d:Int×Int):Option (EdQ×Int):= (aF (oF b) fun f=>(bW ((!f)=false) (mL e) false fun g=>(bW ((bif (!f) then true else (!g))=false) (uF d) false fun h=>(bif (bif (bif (bif (!f) then true else (!g)) then true else (!h)) then true else (bif (!(decide (b.2.1=1))) then (!(decide (b.2.1=2))) else false)) then some ((false,0,([],0),0,0,0,0,0,0,0,[],[],0,([],0),[],0,([],0)),0) else (bif decide (b.2.1=2) then (aF (fQ b e d) fun (i,j)=> some (i,j)) else (aF (qT b e d) fun (k,l,m)=>(bif m then some (k,l) else (bif decide (d.1=7) then (aF (cA b) fun c=>(aF (eD c) fun a=>(aF (bV (W (b.2.2.1.2 - 1)) (b.2.2.1.1.length:Int)) fun n=> some ((a.1,2,(c.2.2.1.1,n),a.2.2.2.1,a.2.2.2.2.1,a.2.2.2.2.2.1,a.2.2.2.2.2.2.1,a.2.2.2.2.2.2.2.1,a.2.2.2.2.2.2.2.2.1,0,c.2.2.2.2.2.2.2.2.2.2.1,c.2.2.2.2.2.2.2.2.2.2.2.1,a.2.2.2.2.2.2.2.2.2.2.2.2.1,(c.2.2.2.2.2.2.2.2.2.2.2.2.2.1.1,a.2.2.2.2.2.2.2.2.2.2.2.2.2.1.2),c.2.2.2.2.2.2.2.2.2.2.2.2.2.2.1,a.2.2.2.2.2.2.2.2.2.2.2.2.2.2.2.1,(c.2.2.2.2.2.2.2.2.2.2.2.2.2.2.2.2.1,a.2.2.2.2.2.2.2.2.2.2.2.2.2.2.2.2.2)),0)))) else (aF (cH b) fun (o,p)=> some (o,p))))))))))

theorem uQ (c:EdQ) (d:Int×List (List UInt8)) (e:Int×Int) (f:P6) (g:Option Addr) (i:Nat) (r:EdQ×Int) (h:xJ c d e=some r):
 FC Tryz.prog 39 [.agg (cD c f).toArray,.agg #[I d.1,sL g d.2 i],.agg #[I e.1,I e.2]] (bP c f [⟨.str,⟨g,d.2.length,i⟩,d.2⟩]) (fun _:P6=>True) (fun q=>.tuple #[.agg (aG r.1 q).toArray,I r.2]) (fun q=>(bP r.1 q [])):= by
 refine FC.of (T:=TTx) Tryz.call39 Tryz.func39 E E fun O=>?_
 unfold xJ at h
 refine aM aA 5 [] [8,9,10,11] [(3,.bp 8 0),(4,.bp 9 0),(5,.bp 10 0),(6,.bp 11 0)] (.new 8 46 (aG c f) (.new 9 50 [I d.1,sL g d.2 i] (.new 10 64 [I e.1,I e.2] (.new 11 46 bA .nil)))) ⟨(Es E),(Bs E E)⟩ E E (JS.seq (JS.seq (JS.region (aB aA 1 [] [] [(11,.v (.agg (aG c f).toArray))] _ E ev1 ?_))))
 refine bnw h fun k w h=>JO.call E E E E (wX c f _ w) E [0,1,2,3,4,5] E E fun _ _=>aB aA 3 [] [] [(14,.v (.bool (!k))),(15,.cd [(14,false)] (.v (.agg #[I d.1,sL g d.2 i])))] _ E ⟨(Es E),E⟩ ?_
 obtain ⟨n,x,-,h⟩:=aY h
 refine bL E E E E (fun y=>vQ d g i _ (x y)) E [6] E E (aB aA 4 [] [] [(19,.v (.bool (bif (!k) then true else (!n)))),(20,.cd [(19,false)] (.v (.agg #[I e.1,I e.2])))] _ E ⟨(Es E),E⟩ ?_)
 obtain ⟨z,A,-,h⟩:=aY h
 refine bL E E E E (fun B=>aF8 e _ (A B)) E [] E E (aB aA 12 [] [] [(33,.v (.bool (bif (bif (bif (!k) then true else (!n)) then true else (!z)) then true else (bif (!(decide (c.2.1=1))) then (!(decide (c.2.1=2))) else false))))] _ E ev1 (aD E ?_))
 refine aH E h (fun h=>?_) (fun h=>?_)
 ·
  refine aM aA 3 [] [] [(7,.v (I 0))] (.new 11 46 bA .nil) ⟨ev2,(Bs E E)⟩ E E ?_
  cases h
  refine aZ iT Sl.nil E E (aZ (.sl iT) Sl.nil E E (aZ (.pair (.sl iT) iT) Sl.nil E E (aZ iT Sl.nil E E (aZ iT Sl.nil E E (aZ iT Sl.nil E E (JS.ret aA (none,0,none,0,none,0,none,0,none,0,none,0) V E E [5,4,3,2,1,0] E))))))
 refine JS.skip (JS.seq (aC aA 3 [(37,.v (.bool (decide (c.2.1=2))))] ev1 E E ?_))
 refine aH E h (fun h=>?_) (fun h=>?_)
 ·
  refine JS.seq (JS.region (aB aA 3 [] [] [(38,.v (.agg (aG c f).toArray)),(39,.v (.agg #[I d.1,sL g d.2 i])),(40,.v (.agg #[I e.1,I e.2]))] _ E ⟨(Es E),E⟩ ?_))
  obtain ⟨⟨C,D⟩,F,h⟩:=aE h
  refine JO.call E E E E (aEv c d e f g i _ F) E [0,1,2,3,4,5,6] E E fun o _=>aL aA 4 [] [] [(7,.v (I D))] (.new 11 46 (aG C o) .nil) E ⟨ev2,(Bs E E)⟩ (aD E ?_)
  cases h
  exact JS.ret aA o V E E [0,0,0,0,0,0] E
 refine JS.skip (JS.seq (JS.region (aB aA 3 [] [] [(45,.v (.agg (aG c f).toArray)),(46,.v (.agg #[I d.1,sL g d.2 i])),(47,.v (.agg #[I e.1,I e.2]))] _ E ⟨(Es E),E⟩ ?_)))
 obtain ⟨⟨p,s,t⟩,G,h⟩:=aE h
 refine JO.call E E E E (aHy c d e f g i _ G) E [0,1,2,3,4,5,6] E E fun l _=>aL aA 8 [] [61] [(8,.bp 61 0),(9,.v (I s)),(10,.v (.bool t))] (.new 8 46 (aG c f) (.new 10 64 [I e.1,I e.2] (.new 11 46 bA (.new 61 46 (aG p l) .nil)))) E ⟨(Es E),(Bs E E)⟩ (aD E (JS.seq (aC aA 1 [(52,.v (.bool t))] ev1 E E ?_)))
 refine aH E h (fun h=>?_) (fun h=>?_)
 ·
  refine aM aA 4 [] [] [(7,.v (I s))] (.new 11 46 (aG p l) .nil) ⟨ev2,(Bs E E)⟩ E E ?_
  cases h
  exact JS.ret aA l V E E [0,0,0,0,0,0] E
 refine JS.skip (JS.seq (aC aA 3 [(57,.v (.bool (decide (e.1=7))))] ev1 E E ?_))
 refine aH E h (fun h=>?_) (fun h=>?_)
 ·
  refine JS.seq (JS.region (aB aA 1 [] [] [(58,.v (.agg (aG c f).toArray))] _ E ev1 ?_))
  refine bnw h fun b H h=>JO.call E E E E (cI c f _ H) E [0,1,2,3,4,5] E E fun j _=>bnw h fun a J h=>JO.call E E E E (nE b j _ J) E [7,8,9,10,11,12] E E fun _ _=>aL aA 1 [] [] [] (.new 8 46 (aG c f) (.new 11 46 bA (.new 61 46 (aG (a.1,a.2.1,(b.2.2.1.1,a.2.2.1.2),a.2.2.2.1,(Q4 a).1,(Q4 a).2.1,(Q4 a).2.2.1,(Q4 a).2.2.2.1,(Q8 a).1,(Q8 a).2.1,(Q8 b).2.2.1,(Q8 b).2.2.2.1,(Q12 a).1,((Q12 b).2.1.1,(Q12 a).2.1.2),(Q12 b).2.2.1,(Q12 a).2.2.2.1,((Q16 b).1,(Q16 a).2)) j) .nil))) E ⟨V,(Bs E E)⟩ (aD E (JS.seq (wE [true,true,true,true,true,true,false,false,false,false,false,false] (bP c f [⟨.str,⟨g,d.2.length,i⟩,d.2⟩]) (bP b j []) E E (wP aA 2 [] [] [] (.new 8 46 (aG c f) (.new 11 46 bA (.new 61 46 (aG (a.1,2,(b.2.2.1.1,a.2.2.1.2),a.2.2.2.1,(Q4 a).1,(Q4 a).2.1,(Q4 a).2.2.1,(Q4 a).2.2.2.1,(Q8 a).1,(Q8 a).2.1,(Q8 b).2.2.1,(Q8 b).2.2.2.1,(Q12 a).1,((Q12 b).2.1.1,(Q12 a).2.1.2),(Q12 b).2.2.1,(Q12 a).2.2.2.1,((Q16 b).1,(Q16 a).2)) j) .nil))) ⟨V,(Bs E E)⟩ E E (JS.seq (JS.region (aB aA 8 [(W (c.2.2.1.2 - 1))] [] [(65,.v (I (W (c.2.2.1.2 - 1)))),(69,.v (I (c.2.2.1.1.length:Int)))] _ E ⟨ev5,(Es E),E⟩ ?_)))))))
  refine bnw h fun m K h=>JO.call E E E E (bN (W (c.2.2.1.2 - 1)) (c.2.2.1.1.length:Int) _ K) E [] E E fun _ _=>aL aA 3 [] [] [] (.new 11 46 bA (.new 61 46 (aG (a.1,2,(b.2.2.1.1,m),a.2.2.2.1,(Q4 a).1,(Q4 a).2.1,(Q4 a).2.2.1,(Q4 a).2.2.2.1,(Q8 a).1,(Q8 a).2.1,(Q8 b).2.2.1,(Q8 b).2.2.2.1,(Q12 a).1,((Q12 b).2.1.1,(Q12 a).2.1.2),(Q12 b).2.2.1,(Q12 a).2.2.2.1,((Q16 b).1,(Q16 a).2)) j) .nil)) E ⟨V,(Bs E E)⟩ (aD E (aM aA 2 [] [] [] (.new 11 46 bA (.new 61 46 (aG (a.1,2,(b.2.2.1.1,m),a.2.2.2.1,(Q4 a).1,(Q4 a).2.1,(Q4 a).2.2.1,(Q4 a).2.2.2.1,(Q8 a).1,0,(Q8 b).2.2.1,(Q8 b).2.2.2.1,(Q12 a).1,((Q12 b).2.1.1,(Q12 a).2.1.2),(Q12 b).2.2.1,(Q12 a).2.2.2.1,((Q16 b).1,(Q16 a).2)) j) .nil)) ⟨V,(Bs E E)⟩ E E (aM aA 3 [] [] [(7,.v (I 0))] (.new 11 46 (aG (a.1,2,(b.2.2.1.1,m),a.2.2.2.1,(Q4 a).1,(Q4 a).2.1,(Q4 a).2.2.1,(Q4 a).2.2.2.1,(Q8 a).1,0,(Q8 b).2.2.1,(Q8 b).2.2.2.1,(Q12 a).1,((Q12 b).2.1.1,(Q12 a).2.1.2),(Q12 b).2.2.1,(Q12 a).2.2.2.1,((Q16 b).1,(Q16 a).2)) j) .nil) ⟨ev2,(Bs E E)⟩ E E ?_)))
  cases h
  exact JS.ret aA j V E E [0,0,0,0,0,0] E
 refine JS.skip (JS.seq (JS.region (aB aA 1 [] [] [(75,.v (.agg (aG c f).toArray))] _ E ev1 ?_)))
 obtain ⟨⟨L,M⟩,N,h⟩:=aE h
 refine JO.call E E E E (cO c f _ N) E [0,1,2,3,4,5] E E fun u _=>aL aA 4 [] [] [(7,.v (I M))] (.new 11 46 (aG L u) .nil) E ⟨ev2,(Bs E E)⟩ (aD E ?_)
 cases h
 exact JS.ret aA u V E E [0,0,0,0,0,0] E

def dK (a:Int) (b:Int) (c:Int):Option Bool:= some (bif decide (b≤a) then (decide (a≤c)) else false)

theorem eK (a:Int) (b:Int) (c:Int) (r:Bool) (h:dK a b c=some r) :
 FC Tryz.prog 99 [I a,I b,I c] [] (fun _:Unit=>True) (fun _=>.bool r) (fun _=>[]):= by
 refine FC.of (T:=TTx) Tryz.call99 Tryz.func99 E E fun d=>?_
 unfold dK at h
 refine aC aA 1 [] ev5 E E (aC aA 9 [(6,.v (.bool (bif (decide (b≤a)) then (decide (a≤c)) else false)))] ev1 E E ?_)
 cases h
 exact JS.ret aA () V E E [] E

def mY (a:Int):Option Bool:= (aF (dK a 0 1114111) fun b=>(bW (b=true) (dK a 55296 57343) false fun c=> some (bif b then (!c) else false)))

theorem aEg (a:Int) (r:Bool) (h:mY a=some r) :
 FC Tryz.prog 141 [I a] [] (fun _:Unit=>True) (fun _=>.bool r) (fun _=>[]):= by
 refine FC.of (T:=TTx) Tryz.call141 Tryz.func141 E E fun g=>?_
 unfold mY at h
 refine aC aA 1 [] ev5 E E (JS.seq (JS.region (aB aA 1 [] [] [(3,.v (I a))] _ E ev1 ?_)))
 refine bnw h fun b c h=>JO.call E E E E (eK a 0 1114111 _ c) E [] E E fun _ _=>aB aA 2 [] [] [(5,.v (.bool b)),(6,.cd [(5,true)] (.v (I a)))] _ E ⟨(Es E),E⟩ ?_
 obtain ⟨d,e,-,h⟩:=aY h
 refine bL E E E E (fun f=>eK a 55296 57343 _ (e f)) E [] E E (aB aA 3 [] [] [(2,.v (.bool (bif b then (!d) else false)))] _ E ev1 (aD E ?_))
 cases h
 exact JS.ret aA () V E E [] E

def eI (a:Int):Option Bool:= (aF (mY a) fun b=>(bW ((bif b then (decide (32≤a)) else false)=true) (dK a 127 159) false fun c=> some (bif (bif b then (decide (32≤a)) else false) then (!c) else false)))

theorem mB (a:Int) (r:Bool) (h:eI a=some r) :
 FC Tryz.prog 57 [I a] [] (fun _:Unit=>True) (fun _=>.bool r) (fun _=>[]):= by
 refine FC.of (T:=TTx) Tryz.call57 Tryz.func57 E E fun g=>?_
 unfold eI at h
 refine aC aA 1 [] ev5 E E (JS.seq (JS.region (aB aA 1 [] [] [(3,.v (I a))] _ E ev1 ?_)))
 refine bnw h fun b c h=>JO.call E E E E (aEg a _ c) E [] E E fun _ _=>aB aA 6 [] [] [(9,.v (.bool (bif b then (decide (32≤a)) else false))),(10,.cd [(9,true)] (.v (I a)))] _ E ⟨(Es E),E⟩ ?_
 obtain ⟨d,e,-,h⟩:=aY h
 refine bL E E E E (fun f=>eK a 127 159 _ (e f)) E [] E E (aB aA 3 [] [] [(2,.v (.bool (bif (bif b then (decide (32≤a)) else false) then (!d) else false)))] _ E ev1 (aD E ?_))
 cases h
 exact JS.ret aA () V E E [] E

def mX (a:Int):Option Bool:= (aF (eI a) fun b=> some (bif (bif b then true else (decide (a=9))) then true else (decide (a=10))))

theorem aEy (a:Int) (r:Bool) (h:mX a=some r) :
 FC Tryz.prog 248 [I a] [] (fun _:Unit=>True) (fun _=>.bool r) (fun _=>[]):= by
 refine FC.of (T:=TTx) Tryz.call248 Tryz.func248 E E fun d=>?_
 unfold mX at h
 refine aC aA 1 [] ev5 E E (JS.seq (JS.region (aB aA 1 [] [] [(3,.v (I a))] _ E ev1 ?_)))
 refine bnw h fun b c h=>JO.call E E E E (mB a _ c) E [] E E fun _ _=>aB aA 9 [] [] [(2,.v (.bool (bif (bif b then true else (decide (a=9))) then true else (decide (a=10)))))] _ E ev1 (aD E ?_)
 cases h
 exact JS.ret aA () V E E [] E

def eF (b:List Int) (c:Unit→Option Bool) (d:Int→Option Bool):Int→Option Bool:=fun a=>(bif decide (a<(b.length:Int)) then (aP (0≤a∧a<(b.length:Int)) <|(bW ((decide (400≤a))=false) (mX (at' b a)) false fun e=>(bif (bif decide (400≤a) then true else (!e)) then some false else d (W (a+1))))) else c ())

def eP (a:List Int):Option Bool:= (aS (fun (_:Unit)=> some true) fun b=>(aW (eF a b) bG 0))

theorem pB (a:List Int) (c:Option Addr) (d:Nat) (r:Bool) (h:eP a=some r):
 FC Tryz.prog 179 [sL c a d] [fI c d a] (fun _:Unit=>True) (fun _=>.bool r) (fun _=>[]):= by
 refine FC.of (T:=TTx) Tryz.call179 Tryz.func179 E E fun n=>?_
 unfold eP at h
 refine aC aA 1 [] ev5 E E (JS.seq (aC aA 3 [(5,.v (sL c a d)),(6,.v (I (a.length:Int))),(7,.v (I 0))] ⟨(Es E),E⟩ E E ?_))
 obtain ⟨e,i,h⟩:=aN h
 refine aX (ι:=Unit) ⟨fun _=>e ()=some r,fun _=>[],fun _=>.nil,fun _=>[],fun _=>[],fun _=>0⟩ ?_ ?_
 ·
  refine JS.loop (ι:=Nat×Int) ⟨fun z=>aW (eF a e) z.1 z.2=some r,fun z=>[(5,.v (sL c a d)),(6,.v (I (a.length:Int))),(7,.v (I z.2))],fun z=>.nil,fun z=>[fI c d a],fun z=>[],fun z=>z.1⟩ (bG,0) h (Es E) V [0] E [] E ?_
  rintro ⟨f,b⟩ h
  obtain ⟨f,rfl,h⟩:=bC h
  rw [eF] at h
  refine aC aA 1 [(8,.v (.bool (decide (b<(a.length:Int)))))] ev1 E E (JS.seq ?_)
  refine aH E h (fun h=>?_) (fun h=>?_)
  ·
   refine JS.skip (JS.seq (JS.block (JS.seq (JS.region (bJ 0 E fun j=>?_)))))
   obtain ⟨g,h⟩:=aK h
   refine aB aA 2 [] [] [(9,.v (I b)),(10,.ep ⟨c,a.length,d⟩ (Int.toNat b*1))] _ E ⟨j.ix g,(Es E),E⟩ (JO.load aA E E E E E E E 0 E E (Int.toNat b) 0 (at' a b) ⟨bD g,E⟩ E E (aB aA 2 [] [] [(3,.v (I b)),(4,.v (I (at' a b)))] _ E ⟨(Es E),E⟩ (aD E (JS.seq (JS.region (aB aA 4 [] [] [(14,.v (.bool (decide (400≤b)))),(15,.cd [(14,false)] (.v (I (at' a b))))] _ E ⟨(Es E),E⟩ ?_))))))
   obtain ⟨k,l,-,h⟩:=aY h
   refine bL E E E E (fun m=>aEy (at' a b) _ (l m)) E [] E E (aB aA 2 [] [] [(18,.v (.bool (bif (decide (400≤b)) then true else (!k))))] _ E ev1 (aD E ?_))
   refine aH E h (fun h=>?_) (fun h=>?_)
   ·
    refine aC aA 1 [(2,.v (.bool false))] ev1 E E ?_
    cases h
    exact JS.ret aA () V E E [] E
   refine JS.skip (aV (bY aA 2 [(W (b+1))] [] [(7,.v (I (W (b+1))))] _ ev3 E E (bR (f,(W (b+1))) h (Nat.lt_succ_self _) (Es E) V [0] E [] E)))
  refine JS.exit E (aQ () h V V [] E [] E)
 rintro _ h
 subst i
 refine aC aA 1 [(2,.v (.bool true))] ev1 E E ?_
 cases h
 exact JS.ret aA () V E E [] E

def eQ (a:List Int×Int):Option Bool:= (aF (eP a.1) fun b=>(bW (b=true) (dK a.2 0 (a.1.length:Int)) false fun c=> some (bif b then c else false)))

theorem hX (a:List Int×Int) (b:Option Addr) (c:Nat) (r:Bool) (h:eQ a=some r):
 FC Tryz.prog 98 [.agg #[sL b a.1 c,I a.2]] [fI b c a.1] (fun _:Unit=>True) (fun _=>.bool r) (fun _=>[]):= by
 refine FC.of (T:=TTx) Tryz.call98 Tryz.func98 E E fun j=>?_
 unfold eQ at h
 refine aM aA 2 [] [2] [(1,.bp 2 0)] (.new 2 38 [sL b a.1 c,I a.2] .nil) ⟨ev2,(Bs E E)⟩ E E (JS.seq (JS.region (aB aA 2 [] [] [(4,.v (sL b a.1 c))] _ E ev1 ?_)))
 refine bnw h fun d e h=>JO.call E E E E (pB a.1 b c _ e) E [0] E E fun _ _=>aB aA 6 [] [] [(6,.v (.bool d)),(8,.cd [(6,true)] (.v (I a.2))),(11,.cd [(6,true)] (.v (I (a.1.length:Int))))] _ E ⟨(Es E),E⟩ ?_
 obtain ⟨f,g,-,h⟩:=aY h
 refine bL E E E E (fun i=>eK a.2 0 (a.1.length:Int) _ (g i)) E [] E E (aB aA 2 [] [] [(2,.v (.bool (bif d then f else false)))] _ E ev1 (aD E ?_))
 cases h
 exact JS.ret aA () V E E [] E

def qH (a:List Int×Int):Option Bool:= some (bif decide (0<(a.1.length:Int)) then (decide (a.2=(a.1.length:Int))) else false)

theorem aCp (a:List Int×Int) (b:Option Addr) (c:Nat) (r:Bool) (h:qH a=some r):
 FC Tryz.prog 180 [.agg #[sL b a.1 c,I a.2]] [fI b c a.1] (fun _:Unit=>True) (fun _=>.bool r) (fun _=>[]):= by
 refine FC.of (T:=TTx) Tryz.call180 Tryz.func180 E E fun d=>?_
 unfold qH at h
 refine aM aA 2 [] [2] [(1,.bp 2 0)] (.new 2 38 [sL b a.1 c,I a.2] .nil) ⟨ev2,(Bs E E)⟩ E E (aC aA 13 [(2,.v (.bool (bif (decide (0<(a.1.length:Int))) then (decide (a.2=(a.1.length:Int))) else false)))] ev1 E E ?_)
 cases h
 exact JS.ret aA () V E E [] E

def fR (c:Int) (b:List UInt8) (d:Unit→Option Bool) (e:Int→Option Bool):Int→Option Bool:=fun a=>(bif decide (a<(b.length:Int)) then (aP (0≤a∧a<(b.length:Int)) <|(bif decide (((at' b a).toNat:Int)=c) then some true else e (W (a+1)))) else d ())

def iI (a:Int) (b:List UInt8):Option Bool:= (aS (fun (_:Unit)=> some false) fun c=>(aW (fR a b c) bG 0))

theorem yI (c:Int) (a:List UInt8) (r:Bool) (h:iI c a=some r) :
 FC Tryz.prog 181 [I c,.string (bs a)] [] (fun _:Unit=>True) (fun _=>.bool r) (fun _=>[]):= by
 refine FC.of (T:=TTx) Tryz.call181 Tryz.func181 E E fun i=>?_
 unfold iI at h
 refine aC aA 1 [] ev5 E E (JS.seq (aC aA 1 [(5,.v (I 0))] ev1 E E ?_))
 obtain ⟨d,f,h⟩:=aN h
 refine aX (ι:=Unit) ⟨fun _=>d ()=some r,fun _=>[],fun _=>.nil,fun _=>[],fun _=>[],fun _=>0⟩ ?_ ?_
 ·
  refine JS.loop (ι:=Nat×Int) ⟨fun z=>aW (fR c a d) z.1 z.2=some r,fun z=>[(0,.v (I c)),(1,.v (.string (bs a))),(5,.v (I z.2))],fun z=>.nil,fun z=>[],fun z=>[],fun z=>z.1⟩ (bG,0) h (Es E) V [] E [] E ?_
  rintro ⟨e,b⟩ h
  obtain ⟨e,rfl,h⟩:=bC h
  rw [fR] at h
  refine JS.seq (aC aA 4 [(9,.v (.bool (decide (b<(a.length:Int)))))] ev1 E E ?_)
  refine aH E h (fun h=>?_) (fun h=>?_)
  ·
   refine JS.skip (JS.seq (JS.block (JS.seq (JS.region ?_))))
   obtain ⟨g,h⟩:=aK h
   refine aB aA 6 [((at' a b).toNat:Int)] [] [(17,.v (.bool (decide (((at' a b).toNat:Int)=c))))] _ E ⟨g,⟨V,aHc _⟩,ev2,E⟩ (aD E ?_)
   refine aH E h (fun h=>?_) (fun h=>?_)
   ·
    refine aC aA 1 [(4,.v (.bool true))] ev1 E E ?_
    cases h
    exact JS.ret aA () V E E [] E
   refine JS.skip (aV (bY aA 3 [(W (b+1))] [] [(5,.v (I (W (b+1))))] _ ev3 E E (bR (e,(W (b+1))) h (Nat.lt_succ_self _) (Es E) V [] E [] E)))
  refine JS.exit E (aQ () h V V [] E [] E)
 rintro _ h
 subst f
 refine aC aA 1 [(4,.v (.bool false))] ev1 E E ?_
 cases h
 exact JS.ret aA () V E E [] E

def vH (a:EdQ):Option Bool:= (aS (fun (_:Unit)=>(bW ((decide (a.2.1=2))=true) (qH a.2.2.1) false fun e=>(bif (bif decide (a.2.1=2) then e else false) then some false else (bif (bif (bif (!(decide (a.2.1=2))) then (bif (bif (!(decide (a.2.2.2.2.1=0))) then true else (!(decide (a.2.2.2.2.2.2.1=0)))) then true else (!(decide (a.2.2.2.2.2.1=0)))) else false) then true else (bif decide (a.2.2.2.2.1=0) then (!(decide (a.2.2.2.2.2.1=0))) else false)) then some false else (bW ((decide (a.2.2.2.2.1=0))=false) (iI a.2.2.2.2.1 ([100,99,121]:List UInt8)) false fun c=>(bW ((decide (a.2.2.2.2.2.2.1=0))=false∧(bif decide (a.2.2.2.2.1=0) then true else c)=true) (iI a.2.2.2.2.2.2.1 ([102,70,116,84,114]:List UInt8)) false fun f=> some (bif (bif decide (a.2.2.2.2.1=0) then true else c) then (bif decide (a.2.2.2.2.2.2.1=0) then true else f) else false))))))) fun b=>(bif decide (a.2.1=0) then (bif a.1 then some false else b ()) else (aS (fun (g:Bool)=>(bif g then (bif (!a.1) then some false else b ()) else (bif decide (a.2.1=3) then b () else some false))) fun d=>(bif decide (a.2.1=1) then d (decide (a.2.1=1)) else d (decide (a.2.1=2))))))

theorem aMk (a:EdQ) (b:P6) (r:Bool) (h:vH a=some r):
 FC Tryz.prog 100 [.agg (cD a b).toArray] (bP a b []) (fun _:Unit=>True) (fun _=>.bool r) (fun _=>[]):= by
 refine FC.of (T:=TTx) Tryz.call100 Tryz.func100 E E fun s=>?_
 unfold vH at h
 refine aM aA 2 [] [7] [(1,.bp 7 0)] (.new 7 46 (aG a b) .nil) ⟨ev2,(Bs E E)⟩ E E (JS.seq (aC aA 2 [(4,.v (I a.2.1))] ev1 E E ?_))
 obtain ⟨d,e,h⟩:=aN h
 refine aX (ι:=Unit) ⟨fun _=>d ()=some r,fun _=>[(1,.bp 7 0)],fun _=>(.new 7 46 (aG a b) .nil),fun _=>(bP a b []),fun _=>[],fun _=>0⟩ ?_ ?_
 ·
  refine aC aA 2 [(5,.v (.bool (decide (a.2.1=0))))] ev1 E E ?_
  refine aH E h (fun h=>?_) (fun h=>?_)
  ·
   refine aC aA 2 [(8,.v (.bool a.1))] ev1 E E ?_
   refine aH E h (fun h=>?_) (fun h=>?_)
   ·
    refine aC aA 1 [(2,.v (.bool false))] ev1 E E ?_
    cases h
    exact JS.ret aA () V E E [] E
   refine JS.skip (aV (aQ () h ev2 (Bs E E) [0,1,2,3,4,5] E [] E))
  obtain ⟨f,g,h⟩:=aN h
  refine bZ (ι:=Bool) ⟨fun z=>f z=some r,fun z=>[(1,.bp 7 0),(4,.v (I a.2.1)),(9,.v (.bool z))],fun z=>(.new 7 46 (aG a b) .nil),fun z=>(bP a b []),fun z=>[],fun z=>0⟩ ?_ ?_
  ·
   refine aC aA 2 [(9,.v (.bool (decide (a.2.1=1))))] ev1 E E ?_
   refine aH E h (fun h=>?_) (fun h=>?_)
   ·
    refine JS.skip (aQ (decide (a.2.1=1)) h (Es E) (Bs E E) [0,1,2,3,4,5] E [] E)
   refine eR aA 2 [(9,.v (.bool (decide (a.2.1=2))))] ev1 E E (aQ (decide (a.2.1=2)) h (Es E) (Bs E E) [0,1,2,3,4,5] E [] E)
  rintro t h
  subst g
  refine aH E h (fun h=>?_) (fun h=>?_)
  ·
   refine aC aA 3 [(14,.v (.bool (!a.1)))] ev1 E E ?_
   refine aH E h (fun h=>?_) (fun h=>?_)
   ·
    refine aC aA 1 [(2,.v (.bool false))] ev1 E E ?_
    cases h
    exact JS.ret aA () V E E [] E
   refine JS.skip (aV (aQ () h ev2 (Bs E E) [0,1,2,3,4,5] E [] E))
  refine aC aA 2 [(15,.v (.bool (decide (a.2.1=3))))] ev1 E E ?_
  refine aH E h (fun h=>?_) (fun h=>?_)
  ·
   refine JS.skip (aV (aQ () h ev2 (Bs E E) [0,1,2,3,4,5] E [] E))
  refine aC aA 1 [(2,.v (.bool false))] ev1 E E ?_
  cases h
  exact JS.ret aA () V E E [] E
 rintro _ h
 subst e
 refine JS.seq (JS.seq (JS.region (aB aA 6 [] [] [(20,.v (.bool (decide (a.2.1=2)))),(22,.cd [(20,true)] (.v (.agg #[sL b.1 a.2.2.1.1 b.2.1,I a.2.2.1.2])))] _ E ⟨(Es E),E⟩ ?_)))
 obtain ⟨i,j,-,h⟩:=aY h
 refine bL E E E E (fun k=>aCp a.2.2.1 b.1 b.2.1 _ (j k)) E [0] E E (aB aA 1 [] [] [(24,.v (.bool (bif (decide (a.2.1=2)) then i else false)))] _ E ev1 (aD E ?_))
 refine aH E h (fun h=>?_) (fun h=>?_)
 ·
  refine aC aA 1 [(2,.v (.bool false))] ev1 E E ?_
  cases h
  exact JS.ret aA () V E E [] E
 refine JS.skip (JS.seq (aC aA 28 [(52,.v (.bool (bif (bif (!(decide (a.2.1=2))) then (bif (bif (!(decide ((Q4 a).1=0))) then true else (!(decide ((Q4 a).2.2.1=0)))) then true else (!(decide ((Q4 a).2.1=0)))) else false) then true else (bif (decide ((Q4 a).1=0)) then (!(decide ((Q4 a).2.1=0))) else false))))] ev1 E E ?_))
 refine aH E h (fun h=>?_) (fun h=>?_)
 ·
  refine aC aA 1 [(2,.v (.bool false))] ev1 E E ?_
  cases h
  exact JS.ret aA () V E E [] E
 refine JS.skip (JS.seq (JS.region (aB aA 6 [] [] [(56,.v (.bool (decide ((Q4 a).1=0)))),(58,.cd [(56,false)] (.v (I (Q4 a).1)))] _ E ⟨(Es E),E⟩ ?_)))
 obtain ⟨c,l,-,h⟩:=aY h
 refine bL E E E E (fun m=>yI (Q4 a).1 ([100,99,121]:List UInt8) _ (l m)) E [] E E (aB aA 8 [] [] [(61,.v (.bool (bif (decide ((Q4 a).1=0)) then true else c))),(65,.cd [(61,true)] (.v (.bool (decide ((Q4 a).2.2.1=0))))),(67,.cd [(65,false),(61,true)] (.v (I (Q4 a).2.2.1)))] _ E ⟨(Es E),E⟩ ?_)
 obtain ⟨n,o,-,h⟩:=aY h
 refine bL E E E E (fun p q=>yI (Q4 a).2.2.1 ([102,70,116,84,114]:List UInt8) _ (o ⟨p,q⟩)) E [] E E (aB aA 3 [] [] [(2,.v (.bool (bif (bif (decide ((Q4 a).1=0)) then true else c) then (bif (decide ((Q4 a).2.2.1=0)) then true else n) else false)))] _ E ev1 (aD E ?_))
 cases h
 exact JS.ret aA () V E E [] E

def oS (b:List (List Int)) (c:Unit→Option Bool) (d:Int→Option Bool):Int→Option Bool:=fun a=>(bif decide (a<(b.length:Int)) then (aP (0≤a∧a<(b.length:Int)) <|(bW ((decide (((at' b a).length:Int)=0))=false) (eP (at' b a)) false fun e=>(bif (bif decide (((at' b a).length:Int)=0) then true else (!e)) then some false else d (W (a+1))))) else c ())

def pT (a:List (List Int)):Option Bool:= (aS (fun (_:Unit)=> some (decide ((a.length:Int)≤6))) fun b=>(aW (oS a b) bG 0))

theorem aAb (a:List (List Int)) (c:Option Addr) (d:Nat) (r:Bool) (h:pT a=some r):
 FC Tryz.prog 101 [.agg #[sL c a d]] [⟨(.sl iT),⟨c,a.length,d⟩,a⟩] (fun _:Unit=>True) (fun _=>.bool r) (fun _=>[]):= by
 refine FC.of (T:=TTx) Tryz.call101 Tryz.func101 E E fun q=>?_
 unfold pT at h
 refine aM aA 2 [] [2] [(1,.bp 2 0)] (.new 2 41 [sL c a d] .nil) ⟨ev2,(Bs E E)⟩ E E (JS.seq (aC aA 4 [(6,.v (sL c a d)),(7,.v (I (a.length:Int))),(8,.v (I 0))] ⟨(Es E),E⟩ E E ?_))
 obtain ⟨g,k,h⟩:=aN h
 refine aX (ι:=Unit) ⟨fun _=>g ()=some r,fun _=>[(1,.bp 2 0)],fun _=>(.new 2 41 [sL c a d] .nil),fun _=>[⟨(.sl iT),⟨c,a.length,d⟩,a⟩],fun _=>[],fun _=>0⟩ ?_ ?_
 ·
  refine JS.loop (ι:=Nat×Int) ⟨fun z=>aW (oS a g) z.1 z.2=some r,fun z=>[(1,.bp 2 0),(6,.v (sL c a d)),(7,.v (I (a.length:Int))),(8,.v (I z.2))],fun z=>(.new 2 41 [sL c a d] .nil),fun z=>[⟨(.sl iT),⟨c,a.length,d⟩,a⟩],fun z=>[],fun z=>z.1⟩ (bG,0) h (Es E) (Bs E E) [0] E [] E ?_
  rintro ⟨i,b⟩ h
  obtain ⟨i,rfl,h⟩:=bC h
  rw [oS] at h
  refine aC aA 1 [(9,.v (.bool (decide (b<(a.length:Int)))))] ev1 E E (JS.seq ?_)
  refine aH E h (fun h=>?_) (fun h=>?_)
  ·
   refine JS.skip (JS.seq (JS.block (JS.seq (JS.region (bJ 0 E fun l=>?_)))))
   obtain ⟨j,h⟩:=aK h
   refine aB aA 1 [] [] [(10,.ep ⟨c,a.length,d⟩ (Int.toNat b*1))] _ E ⟨l.ix j,ev2,E⟩ (fS 0 E (Int.toNat b) (at' a b) E fun e f s t m=>cN aA E E E E E E 0 E E (Int.toNat b) 0 (Sl.v ⟨e,(at' a b).length,f⟩) ⟨m (lR j),E⟩ E E E (aL aA 2 [] [16] [(4,.bp 16 0)] (.new 2 41 [sL c a d] (.new 16 174 [sL e (at' a b) f] .nil)) E ⟨ev2,(Bs E E)⟩ (aD E (JS.seq (JS.region (aB aA 7 [] [] [(16,.v (.bool (decide (((at' a b).length:Int)=0)))),(18,.cd [(16,false)] (.v (sL e (at' a b) f)))] _ E ⟨(Es E),E⟩ ?_))))))
   obtain ⟨n,o,-,h⟩:=aY h
   refine bL E E E E (fun p=>pB (at' a b) e f _ (o p)) E [1] E E (aB aA 2 [] [] [(21,.v (.bool (bif (decide (((at' a b).length:Int)=0)) then true else (!n))))] _ E ev1 (aD E ?_))
   refine aH E h (fun h=>?_) (fun h=>?_)
   ·
    refine aC aA 1 [(2,.v (.bool false))] ev1 E E ?_
    cases h
    exact JS.ret aA () V E E [] E
   refine JS.skip (aV (bY aA 2 [(W (b+1))] [] [(8,.v (I (W (b+1))))] _ ev3 E E (bR (i,(W (b+1))) h (Nat.lt_succ_self _) (Es E) (Bs E E) [2] E [] E)))
  refine JS.exit E (aQ () h ev2 (Bs E E) [0] E [] E)
 rintro _ h
 subst k
 refine aC aA 5 [(2,.v (.bool (decide ((a.length:Int)≤6))))] ev1 E E ?_
 cases h
 exact JS.ret aA () V E E [] E

def oR (b:List (List Int×Int)) (c:Unit→Option Bool) (d:Int→Option Bool):Int→Option Bool:=fun a=>(bif decide (a<(b.length:Int)) then (aP (0≤a∧a<(b.length:Int)) <|(aF (eQ ((at' b a).1,(at' b a).2)) fun e=>(bif (!e) then some false else d (W (a+1))))) else c ())

def pS (a:List (List Int×Int)):Option Bool:= (aS (fun (_:Unit)=> some (decide ((a.length:Int)≤20))) fun b=>(aW (oR a b) bG 0))

theorem aAa (a:List (List Int×Int)) (c:Option Addr) (d:Nat) (r:Bool) (h:pS a=some r):
 FC Tryz.prog 102 [.agg #[sL c a d]] [⟨(.pair (.sl iT) iT),⟨c,a.length,d⟩,a⟩] (fun _:Unit=>True) (fun _=>.bool r) (fun _=>[]):= by
 refine FC.of (T:=TTx) Tryz.call102 Tryz.func102 E E fun p=>?_
 unfold pS at h
 refine aM aA 2 [] [2] [(1,.bp 2 0)] (.new 2 44 [sL c a d] .nil) ⟨ev2,(Bs E E)⟩ E E (JS.seq (aC aA 4 [(6,.v (sL c a d)),(7,.v (I (a.length:Int))),(8,.v (I 0))] ⟨(Es E),E⟩ E E ?_))
 obtain ⟨g,k,h⟩:=aN h
 refine aX (ι:=Unit) ⟨fun _=>g ()=some r,fun _=>[(1,.bp 2 0)],fun _=>(.new 2 44 [sL c a d] .nil),fun _=>[⟨(.pair (.sl iT) iT),⟨c,a.length,d⟩,a⟩],fun _=>[],fun _=>0⟩ ?_ ?_
 ·
  refine JS.loop (ι:=Nat×Int) ⟨fun z=>aW (oR a g) z.1 z.2=some r,fun z=>[(1,.bp 2 0),(6,.v (sL c a d)),(7,.v (I (a.length:Int))),(8,.v (I z.2))],fun z=>(.new 2 44 [sL c a d] .nil),fun z=>[⟨(.pair (.sl iT) iT),⟨c,a.length,d⟩,a⟩],fun z=>[],fun z=>z.1⟩ (bG,0) h (Es E) (Bs E E) [0] E [] E ?_
  rintro ⟨i,b⟩ h
  obtain ⟨i,rfl,h⟩:=bC h
  rw [oR] at h
  refine aC aA 1 [(9,.v (.bool (decide (b<(a.length:Int)))))] ev1 E E (JS.seq ?_)
  refine aH E h (fun h=>?_) (fun h=>?_)
  ·
   refine JS.skip (JS.seq (JS.block (JS.seq (JS.region (bJ 0 E fun l=>?_)))))
   obtain ⟨j,h⟩:=aK h
   refine aB aA 1 [] [] [(10,.ep ⟨c,a.length,d⟩ (Int.toNat b*2))] _ E ⟨l.ix j,ev2,E⟩ (fS 0 E (Int.toNat b) (at' a b) E fun e f q s m=>cN aA E E E E E E 0 E E (Int.toNat b) 0 ((Sl.v ⟨e,((at' a b).1).length,f⟩),(at' a b).2) ⟨m (lR j),E⟩ E E E (aL aA 2 [] [16] [(4,.bp 16 0)] (.new 2 44 [sL c a d] (.new 16 38 [sL e ((at' a b).1) f,I (at' a b).2] .nil)) E ⟨ev2,(Bs E E)⟩ (aD E (JS.seq (JS.region (aB aA 1 [] [] [(12,.v (.agg #[sL e ((at' a b).1) f,I (at' a b).2]))] _ E ev1 ?_))))))
   refine bnw h fun n o h=>JO.call E E E E (hX ((at' a b).1,(at' a b).2) e f _ o) E [1] E E fun _ _=>aB aA 1 [] [] [(14,.v (.bool (!n)))] _ E ev1 (aD E ?_)
   refine aH E h (fun h=>?_) (fun h=>?_)
   ·
    refine aC aA 1 [(2,.v (.bool false))] ev1 E E ?_
    cases h
    exact JS.ret aA () V E E [] E
   refine JS.skip (aV (bY aA 2 [(W (b+1))] [] [(8,.v (I (W (b+1))))] _ ev3 E E (bR (i,(W (b+1))) h (Nat.lt_succ_self _) (Es E) (Bs E E) [2] E [] E)))
  refine JS.exit E (aQ () h ev2 (Bs E E) [0] E [] E)
 rintro _ h
 subst k
 refine aC aA 5 [(2,.v (.bool (decide ((a.length:Int)≤20))))] ev1 E E ?_
 cases h
 exact JS.ret aA () V E E [] E

def lN (a:List Int×Int):Option Bool:= some (bif decide ((a.1.length:Int)=0) then (decide (a.2=0)) else false)

theorem zZ (a:List Int×Int) (b:Option Addr) (c:Nat) (r:Bool) (h:lN a=some r):
 FC Tryz.prog 103 [.agg #[sL b a.1 c,I a.2]] [fI b c a.1] (fun _:Unit=>True) (fun _=>.bool r) (fun _=>[]):= by
 refine FC.of (T:=TTx) Tryz.call103 Tryz.func103 E E fun d=>?_
 unfold lN at h
 refine aM aA 2 [] [2] [(1,.bp 2 0)] (.new 2 38 [sL b a.1 c,I a.2] .nil) ⟨ev2,(Bs E E)⟩ E E (aC aA 10 [(2,.v (.bool (bif (decide ((a.1.length:Int)=0)) then (decide (a.2=0)) else false)))] ev1 E E ?_)
 cases h
 exact JS.ret aA () V E E [] E

def tJ (b:EdQ) (c:Unit→Option Bool) (d:Int→Option Bool):Int→Option Bool:=fun a=>(bif decide (a<(b.2.2.2.2.2.2.2.2.2.2.2.2.2.2.1.length:Int)) then (aP (0≤a∧a<(b.2.2.2.2.2.2.2.2.2.2.2.2.2.2.1.length:Int)) <|(aF (eI (at' b.2.2.2.2.2.2.2.2.2.2.2.2.2.2.1 a)) fun e=>(bif (!e) then some false else d (W (a+1))))) else c ())

def vL (a:EdQ):Option Bool:= (aF (eQ a.2.2.1) fun b=>(bW ((!b)=false) (eQ a.2.2.2.2.2.2.2.2.2.2.2.2.2.1) false fun c=>(bW ((bif (!b) then true else (!c))=false) (eQ a.2.2.2.2.2.2.2.2.2.2.2.2.2.2.2.2) false fun e=>(bW ((bif (bif (!b) then true else (!c)) then true else (!e))=false) (dK a.2.2.2.1 0 999) false fun g=>(bW ((bif (bif (bif (!b) then true else (!c)) then true else (!e)) then true else (!g))=false) (dK a.2.2.2.2.2.1 0 999) false fun i=>(bW ((bif (bif (bif (bif (!b) then true else (!c)) then true else (!e)) then true else (!g)) then true else (!i))=false) (vH a) false fun l=>(bif (bif (bif (bif (bif (bif (!b) then true else (!c)) then true else (!e)) then true else (!g)) then true else (!i)) then true else (!l)) then some false else (bW ((!(decide (a.2.2.2.2.2.2.2.1=0)))=true∧(bif decide (a.2.2.2.2.2.2.2.1=0) then (!(decide (a.2.2.2.2.2.2.2.2.1=0))) else false)=false) (eI a.2.2.2.2.2.2.2.1) false fun j=>(bW ((!j)=false∧(!(decide (a.2.2.2.2.2.2.2.1=0)))=true∧(bif decide (a.2.2.2.2.2.2.2.1=0) then (!(decide (a.2.2.2.2.2.2.2.2.1=0))) else false)=false) (dK a.2.2.2.2.2.2.2.2.1 0 3) false fun m=>(bif (bif (bif decide (a.2.2.2.2.2.2.2.1=0) then (!(decide (a.2.2.2.2.2.2.2.2.1=0))) else false) then true else (bif (!(decide (a.2.2.2.2.2.2.2.1=0))) then (bif (!j) then true else (!m)) else false)) then some false else (aF (dK a.2.2.2.2.2.2.2.2.2.1 0 3) fun d=>(bW ((!d)=false) (pT a.2.2.2.2.2.2.2.2.2.2.1) false fun f=>(bW ((bif (!d) then true else (!f))=false) (pS a.2.2.2.2.2.2.2.2.2.2.2.1) false fun h=>(bW ((bif (bif (!d) then true else (!f)) then true else (!h))=false) (dK a.2.2.2.2.2.2.2.2.2.2.2.2.1 0 1000000060) false fun k=>(bW ((bif (bif (bif (!d) then true else (!f)) then true else (!h)) then true else (!k))=false) (dK a.2.2.2.2.2.2.2.2.2.2.2.2.2.2.2.1 0 1000000060) false fun n=>(bif (bif (bif (bif (bif (!d) then true else (!f)) then true else (!h)) then true else (!k)) then true else (!n)) then some false else (bW ((decide (a.2.2.2.2.2.2.2.2.2.2.2.2.1=0))=true) (lN a.2.2.2.2.2.2.2.2.2.2.2.2.2.1) false fun o=>(bif (bif (bif decide (a.2.2.2.2.2.2.2.2.2.2.2.2.1=0) then (!o) else false) then true else (decide (40<(a.2.2.2.2.2.2.2.2.2.2.2.2.2.2.1.length:Int)))) then some false else (aS (fun (_:Unit)=>(bW ((bif decide ((a.2.2.2.2.2.2.2.2.2.2.2.2.2.2.1.length:Int)=0) then (decide (a.2.2.2.2.2.2.2.2.2.2.2.2.2.2.2.1=0)) else false)=true∧(decide (a.2.1=3))=false) (lN a.2.2.2.2.2.2.2.2.2.2.2.2.2.2.2.2) false fun p=> some (bif decide (a.2.1=3) then true else (bif (bif decide ((a.2.2.2.2.2.2.2.2.2.2.2.2.2.2.1.length:Int)=0) then (decide (a.2.2.2.2.2.2.2.2.2.2.2.2.2.2.2.1=0)) else false) then p else false)))) fun q=>(aW (tJ a q) bG 0))))))))))))))))))))

theorem aI0 (a:EdQ) (b:P6) (r:Bool) (h:vL a=some r):
 FC Tryz.prog 34 [.agg (cD a b).toArray] (bP a b []) (fun _:Unit=>True) (fun _=>.bool r) (fun _=>[]):= by
 refine FC.of (T:=TTx) Tryz.call34 Tryz.func34 E E fun w0=>?_
 unfold vL at h
 refine aM aA 2 [] [7] [(1,.bp 7 0)] (.new 7 46 (aG a b) .nil) ⟨ev2,(Bs E E)⟩ E E (JS.seq (JS.seq (JS.region (aB aA 2 [] [] [(6,.v (.agg #[sL b.1 a.2.2.1.1 b.2.1,I a.2.2.1.2]))] _ E ev1 ?_))))
 refine bnw h fun d s h=>JO.call E E E E (hX a.2.2.1 b.1 b.2.1 _ s) E [0] E E fun _ _=>aB aA 4 [] [] [(9,.v (.bool (!d))),(11,.cd [(9,false)] (.v (.agg #[sL (Q4 b).2.2.1 (Q12 a).2.1.1 (Q4 b).2.2.2.1,I (Q12 a).2.1.2])))] _ E ⟨(Es E),E⟩ ?_
 obtain ⟨e,t,-,h⟩:=aY h
 refine bL E E E E (fun u=>hX (Q12 a).2.1 (Q4 b).2.2.1 (Q4 b).2.2.2.1 _ (t u)) E [3] E E (aB aA 5 [] [] [(15,.v (.bool (bif (!d) then true else (!e)))),(17,.cd [(15,false)] (.v (.agg #[sL (Q8 b).2.2.1 (Q16 a).1 (Q8 b).2.2.2,I (Q16 a).2])))] _ E ⟨(Es E),E⟩ ?_)
 obtain ⟨g,w,-,h⟩:=aY h
 refine bL E E E E (fun x=>hX (Q16 a) (Q8 b).2.2.1 (Q8 b).2.2.2 _ (w x)) E [5] E E (aB aA 5 [] [] [(21,.v (.bool (bif (bif (!d) then true else (!e)) then true else (!g)))),(23,.cd [(21,false)] (.v (I a.2.2.2.1)))] _ E ⟨(Es E),E⟩ ?_)
 obtain ⟨j,y,-,h⟩:=aY h
 refine bL E E E E (fun A=>eK a.2.2.2.1 0 999 _ (y A)) E [] E E (aB aA 5 [] [] [(27,.v (.bool (bif (bif (bif (!d) then true else (!e)) then true else (!g)) then true else (!j)))),(29,.cd [(27,false)] (.v (I (Q4 a).2.1)))] _ E ⟨(Es E),E⟩ ?_)
 obtain ⟨l,B,-,h⟩:=aY h
 refine bL E E E E (fun C=>eK (Q4 a).2.1 0 999 _ (B C)) E [] E E (aB aA 4 [] [] [(33,.v (.bool (bif (bif (bif (bif (!d) then true else (!e)) then true else (!g)) then true else (!j)) then true else (!l)))),(34,.cd [(33,false)] (.v (.agg (aG a b).toArray)))] _ E ⟨(Es E),E⟩ ?_)
 obtain ⟨D,F,-,h⟩:=aY h
 refine bL E E E E (fun G=>aMk a b _ (F G)) E [0,1,2,3,4,5] E E (aB aA 2 [] [] [(37,.v (.bool (bif (bif (bif (bif (bif (!d) then true else (!e)) then true else (!g)) then true else (!j)) then true else (!l)) then true else (!D))))] _ E ev1 (aD E ?_))
 refine aH E h (fun h=>?_) (fun h=>?_)
 ·
  refine aC aA 1 [(2,.v (.bool false))] ev1 E E ?_
  cases h
  exact JS.ret aA () V E E [] E
 refine JS.skip (JS.seq (JS.seq (JS.region (aB aA 15 [] [] [(46,.v (.bool (bif (decide ((Q4 a).2.2.2.1=0)) then (!(decide ((Q8 a).1=0))) else false))),(50,.cd [(46,false)] (.v (.bool (!(decide ((Q4 a).2.2.2.1=0)))))),(52,.cd [(50,true),(46,false)] (.v (I (Q4 a).2.2.2.1)))] _ E ⟨(Es E),E⟩ ?_))))
 obtain ⟨m,H,-,h⟩:=aY h
 refine bL E E E E (fun J K=>mB (Q4 a).2.2.2.1 _ (H ⟨J,K⟩)) E [] E E (aB aA 4 [] [] [(55,.cd [(50,true),(46,false)] (.v (.bool (!m)))),(57,.cd [(55,false),(50,true),(46,false)] (.v (I (Q8 a).1)))] _ E ⟨(Es E),E⟩ ?_)
 obtain ⟨L,M,-,h⟩:=aY h
 refine bL E E E E (fun N O P=>eK (Q8 a).1 0 3 _ (M ⟨N,O,P⟩)) E [] E E (aB aA 4 [] [] [(62,.v (.bool (bif (bif (decide ((Q4 a).2.2.2.1=0)) then (!(decide ((Q8 a).1=0))) else false) then true else (bif (!(decide ((Q4 a).2.2.2.1=0))) then (bif (!m) then true else (!L)) else false))))] _ E ev1 (aD E ?_))
 refine aH E h (fun h=>?_) (fun h=>?_)
 ·
  refine aC aA 1 [(2,.v (.bool false))] ev1 E E ?_
  cases h
  exact JS.ret aA () V E E [] E
 refine JS.skip (JS.seq (JS.seq (JS.region (aB aA 2 [] [] [(64,.v (I (Q8 a).2.1))] _ E ev1 ?_))))
 refine bnw h fun f Q h=>JO.call E E E E (eK (Q8 a).2.1 0 3 _ Q) E [] E E fun _ _=>aB aA 4 [] [] [(67,.v (.bool (!f))),(69,.cd [(67,false)] (.v (.agg #[sL b.2.2.1 (Q8 a).2.2.1 b.2.2.2.1])))] _ E ⟨(Es E),E⟩ ?_
 obtain ⟨i,R,-,h⟩:=aY h
 refine bL E E E E (fun S=>aAb (Q8 a).2.2.1 b.2.2.1 b.2.2.2.1 _ (R S)) E [1] E E (aB aA 5 [] [] [(73,.v (.bool (bif (!f) then true else (!i)))),(75,.cd [(73,false)] (.v (.agg #[sL (Q4 b).1 (Q8 a).2.2.2.1 (Q4 b).2.1])))] _ E ⟨(Es E),E⟩ ?_)
 obtain ⟨k,U,-,h⟩:=aY h
 refine bL E E E E (fun X=>aAa (Q8 a).2.2.2.1 (Q4 b).1 (Q4 b).2.1 _ (U X)) E [2] E E (aB aA 5 [] [] [(79,.v (.bool (bif (bif (!f) then true else (!i)) then true else (!k)))),(81,.cd [(79,false)] (.v (I (Q12 a).1)))] _ E ⟨(Es E),E⟩ ?_)
 obtain ⟨n,Y,-,h⟩:=aY h
 refine bL E E E E (fun Z=>eK (Q12 a).1 0 1000000060 _ (Y Z)) E [] E E (aB aA 5 [] [] [(85,.v (.bool (bif (bif (bif (!f) then true else (!i)) then true else (!k)) then true else (!n)))),(87,.cd [(85,false)] (.v (I (Q12 a).2.2.2.1)))] _ E ⟨(Es E),E⟩ ?_)
 obtain ⟨a0,a1,-,h⟩:=aY h
 refine bL E E E E (fun a2=>eK (Q12 a).2.2.2.1 0 1000000060 _ (a1 a2)) E [] E E (aB aA 2 [] [] [(90,.v (.bool (bif (bif (bif (bif (!f) then true else (!i)) then true else (!k)) then true else (!n)) then true else (!a0))))] _ E ev1 (aD E ?_))
 refine aH E h (fun h=>?_) (fun h=>?_)
 ·
  refine aC aA 1 [(2,.v (.bool false))] ev1 E E ?_
  cases h
  exact JS.ret aA () V E E [] E
 refine JS.skip (JS.seq (JS.seq (JS.region (aB aA 6 [] [] [(94,.v (.bool (decide ((Q12 a).1=0)))),(96,.cd [(94,true)] (.v (.agg #[sL (Q4 b).2.2.1 (Q12 a).2.1.1 (Q4 b).2.2.2.1,I (Q12 a).2.1.2])))] _ E ⟨(Es E),E⟩ ?_))))
 obtain ⟨a3,a4,-,h⟩:=aY h
 refine bL E E E E (fun a5=>zZ (Q12 a).2.1 (Q4 b).2.2.1 (Q4 b).2.2.2.1 _ (a4 a5)) E [3] E E (aB aA 8 [] [] [(105,.v (.bool (bif (bif (decide ((Q12 a).1=0)) then (!a3) else false) then true else (decide (40<((Q12 a).2.2.1.length:Int))))))] _ E ev1 (aD E ?_))
 refine aH E h (fun h=>?_) (fun h=>?_)
 ·
  refine aC aA 1 [(2,.v (.bool false))] ev1 E E ?_
  cases h
  exact JS.ret aA () V E E [] E
 refine JS.skip (JS.seq (aC aA 4 [(107,.v (sL (Q8 b).1 (Q12 a).2.2.1 (Q8 b).2.1)),(108,.v (I ((Q12 a).2.2.1.length:Int))),(109,.v (I 0))] ⟨(Es E),E⟩ E E ?_))
 obtain ⟨o,a6,h⟩:=aN h
 refine aX (ι:=Unit) ⟨fun _=>o ()=some r,fun _=>[(1,.bp 7 0)],fun _=>(.new 7 46 (aG a b) .nil),fun _=>(bP a b []),fun _=>[],fun _=>0⟩ ?_ ?_
 ·
  refine JS.loop (ι:=Nat×Int) ⟨fun z=>aW (tJ a o) z.1 z.2=some r,fun z=>[(1,.bp 7 0),(107,.v (sL (Q8 b).1 (Q12 a).2.2.1 (Q8 b).2.1)),(108,.v (I ((Q12 a).2.2.1.length:Int))),(109,.v (I z.2))],fun z=>(.new 7 46 (aG a b) .nil),fun z=>[fI (Q8 b).1 (Q8 b).2.1 (Q12 a).2.2.1,fI b.1 b.2.1 a.2.2.1.1,⟨(.sl iT),⟨b.2.2.1,(Q8 a).2.2.1.length,b.2.2.2.1⟩,(Q8 a).2.2.1⟩,⟨(.pair (.sl iT) iT),⟨(Q4 b).1,(Q8 a).2.2.2.1.length,(Q4 b).2.1⟩,(Q8 a).2.2.2.1⟩,fI (Q4 b).2.2.1 (Q4 b).2.2.2.1 (Q12 a).2.1.1,fI (Q8 b).2.2.1 (Q8 b).2.2.2 (Q16 a).1],fun z=>[],fun z=>z.1⟩ (bG,0) h (Es E) (Bs E E) [4,0,1,2,3,5] E [] E ?_
  rintro ⟨p,c⟩ h
  obtain ⟨p,rfl,h⟩:=bC h
  rw [tJ] at h
  refine aC aA 1 [(110,.v (.bool (decide (c<((Q12 a).2.2.1.length:Int)))))] ev1 E E (JS.seq ?_)
  refine aH E h (fun h=>?_) (fun h=>?_)
  ·
   refine JS.skip (JS.seq (JS.block (JS.seq (JS.region (bJ 0 E fun a7=>?_)))))
   obtain ⟨q,h⟩:=aK h
   refine aB aA 1 [] [] [(111,.ep ⟨(Q8 b).1,(Q12 a).2.2.1.length,(Q8 b).2.1⟩ (Int.toNat c*1))] _ E ⟨a7.ix q,ev2,E⟩ (JO.load aA E E E E E E E 0 E E (Int.toNat c) 0 (at' (Q12 a).2.2.1 c) ⟨bD q,E⟩ E E (aB aA 1 [] [] [(4,.v (I (at' (Q12 a).2.2.1 c)))] _ E ev1 (aD E (JS.seq (JS.region (aB aA 1 [] [] [(113,.v (I (at' (Q12 a).2.2.1 c)))] _ E ev1 ?_))))))
   refine bnw h fun a8 a9 h=>JO.call E E E E (mB (at' (Q12 a).2.2.1 c) _ a9) E [] E E fun _ _=>aB aA 1 [] [] [(115,.v (.bool (!a8)))] _ E ev1 (aD E ?_)
   refine aH E h (fun h=>?_) (fun h=>?_)
   ·
    refine aC aA 1 [(2,.v (.bool false))] ev1 E E ?_
    cases h
    exact JS.ret aA () V E E [] E
   refine JS.skip (aV (bY aA 2 [(W (c+1))] [] [(109,.v (I (W (c+1))))] _ ev3 E E (bR (p,(W (c+1))) h (Nat.lt_succ_self _) (Es E) (Bs E E) [0,1,2,3,4,5] E [] E)))
  refine JS.exit E (aQ () h ev2 (Bs E E) [1,2,3,4,0,5] E [] E)
 rintro _ h
 subst a6
 refine JS.seq (JS.region (aB aA 16 [] [] [(120,.v (.bool (decide (a.2.1=3)))),(130,.cd [(120,false)] (.v (.bool (bif (decide (((Q12 a).2.2.1.length:Int)=0)) then (decide ((Q12 a).2.2.2.1=0)) else false)))),(132,.cd [(130,true),(120,false)] (.v (.agg #[sL (Q8 b).2.2.1 (Q16 a).1 (Q8 b).2.2.2,I (Q16 a).2])))] _ E ⟨(Es E),E⟩ ?_))
 obtain ⟨b0,b1,-,h⟩:=aY h
 refine bL E E E E (fun b2 b3=>zZ (Q16 a) (Q8 b).2.2.1 (Q8 b).2.2.2 _ (b1 ⟨b2,b3⟩)) E [5] E E (aB aA 3 [] [] [(2,.v (.bool (bif (decide (a.2.1=3)) then true else (bif (bif (decide (((Q12 a).2.2.1.length:Int)=0)) then (decide ((Q12 a).2.2.2.1=0)) else false) then b0 else false))))] _ E ev1 (aD E ?_))
 cases h
 exact JS.ret aA () V E E [] E

def oT (b:Int×List (List UInt8)) (c:Unit→Option Bool) (d:Int→Option Bool):Int→Option Bool:=fun a=>(bif decide (a<(b.2.length:Int)) then (aP (0≤a∧a<(b.2.length:Int)) <|(aF (dK ((at' b.2 a).length:Int) 1 1000) fun e=>(bif (!e) then some false else d (W (a+1))))) else c ())

def pU (a:Int×List (List UInt8)):Option Bool:= (aF (dK a.1 1 1000000000) fun b=>(bif (bif (!b) then true else (decide (60<(a.2.length:Int)))) then some false else (aS (fun (_:Unit)=> some true) fun c=>(aW (oT a c) bG 0))))

theorem aAc (a:Int×List (List UInt8)) (c:Option Addr) (d:Nat) (r:Bool) (h:pU a=some r):
 FC Tryz.prog 96 [.agg #[I a.1,sL c a.2 d]] [⟨.str,⟨c,a.2.length,d⟩,a.2⟩] (fun _:Unit=>True) (fun _=>.bool r) (fun _=>[]):= by
 refine FC.of (T:=TTx) Tryz.call96 Tryz.func96 E E fun o=>?_
 unfold pU at h
 refine aM aA 2 [] [2] [(1,.bp 2 0)] (.new 2 50 [I a.1,sL c a.2 d] .nil) ⟨ev2,(Bs E E)⟩ E E (JS.seq (JS.seq (JS.region (aB aA 2 [] [] [(6,.v (I a.1))] _ E ev1 ?_))))
 refine bnw h fun i j h=>JO.call E E E E (eK a.1 1 1000000000 _ j) E [] E E fun _ _=>aB aA 7 [] [] [(14,.v (.bool (bif (!i) then true else (decide (60<(a.2.length:Int))))))] _ E ev1 (aD E ?_)
 refine aH E h (fun h=>?_) (fun h=>?_)
 ·
  refine aC aA 1 [(2,.v (.bool false))] ev1 E E ?_
  cases h
  exact JS.ret aA () V E E [] E
 refine JS.skip (JS.seq (aC aA 4 [(16,.v (sL c a.2 d)),(17,.v (I (a.2.length:Int))),(18,.v (I 0))] ⟨(Es E),E⟩ E E ?_))
 obtain ⟨e,k,h⟩:=aN h
 refine aX (ι:=Unit) ⟨fun _=>e ()=some r,fun _=>[],fun _=>.nil,fun _=>[],fun _=>[],fun _=>0⟩ ?_ ?_
 ·
  refine JS.loop (ι:=Nat×Int) ⟨fun z=>aW (oT a e) z.1 z.2=some r,fun z=>[(16,.v (sL c a.2 d)),(17,.v (I (a.2.length:Int))),(18,.v (I z.2))],fun z=>.nil,fun z=>[⟨.str,⟨c,a.2.length,d⟩,a.2⟩],fun z=>[],fun z=>z.1⟩ (bG,0) h (Es E) V [0] E [] E ?_
  rintro ⟨f,b⟩ h
  obtain ⟨f,rfl,h⟩:=bC h
  rw [oT] at h
  refine aC aA 1 [(19,.v (.bool (decide (b<(a.2.length:Int)))))] ev1 E E (JS.seq ?_)
  refine aH E h (fun h=>?_) (fun h=>?_)
  ·
   refine JS.skip (JS.seq (JS.block (JS.seq (JS.region (bJ 0 E fun l=>?_)))))
   obtain ⟨g,h⟩:=aK h
   refine aB aA 1 [] [] [(20,.ep ⟨c,a.2.length,d⟩ (Int.toNat b*1))] _ E ⟨l.ix g,ev2,E⟩ (JO.load aA E E E E E E E 0 E E (Int.toNat b) 0 (at' a.2 b) ⟨bD g,E⟩ E E (aB aA 1 [] [] [(4,.v (.string (bs (at' a.2 b))))] _ E ev1 (aD E (JS.seq (JS.region (aB aA 2 [] [] [(23,.v (I ((at' a.2 b).length:Int)))] _ E ev1 ?_))))))
   refine bnw h fun m n h=>JO.call E E E E (eK ((at' a.2 b).length:Int) 1 1000 _ n) E [] E E fun _ _=>aB aA 1 [] [] [(25,.v (.bool (!m)))] _ E ev1 (aD E ?_)
   refine aH E h (fun h=>?_) (fun h=>?_)
   ·
    refine aC aA 1 [(2,.v (.bool false))] ev1 E E ?_
    cases h
    exact JS.ret aA () V E E [] E
   refine JS.skip (aV (bY aA 2 [(W (b+1))] [] [(18,.v (I (W (b+1))))] _ ev3 E E (bR (f,(W (b+1))) h (Nat.lt_succ_self _) (Es E) V [0] E [] E)))
  refine JS.exit E (aQ () h V V [] E [] E)
 rintro _ h
 subst k
 refine aC aA 1 [(2,.v (.bool true))] ev1 E E ?_
 cases h
 exact JS.ret aA () V E E [] E

def gG (a:Int):Option Bool:= (aF (dK a 97 122) fun b=> some b)

theorem tR (a:Int) (r:Bool) (h:gG a=some r) :
 FC Tryz.prog 178 [I a] [] (fun _:Unit=>True) (fun _=>.bool r) (fun _=>[]):= by
 refine FC.of (T:=TTx) Tryz.call178 Tryz.func178 E E fun d=>?_
 unfold gG at h
 refine aC aA 1 [] ev5 E E (JS.seq (JS.region (aB aA 1 [] [] [(3,.v (I a))] _ E ev1 ?_)))
 refine bnw h fun b c h=>JO.call E E E E (eK a 97 122 _ c) E [] E E fun _ _=>aB aA 1 [] [] [(2,.v (.bool b))] _ E ev1 (aD E ?_)
 cases h
 exact JS.ret aA () V E E [] E

def xU (a:Int×Int):Option Bool:= (bif decide (a.1=1) then (aF (eI a.2) fun b=> some b) else (bif decide (a.1=2) then (bW ((decide (a.2=95))=false) (gG a.2) false fun c=> some (bif decide (a.2=95) then true else (bif (bif (bif (bif c then (!(decide (a.2=104))) else false) then (!(decide (a.2=105))) else false) then (!(decide (a.2=106))) else false) then (!(decide (a.2=109))) else false))) else (bif decide (a.1=3) then (aF (dK a.2 33 126) fun d=> some d) else (aF (dK a.1 4 16) fun e=> some (bif e then (decide (a.2=0)) else false)))))

theorem aO1 (a:Int×Int) (r:Bool) (h:xU a=some r) :
 FC Tryz.prog 97 [.agg #[I a.1,I a.2]] [] (fun _:Unit=>True) (fun _=>.bool r) (fun _=>[]):= by
 refine FC.of (T:=TTx) Tryz.call97 Tryz.func97 E E fun l=>?_
 unfold xU at h
 refine aM aA 2 [] [1] [(1,.bp 1 0)] (.new 1 64 [I a.1,I a.2] .nil) ⟨ev2,(Bs E E)⟩ E E (JS.seq (aC aA 2 [(4,.v (I a.1))] ev1 E E (JS.block (aC aA 2 [(5,.v (.bool (decide (a.1=1))))] ev1 E E ?_))))
 refine aH E h (fun h=>?_) (fun h=>?_)
 ·
  refine JS.seq (JS.region (aB aA 2 [] [] [(8,.v (I a.2))] _ E ev1 ?_))
  refine bnw h fun b c h=>JO.call E E E E (mB a.2 _ c) E [] E E fun _ _=>aB aA 1 [] [] [(2,.v (.bool b))] _ E ev1 (aD E ?_)
  cases h
  exact JS.ret aA () V E E [] E
 refine aC aA 2 [(10,.v (.bool (decide (a.1=2))))] ev1 E E ?_
 refine aH E h (fun h=>?_) (fun h=>?_)
 ·
  refine JS.seq (JS.region (aB aA 6 [] [] [(15,.v (.bool (decide (a.2=95)))),(17,.cd [(15,false)] (.v (I a.2)))] _ E ⟨(Es E),E⟩ ?_))
  obtain ⟨d,e,-,h⟩:=aY h
  refine bL E E E E (fun f=>tR a.2 _ (e f)) E [] E E (aB aA 22 [] [] [(2,.v (.bool (bif (decide (a.2=95)) then true else (bif (bif (bif (bif d then (!(decide (a.2=104))) else false) then (!(decide (a.2=105))) else false) then (!(decide (a.2=106))) else false) then (!(decide (a.2=109))) else false))))] _ E ev1 (aD E ?_))
  cases h
  exact JS.ret aA () V E E [] E
 refine aC aA 2 [(40,.v (.bool (decide (a.1=3))))] ev1 E E ?_
 refine aH E h (fun h=>?_) (fun h=>?_)
 ·
  refine JS.seq (JS.region (aB aA 2 [] [] [(43,.v (I a.2))] _ E ev1 ?_))
  refine bnw h fun g i h=>JO.call E E E E (eK a.2 33 126 _ i) E [] E E fun _ _=>aB aA 1 [] [] [(2,.v (.bool g))] _ E ev1 (aD E ?_)
  cases h
  exact JS.ret aA () V E E [] E
 refine JS.skip (aV (JS.seq (JS.region (aB aA 2 [] [] [(46,.v (I a.1))] _ E ev1 ?_))))
 refine bnw h fun j k h=>JO.call E E E E (eK a.1 4 16 _ k) E [] E E fun _ _=>aB aA 6 [] [] [(2,.v (.bool (bif j then (decide (a.2=0)) else false)))] _ E ev1 (aD E ?_)
 cases h
 exact JS.ret aA () V E E [] E

def vJ (c:EdQ) (d:Int×List (List UInt8)) (e:Int×Int):Option Bool:= (aF (vL c) fun a=>(bW (a=true) (pU d) false fun b=>(bW ((bif a then b else false)=true) (xU e) false fun f=> some (bif (bif a then b else false) then f else false))))

theorem aMm (c:EdQ) (a:Int×List (List UInt8)) (b:Int×Int) (d:P6) (e:Option Addr) (f:Nat) (r:Bool) (h:vJ c a b=some r):
 FC Tryz.prog 84 [.agg (cD c d).toArray,.agg #[I a.1,sL e a.2 f],.agg #[I b.1,I b.2]] (bP c d [⟨.str,⟨e,a.2.length,f⟩,a.2⟩]) (fun _:Unit=>True) (fun _=>.bool r) (fun _=>[]):= by
 refine FC.of (T:=TTx) Tryz.call84 Tryz.func84 E E fun p=>?_
 unfold vJ at h
 refine aM aA 4 [] [8,9,10] [(3,.bp 8 0),(4,.bp 9 0),(5,.bp 10 0)] (.new 8 46 (aG c d) (.new 9 50 [I a.1,sL e a.2 f] (.new 10 64 [I b.1,I b.2] .nil))) ⟨(Es E),(Bs E E)⟩ E E (JS.seq (JS.region (aB aA 1 [] [] [(7,.v (.agg (aG c d).toArray))] _ E ev1 ?_)))
 refine bnw h fun g j h=>JO.call E E E E (aI0 c d _ j) E [0,1,2,3,4,5] E E fun _ _=>aB aA 2 [] [] [(9,.v (.bool g)),(10,.cd [(9,true)] (.v (.agg #[I a.1,sL e a.2 f])))] _ E ⟨(Es E),E⟩ ?_
 obtain ⟨i,k,-,h⟩:=aY h
 refine bL E E E E (fun l=>aAc a e f _ (k l)) E [6] E E (aB aA 3 [] [] [(13,.v (.bool (bif g then i else false))),(14,.cd [(13,true)] (.v (.agg #[I b.1,I b.2])))] _ E ⟨(Es E),E⟩ ?_)
 obtain ⟨m,n,-,h⟩:=aY h
 refine bL E E E E (fun o=>aO1 b _ (n o)) E [] E E (aB aA 2 [] [] [(6,.v (.bool (bif (bif g then i else false) then m else false)))] _ E ev1 (aD E ?_))
 cases h
 exact JS.ret aA () V E E [] E

def cQ (a:List Int):Option (List Int):= (aP (([]:List Int).length+a.length≤536870912) <|some (([]:List Int) ++ a))

theorem dH (a:List Int) (b:Option Addr) (c:Nat) (r:List Int) (h:cQ a=some r):
 FC Tryz.prog 65 [sL b a c] [fI b c a] (fun _:Option Addr×Nat=>True) (fun q=>sL q.1 r q.2) (fun q=>[fI q.1 q.2 r]):= by
 refine FC.of (T:=TTx) Tryz.call65 Tryz.func65 E E fun g=>?_
 unfold cQ at h
 refine aC aA 1 [] ev5 E E (JS.seq (JS.region (aB aA 1 [] [] [(3,.v (sL b a c))] _ E ev1 ?_)))
 obtain ⟨f,h⟩:=aK h
 refine aQh iT Sl.nil E E (fU aA E E E E ⟨E,E,E,E,V,E,E,E,E⟩ E E E [0] E 0 E f E fun d e=>aB aA 1 [] [] [(2,.v (sL d (([]:List Int) ++ a) e))] _ E ev1 (aD E ?_))
 cases h
 exact JS.ret aA (d,e) V E E [0] E

def cY (a:List Int×Int):Option (List Int×Int):= (aF (cQ a.1) fun b=> some (b,a.2))

theorem eG (a:List Int×Int) (b:Option Addr) (c:Nat) (r:List Int×Int) (h:cY a=some r):
 FC Tryz.prog 64 [.agg #[sL b a.1 c,I a.2]] [fI b c a.1] (fun _:Option Addr×Nat=>True) (fun q=>.agg #[sL q.1 r.1 q.2,I r.2]) (fun q=>[fI q.1 q.2 r.1]):= by
 refine FC.of (T:=TTx) Tryz.call64 Tryz.func64 E E fun i=>?_
 unfold cY at h
 refine aM aA 2 [] [2,3] [(1,.bp 2 0),(2,.bp 3 0)] (.new 2 38 [sL b a.1 c,I a.2] (.new 3 38 [.slice none 0 0,I 0] .nil)) ⟨(Es E),(Bs E E)⟩ E E (JS.seq ?_)
 refine bnw h fun f g h=>bF E (.new 2 38 [sL b a.1 c,I a.2] .nil) [] [5,6] ev4 E (fun j=>?_)
 refine bX aA aJ true 3 [0,1,3,4] E (by kernel_rfl) [] [(4,.v (sL b a.1 c)),(7,.v (I a.2))] ev4 [] E E (Es E) (JA.one 2 (by kernel_rfl) (JK.call E E E E (dH a.1 b c _ g) E [0] E E ?_))
 rintro ⟨d,e⟩ -
 refine aU ev4 [] E (aT aA aJ 1 [5] E (by kernel_rfl) [] [(8,.v (.agg #[sL d f e,I a.2]))] E ev2 (JA.one 6 (by kernel_rfl) (bH aA E E E E E E E E (aR E (bM (by kernel_rfl) (bE (B':=(.new 3 38 [sL d f e,I a.2] .nil)) (Bs E E) ?_))))))
 cases h
 exact JS.ret aA (d,e) V E E [0] E

end
end Go.Eng
