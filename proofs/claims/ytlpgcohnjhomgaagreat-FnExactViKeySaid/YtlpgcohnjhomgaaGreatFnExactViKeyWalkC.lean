/- The walks of the functions that FnExactViKey reaches: what each computes, as a plain function (M_..), and that the model computes it (ok_..). Condition of each: that the plain function answers. -/
import Derived.Test.YtlpgcohnjhomgaaGreatFnExactViKeyWalkB
set_option linter.unusedVariables false
set_option linter.unusedSimpArgs false
namespace Go.Eng
open Go Go.Proofs
noncomputable section

def lE (b:List (List Int)) (e:(List (List Int))→Option (List (List Int))) (f:(Int×List (List Int))→Option (List (List Int))):(Int×List (List Int))→Option (List (List Int)):=fun (a,c)=>(bif decide (a<(b.length:Int)) then (aP (0≤a∧a<(b.length:Int)) <|(aF (cQ (at' b a)) fun d=>(aP (c.length+([d]:List (List Int)).length≤536870912) <|f ((W (a+1)),(c ++ ([d]:List (List Int))))))) else e c)

def nR (a:List (List Int)):Option (List (List Int)):= (aS (fun (b:List (List Int))=> some b) fun c=>(aW (lE a c) bG (0,([]:List (List Int)))))

theorem aBi (a:List (List Int)) (c:Option Addr) (d:Nat) (r:List (List Int)) (h:nR a=some r):
 FC Tryz.prog 145 [.agg #[sL c a d]] [⟨(.sl iT),⟨c,a.length,d⟩,a⟩] (fun _:Option Addr×Nat=>True) (fun q=>.agg #[sL q.1 r q.2]) (fun q=>[⟨(.sl iT),⟨q.1,r.length,q.2⟩,r⟩]):= by
 refine FC.of (T:=TTx) Tryz.call145 Tryz.func145 E E fun F=>?_
 unfold nR at h
 refine aM aA 2 [] [2,3] [(1,.bp 2 0),(2,.bp 3 0)] (.new 2 41 [sL c a d] (.new 3 41 [.slice none 0 0] .nil)) ⟨(Es E),(Bs E E)⟩ E E (aM aA 1 [] [4] [(3,.bp 4 0)] (.new 2 41 [sL c a d] (.new 3 41 [.slice none 0 0] (.new 4 41 [.slice none 0 0] .nil))) ⟨ev2,(Bs E E)⟩ E E (JS.seq (aC aA 4 [(7,.v (sL c a d)),(8,.v (I (a.length:Int))),(9,.v (I 0))] ⟨(Es E),E⟩ E E ?_)))
 obtain ⟨l,u,h⟩:=aN h
 refine aX (ι:=List (List Int)×Option Addr×Nat) ⟨fun z=>l z.1=some r,fun z=>[(2,.bp 3 0),(3,.bp 4 0)],fun z=>(.new 3 41 [.slice none 0 0] (.new 4 41 [sL z.2.1 z.1 z.2.2] .nil)),fun z=>[],fun z=>[⟨(.sl iT),⟨z.2.1,z.1.length,z.2.2⟩,z.1⟩],fun z=>0⟩ ?_ ?_
 ·
  refine aZ (.sl iT) Sl.nil E E (JS.loop (ι:=Nat×Int×List (List Int)×Option Addr×Nat) ⟨fun z=>aW (lE a l) z.1 (z.2.1,z.2.2.1)=some r,fun z=>[(2,.bp 3 0),(3,.bp 4 0),(7,.v (sL c a d)),(8,.v (I (a.length:Int))),(9,.v (I z.2.1))],fun z=>(.new 3 41 [.slice none 0 0] (.new 4 41 [sL z.2.2.2.1 z.2.2.1 (Q4 z)] .nil)),fun z=>[⟨(.sl iT),⟨c,a.length,d⟩,a⟩],fun z=>[⟨(.sl iT),⟨z.2.2.2.1,z.2.2.1.length,(Q4 z)⟩,z.2.2.1⟩],fun z=>z.1⟩ (bG,0,([]:List (List Int)),none,0) h (Es E) (Bs E E) [0] E [0] E ?_)
  rintro ⟨m,b,e,i,j⟩ h
  obtain ⟨m,rfl,h⟩:=bC h
  rw [lE] at h
  refine aC aA 1 [(10,.v (.bool (decide (b<(a.length:Int)))))] ev1 E E (JS.seq ?_)
  refine aH E h (fun h=>?_) (fun h=>?_)
  ·
   refine JS.skip (JS.seq (JS.block (JS.seq (JS.region (bJ 0 E fun w=>?_)))))
   obtain ⟨n,h⟩:=aK h
   refine aB aA 1 [] [] [(11,.ep ⟨c,a.length,d⟩ (Int.toNat b*1))] _ E ⟨w.ix n,ev2,E⟩ (fS 0 E (Int.toNat b) (at' a b) E fun f g G H x=>cN aA E E E E E E 0 E E (Int.toNat b) 0 (Sl.v ⟨f,(at' a b).length,g⟩) ⟨x (lR n),E⟩ E E E (aL aA 2 [] [22] [(5,.bp 22 0)] (.new 3 41 [.slice none 0 0] (.new 4 41 [sL i e j] (.new 22 174 [sL f (at' a b) g] .nil))) E ⟨ev2,(Bs E E)⟩ (aD E ?_)))
   obtain ⟨k,y,h⟩:=aE h
   obtain ⟨A,h⟩:=aK h
   refine bF E (.new 4 41 [sL i e j] (.new 22 174 [sL f (at' a b) g] .nil)) [] [7,8,9] ev6 E (fun J=>?_)
   refine bX aA aJ true 6 [0,1,2,3] E (by kernel_rfl) [] [(14,.v (sL i e j)),(16,.v (sL f (at' a b) g))] ev6 [] E E (Es E) (JA.one 4 (by kernel_rfl) (JK.call E E E E (dH (at' a b) f g _ y) E [1] E E ?_))
   rintro ⟨B,C⟩ -
   refine aU ev6 [] E (bX aA aJ true 4 [5] E (by kernel_rfl) [] [(18,.v (.agg #[sL B k C]))] ev6 [] E E ev2 (JA.one 6 (by kernel_rfl) (JK.buildSlice aA E E E E E E E E E E E [0] E (.sl iT) [k] ev8 E E fun K=>aU ev6 [] E (JA.one 7 (by kernel_rfl) (jX aA E E E E ⟨E,E,E,E,V,E,E,E,E⟩ E E [1,0] E A E fun o p=>aR E (aT aA aJ 1 [8] E (by kernel_rfl) [] [(21,.bp 4 0)] E ev2 (JA.one 9 (by kernel_rfl) (bH aA E E E E E E E E (aR E (bM (by kernel_rfl) (bE (B':=(.new 3 41 [.slice none 0 0] (.new 4 41 [sL o (e ++ ([k]:List (List Int))) p] .nil))) (Bs E E) (aV (bY aA 2 [(W (b+1))] [] [(9,.v (I (W (b+1))))] _ ev3 E E (bR (m,(W (b+1)),(e ++ ([k]:List (List Int))),o,p) h (Nat.lt_succ_self _) (Es E) (Bs E E) [2] E [0] E))))))))))))))
  refine JS.exit E (aQ (e,i,j) h (Es E) (Bs E E) [] E [0] E)
 rintro ⟨D,s,t⟩ h
 subst u
 refine aM aA 2 [] [] [] (.new 3 41 [sL s D t] .nil) ⟨V,(Bs E E)⟩ E E ?_
 cases h
 exact JS.ret aA (s,t) V E E [0] E

def lD (b:List (List Int×Int)) (e:(List (List Int×Int))→Option (List (List Int×Int))) (f:(Int×(List (List Int×Int)))→Option (List (List Int×Int))):(Int×(List (List Int×Int)))→Option (List (List Int×Int)):=fun (a,c)=>(bif decide (a<(b.length:Int)) then (aP (0≤a∧a<(b.length:Int)) <|(aF (cY ((at' b a).1,(at' b a).2)) fun d=>(aP (c.length+([d]:List (List Int×Int)).length≤536870912) <|f ((W (a+1)),(c ++ ([d]:List (List Int×Int))))))) else e c)

def kI (a:List (List Int×Int)):Option (List (List Int×Int)):= (aS (fun (b:List (List Int×Int))=> some b) fun c=>(aW (lD a c) bG (0,([]:List (List Int×Int)))))

theorem wK (a:List (List Int×Int)) (c:Option Addr) (d:Nat) (r:List (List Int×Int)) (h:kI a=some r):
 FC Tryz.prog 146 [.agg #[sL c a d]] [⟨(.pair (.sl iT) iT),⟨c,a.length,d⟩,a⟩] (fun _:Option Addr×Nat=>True) (fun q=>.agg #[sL q.1 r q.2]) (fun q=>[⟨(.pair (.sl iT) iT),⟨q.1,r.length,q.2⟩,r⟩]):= by
 refine FC.of (T:=TTx) Tryz.call146 Tryz.func146 E E fun C=>?_
 unfold kI at h
 refine aM aA 2 [] [2,3] [(1,.bp 2 0),(2,.bp 3 0)] (.new 2 44 [sL c a d] (.new 3 44 [.slice none 0 0] .nil)) ⟨(Es E),(Bs E E)⟩ E E (aM aA 1 [] [4] [(3,.bp 4 0)] (.new 2 44 [sL c a d] (.new 3 44 [.slice none 0 0] (.new 4 44 [.slice none 0 0] .nil))) ⟨ev2,(Bs E E)⟩ E E (JS.seq (aC aA 4 [(7,.v (sL c a d)),(8,.v (I (a.length:Int))),(9,.v (I 0))] ⟨(Es E),E⟩ E E ?_)))
 obtain ⟨l,u,h⟩:=aN h
 refine aX (ι:=(List (List Int×Int))×Option Addr×Nat) ⟨fun z=>l z.1=some r,fun z=>[(2,.bp 3 0),(3,.bp 4 0)],fun z=>(.new 3 44 [.slice none 0 0] (.new 4 44 [sL z.2.1 z.1 z.2.2] .nil)),fun z=>[],fun z=>[⟨(.pair (.sl iT) iT),⟨z.2.1,z.1.length,z.2.2⟩,z.1⟩],fun z=>0⟩ ?_ ?_
 ·
  refine aZ (.pair (.sl iT) iT) Sl.nil E E (JS.loop (ι:=Nat×Int×(List (List Int×Int))×Option Addr×Nat) ⟨fun z=>aW (lD a l) z.1 (z.2.1,z.2.2.1)=some r,fun z=>[(2,.bp 3 0),(3,.bp 4 0),(7,.v (sL c a d)),(8,.v (I (a.length:Int))),(9,.v (I z.2.1))],fun z=>(.new 3 44 [.slice none 0 0] (.new 4 44 [sL z.2.2.2.1 z.2.2.1 (Q4 z)] .nil)),fun z=>[⟨(.pair (.sl iT) iT),⟨c,a.length,d⟩,a⟩],fun z=>[⟨(.pair (.sl iT) iT),⟨z.2.2.2.1,z.2.2.1.length,(Q4 z)⟩,z.2.2.1⟩],fun z=>z.1⟩ (bG,0,([]:List (List Int×Int)),none,0) h (Es E) (Bs E E) [0] E [0] E ?_)
  rintro ⟨m,b,e,i,j⟩ h
  obtain ⟨m,rfl,h⟩:=bC h
  rw [lD] at h
  refine aC aA 1 [(10,.v (.bool (decide (b<(a.length:Int)))))] ev1 E E (JS.seq ?_)
  refine aH E h (fun h=>?_) (fun h=>?_)
  ·
   refine JS.skip (JS.seq (JS.block (JS.seq (JS.region (bJ 0 E fun w=>?_)))))
   obtain ⟨n,h⟩:=aK h
   refine aB aA 1 [] [] [(11,.ep ⟨c,a.length,d⟩ (Int.toNat b*2))] _ E ⟨w.ix n,ev2,E⟩ (fS 0 E (Int.toNat b) (at' a b) E fun f g D F x=>cN aA E E E E E E 0 E E (Int.toNat b) 0 ((Sl.v ⟨f,((at' a b).1).length,g⟩),(at' a b).2) ⟨x (lR n),E⟩ E E E (aL aA 2 [] [22] [(5,.bp 22 0)] (.new 3 44 [.slice none 0 0] (.new 4 44 [sL i e j] (.new 22 38 [sL f ((at' a b).1) g,I (at' a b).2] .nil))) E ⟨ev2,(Bs E E)⟩ (aD E ?_)))
   obtain ⟨k,y,h⟩:=aE h
   obtain ⟨A,h⟩:=aK h
   refine bF E (.new 4 44 [sL i e j] (.new 22 38 [sL f ((at' a b).1) g,I (at' a b).2] .nil)) [] [5,6,7] ev6 E (fun G=>?_)
   refine bX aA aJ true 5 [0,1,2] E (by kernel_rfl) [] [(14,.v (sL i e j)),(15,.v (.agg #[sL f ((at' a b).1) g,I (at' a b).2]))] ev6 [] E E (Es E) (JA.one 3 (by kernel_rfl) (JK.call E E E E (eG ((at' a b).1,(at' a b).2) f g _ y) E [1] E E ?_))
   rintro ⟨H,J⟩ -
   refine aU ev6 [] E (JA.one 4 (by kernel_rfl) (JK.buildSlice aA E E E E E E E E E E E [0] E (.pair (.sl iT) iT) [k] ev8 E E fun K=>aU ev6 [] E (JA.one 5 (by kernel_rfl) (jX aA E E E E ⟨E,E,E,E,V,E,E,E,E⟩ E E [1,0] E A E fun o p=>aR E (aT aA aJ 1 [6] E (by kernel_rfl) [] [(19,.bp 4 0)] E ev2 (JA.one 7 (by kernel_rfl) (bH aA E E E E E E E E (aR E (bM (by kernel_rfl) (bE (B':=(.new 3 44 [.slice none 0 0] (.new 4 44 [sL o (e ++ ([k]:List (List Int×Int))) p] .nil))) (Bs E E) (aV (bY aA 2 [(W (b+1))] [] [(9,.v (I (W (b+1))))] _ ev3 E E (bR (m,(W (b+1)),(e ++ ([k]:List (List Int×Int))),o,p) h (Nat.lt_succ_self _) (Es E) (Bs E E) [2] E [0] E)))))))))))))
  refine JS.exit E (aQ (e,i,j) h (Es E) (Bs E E) [] E [0] E)
 rintro ⟨B,s,t⟩ h
 subst u
 refine aM aA 2 [] [] [] (.new 3 44 [sL s B t] .nil) ⟨V,(Bs E E)⟩ E E ?_
 cases h
 exact JS.ret aA (s,t) V E E [0] E

def dZ (a:EdQ):Option EdQ:= (aF (cY a.2.2.1) fun b=>(aF (cY a.2.2.2.2.2.2.2.2.2.2.2.2.2.1) fun c=>(aF (cY a.2.2.2.2.2.2.2.2.2.2.2.2.2.2.2.2) fun d=>(aF (nR a.2.2.2.2.2.2.2.2.2.2.1) fun e=>(aF (kI a.2.2.2.2.2.2.2.2.2.2.2.1) fun f=>(aF (cQ a.2.2.2.2.2.2.2.2.2.2.2.2.2.2.1) fun g=> some (a.1,a.2.1,b,a.2.2.2.1,a.2.2.2.2.1,a.2.2.2.2.2.1,a.2.2.2.2.2.2.1,a.2.2.2.2.2.2.2.1,a.2.2.2.2.2.2.2.2.1,a.2.2.2.2.2.2.2.2.2.1,e,f,a.2.2.2.2.2.2.2.2.2.2.2.2.1,c,g,a.2.2.2.2.2.2.2.2.2.2.2.2.2.2.2.1,d)))))))

theorem hD (a:EdQ) (b:P6) (r:EdQ) (h:dZ a=some r):
 FC Tryz.prog 63 [.agg (cD a b).toArray] (bP a b []) (fun _:P6=>True) (fun q=>.agg (aG r q).toArray) (fun q=>(bP r q [])):= by
 refine FC.of (T:=TTx) Tryz.call63 Tryz.func63 E E fun F=>?_
 unfold dZ at h
 refine aM aA 2 [] [7,8] [(1,.bp 7 0),(2,.bp 8 0)] (.new 7 46 (aG a b) (.new 8 46 bA .nil)) ⟨(Es E),(Bs E E)⟩ E E (JS.seq ?_)
 obtain ⟨j,y,h⟩:=aE h
 obtain ⟨k,z,h⟩:=aE h
 refine bnw h fun l A h=>bF E (.new 7 46 (aG a b) .nil) [] [8,9,10,11,12,13,14] ev4 E (fun G=>?_)
 refine bX aA aJ true 9 [0,1,3,4,6,7] E (by kernel_rfl) [] [(4,.v (.agg #[sL b.1 a.2.2.1.1 b.2.1,I a.2.2.1.2])),(7,.v (.agg #[sL (Q4 b).2.2.1 (Q12 a).2.1.1 (Q4 b).2.2.2.1,I (Q12 a).2.1.2])),(10,.v (.agg #[sL (Q8 b).2.2.1 (Q16 a).1 (Q8 b).2.2.2,I (Q16 a).2]))] ev4 [] E E (Es E) (JA.one 2 (by kernel_rfl) (JK.call E E E E (eG a.2.2.1 b.1 b.2.1 _ y) E [0] E E ?_))
 rintro ⟨c,d⟩ -
 refine aU ev4 [] E (aT aA aJ 7 [9] E (by kernel_rfl) [] [(12,.bp 7 2)] E ev2 (JA.one 5 (by kernel_rfl) (JK.call E E E E (eG (Q12 a).2.1 (Q4 b).2.2.1 (Q4 b).2.2.2.1 _ z) E [3] E E ?_)))
 rintro ⟨e,f⟩ -
 refine aU ev4 [] E (JA.one 8 (by kernel_rfl) (JK.call E E E E (eG (Q16 a) (Q8 b).2.2.1 (Q8 b).2.2.2 _ A) E [5] E E ?_))
 rintro ⟨g,i⟩ -
 refine aR E (JA.one 10 (by kernel_rfl) (bH aA E E E E E E E E (aR E (aT aA aJ 3 [11] E (by kernel_rfl) [] [(13,.bp 7 14)] E ev2 (JA.one 12 (by kernel_rfl) (bH aA E E E E E E E E (aR E (aT aA aJ 1 [13] E (by kernel_rfl) [] [(14,.bp 7 18)] E ev2 (JA.one 14 (by kernel_rfl) (bH aA E E E E E E E E (aR E (bM (by kernel_rfl) (bE (B':=(.new 7 46 (aG (a.1,a.2.1,j,a.2.2.2.1,(Q4 a).1,(Q4 a).2.1,(Q4 a).2.2.1,(Q4 a).2.2.2.1,(Q8 a).1,(Q8 a).2.1,(Q8 a).2.2.1,(Q8 a).2.2.2.1,(Q12 a).1,k,(Q12 a).2.2.1,(Q12 a).2.2.2.1,l) (c,d,b.2.2.1,b.2.2.2.1,(Q4 b).1,(Q4 b).2.1,e,f,(Q8 b).1,(Q8 b).2.1,g,i)) (.new 8 46 bA .nil))) (Bs E E) (JS.seq ?_))))))))))))))
 obtain ⟨s,B,h⟩:=aE h
 refine bnw h fun t C h=>bF E (.new 7 46 (aG (a.1,a.2.1,j,a.2.2.2.1,(Q4 a).1,(Q4 a).2.1,(Q4 a).2.2.1,(Q4 a).2.2.2.1,(Q8 a).1,(Q8 a).2.1,(Q8 a).2.2.1,(Q8 a).2.2.2.1,(Q12 a).1,k,(Q12 a).2.2.1,(Q12 a).2.2.2.1,l) (c,d,b.2.2.1,b.2.2.2.1,(Q4 b).1,(Q4 b).2.1,e,f,(Q8 b).1,(Q8 b).2.1,g,i)) .nil) [] [5,6,7,8,9] ev4 E (fun H=>?_)
 refine bX aA aJ true 6 [0,1,3,4] E (by kernel_rfl) [] [(16,.v (.agg #[sL b.2.2.1 (Q8 a).2.2.1 b.2.2.2.1])),(19,.v (.agg #[sL (Q4 b).1 (Q8 a).2.2.2.1 (Q4 b).2.1]))] ev4 [] E E (Es E) (JA.one 2 (by kernel_rfl) (JK.call E E E E (aBi (Q8 a).2.2.1 b.2.2.1 b.2.2.2.1 _ B) E [1] E E ?_))
 rintro ⟨m,n⟩ -
 refine aU ev4 [] E (aT aA aJ 4 [6] E (by kernel_rfl) [] [(21,.bp 7 11)] E ev2 (JA.one 5 (by kernel_rfl) (JK.call E E E E (wK (Q8 a).2.2.2.1 (Q4 b).1 (Q4 b).2.1 _ C) E [2] E E ?_)))
 rintro ⟨o,p⟩ -
 refine aR E (JA.one 7 (by kernel_rfl) (bH aA E E E E E E E E (aR E (aT aA aJ 1 [8] E (by kernel_rfl) [] [(22,.bp 7 12)] E ev2 (JA.one 9 (by kernel_rfl) (bH aA E E E E E E E E (aR E (bM (by kernel_rfl) (bE (B':=(.new 7 46 (aG (a.1,a.2.1,j,a.2.2.2.1,(Q4 a).1,(Q4 a).2.1,(Q4 a).2.2.1,(Q4 a).2.2.2.1,(Q8 a).1,(Q8 a).2.1,s,t,(Q12 a).1,k,(Q12 a).2.2.1,(Q12 a).2.2.2.1,l) (c,d,m,n,o,p,e,f,(Q8 b).1,(Q8 b).2.1,g,i)) (.new 8 46 bA .nil))) (Bs E E) (JS.seq (JS.region (aB aA 2 [] [] [(24,.v (sL (Q8 b).1 (Q12 a).2.2.1 (Q8 b).2.1))] _ E ev1 ?_))))))))))))
 refine bnw h fun x D h=>JO.call E E E E (dH (Q12 a).2.2.1 (Q8 b).1 (Q8 b).2.1 _ D) E [4] E E ?_
 rintro ⟨u,w⟩ -
 refine aL aA 2 [] [] [] (.new 7 46 (aG (a.1,a.2.1,j,a.2.2.2.1,(Q4 a).1,(Q4 a).2.1,(Q4 a).2.2.1,(Q4 a).2.2.2.1,(Q8 a).1,(Q8 a).2.1,s,t,(Q12 a).1,k,x,(Q12 a).2.2.2.1,l) (c,d,m,n,o,p,e,f,u,w,g,i)) (.new 8 46 bA .nil)) E ⟨V,(Bs E E)⟩ (aD E (aM aA 2 [] [] [] (.new 8 46 (aG (a.1,a.2.1,j,a.2.2.2.1,(Q4 a).1,(Q4 a).2.1,(Q4 a).2.2.1,(Q4 a).2.2.2.1,(Q8 a).1,(Q8 a).2.1,s,t,(Q12 a).1,k,x,(Q12 a).2.2.2.1,l) (c,d,m,n,o,p,e,f,u,w,g,i)) .nil) ⟨V,(Bs E E)⟩ E E ?_))
 cases h
 exact JS.ret aA (c,d,m,n,o,p,e,f,u,w,g,i) V E E [5,2,1,2,0,0] E

def dQ (b:EdQ) (c:Int):Option EdQ:= (aF (dZ b) fun a=> some (a.1,a.2.1,a.2.2.1,0,0,0,0,a.2.2.2.2.2.2.2.1,a.2.2.2.2.2.2.2.2.1,c,a.2.2.2.2.2.2.2.2.2.2.1,a.2.2.2.2.2.2.2.2.2.2.2.1,a.2.2.2.2.2.2.2.2.2.2.2.2.1,a.2.2.2.2.2.2.2.2.2.2.2.2.2.1,a.2.2.2.2.2.2.2.2.2.2.2.2.2.2.1,a.2.2.2.2.2.2.2.2.2.2.2.2.2.2.2.1,a.2.2.2.2.2.2.2.2.2.2.2.2.2.2.2.2))

theorem nG (b:EdQ) (d:Int) (c:P6) (r:EdQ) (h:dQ b d=some r):
 FC Tryz.prog 209 [.agg (cD b c).toArray,I d] (bP b c []) (fun _:P6=>True) (fun q=>.agg (aG r q).toArray) (fun q=>(bP r q [])):= by
 refine FC.of (T:=TTx) Tryz.call209 Tryz.func209 E E fun g=>?_
 unfold dQ at h
 refine aM aA 2 [] [7,8] [(2,.bp 7 0),(4,.bp 8 0)] (.new 7 46 (aG b c) (.new 8 46 bA .nil)) ⟨(Es E),(Bs E E)⟩ E E (JS.seq (JS.region (aB aA 1 [] [] [(6,.v (.agg (aG b c).toArray))] _ E ev1 ?_)))
 refine bnw h fun a f h=>JO.call E E E E (hD b c _ f) E [0,1,2,3,4,5] E E fun e _=>aL aA 2 [] [29] [(5,.bp 29 0)] (.new 8 46 bA (.new 29 46 (aG a e) .nil)) E ⟨ev2,(Bs E E)⟩ (aD E (aM aA 11 [] [] [] (.new 8 46 bA (.new 29 46 (aG (a.1,a.2.1,a.2.2.1,0,0,0,0,(Q4 a).2.2.2.1,(Q8 a).1,d,(Q8 a).2.2) e) .nil)) ⟨V,(Bs E E)⟩ E E (aM aA 2 [] [] [] (.new 8 46 (aG (a.1,a.2.1,a.2.2.1,0,0,0,0,(Q4 a).2.2.2.1,(Q8 a).1,d,(Q8 a).2.2) e) .nil) ⟨V,(Bs E E)⟩ E E ?_)))
 cases h
 exact JS.ret aA e V E E [0,0,0,0,0,0] E

def kK (a:Int×List (List UInt8)):Option Int:= (aF (pU a) fun b=>(bif (bif (!b) then true else (decide ((a.2.length:Int)=0))) then some 0 else some (W ((W (a.1+(a.2.length:Int))) - 1))))

theorem aIe (a:Int×List (List UInt8)) (b:Option Addr) (c:Nat) (r:Int) (h:kK a=some r):
 FC Tryz.prog 156 [.agg #[I a.1,sL b a.2 c]] [⟨.str,⟨b,a.2.length,c⟩,a.2⟩] (fun _:Unit=>True) (fun _=>I r) (fun _=>[]):= by
 refine FC.of (T:=TTx) Tryz.call156 Tryz.func156 E E fun f=>?_
 unfold kK at h
 refine aM aA 2 [] [2] [(1,.bp 2 0)] (.new 2 50 [I a.1,sL b a.2 c] .nil) ⟨ev2,(Bs E E)⟩ E E (JS.seq (JS.seq (JS.region (aB aA 1 [] [] [(3,.v (.agg #[I a.1,sL b a.2 c]))] _ E ev1 ?_))))
 refine bnw h fun d e h=>JO.call E E E E (aAc a b c _ e) E [0] E E fun _ _=>aB aA 7 [] [] [(11,.v (.bool (bif (!d) then true else (decide ((a.2.length:Int)=0)))))] _ E ev1 (aD E ?_)
 refine aH E h (fun h=>?_) (fun h=>?_)
 ·
  refine aC aA 1 [(2,.v (I 0))] ev1 E E ?_
  cases h
  exact JS.ret aA () V E E [] E
 refine JS.skip (gH aA 8 [(W (a.1+(a.2.length:Int))),(W ((W (a.1+(a.2.length:Int))) - 1))] [] [(2,.v (I (W ((W (a.1+(a.2.length:Int))) - 1))))] _ ⟨⟨V,E⟩,⟨V,E⟩,⟨E,V⟩,E⟩ E E ?_)
 cases h
 exact JS.ret aA () V E E [] E

def iW (a:List Int×Int) (b:Int):Option (List Int×Int):= (aS (fun (d:Int)=> some (a.1,d)) fun c=>(bW ((decide (b=2))=true) (qH a) false fun e=>(bif (bif decide (b=2) then e else false) then c (W (a.2 - 1)) else c a.2)))

theorem uR (a:List Int×Int) (d:Int) (b:Option Addr) (c:Nat) (r:List Int×Int) (h:iW a d=some r):
 FC Tryz.prog 158 [.agg #[sL b a.1 c,I a.2],I d] [fI b c a.1] (fun _:Unit=>True) (fun _=>.agg #[sL b a.1 c,I r.2]) (fun _=>[]):= by
 refine FC.of (T:=TTx) Tryz.call158 Tryz.func158 E E fun l=>?_
 unfold iW at h
 refine aM aA 2 [] [2,3] [(2,.bp 2 0),(4,.bp 3 0)] (.new 2 38 [sL b a.1 c,I a.2] (.new 3 38 [.slice none 0 0,I 0] .nil)) ⟨(Es E),(Bs E E)⟩ E E ?_
 obtain ⟨e,f,h⟩:=aN h
 refine bZ (ι:=Int) ⟨fun z=>e z=some r,fun z=>[(2,.bp 2 0),(4,.bp 3 0)],fun z=>(.new 2 38 [sL b a.1 c,I z] (.new 3 38 [.slice none 0 0,I 0] .nil)),fun z=>[fI b c a.1],fun z=>[],fun z=>0⟩ ?_ ?_
 ·
  refine JS.seq (JS.region (aB aA 4 [] [] [(7,.v (.bool (decide (d=2)))),(8,.cd [(7,true)] (.v (.agg #[sL b a.1 c,I a.2])))] _ E ⟨(Es E),E⟩ ?_))
  obtain ⟨g,i,-,h⟩:=aY h
  refine bL E E E E (fun j=>aCp a b c _ (i j)) E [0] E E (aB aA 1 [] [] [(10,.v (.bool (bif (decide (d=2)) then g else false)))] _ E ev1 (aD E ?_))
  refine aH E h (fun h=>?_) (fun h=>?_)
  ·
   refine wP aA 5 [(W (a.2 - 1))] [] [] (.new 2 38 [sL b a.1 c,I (W (a.2 - 1))] (.new 3 38 [.slice none 0 0,I 0] .nil)) ⟨ev5,V,(Bs E E)⟩ E E (aQ (W (a.2 - 1)) h (Es E) (Bs E E) [0] E [] E)
  refine JS.skip (aQ a.2 h (Es E) (Bs E E) [0] E [] E)
 rintro k h
 subst f
 refine aM aA 2 [] [] [] (.new 3 38 [sL b a.1 c,I k] .nil) ⟨V,(Bs E E)⟩ E E ?_
 cases h
 exact JS.ret aA () V E E [] E

def iL (a:Int×List (List UInt8)) (b:Int):Option (List UInt8×Bool):= (aF (pU a) fun c=>(bW ((!c)=false) (dK b a.1 (W ((W (a.1+(a.2.length:Int))) - 1))) false fun d=>(bif (bif (!c) then true else (!d)) then some ([],false) else (aP (0≤(W (b - a.1))∧(W (b - a.1))<(a.2.length:Int)) <|some ((at' a.2 (W (b - a.1))),true)))))

theorem aKj (a:Int×List (List UInt8)) (b:Int) (c:Option Addr) (d:Nat) (r:List UInt8×Bool) (h:iL a b=some r):
 FC Tryz.prog 58 [.agg #[I a.1,sL c a.2 d],I b] [⟨.str,⟨c,a.2.length,d⟩,a.2⟩] (fun _:Unit=>True) (fun _=>.tuple #[.string (bs r.1),.bool r.2]) (fun _=>[]):= by
 refine FC.of (T:=TTx) Tryz.call58 Tryz.func58 E E fun m=>?_
 unfold iL at h
 refine aM aA 3 [] [2] [(2,.bp 2 0)] (.new 2 50 [I a.1,sL c a.2 d] .nil) ⟨ev2,(Bs E E)⟩ E E (JS.seq (JS.seq (JS.region (aB aA 1 [] [] [(6,.v (.agg #[I a.1,sL c a.2 d]))] _ E ev1 ?_))))
 refine bnw h fun e g h=>JO.call E E E E (aAc a c d _ g) E [0] E E fun _ _=>aB aA 12 [(W (a.1+(a.2.length:Int))),(W ((W (a.1+(a.2.length:Int))) - 1))] [] [(9,.v (.bool (!e))),(10,.cd [(9,false)] (.v (I b))),(12,.cd [(9,false)] (.v (I a.1))),(19,.cd [(9,false)] (.v (I (W ((W (a.1+(a.2.length:Int))) - 1)))))] _ E ⟨(fun n=>ev5),(fun o=>ev5),(Es E),E⟩ ?_
 obtain ⟨i,j,-,h⟩:=aY h
 refine bL E E E E (fun k=>eK b a.1 (W ((W (a.1+(a.2.length:Int))) - 1)) _ (j k)) E [] E E (aB aA 2 [] [] [(22,.v (.bool (bif (!e) then true else (!i))))] _ E ev1 (aD E ?_))
 refine aH E h (fun h=>?_) (fun h=>?_)
 ·
  refine aC aA 2 [(4,.v (.string (bs []))),(5,.v (.bool false))] ⟨(Es E),E⟩ E E ?_
  cases h
  exact JS.ret aA () V E E [] E
 refine JS.skip (JS.seq (JS.region (bJ 0 E fun l=>?_)))
 obtain ⟨f,h⟩:=aK h
 refine aB aA 7 [(W (b - a.1))] [] [(29,.ep ⟨c,a.2.length,d⟩ (Int.toNat (W (b - a.1))*1))] _ E ⟨ev5,l.ix f,ev2,E⟩ (JO.load aA E E E E E E E 0 E E (Int.toNat (W (b - a.1))) 0 (at' a.2 (W (b - a.1))) ⟨bD f,E⟩ E E (aB aA 2 [] [] [(4,.v (.string (bs (at' a.2 (W (b - a.1)))))),(5,.v (.bool true))] _ E ⟨(Es E),E⟩ (aD E ?_)))
 cases h
 exact JS.ret aA () V E E [] E

def lO (a:Int):Option (List UInt8):= (aF (mY a) fun b=>(bif (!b) then some ([]) else (bif decide (a<128) then some ([(u8 (a))]:List UInt8) else (bif decide (a<2048) then some ([(u8 ((W (192+(W (Int.tdiv a 64)))))),(u8 ((W (128+(Int.tmod a 64)))))]:List UInt8) else (bif decide (a<65536) then some ([(u8 ((W (224+(W (Int.tdiv a 4096)))))),(u8 ((W (128+(Int.tmod (W (Int.tdiv a 64)) 64))))),(u8 ((W (128+(Int.tmod a 64)))))]:List UInt8) else some ([(u8 ((W (240+(W (Int.tdiv a 262144)))))),(u8 ((W (128+(Int.tmod (W (Int.tdiv a 4096)) 64))))),(u8 ((W (128+(Int.tmod (W (Int.tdiv a 64)) 64))))),(u8 ((W (128+(Int.tmod a 64)))))]:List UInt8))))))

theorem aGj (a:Int) (r:List UInt8) (h:lO a=some r) :
 FC Tryz.prog 143 [I a] [] (fun _:Option Addr×Nat=>True) (fun q=>sL q.1 r q.2) (fun q=>[⟨.byte,⟨q.1,r.length,q.2⟩,r⟩]):= by
 refine FC.of (T:=TTx) Tryz.call143 Tryz.func143 E E fun x=>?_
 unfold lO at h
 refine aC aA 1 [] ev5 E E (JS.seq (JS.block (JS.seq (JS.region (aB aA 1 [] [] [(4,.v (I a))] _ E ev1 ?_)))))
 refine bnw h fun f g h=>JO.call E E E E (aEg a _ g) E [] E E fun _ _=>aB aA 2 [] [] [(3,.v (.bool (!f)))] _ E ev1 (aD E ?_)
 refine aH E h (fun h=>?_) (fun h=>?_)
 ·
  refine aC aA 1 [(2,.v (.slice none 0 0))] ev1 E E ?_
  cases h
  refine aZ .byte Sl.nil E E (JS.ret aA (none,0) V E E [0] E)
 refine aC aA 3 [(7,.v (.bool (decide (a<128))))] ev1 E E ?_
 refine aH E h (fun h=>?_) (fun h=>?_)
 ·
  refine JS.seq (JS.region (aB aA 2 [((u8 (a)).toNat:Int)] [] [(11,.v (.int .u8 ((u8 (a)).toNat:Int)))] _ E ⟨⟨V,fJ _⟩,ev2,E⟩ ?_))
  refine iY E (JK.buildSlice aA E E E E E E E E E E E [] E .byte [(u8 (a))] ev9 E E fun b=>iX ?_)
  refine aB aA 1 [] [] [(2,.v (sL b ([(u8 (a))]:List UInt8) ([(u8 (a))]:List UInt8).length))] _ E ev1 (aD E ?_)
  cases h
  exact JS.ret aA (b,([(u8 (a))]:List UInt8).length) V E E [0] E
 refine aC aA 3 [(13,.v (.bool (decide (a<2048))))] ev1 E E ?_
 refine aH E h (fun h=>?_) (fun h=>?_)
 ·
  refine JS.seq (JS.region ?_)
  have i:(64:Int)≠0:=by decide
  have j:(64:Int)≠0:=by decide
  refine aB aA 8 [(W (Int.tdiv a 64)),(W (192+(W (Int.tdiv a 64)))),((u8 ((W (192+(W (Int.tdiv a 64)))))).toNat:Int),(W (128+(Int.tmod a 64))),((u8 ((W (128+(Int.tmod a 64))))).toNat:Int)] [] [(19,.v (.int .u8 ((u8 ((W (192+(W (Int.tdiv a 64)))))).toNat:Int))),(23,.v (.int .u8 ((u8 ((W (128+(Int.tmod a 64))))).toNat:Int)))] _ E ⟨⟨i,E⟩,ev5,⟨V,fJ _⟩,j,ev5,⟨V,fJ _⟩,(Es E),E⟩ ?_
  refine iY E (JK.buildSlice aA E E E E E E E E E E E [] E .byte [(u8 ((W (192+(W (Int.tdiv a 64)))))),(u8 ((W (128+(Int.tmod a 64)))))] ev9 E E fun c=>iX ?_)
  refine aB aA 1 [] [] [(2,.v (sL c ([(u8 ((W (192+(W (Int.tdiv a 64)))))),(u8 ((W (128+(Int.tmod a 64)))))]:List UInt8) ([(u8 ((W (192+(W (Int.tdiv a 64)))))),(u8 ((W (128+(Int.tmod a 64)))))]:List UInt8).length))] _ E ev1 (aD E ?_)
  cases h
  exact JS.ret aA (c,([(u8 ((W (192+(W (Int.tdiv a 64)))))),(u8 ((W (128+(Int.tmod a 64)))))]:List UInt8).length) V E E [0] E
 refine aC aA 3 [(25,.v (.bool (decide (a<65536))))] ev1 E E ?_
 refine aH E h (fun h=>?_) (fun h=>?_)
 ·
  refine JS.seq (JS.region ?_)
  have k:(4096:Int)≠0:=by decide
  have l:(64:Int)≠0:=by decide
  have m:(64:Int)≠0:=by decide
  have n:(64:Int)≠0:=by decide
  refine aB aA 13 [(W (Int.tdiv a 4096)),(W (224+(W (Int.tdiv a 4096)))),((u8 ((W (224+(W (Int.tdiv a 4096)))))).toNat:Int),(W (Int.tdiv a 64)),(W (128+(Int.tmod (W (Int.tdiv a 64)) 64))),((u8 ((W (128+(Int.tmod (W (Int.tdiv a 64)) 64))))).toNat:Int),(W (128+(Int.tmod a 64))),((u8 ((W (128+(Int.tmod a 64))))).toNat:Int)] [] [(31,.v (.int .u8 ((u8 ((W (224+(W (Int.tdiv a 4096)))))).toNat:Int))),(36,.v (.int .u8 ((u8 ((W (128+(Int.tmod (W (Int.tdiv a 64)) 64))))).toNat:Int))),(40,.v (.int .u8 ((u8 ((W (128+(Int.tmod a 64))))).toNat:Int)))] _ E ⟨⟨k,E⟩,ev5,⟨V,fJ _⟩,⟨l,E⟩,m,ev5,⟨V,fJ _⟩,n,ev5,⟨V,fJ _⟩,(Es E),E⟩ ?_
  refine iY E (JK.buildSlice aA E E E E E E E E E E E [] E .byte [(u8 ((W (224+(W (Int.tdiv a 4096)))))),(u8 ((W (128+(Int.tmod (W (Int.tdiv a 64)) 64))))),(u8 ((W (128+(Int.tmod a 64)))))] ev9 E E fun d=>iX ?_)
  refine aB aA 1 [] [] [(2,.v (sL d ([(u8 ((W (224+(W (Int.tdiv a 4096)))))),(u8 ((W (128+(Int.tmod (W (Int.tdiv a 64)) 64))))),(u8 ((W (128+(Int.tmod a 64)))))]:List UInt8) ([(u8 ((W (224+(W (Int.tdiv a 4096)))))),(u8 ((W (128+(Int.tmod (W (Int.tdiv a 64)) 64))))),(u8 ((W (128+(Int.tmod a 64)))))]:List UInt8).length))] _ E ev1 (aD E ?_)
  cases h
  exact JS.ret aA (d,([(u8 ((W (224+(W (Int.tdiv a 4096)))))),(u8 ((W (128+(Int.tmod (W (Int.tdiv a 64)) 64))))),(u8 ((W (128+(Int.tmod a 64)))))]:List UInt8).length) V E E [0] E
 refine JS.skip (aV (JS.seq (JS.region ?_)))
 have o:(262144:Int)≠0:=by decide
 have p:(4096:Int)≠0:=by decide
 have s:(64:Int)≠0:=by decide
 have t:(64:Int)≠0:=by decide
 have u:(64:Int)≠0:=by decide
 have w:(64:Int)≠0:=by decide
 refine aB aA 18 [(W (Int.tdiv a 262144)),(W (240+(W (Int.tdiv a 262144)))),((u8 ((W (240+(W (Int.tdiv a 262144)))))).toNat:Int),(W (Int.tdiv a 4096)),(W (128+(Int.tmod (W (Int.tdiv a 4096)) 64))),((u8 ((W (128+(Int.tmod (W (Int.tdiv a 4096)) 64))))).toNat:Int),(W (Int.tdiv a 64)),(W (128+(Int.tmod (W (Int.tdiv a 64)) 64))),((u8 ((W (128+(Int.tmod (W (Int.tdiv a 64)) 64))))).toNat:Int),(W (128+(Int.tmod a 64))),((u8 ((W (128+(Int.tmod a 64))))).toNat:Int)] [] [(45,.v (.int .u8 ((u8 ((W (240+(W (Int.tdiv a 262144)))))).toNat:Int))),(50,.v (.int .u8 ((u8 ((W (128+(Int.tmod (W (Int.tdiv a 4096)) 64))))).toNat:Int))),(55,.v (.int .u8 ((u8 ((W (128+(Int.tmod (W (Int.tdiv a 64)) 64))))).toNat:Int))),(59,.v (.int .u8 ((u8 ((W (128+(Int.tmod a 64))))).toNat:Int)))] _ E ⟨⟨o,E⟩,ev5,⟨V,fJ _⟩,⟨p,E⟩,s,ev5,⟨V,fJ _⟩,⟨t,E⟩,u,ev5,⟨V,fJ _⟩,w,ev5,⟨V,fJ _⟩,(Es E),E⟩ ?_
 refine iY E (JK.buildSlice aA E E E E E E E E E E E [] E .byte [(u8 ((W (240+(W (Int.tdiv a 262144)))))),(u8 ((W (128+(Int.tmod (W (Int.tdiv a 4096)) 64))))),(u8 ((W (128+(Int.tmod (W (Int.tdiv a 64)) 64))))),(u8 ((W (128+(Int.tmod a 64)))))] ev9 E E fun e=>iX ?_)
 refine aB aA 1 [] [] [(2,.v (sL e ([(u8 ((W (240+(W (Int.tdiv a 262144)))))),(u8 ((W (128+(Int.tmod (W (Int.tdiv a 4096)) 64))))),(u8 ((W (128+(Int.tmod (W (Int.tdiv a 64)) 64))))),(u8 ((W (128+(Int.tmod a 64)))))]:List UInt8) ([(u8 ((W (240+(W (Int.tdiv a 262144)))))),(u8 ((W (128+(Int.tmod (W (Int.tdiv a 4096)) 64))))),(u8 ((W (128+(Int.tmod (W (Int.tdiv a 64)) 64))))),(u8 ((W (128+(Int.tmod a 64)))))]:List UInt8).length))] _ E ev1 (aD E ?_)
 cases h
 exact JS.ret aA (e,([(u8 ((W (240+(W (Int.tdiv a 262144)))))),(u8 ((W (128+(Int.tmod (W (Int.tdiv a 4096)) 64))))),(u8 ((W (128+(Int.tmod (W (Int.tdiv a 64)) 64))))),(u8 ((W (128+(Int.tmod a 64)))))]:List UInt8).length) V E E [0] E

def eY (c:List UInt8) (a:Int) (d:Int) (f:Int→Option (Int×Int)) (g:(Int×Int)→Option (Int×Int)):(Int×Int)→Option (Int×Int):=fun (e,b)=>(bif (decide (b<((bU c (W (a+1)) (W (a+d))).length:Int))) then (aP (0≤b∧b<((bU c (W (a+1)) (W (a+d))).length:Int)) <|g ((W ((W ((W (e*64))+((at' (bU c (W (a+1)) (W (a+d))) b).toNat:Int))) - 128)),(W (b+1)))) else f e)

def rJ (b:List UInt8) (a:Int):Option (Int×Int):= (bif (bif decide (a<0) then true else (decide ((b.length:Int)≤a))) then some (0,0) else (aP (0≤a∧a<(b.length:Int)) <|(aS (fun ((c,f):Int×Int)=>(bif decide ((W ((b.length:Int) - c))<a) then some (0,0) else (aP (0≤(W (a+1))∧(W (a+1))≤(W (a+c))∧(W (a+c))≤(b.length:Int)) <|(aS (fun (e:Int)=>(aF (lO e) fun g=>(aP (0≤a∧a≤(W (a+c))∧(W (a+c))≤(b.length:Int)) <|(bif (!(decide (g=(bU b a (W (a+c)))))) then some (0,0) else some (e,c))))) fun h=>(aW (eY b a c h) bG (f,0)))))) fun d=>(bif decide (((at' b a).toNat:Int)<128) then some (((at' b a).toNat:Int),1) else (aF (dK ((at' b a).toNat:Int) 192 223) fun i=>(bif i then d (2,(W (((at' b a).toNat:Int) - 192))) else (aF (dK ((at' b a).toNat:Int) 224 239) fun j=>(bif j then d (3,(W (((at' b a).toNat:Int) - 224))) else (aF (dK ((at' b a).toNat:Int) 240 247) fun k=>(bif k then d (4,(W (((at' b a).toNat:Int) - 240))) else some (0,0)))))))))))

theorem aId (b:List UInt8) (a:Int) (e:Option Addr) (f:Nat) (r:Int×Int) (h:rJ b a=some r):
 FC Tryz.prog 144 [sL e b f,I a] [⟨.byte,⟨e,b.length,f⟩,b⟩] (fun _:Unit=>True) (fun _=>.tuple #[I r.1,I r.2]) (fun _=>[]):= by
 refine FC.of (T:=TTx) Tryz.call144 Tryz.func144 E E fun M=>?_
 unfold rJ at h
 refine aC aA 2 [] ev5 E E (JS.seq (aC aA 8 [(18,.v (.bool (bif (decide (a<0)) then true else (decide ((b.length:Int)≤a)))))] ev1 E E ?_))
 refine aH E h (fun h=>?_) (fun h=>?_)
 ·
  refine aC aA 2 [(4,.v (I 0)),(5,.v (I 0))] ⟨(Es E),E⟩ E E ?_
  cases h
  exact JS.ret aA () V E E [] E
 refine JS.skip (JS.seq (JS.region (bJ 0 E fun q=>?_)))
 obtain ⟨m,h⟩:=aK h
 refine aB aA 3 [] [] [(21,.ep ⟨e,b.length,f⟩ (Int.toNat a*1))] _ E ⟨q.ix m,ev2,E⟩ (JO.load aA E E E E E E E 0 E E (Int.toNat a) 0 (at' b a) ⟨bD m,E⟩ E E (aB aA 2 [((at' b a).toNat:Int)] [] [(6,.v (I ((at' b a).toNat:Int)))] _ E ⟨⟨V,aHc _⟩,ev2,E⟩ (aD E (aC aA 2 [] ev5 E E (JS.seq ?_)))))
 obtain ⟨s,t,h⟩:=aN h
 refine aX (ι:=Int×Int) ⟨fun z=>s z=some r,fun z=>[(0,.v (sL e b f)),(1,.v (I a)),(7,.v (I z.1)),(8,.v (I z.2))],fun z=>.nil,fun z=>[⟨.byte,⟨e,b.length,f⟩,b⟩],fun z=>[],fun z=>0⟩ ?_ ?_
 ·
  refine aC aA 3 [(24,.v (.bool (decide (((at' b a).toNat:Int)<128))))] ev1 E E ?_
  refine aH E h (fun h=>?_) (fun h=>?_)
  ·
   refine aC aA 3 [(4,.v (I ((at' b a).toNat:Int))),(5,.v (I 1))] ⟨(Es E),E⟩ E E ?_
   cases h
   exact JS.ret aA () V E E [] E
  refine JS.seq (JS.region (aB aA 1 [] [] [(29,.v (I ((at' b a).toNat:Int)))] _ E ev1 ?_))
  refine bnw h fun u w h=>JO.call E E E E (eK ((at' b a).toNat:Int) 192 223 _ w) E [] E E fun _ _=>aB aA 1 [] [] [(28,.v (.bool u))] _ E ev1 (aD E ?_)
  refine aH E h (fun h=>?_) (fun h=>?_)
  ·
   refine bY aA 4 [(W (((at' b a).toNat:Int) - 192))] [] [(7,.v (I 2)),(8,.v (I (W (((at' b a).toNat:Int) - 192))))] _ ⟨ev5,(Es E),E⟩ E E (aV (aQ (2,(W (((at' b a).toNat:Int) - 192))) h (Es E) V [0] E [] E))
  refine JS.seq (JS.region (aB aA 1 [] [] [(34,.v (I ((at' b a).toNat:Int)))] _ E ev1 ?_))
  refine bnw h fun x y h=>JO.call E E E E (eK ((at' b a).toNat:Int) 224 239 _ y) E [] E E fun _ _=>aB aA 1 [] [] [(33,.v (.bool x))] _ E ev1 (aD E ?_)
  refine aH E h (fun h=>?_) (fun h=>?_)
  ·
   refine bY aA 4 [(W (((at' b a).toNat:Int) - 224))] [] [(7,.v (I 3)),(8,.v (I (W (((at' b a).toNat:Int) - 224))))] _ ⟨ev5,(Es E),E⟩ E E (aV (aQ (3,(W (((at' b a).toNat:Int) - 224))) h (Es E) V [0] E [] E))
  refine JS.seq (JS.region (aB aA 1 [] [] [(39,.v (I ((at' b a).toNat:Int)))] _ E ev1 ?_))
  refine bnw h fun A B h=>JO.call E E E E (eK ((at' b a).toNat:Int) 240 247 _ B) E [] E E fun _ _=>aB aA 1 [] [] [(38,.v (.bool A))] _ E ev1 (aD E ?_)
  refine aH E h (fun h=>?_) (fun h=>?_)
  ·
   refine bY aA 4 [(W (((at' b a).toNat:Int) - 240))] [] [(7,.v (I 4)),(8,.v (I (W (((at' b a).toNat:Int) - 240))))] _ ⟨ev5,(Es E),E⟩ E E (aV (aQ (4,(W (((at' b a).toNat:Int) - 240))) h (Es E) V [0] E [] E))
  refine aC aA 2 [(4,.v (I 0)),(5,.v (I 0))] ⟨(Es E),E⟩ E E ?_
  cases h
  exact JS.ret aA () V E E [] E
 rintro ⟨c,C⟩ h
 subst t
 refine JS.seq (gH aA 6 [(W ((b.length:Int) - c))] [] [(48,.v (.bool (decide ((W ((b.length:Int) - c))<a))))] _ ev3 E E ?_)
 refine aH E h (fun h=>?_) (fun h=>?_)
 ·
  refine aC aA 2 [(4,.v (I 0)),(5,.v (I 0))] ⟨(Es E),E⟩ E E ?_
  cases h
  exact JS.ret aA () V E E [] E
 refine JS.skip (JS.seq (JS.seq (JS.region (aB aA 6 [(W (a+1)),(W (a+c))] [] [(49,.v (sL e b f)),(51,.v (I (W (a+1)))),(54,.v (I (W (a+c))))] _ E ⟨ev5,ev5,(Es E),E⟩ ?_))))
 obtain ⟨D,h⟩:=aK h
 refine aHe aA E E E E E E E E 0 E (W (a+1)) (W (a+c)) E E D E fun j k=>aB aA 2 [] [] [(56,.v (I ((bU b (W (a+1)) (W (a+c))).length:Int))),(57,.v (I 0))] _ E ⟨(Es E),E⟩ (aD E ?_)
 obtain ⟨n,F,h⟩:=aN h
 refine aX (ι:=Int) ⟨fun z=>n z=some r,fun z=>[(0,.v (sL e b f)),(1,.v (I a)),(7,.v (I c)),(8,.v (I z))],fun z=>.nil,fun z=>[⟨.byte,⟨e,b.length,f⟩,b⟩],fun z=>[],fun z=>0⟩ ?_ ?_
 ·
  refine JS.loop (ι:=Nat×Int×Int) ⟨fun z=>aW (eY b a c n) z.1 z.2=some r,fun z=>[(0,.v (sL e b f)),(1,.v (I a)),(7,.v (I c)),(8,.v (I z.2.1)),(55,.v (sL j (bU b (W (a+1)) (W (a+c))) k)),(56,.v (I ((bU b (W (a+1)) (W (a+c))).length:Int))),(57,.v (I z.2.2))],fun z=>.nil,fun z=>[⟨.byte,⟨e,b.length,f⟩,b⟩,⟨.byte,⟨j,(bU b (W (a+1)) (W (a+c))).length,k⟩,(bU b (W (a+1)) (W (a+c)))⟩],fun z=>[],fun z=>z.1⟩ (bG,C,0) h (Es E) V [1,0] E [] E ?_
  rintro ⟨o,g,d⟩ h
  obtain ⟨o,rfl,h⟩:=bC h
  rw [eY] at h
  refine aC aA 1 [(58,.v (.bool (decide (d<((bU b (W (a+1)) (W (a+c))).length:Int)))))] ev1 E E (JS.seq ?_)
  refine aH E h (fun h=>?_) (fun h=>?_)
  ·
   refine JS.skip (JS.seq (JS.block (JS.seq (JS.region (bJ 1 E fun G=>?_)))))
   obtain ⟨p,h⟩:=aK h
   refine aB aA 1 [] [] [(59,.ep ⟨j,(bU b (W (a+1)) (W (a+c))).length,k⟩ (Int.toNat d*1))] _ E ⟨G.ix p,ev2,E⟩ (JO.load aA E E E E E E E 1 E E (Int.toNat d) 0 (at' (bU b (W (a+1)) (W (a+c))) d) ⟨bD p,E⟩ E E (aB aA 1 [] [] [(10,.v (.int .u8 ((at' (bU b (W (a+1)) (W (a+c))) d).toNat:Int)))] _ E ev1 (aD E (bY aA 7 [(W (g*64)),((at' (bU b (W (a+1)) (W (a+c))) d).toNat:Int),(W ((W (g*64))+((at' (bU b (W (a+1)) (W (a+c))) d).toNat:Int))),(W ((W ((W (g*64))+((at' (bU b (W (a+1)) (W (a+c))) d).toNat:Int))) - 128))] [] [(8,.v (I (W ((W ((W (g*64))+((at' (bU b (W (a+1)) (W (a+c))) d).toNat:Int))) - 128))))] _ ⟨ev5,⟨V,aHc _⟩,ev5,ev5,ev2,E⟩ E E (aV (bY aA 2 [(W (d+1))] [] [(57,.v (I (W (d+1))))] _ ev3 E E (bR (o,(W ((W ((W (g*64))+((at' (bU b (W (a+1)) (W (a+c))) d).toNat:Int))) - 128)),(W (d+1))) h (Nat.lt_succ_self _) (Es E) V [0,1] E [] E)))))))
  refine JS.exit E (aQ g h (Es E) V [0] E [] E)
 rintro l h
 subst F
 refine JS.seq (JS.seq ?_)
 obtain ⟨H,J,h⟩:=aE h
 obtain ⟨i,h⟩:=aK h
 refine oX 0 E a (W (a+c)) fun N O K=>cV 1 E fun L=>?_
 refine bF E .nil [0] [10] V E (fun P=>?_)
 refine bX aA aJ true 5 [0,3,4,5,6,7] E (by kernel_rfl) [(W (a+c))] [(68,.v (I l)),(71,.v (sL e b f)),(72,.v (I a)),(75,.v (I (W (a+c))))] V [0] E E ⟨ev5,(Es E)⟩ (gN aA aJ 8 E (by kernel_rfl) E E E E E E a (W (a+c)) E E ⟨i.1,i.2.1,i.2.2,L.cap,K i⟩ E (aHh aA aJ 9 E (by kernel_rfl) E E E E E E E 0 E E V [0] E (JA.one 1 (by kernel_rfl) (JK.call E E E E (aGj l _ J) E [] E E ?_))))
 rintro ⟨Q,R⟩ -
 refine aU V [0] E (JA.one 2 (by kernel_rfl) (aTy aA E E E E E E E E 2 E E (aU V [0] E (aT aA aJ 0 [10] E (by kernel_rfl) [] [(78,.v (.bool (!(decide (H=(bU b a (W (a+c))))))))] E ev2 (bM (by kernel_rfl) (bE (B':=.nil) V ?_))))))
 refine aH E h (fun h=>?_) (fun h=>?_)
 ·
  refine aC aA 2 [(4,.v (I 0)),(5,.v (I 0))] ⟨(Es E),E⟩ E E ?_
  cases h
  exact JS.ret aA () V E E [] E
 refine JS.skip (aC aA 4 [(4,.v (I l)),(5,.v (I c))] ⟨(Es E),E⟩ E E ?_)
 cases h
 exact JS.ret aA () V E E [] E

def jN (c:List UInt8) (f:(List Int)→Option (List Int×Bool)) (g:(List Int×Int)→Option (List Int×Bool)):(List Int×Int)→Option (List Int×Bool):=fun (a,b)=>(bif decide (b<(c.length:Int)) then (aF (rJ c b) fun (d,e)=>(bif decide (e=0) then some ([],false) else (aP (a.length+([d]:List Int).length≤536870912) <|g ((a ++ ([d]:List Int)),(W (b+e)))))) else f a)

def tH (a:List UInt8):Option (List Int×Bool):= (bif decide (65536<(a.length:Int)) then some ([],false) else (aS (fun (b:List Int)=> some (b,true)) fun c=>(aW (jN a c) bG (([]:List Int),0))))

theorem aKh (a:List UInt8) (r:List Int×Bool) (h:tH a=some r) :
 FC Tryz.prog 62 [.string (bs a)] [] (fun _:Option Addr×Nat=>True) (fun q=>.tuple #[sL q.1 r.1 q.2,.bool r.2]) (fun q=>[fI q.1 q.2 r.1]):= by
 refine FC.of (T:=TTx) Tryz.call62 Tryz.func62 E E fun x=>?_
 unfold tH at h
 refine aC aA 2 [] ev5 E E (JS.seq (aC aA 3 [(11,.v (.bool (decide (65536<(a.length:Int)))))] ev1 E E ?_))
 refine aH E h (fun h=>?_) (fun h=>?_)
 ·
  refine aC aA 2 [(2,.v (.slice none 0 0)),(3,.v (.bool false))] ⟨(Es E),E⟩ E E ?_
  cases h
  refine aZ iT Sl.nil E E (JS.ret aA (none,0) V E E [0] E)
 refine JS.skip (aC aA 1 [(4,.v (.slice none 0 0))] ev1 E E (JS.seq (JS.region (aB aA 1 [] [] [(12,.v (.string (bs a)))] _ E ev1 (aHf aA E E E E E E E E E fun c d=>aB aA 1 [] [] [(5,.v (sL c a d))] _ E ev1 (aD E (JS.seq (aC aA 1 [(6,.v (I 0))] ev1 E E ?_))))))))
 obtain ⟨i,s,h⟩:=aN h
 refine aX (ι:=List Int×Option Addr×Nat) ⟨fun z=>i z.1=some r,fun z=>[(4,.v (sL z.2.1 z.1 z.2.2))],fun z=>.nil,fun z=>[],fun z=>[fI z.2.1 z.2.2 z.1],fun z=>0⟩ ?_ ?_
 ·
  refine aZ iT Sl.nil E E (JS.loop (ι:=Nat×List Int×Int×Option Addr×Nat) ⟨fun z=>aW (jN a i) z.1 (z.2.1,z.2.2.1)=some r,fun z=>[(4,.v (sL z.2.2.2.1 z.2.1 (Q4 z))),(5,.v (sL c a d)),(6,.v (I z.2.2.1))],fun z=>.nil,fun z=>[],fun z=>[fI z.2.2.2.1 (Q4 z) z.2.1,⟨.byte,⟨c,a.length,d⟩,a⟩],fun z=>z.1⟩ (bG,([]:List Int),0,none,0) h (Es E) V [] E [0,0] E ?_)
  rintro ⟨j,g,b,k,l⟩ h
  obtain ⟨j,rfl,h⟩:=bC h
  rw [jN] at h
  refine JS.seq (aC aA 4 [(17,.v (.bool (decide (b<(a.length:Int)))))] ev1 E E ?_)
  refine aH E h (fun h=>?_) (fun h=>?_)
  ·
   refine JS.skip (JS.block (JS.seq (JS.region (aB aA 2 [] [] [(19,.v (sL c a d)),(20,.v (I b))] _ E ⟨(Es E),E⟩ ?_))))
   obtain ⟨⟨e,f⟩,t,h⟩:=aE h
   refine JO.call E E E E (aId a b c d _ t) E [1] E E fun _ _=>aB aA 5 [] [] [(7,.v (I e)),(8,.v (I f))] _ E ⟨(Es E),E⟩ (aD E (JS.seq (aC aA 2 [(25,.v (.bool (decide (f=0))))] ev1 E E ?_)))
   refine aH E h (fun h=>?_) (fun h=>?_)
   ·
    refine aC aA 2 [(2,.v (.slice none 0 0)),(3,.v (.bool false))] ⟨(Es E),E⟩ E E ?_
    cases h
    refine aZ iT Sl.nil E E (JS.ret aA (none,0) V E E [0] E)
   refine JS.skip (JS.seq (JS.region (aB aA 2 [] [] [(26,.v (sL k g l)),(27,.v (I e))] _ E ⟨(Es E),E⟩ ?_)))
   refine iY E (JK.buildSlice aA E E E E E E E E E E E [] E iT [e] ev9 E E fun y=>iX ?_)
   obtain ⟨u,h⟩:=aK h
   refine fU aA E E E E ⟨E,E,E,E,V,E,E,E,E⟩ E E E [1] E 0 E u E fun m n=>aB aA 1 [] [] [(4,.v (sL m (g ++ ([e]:List Int)) n))] _ E ev1 (aD E (bY aA 4 [(W (b+f))] [] [(6,.v (I (W (b+f))))] _ ev3 E E (aV (bR (j,(g ++ ([e]:List Int)),(W (b+f)),m,n) h (Nat.lt_succ_self _) (Es E) V [] E [0,1] E))))
  refine JS.exit E (aQ (g,k,l) h ev2 V [] E [0] E)
 rintro ⟨w,o,p⟩ h
 subst s
 refine aC aA 3 [(2,.v (sL o w p)),(3,.v (.bool true))] ⟨(Es E),E⟩ E E ?_
 cases h
 exact JS.ret aA (o,p) V E E [0] E

def vK (c:List UInt8):Option ((List Int×Int)×Bool):= (aF (tH c) fun (a,b)=>(bW ((!b)=false) (eQ (a,(a.length:Int))) false fun d=>(bif (bif (!b) then true else (!d)) then some (([],0),false) else some ((a,(a.length:Int)),true))))

theorem aMn (d:List UInt8) (r:(List Int×Int)×Bool) (h:vK d=some r) :
 FC Tryz.prog 59 [.string (bs d)] [] (fun _:Option Addr×Nat=>True) (fun q=>.tuple #[.agg #[sL q.1 r.1.1 q.2,I r.1.2],.bool r.2]) (fun q=>[fI q.1 q.2 r.1.1]):= by
 refine FC.of (T:=TTx) Tryz.call59 Tryz.func59 E E fun k=>?_
 unfold vK at h
 refine aM aA 2 [] [1] [(2,.bp 1 0)] (.new 1 38 [.slice none 0 0,I 0] .nil) ⟨ev2,(Bs E E)⟩ E E (JS.seq (JS.region (aB aA 1 [] [] [(8,.v (.string (bs d)))] _ E ev1 ?_)))
 obtain ⟨⟨a,e⟩,f,h⟩:=aE h
 refine JO.call E E E E (aKh d _ f) E [] E E ?_
 rintro ⟨b,c⟩ -
 refine aB aA 5 [] [] [(4,.v (sL b a c)),(5,.v (.bool e))] _ E ⟨(Es E),E⟩ (aD E (aM aA 6 [] [8] [(6,.bp 8 0)] (.new 1 38 [.slice none 0 0,I 0] (.new 8 38 [sL b a c,I (a.length:Int)] .nil)) ⟨ev2,(Bs E E)⟩ E E (JS.seq (JS.seq (JS.region (aB aA 4 [] [] [(18,.v (.bool (!e))),(19,.cd [(18,false)] (.v (.agg #[sL b a c,I (a.length:Int)])))] _ E ⟨(Es E),E⟩ ?_))))))
 obtain ⟨g,i,-,h⟩:=aY h
 refine bL E E E E (fun j=>hX (a,(a.length:Int)) b c _ (i j)) E [0] E E (aB aA 2 [] [] [(22,.v (.bool (bif (!e) then true else (!g))))] _ E ev1 (aD E ?_))
 refine aH E h (fun h=>?_) (fun h=>?_)
 ·
  refine aM aA 3 [] [] [(3,.v (.bool false))] (.new 1 38 [.slice none 0 0,I 0] .nil) ⟨ev2,(Bs E E)⟩ E E ?_
  cases h
  refine aZ iT Sl.nil E E (JS.ret aA (none,0) V E E [0] E)
 refine JS.skip (aM aA 3 [] [] [(3,.v (.bool true))] (.new 1 38 [sL b a c,I (a.length:Int)] .nil) ⟨ev2,(Bs E E)⟩ E E ?_)
 cases h
 exact JS.ret aA (b,c) V E E [0] E

def rX (b:EdQ) (e:Int×List (List UInt8)) (c:Int):Option (EdQ×Bool):= (aF (vL b) fun m=>(bif (bif (!m) then true else (bif (!(decide (c=1))) then (!(decide (c=(-1)))) else false)) then some ((false,0,([],0),0,0,0,0,0,0,0,[],[],0,([],0),[],0,([],0)),false) else (aF (dQ b 0) fun a=>(aF (kK e) fun f=>(aS (fun (d:Int)=>(bif (bif (bif decide (c=1) then (!(decide (b.2.2.2.2.2.2.2.2.2.2.2.2.1=0))) else false) then (decide ((W (d+1))=(W (f+1)))) else false) then (aF (cY b.2.2.2.2.2.2.2.2.2.2.2.2.2.1) fun g=>(aF (iW g b.2.1) fun n=> some ((a.1,a.2.1,(g.1,n.2),a.2.2.2.1,a.2.2.2.2.1,a.2.2.2.2.2.1,a.2.2.2.2.2.2.1,a.2.2.2.2.2.2.2.1,a.2.2.2.2.2.2.2.2.1,a.2.2.2.2.2.2.2.2.2.1,a.2.2.2.2.2.2.2.2.2.2.1,[],0,([],0),a.2.2.2.2.2.2.2.2.2.2.2.2.2.2.1,a.2.2.2.2.2.2.2.2.2.2.2.2.2.2.2.1,a.2.2.2.2.2.2.2.2.2.2.2.2.2.2.2.2),true))) else (aF (iL e (W (d+c))) fun (o,p)=>(aF (vK o) fun (h,q)=>(bif (bif (!p) then true else (!q)) then some ((false,0,([],0),0,0,0,0,0,0,0,[],[],0,([],0),[],0,([],0)),false) else (aS (fun (r:Int)=>(aS (fun ((s,t):List Int×Int)=> some ((a.1,a.2.1,(h.1,r),a.2.2.2.1,a.2.2.2.2.1,a.2.2.2.2.2.1,a.2.2.2.2.2.2.1,a.2.2.2.2.2.2.2.1,a.2.2.2.2.2.2.2.2.1,a.2.2.2.2.2.2.2.2.2.1,a.2.2.2.2.2.2.2.2.2.2.1,[],(W (d+c)),(s,t),a.2.2.2.2.2.2.2.2.2.2.2.2.2.2.1,a.2.2.2.2.2.2.2.2.2.2.2.2.2.2.2.1,a.2.2.2.2.2.2.2.2.2.2.2.2.2.2.2.2),true)) fun i=>(bif decide (b.2.2.2.2.2.2.2.2.2.2.2.2.1=0) then (aF (cY b.2.2.1) fun j=> i (j.1,j.2)) else i (a.2.2.2.2.2.2.2.2.2.2.2.2.2.1.1,a.2.2.2.2.2.2.2.2.2.2.2.2.2.1.2)))) fun k=>(bif decide (b.2.1=2) then k 0 else k h.2))))))) fun l=>(bif decide (b.2.2.2.2.2.2.2.2.2.2.2.2.1=0) then l (W (f+1)) else l b.2.2.2.2.2.2.2.2.2.2.2.2.1))))))

theorem aMo (c:EdQ) (e:Int×List (List UInt8)) (f:Int) (d:P6) (g:Option Addr) (i:Nat) (r:EdQ×Bool) (h:rX c e f=some r):
 FC Tryz.prog 247 [.agg (cD c d).toArray,.agg #[I e.1,sL g e.2 i],I f] (bP c d [⟨.str,⟨g,e.2.length,i⟩,e.2⟩]) (fun _:Option Addr×Nat×Option Addr×Nat×Option Addr×Nat×Option Addr×Nat×Option Addr×Nat=>True) (fun q=>.tuple #[.agg (aG (U11 r.1 []) (q.1,q.2.1,q.2.2.1,q.2.2.2.1,none,0,(Q4 q))).toArray,.bool r.2]) (fun q=>[fI q.1 q.2.1 r.1.2.2.1.1,⟨(.sl iT),⟨q.2.2.1,r.1.2.2.2.2.2.2.2.2.2.2.1.length,q.2.2.2.1⟩,r.1.2.2.2.2.2.2.2.2.2.2.1⟩,fI (Q4 q).1 (Q4 q).2.1 r.1.2.2.2.2.2.2.2.2.2.2.2.2.2.1.1,fI (Q4 q).2.2.1 (Q4 q).2.2.2.1 r.1.2.2.2.2.2.2.2.2.2.2.2.2.2.2.1,fI (Q8 q).1 (Q8 q).2 r.1.2.2.2.2.2.2.2.2.2.2.2.2.2.2.2.2.1]):= by
 refine FC.of (T:=TTx) Tryz.call247 Tryz.func247 E E fun w0=>?_
 unfold rX at h
 refine aM aA 4 [] [8,9,10] [(3,.bp 8 0),(4,.bp 9 0),(6,.bp 10 0)] (.new 8 46 (aG c d) (.new 9 50 [I e.1,sL g e.2 i] (.new 10 46 bA .nil))) ⟨(Es E),(Bs E E)⟩ E E (JS.seq (JS.seq (JS.region (aB aA 1 [] [] [(15,.v (.agg (aG c d).toArray))] _ E ev1 ?_))))
 refine bnw h fun J K h=>JO.call E E E E (aI0 c d _ K) E [0,1,2,3,4,5] E E fun _ _=>aB aA 9 [] [] [(25,.v (.bool (bif (!J) then true else (bif (!(decide (f=1))) then (!(decide (f=(-1)))) else false))))] _ E ev1 (aD E ?_)
 refine aH E h (fun h=>?_) (fun h=>?_)
 ·
  refine aM aA 3 [] [] [(7,.v (.bool false))] (.new 10 46 bA .nil) ⟨ev2,(Bs E E)⟩ E E ?_
  cases h
  refine aZ iT Sl.nil E E (aZ (.sl iT) Sl.nil E E (aZ iT Sl.nil E E (aZ iT Sl.nil E E (aZ iT Sl.nil E E (JS.ret aA (none,0,none,0,none,0,none,0,none,0) V E E [4,3,2,1,0] E)))))
 refine JS.skip (JS.seq (JS.region (aB aA 1 [] [] [(27,.v (.agg (aG c d).toArray))] _ E ev1 ?_)))
 refine bnw h fun b L h=>JO.call E E E E (nG c 0 d _ L) E [0,1,2,3,4,5] E E fun a _=>aL aA 2 [] [33] [(8,.bp 33 0)] (.new 8 46 (aG c d) (.new 9 50 [I e.1,sL g e.2 i] (.new 10 46 bA (.new 33 46 (aG b a) .nil)))) E ⟨ev2,(Bs E E)⟩ (aD E (aM aA 3 [] [] [] (.new 8 46 (aG c d) (.new 9 50 [I e.1,sL g e.2 i] (.new 10 46 bA (.new 33 46 (aG (U11 b []) (a.1,a.2.1,a.2.2.1,a.2.2.2.1,none,0,(Q4 a).2.2)) .nil)))) ⟨V,(Bs E E)⟩ E E (JS.seq (JS.region (aB aA 1 [] [] [(31,.v (.agg #[I e.1,sL g e.2 i]))] _ E ev1 ?_)))))
 refine bnw h fun n M h=>JO.call E E E E (aIe e g i _ M) E [6] E E fun _ _=>aB aA 1 [] [] [(9,.v (I n))] _ E ev1 (aD E (aC aA 3 [(10,.v (I (Q12 c).1))] ev1 E E ?_))
 obtain ⟨N,O,h⟩:=aN h
 refine bZ (ι:=Int) ⟨fun z=>N z=some r,fun z=>[(2,.v (I f)),(3,.bp 8 0),(4,.bp 9 0),(6,.bp 10 0),(8,.bp 33 0),(9,.v (I n)),(10,.v (I z))],fun z=>(.new 8 46 (aG c d) (.new 9 50 [I e.1,sL g e.2 i] (.new 10 46 bA (.new 33 46 (aG (U11 b []) (a.1,a.2.1,a.2.2.1,a.2.2.2.1,none,0,(Q4 a).2.2)) .nil)))),fun z=>(bP c d [⟨.str,⟨g,e.2.length,i⟩,e.2⟩]),fun z=>[fI a.1 a.2.1 b.2.2.1.1,⟨(.sl iT),⟨a.2.2.1,(Q8 b).2.2.1.length,a.2.2.2.1⟩,(Q8 b).2.2.1⟩,fI (Q4 a).2.2.1 (Q4 a).2.2.2.1 (Q12 b).2.1.1,fI (Q8 a).1 (Q8 a).2.1 (Q12 b).2.2.1,fI (Q8 a).2.2.1 (Q8 a).2.2.2 (Q16 b).1],fun z=>0⟩ ?_ ?_
 ·
  refine aC aA 2 [(36,.v (.bool (decide ((Q12 c).1=0))))] ev1 E E ?_
  refine aH E h (fun h=>?_) (fun h=>?_)
  ·
   refine bY aA 3 [(W (n+1))] [] [(10,.v (I (W (n+1))))] _ ev3 E E (bT (W (n+1)) h (Es E) (Bs E E) [0,1,2,3,4,5,6] E [0,1,3,4,5] E E)
  refine JS.skip (bT (Q12 c).1 h (Es E) (Bs E E) [0,1,2,3,4,5,6] E [0,1,3,4,5] E E)
 rintro k h
 subst O
 refine JS.seq (gH aA 14 [(W (k+1)),(W (n+1))] [] [(52,.v (.bool (bif (bif (decide (f=1)) then (!(decide ((Q12 c).1=0))) else false) then (decide ((W (k+1))=(W (n+1)))) else false)))] _ ⟨(fun a2=>ev5),(fun a3=>ev5),ev2,E⟩ E E ?_)
 refine aH E h (fun h=>?_) (fun h=>?_)
 ·
  refine JS.seq ?_
  obtain ⟨s,P,h⟩:=aE h
  refine bnw h fun u Q h=>bF E (.new 8 46 (aG c d) .nil) [] [5,6,7] ev4 E (fun a4=>?_)
  refine bX aA aJ true 4 [0,1,3,4] E (by kernel_rfl) [] [(54,.v (.agg #[sL (Q4 d).2.2.1 (Q12 c).2.1.1 (Q4 d).2.2.2.1,I (Q12 c).2.1.2])),(57,.v (I c.2.1))] ev4 [] E E (Es E) (JA.one 2 (by kernel_rfl) (JK.call E E E E (eG (Q12 c).2.1 (Q4 d).2.2.1 (Q4 d).2.2.2.1 _ P) E [3] E E ?_))
  rintro ⟨o,p⟩ -
  refine aU ev4 [] E (JA.one 5 (by kernel_rfl) (JK.call E E E E (uR s c.2.1 o p _ Q) E [7] E E fun _ _=>aR E (aT aA aJ 1 [6] E (by kernel_rfl) [] [(59,.bp 33 2)] E ev2 (JA.one 7 (by kernel_rfl) (bH aA E E E E E E E E (aR E (bM (by kernel_rfl) (bE (B':=(.new 10 46 bA (.new 33 46 (aG (U11 (U2 b (s.1,u.2)) []) (o,p,a.2.2.1,a.2.2.2.1,none,0,(Q4 a).2.2)) .nil))) (Bs E E) (aM aA 5 [] [] [] (.new 10 46 bA (.new 33 46 (aG (U13 (U12 (U11 (U2 b (s.1,u.2)) []) 0) ([],0)) (o,p,a.2.2.1,a.2.2.2.1,none,0,none,0,(Q8 a))) .nil)) ⟨V,(Bs E E)⟩ E E (aM aA 3 [] [] [(7,.v (.bool true))] (.new 10 46 (aG (U13 (U12 (U11 (U2 b (s.1,u.2)) []) 0) ([],0)) (o,p,a.2.2.1,a.2.2.2.1,none,0,none,0,(Q8 a))) .nil) ⟨ev2,(Bs E E)⟩ E E ?_))))))))))
  cases h
  refine aZ iT Sl.nil E E (JS.ret aA (o,p,a.2.2.1,a.2.2.2.1,none,0,(Q8 a)) V E E [1,2,0,2,2] E)
 refine JS.skip (JS.seq (JS.region (aB aA 4 [(W (k+f))] [] [(65,.v (.agg #[I e.1,sL g e.2 i])),(68,.v (I (W (k+f))))] _ E ⟨ev5,(Es E),E⟩ ?_)))
 obtain ⟨⟨w,B⟩,R,h⟩:=aE h
 refine JO.call E E E E (aKj e (W (k+f)) g i _ R) E [6] E E fun _ _=>aB aA 5 [] [] [(11,.v (.string (bs w))),(12,.v (.bool B))] _ E ⟨(Es E),E⟩ (aD E (JS.seq (JS.region (aB aA 1 [] [] [(73,.v (.string (bs w)))] _ E ev1 ?_))))
 obtain ⟨⟨j,C⟩,S,h⟩:=aE h
 refine JO.call E E E E (aMn w _ S) E [] E E ?_
 rintro ⟨l,m⟩ -
 refine aL aA 6 [] [55] [(13,.bp 55 0),(14,.v (.bool C))] (.new 8 46 (aG c d) (.new 10 46 bA (.new 33 46 (aG (U11 b []) (a.1,a.2.1,a.2.2.1,a.2.2.2.1,none,0,(Q4 a).2.2)) (.new 55 38 [sL l j.1 m,I j.2] .nil)))) E ⟨(Es E),(Bs E E)⟩ (aD E (JS.seq (aC aA 6 [(82,.v (.bool (bif (!B) then true else (!C))))] ev1 E E ?_)))
 refine aH E h (fun h=>?_) (fun h=>?_)
 ·
  refine aM aA 3 [] [] [(7,.v (.bool false))] (.new 10 46 bA .nil) ⟨ev2,(Bs E E)⟩ E E ?_
  cases h
  refine aZ iT Sl.nil E E (aZ (.sl iT) Sl.nil E E (aZ iT Sl.nil E E (aZ iT Sl.nil E E (aZ iT Sl.nil E E (JS.ret aA (none,0,none,0,none,0,none,0,none,0) V E E [4,3,2,1,0] E)))))
 refine JS.skip ?_
 obtain ⟨U,X,h⟩:=aN h
 refine bZ (ι:=Int) ⟨fun z=>U z=some r,fun z=>[(2,.v (I f)),(3,.bp 8 0),(6,.bp 10 0),(8,.bp 33 0),(10,.v (I k)),(13,.bp 55 0)],fun z=>(.new 8 46 (aG c d) (.new 10 46 bA (.new 33 46 (aG (U11 b []) (a.1,a.2.1,a.2.2.1,a.2.2.2.1,none,0,(Q4 a).2.2)) (.new 55 38 [sL l j.1 m,I z] .nil)))),fun z=>(bP c d []),fun z=>[fI a.1 a.2.1 b.2.2.1.1,⟨(.sl iT),⟨a.2.2.1,(Q8 b).2.2.1.length,a.2.2.2.1⟩,(Q8 b).2.2.1⟩,fI (Q4 a).2.2.1 (Q4 a).2.2.2.1 (Q12 b).2.1.1,fI (Q8 a).1 (Q8 a).2.1 (Q12 b).2.2.1,fI (Q8 a).2.2.1 (Q8 a).2.2.2 (Q16 b).1,fI l m j.1],fun z=>0⟩ ?_ ?_
 ·
  refine aC aA 3 [(86,.v (.bool (decide (c.2.1=2))))] ev1 E E ?_
  refine aH E h (fun h=>?_) (fun h=>?_)
  ·
   refine wP aA 2 [] [] [] (.new 8 46 (aG c d) (.new 10 46 bA (.new 33 46 (aG (U11 b []) (a.1,a.2.1,a.2.2.1,a.2.2.2.1,none,0,(Q4 a).2.2)) (.new 55 38 [sL l j.1 m,I 0] .nil)))) ⟨V,(Bs E E)⟩ E E (bT 0 h (Es E) (Bs E E) [0,1,2,3,4,5] E [1,2,3,4,5,0] E E)
  refine JS.skip (bT j.2 h (Es E) (Bs E E) [0,1,2,3,4,5] E [1,2,3,4,5,0] E E)
 rintro t h
 subst X
 obtain ⟨Y,Z,h⟩:=aN h
 refine bZ (ι:=List Int×Int×Option Addr×Nat) ⟨fun z=>Y (z.1,z.2.1)=some r,fun z=>[(2,.v (I f)),(6,.bp 10 0),(8,.bp 33 0),(10,.v (I k)),(13,.bp 55 0)],fun z=>(.new 10 46 bA (.new 33 46 (aG (U13 (U11 b []) (z.1,z.2.1)) (a.1,a.2.1,a.2.2.1,a.2.2.2.1,none,0,z.2.2.1,z.2.2.2,(Q8 a))) (.new 55 38 [sL l j.1 m,I t] .nil))),fun z=>[],fun z=>[fI z.2.2.1 z.2.2.2 z.1,fI a.1 a.2.1 b.2.2.1.1,⟨(.sl iT),⟨a.2.2.1,(Q8 b).2.2.1.length,a.2.2.2.1⟩,(Q8 b).2.2.1⟩,fI (Q8 a).1 (Q8 a).2.1 (Q12 b).2.2.1,fI (Q8 a).2.2.1 (Q8 a).2.2.2 (Q16 b).1,fI l m j.1],fun z=>0⟩ ?_ ?_
 ·
  refine aC aA 3 [(90,.v (.bool (decide ((Q12 c).1=0))))] ev1 E E ?_
  refine aH E h (fun h=>?_) (fun h=>?_)
  ·
   refine JS.region (aB aA 2 [] [] [(92,.v (.agg #[sL d.1 c.2.2.1.1 d.2.1,I c.2.2.1.2]))] _ E ev1 ?_)
   refine bnw h fun x a0 h=>JO.call E E E E (eG c.2.2.1 d.1 d.2.1 _ a0) E [0] E E ?_
   rintro ⟨D,F⟩ -
   refine aL aA 2 [] [] [] (.new 10 46 bA (.new 33 46 (aG (U13 (U11 b []) x) (a.1,a.2.1,a.2.2.1,a.2.2.2.1,none,0,D,F,(Q8 a))) (.new 55 38 [sL l j.1 m,I t] .nil))) E ⟨V,(Bs E E)⟩ (aD E (bT (x.1,x.2,D,F) h (Es E) (Bs E E) [] E [0,1,2,4,5,6] E E))
  refine JS.skip (bT ((Q12 b).2.1.1,(Q12 b).2.1.2,(Q4 a).2.2.1,(Q4 a).2.2.2.1) h (Es E) (Bs E E) [] E [2,0,1,3,4,5] E E)
 rintro ⟨G,H,y,A⟩ h
 subst Z
 refine aM aA 8 [(W (k+f))] [] [] (.new 10 46 bA (.new 33 46 (aG (U13 (U12 (U11 (U2 b (j.1,t)) []) (W (k+f))) (G,H)) (l,m,a.2.2.1,a.2.2.2.1,none,0,y,A,(Q8 a))) .nil)) ⟨ev5,V,(Bs E E)⟩ E E (aM aA 3 [] [] [(7,.v (.bool true))] (.new 10 46 (aG (U13 (U12 (U11 (U2 b (j.1,t)) []) (W (k+f))) (G,H)) (l,m,a.2.2.1,a.2.2.2.1,none,0,y,A,(Q8 a))) .nil) ⟨ev2,(Bs E E)⟩ E E ?_)
 cases h
 exact JS.ret aA (l,m,a.2.2.1,a.2.2.2.1,y,A,(Q8 a)) V E E [5,2,0,1,1] E

def cZ (a:EdQ):Option (EdQ×Int):= (aF (dQ a 0) fun b=> some (b,1))

theorem dR (a:EdQ) (b:P6) (r:EdQ×Int) (h:cZ a=some r):
 FC Tryz.prog 119 [.agg (cD a b).toArray] (bP a b []) (fun _:P6=>True) (fun q=>.tuple #[.agg (aG r.1 q).toArray,I r.2]) (fun q=>(bP r.1 q [])):= by
 refine FC.of (T:=TTx) Tryz.call119 Tryz.func119 E E fun f=>?_
 unfold cZ at h
 refine aM aA 3 [] [7,8] [(1,.bp 7 0),(2,.bp 8 0)] (.new 7 46 (aG a b) (.new 8 46 bA .nil)) ⟨(Es E),(Bs E E)⟩ E E (JS.seq (JS.region (aB aA 1 [] [] [(4,.v (.agg (aG a b).toArray))] _ E ev1 ?_)))
 refine bnw h fun d e h=>JO.call E E E E (nG a 0 b _ e) E [0,1,2,3,4,5] E E fun c _=>aL aA 2 [] [] [(3,.v (I 1))] (.new 8 46 (aG d c) .nil) E ⟨ev2,(Bs E E)⟩ (aD E ?_)
 cases h
 exact JS.ret aA c V E E [0,0,0,0,0,0] E

def oN (b:EdQ) (c:Int×List (List UInt8)) (d:Int):Option (EdQ×Int):= (aF (rX b c d) fun (a,e)=>(bif (!e) then (aF (cZ b) fun (f,g)=> some (f,g)) else some ((a.1,a.2.1,a.2.2.1,a.2.2.2.1,a.2.2.2.2.1,a.2.2.2.2.2.1,a.2.2.2.2.2.2.1,a.2.2.2.2.2.2.2.1,a.2.2.2.2.2.2.2.2.1,a.2.2.2.2.2.2.2.2.2.1,a.2.2.2.2.2.2.2.2.2.2.1,[],a.2.2.2.2.2.2.2.2.2.2.2.2.1,a.2.2.2.2.2.2.2.2.2.2.2.2.2.1,a.2.2.2.2.2.2.2.2.2.2.2.2.2.2.1,a.2.2.2.2.2.2.2.2.2.2.2.2.2.2.2.1,a.2.2.2.2.2.2.2.2.2.2.2.2.2.2.2.2),0)))

theorem uD (b:EdQ) (a:Int×List (List UInt8)) (f:Int) (c:P6) (d:Option Addr) (e:Nat) (r:EdQ×Int) (h:oN b a f=some r):
 FC Tryz.prog 171 [.agg (cD b c).toArray,.agg #[I a.1,sL d a.2 e],I f] (bP b c [⟨.str,⟨d,a.2.length,e⟩,a.2⟩]) (fun _:P6=>True) (fun q=>.tuple #[.agg (aG r.1 q).toArray,I r.2]) (fun q=>(bP r.1 q [])):= by
 refine FC.of (T:=TTx) Tryz.call171 Tryz.func171 E E fun B=>?_
 unfold oN at h
 refine aM aA 4 [] [8,9,10] [(3,.bp 8 0),(4,.bp 9 0),(6,.bp 10 0)] (.new 8 46 (aG b c) (.new 9 50 [I a.1,sL d a.2 e] (.new 10 46 bA .nil))) ⟨(Es E),(Bs E E)⟩ E E (JS.seq (JS.region (aB aA 3 [] [] [(11,.v (.agg (aG b c).toArray)),(12,.v (.agg #[I a.1,sL d a.2 e])),(13,.v (I f))] _ E ⟨(Es E),E⟩ ?_)))
 obtain ⟨⟨t,u⟩,x,h⟩:=aE h
 refine JO.call E E E E (aMo b a f c d e _ x) E [0,1,2,3,4,5,6] E E ?_
 rintro ⟨g,i,j,k,l,m,n,o,p,s⟩ -
 refine aL aA 6 [] [29] [(8,.bp 29 0),(9,.v (.bool u))] (.new 8 46 (aG b c) (.new 10 46 bA (.new 29 46 (aG (U11 t []) (g,i,j,k,none,0,l,m,n,o,p,s)) .nil))) E ⟨(Es E),(Bs E E)⟩ (aD E (JS.seq (aC aA 2 [(18,.v (.bool (!u)))] ev1 E E ?_)))
 refine aH E h (fun h=>?_) (fun h=>?_)
 ·
  refine JS.seq (JS.region (aB aA 1 [] [] [(19,.v (.agg (aG b c).toArray))] _ E ev1 ?_))
  obtain ⟨⟨y,z⟩,A,h⟩:=aE h
  refine JO.call E E E E (dR b c _ A) E [0,1,2,3,4,5] E E fun w _=>aL aA 4 [] [] [(7,.v (I z))] (.new 10 46 (aG y w) .nil) E ⟨ev2,(Bs E E)⟩ (aD E ?_)
  cases h
  exact JS.ret aA w V E E [0,0,0,0,0,0] E
 refine JS.skip (aM aA 3 [] [] [(7,.v (I 0))] (.new 10 46 (aG (U11 t []) (g,i,j,k,none,0,l,m,n,o,p,s)) .nil) ⟨ev2,(Bs E E)⟩ E E ?_)
 cases h
 refine aZ (.pair (.sl iT) iT) Sl.nil E E (JS.ret aA (g,i,j,k,none,0,l,m,n,o,p,s) V E E [1,1,0,0,0,0] E)

def eE (a:List Int×Int) (b:Int):Option (List Int×Int):= (aF (cQ a.1) fun c=> some (c,(max (0:Int) (min b (a.1.length:Int)))))

theorem gI (a:List Int×Int) (d:Int) (b:Option Addr) (c:Nat) (r:List Int×Int) (h:eE a d=some r):
 FC Tryz.prog 170 [.agg #[sL b a.1 c,I a.2],I d] [fI b c a.1] (fun _:Option Addr×Nat=>True) (fun q=>.agg #[sL q.1 r.1 q.2,I r.2]) (fun q=>[fI q.1 q.2 r.1]):= by
 refine FC.of (T:=TTx) Tryz.call170 Tryz.func170 E E fun j=>?_
 unfold eE at h
 refine aM aA 2 [] [2,3] [(2,.bp 2 0),(4,.bp 3 0)] (.new 2 38 [sL b a.1 c,I a.2] (.new 3 38 [.slice none 0 0,I 0] .nil)) ⟨(Es E),(Bs E E)⟩ E E (JS.seq ?_)
 refine bnw h fun g i h=>bF E (.new 2 38 [sL b a.1 c,I a.2] .nil) [] [9,10] ev4 E (fun k=>?_)
 refine bX aA aJ true 3 [0,1,3,4,5,6,7,8] E (by kernel_rfl) [] [(6,.v (sL b a.1 c)),(13,.v (I (max (0:Int) (min d (a.1.length:Int)))))] ev4 [] E E (Es E) (JA.one 2 (by kernel_rfl) (JK.call E E E E (dH a.1 b c _ i) E [0] E E ?_))
 rintro ⟨e,f⟩ -
 refine aU ev4 [] E (aT aA aJ 1 [9] E (by kernel_rfl) [] [(14,.v (.agg #[sL e g f,I (max (0:Int) (min d (a.1.length:Int)))]))] E ev2 (JA.one 10 (by kernel_rfl) (bH aA E E E E E E E E (aR E (bM (by kernel_rfl) (bE (B':=(.new 3 38 [sL e g f,I (max (0:Int) (min d (a.1.length:Int)))] .nil)) (Bs E E) ?_))))))
 cases h
 exact JS.ret aA (e,f) V E E [0] E

def lC (b:List Int) (c:List Int) (d:Unit→Option Bool) (e:Int→Option Bool):Int→Option Bool:=fun a=>(bif decide (a<(b.length:Int)) then (aP (0≤a∧a<(b.length:Int)) <|(aP (0≤a∧a<(c.length:Int)) <|(bif (!(decide ((at' b a)=(at' c a)))) then some false else e (W (a+1))))) else d ())

def nQ (a:List Int) (b:List Int):Option Bool:= (bif (!(decide ((a.length:Int)=(b.length:Int)))) then some false else (aS (fun (_:Unit)=> some true) fun c=>(aW (lC a b c) bG 0)))

theorem aBh (a:List Int) (c:List Int) (d:Option Addr) (e:Nat) (f:Option Addr) (g:Nat) (r:Bool) (h:nQ a c=some r):
 FC Tryz.prog 258 [sL d a e,sL f c g] [fI d e a,fI f g c] (fun _:Unit=>True) (fun _=>.bool r) (fun _=>[]):= by
 refine FC.of (T:=TTx) Tryz.call258 Tryz.func258 E E fun p=>?_
 unfold nQ at h
 refine aC aA 1 [] ev5 E E (JS.seq (aC aA 5 [(10,.v (.bool (!(decide ((a.length:Int)=(c.length:Int))))))] ev1 E E ?_))
 refine aH E h (fun h=>?_) (fun h=>?_)
 ·
  refine aC aA 1 [(4,.v (.bool false))] ev1 E E ?_
  cases h
  exact JS.ret aA () V E E [] E
 refine JS.skip (JS.seq (aC aA 3 [(12,.v (I (a.length:Int))),(13,.v (I 0))] ⟨(Es E),E⟩ E E ?_))
 obtain ⟨i,m,h⟩:=aN h
 refine aX (ι:=Unit) ⟨fun _=>i ()=some r,fun _=>[],fun _=>.nil,fun _=>[],fun _=>[],fun _=>0⟩ ?_ ?_
 ·
  refine JS.loop (ι:=Nat×Int) ⟨fun z=>aW (lC a c i) z.1 z.2=some r,fun z=>[(0,.v (sL d a e)),(1,.v (sL f c g)),(12,.v (I (a.length:Int))),(13,.v (I z.2))],fun z=>.nil,fun z=>[fI d e a,fI f g c],fun z=>[],fun z=>z.1⟩ (bG,0) h (Es E) V [0,1] E [] E ?_
  rintro ⟨j,b⟩ h
  obtain ⟨j,rfl,h⟩:=bC h
  rw [lC] at h
  refine aC aA 1 [(14,.v (.bool (decide (b<(a.length:Int)))))] ev1 E E (JS.seq ?_)
  refine aH E h (fun h=>?_) (fun h=>?_)
  ·
   refine JS.skip (JS.seq (JS.block (aC aA 2 [(5,.v (I b))] ev1 E E (JS.seq ?_))))
   obtain ⟨k,h⟩:=aK h
   obtain ⟨l,h⟩:=aK h
   refine cV 0 E fun n=>cV 1 E fun o=>dF E (by kernel_rfl) (cX aA 3 [] [(18,.ep ⟨d,a.length,e⟩ (Int.toNat b*1))] E ⟨n.ix k,ev2⟩ (JQ.load aA E E E E E E E 0 E E (Int.toNat b) 0 (at' a b) ⟨bD k,E⟩ E E (cX aA 3 [] [(22,.ep ⟨f,c.length,g⟩ (Int.toNat b*1))] E ⟨o.ix l,ev2⟩ (JQ.load aA E E E E E E E 1 E E (Int.toNat b) 0 (at' c b) ⟨bD l,E⟩ E E (cX aA 1 [] [(24,.v (.bool (!(decide ((at' a b)=(at' c b))))))] E ev2 (iN E ?_))))))
   refine aH E h (fun h=>?_) (fun h=>?_)
   ·
    refine aC aA 1 [(4,.v (.bool false))] ev1 E E ?_
    cases h
    exact JS.ret aA () V E E [] E
   refine JS.skip (aV (bY aA 2 [(W (b+1))] [] [(13,.v (I (W (b+1))))] _ ev3 E E (bR (j,(W (b+1))) h (Nat.lt_succ_self _) (Es E) V [0,1] E [] E)))
  refine JS.exit E (aQ () h V V [] E [] E)
 rintro _ h
 subst m
 refine aC aA 1 [(4,.v (.bool true))] ev1 E E ?_
 cases h
 exact JS.ret aA () V E E [] E

def tG (d:List (List Int×Int)) (c:List Int×Int):Option ((List (List Int×Int))×Bool):= (aF (pS d) fun e=>(bW ((!e)=false) (eQ c) false fun g=>(bif (bif (!e) then true else (!g)) then some ([],false) else (aF (kI d) fun a=>(aP (((decide (0<(a.length:Int)))=true)→0≤(W ((a.length:Int) - 1))∧(W ((a.length:Int) - 1))<(a.length:Int)) <|(bW ((decide (0<(a.length:Int)))=true) (nQ ((at' a (W ((a.length:Int) - 1))).1) c.1) false fun h=>(bif (bif decide (0<(a.length:Int)) then h else false) then some (a,true) else (aF (cY c) fun b=>(aP (a.length+([b]:List (List Int×Int)).length≤536870912) <|(aS (fun (i:List (List Int×Int))=> some (i,true)) fun f=>(bif (decide (20<((a ++ ([b]:List (List Int×Int))).length:Int))) then (aP (0≤(1:Int)∧(1:Int)≤((a ++ ([b]:List (List Int×Int))).length:Int)∧((a ++ ([b]:List (List Int×Int))).length:Int)≤((a ++ ([b]:List (List Int×Int))).length:Int)) <|f (bU (a ++ ([b]:List (List Int×Int))) 1 ((a ++ ([b]:List (List Int×Int))).length:Int))) else f (a ++ ([b]:List (List Int×Int))))))))))))))

theorem aKg (f:List (List Int×Int)) (b:List Int×Int) (g:Option Addr) (i:Nat) (c:Option Addr) (d:Nat) (r:(List (List Int×Int))×Bool) (h:tG f b=some r):
 FC Tryz.prog 264 [.agg #[sL g f i],.agg #[sL c b.1 d,I b.2]] [⟨(.pair (.sl iT) iT),⟨g,f.length,i⟩,f⟩,fI c d b.1] (fun _:Option Addr×Nat=>True) (fun q=>.tuple #[.agg #[sL q.1 r.1 q.2],.bool r.2]) (fun q=>[⟨(.pair (.sl iT) iT),⟨q.1,r.1.length,q.2⟩,r.1⟩]):= by
 refine FC.of (T:=TTx) Tryz.call264 Tryz.func264 E E fun Y=>?_
 unfold tG at h
 refine aM aA 4 [] [3,4,5] [(2,.bp 3 0),(3,.bp 4 0),(4,.bp 5 0)] (.new 3 44 [sL g f i] (.new 4 38 [sL c b.1 d,I b.2] (.new 5 44 [.slice none 0 0] .nil))) ⟨(Es E),(Bs E E)⟩ E E (JS.seq (JS.seq (JS.region (aB aA 1 [] [] [(8,.v (.agg #[sL g f i]))] _ E ev1 ?_))))
 refine bnw h fun s A h=>JO.call E E E E (aAa f g i _ A) E [0] E E fun _ _=>aB aA 3 [] [] [(11,.v (.bool (!s))),(12,.cd [(11,false)] (.v (.agg #[sL c b.1 d,I b.2])))] _ E ⟨(Es E),E⟩ ?_
 obtain ⟨B,C,-,h⟩:=aY h
 refine bL E E E E (fun D=>hX b c d _ (C D)) E [1] E E (aB aA 2 [] [] [(15,.v (.bool (bif (!s) then true else (!B))))] _ E ev1 (aD E ?_))
 refine aH E h (fun h=>?_) (fun h=>?_)
 ·
  refine aM aA 3 [] [] [(5,.v (.bool false))] (.new 5 44 [.slice none 0 0] .nil) ⟨ev2,(Bs E E)⟩ E E ?_
  cases h
  refine aZ (.pair (.sl iT) iT) Sl.nil E E (JS.ret aA (none,0) V E E [0] E)
 refine JS.skip (JS.seq (JS.region (aB aA 1 [] [] [(17,.v (.agg #[sL g f i]))] _ E ev1 ?_)))
 refine bnw h fun a F h=>JO.call E E E E (wK f g i _ F) E [0] E E ?_
 rintro ⟨j,k⟩ -
 refine aL aA 2 [] [15] [(6,.bp 15 0)] (.new 4 38 [sL c b.1 d,I b.2] (.new 5 44 [.slice none 0 0] (.new 15 44 [sL j a k] .nil))) E ⟨ev2,(Bs E E)⟩ (aD E (JS.seq (aC aA 4 [(7,.v (I (a.length:Int)))] ev1 E E (JS.seq ?_))))
 obtain ⟨l,h⟩:=aK h
 obtain ⟨G,H,-,h⟩:=aY h
 refine wQ (id:=0) (wF [0] E (Int.toNat (W ((a.length:Int) - 1))) (at' a (W ((a.length:Int) - 1))) E ?_)
 intro m n J K
 obtain rfl:([sL m ((at' a (W ((a.length:Int) - 1))).1) n,I (at' a (W ((a.length:Int) - 1))).2]:List Value)=J:=Option.some.inj K
 refine wR (cV 2 E fun t=>dF E (by kernel_rfl) (cX aA 9 [(W ((a.length:Int) - 1))] [(24,.v (.bool (decide (0<(a.length:Int))))),(30,.cd [(24,true)] (.ep ⟨j,a.length,k⟩ (Int.toNat (W ((a.length:Int) - 1))*2)))] E ⟨(fun Z=>ev5),(fun L=>(t.cast (gJ _ _ _)).ix (l L)),(fun M=>(t.cast (gJ _ _ _)).fa (l M)),(Es E)⟩ (xV aA E E E E E E 2 E E (Int.toNat (W ((a.length:Int) - 1))) 0 (Sum.inr [sL m ((at' a (W ((a.length:Int) - 1))).1) n,I (at' a (W ((a.length:Int) - 1))).2]) (fun N=>⟨nW (bD (l N)),E⟩) E E E (cX aA 2 [] [(33,.cd [(24,true)] (.v (sL c b.1 d)))] E ev2 (JQ.call E E E E (fun O=>aBh ((at' a (W ((a.length:Int) - 1))).1) b.1 m n c d _ (H O)) E [3,1] E E (cX aA 1 [] [(35,.v (.bool (bif (decide (0<(a.length:Int))) then G else false)))] E ev2 (iN E ?_)))))))
 refine wQ (id:=0) (aB6 [0,0] E (at' a (W ((a.length:Int) - 1))) E ev8 (wR ?_))
 refine aH E h (fun h=>?_) (fun h=>?_)
 ·
  refine aM aA 3 [] [] [(5,.v (.bool true))] (.new 5 44 [sL j a k] .nil) ⟨ev2,(Bs E E)⟩ E E ?_
  cases h
  exact JS.ret aA (j,k) V E E [0] E
 refine JS.skip (JS.seq ?_)
 obtain ⟨e,P,h⟩:=aE h
 obtain ⟨Q,h⟩:=aK h
 refine bF E (.new 4 38 [sL c b.1 d,I b.2] (.new 15 44 [sL j a k] .nil)) [] [5,6,7] ev6 E (fun a0=>?_)
 refine bX aA aJ true 5 [0,1,2] E (by kernel_rfl) [] [(38,.v (sL j a k)),(39,.v (.agg #[sL c b.1 d,I b.2]))] ev6 [] E E (Es E) (JA.one 3 (by kernel_rfl) (JK.call E E E E (eG b c d _ P) E [1] E E ?_))
 rintro ⟨a1,a2⟩ -
 refine aU ev6 [] E (JA.one 4 (by kernel_rfl) (JK.buildSlice aA E E E E E E E E E E E [0] E (.pair (.sl iT) iT) [e] ev8 E E fun a4=>aU ev6 [] E (JA.one 5 (by kernel_rfl) (jX aA E E E E ⟨E,E,E,E,V,E,E,E,E⟩ E E [1,0] E Q E fun o p=>aR E (aT aA aJ 1 [6] E (by kernel_rfl) [] [(43,.bp 15 0)] E ev2 (JA.one 7 (by kernel_rfl) (bH aA E E E E E E E E (aR E (bM (by kernel_rfl) (bE (B':=(.new 5 44 [.slice none 0 0] (.new 15 44 [sL o (a ++ ([e]:List (List Int×Int))) p] .nil))) (Bs E E) ?_))))))))))
 obtain ⟨R,S,h⟩:=aN h
 refine bZ (ι:=(List (List Int×Int))×Option Addr×Nat) ⟨fun z=>R z.1=some r,fun z=>[(4,.bp 5 0),(6,.bp 15 0)],fun z=>(.new 5 44 [.slice none 0 0] (.new 15 44 [sL z.2.1 z.1 z.2.2] .nil)),fun z=>[],fun z=>[⟨(.pair (.sl iT) iT),⟨z.2.1,z.1.length,z.2.2⟩,z.1⟩],fun z=>0⟩ ?_ ?_
 ·
  refine aC aA 4 [(47,.v (.bool (decide (20<((a ++ ([e]:List (List Int×Int))).length:Int)))))] ev1 E E ?_
  refine aH E h (fun h=>?_) (fun h=>?_)
  ·
   refine JS.region (aB aA 2 [] [] [(49,.v (sL o (a ++ ([e]:List (List Int×Int))) p))] _ E ev1 ?_)
   obtain ⟨U,h⟩:=aK h
   refine yS aA E E E E E E E E [0] E (1:Int) ((a ++ ([e]:List (List Int×Int))).length:Int) E E U E fun u w=>aL aA 2 [] [] [] (.new 5 44 [.slice none 0 0] (.new 15 44 [sL u (bU (a ++ ([e]:List (List Int×Int))) 1 ((a ++ ([e]:List (List Int×Int))).length:Int)) w] .nil)) E ⟨V,(Bs E E)⟩ (aD E (aQ ((bU (a ++ ([e]:List (List Int×Int))) 1 ((a ++ ([e]:List (List Int×Int))).length:Int)),u,w) h (Es E) (Bs E E) [] E [0] E))
  refine JS.skip (aQ ((a ++ ([e]:List (List Int×Int))),o,p) h (Es E) (Bs E E) [] E [0] E)
 rintro ⟨X,x,y⟩ h
 subst S
 refine aM aA 3 [] [] [(5,.v (.bool true))] (.new 5 44 [sL x X y] .nil) ⟨ev2,(Bs E E)⟩ E E ?_
 cases h
 exact JS.ret aA (x,y) V E E [0] E

def oW (b:EdQ) (c:List Int×Int) (d:Int):Option EdQ:= (aF (dQ b d) fun a=>(aS (fun (g:List (List Int×Int))=>(aF (cY c) fun e=>(aF (iW e b.2.1) fun h=> some (a.1,a.2.1,(e.1,h.2),a.2.2.2.1,a.2.2.2.2.1,a.2.2.2.2.2.1,a.2.2.2.2.2.2.1,a.2.2.2.2.2.2.2.1,a.2.2.2.2.2.2.2.2.1,a.2.2.2.2.2.2.2.2.2.1,a.2.2.2.2.2.2.2.2.2.2.1,g,a.2.2.2.2.2.2.2.2.2.2.2.2.1,a.2.2.2.2.2.2.2.2.2.2.2.2.2.1,a.2.2.2.2.2.2.2.2.2.2.2.2.2.2.1,a.2.2.2.2.2.2.2.2.2.2.2.2.2.2.2.1,a.2.2.2.2.2.2.2.2.2.2.2.2.2.2.2.2)))) fun f=>(aF (nQ c.1 b.2.2.1.1) fun i=>(bif (bif (!i) then (!(bif decide (d=1) then (decide (b.2.2.2.2.2.2.2.2.2.1=1)) else false)) else false) then (aF (tG b.2.2.2.2.2.2.2.2.2.2.2.1 b.2.2.1) fun (j,k)=> f j) else f a.2.2.2.2.2.2.2.2.2.2.2.1))))

theorem wY (c:EdQ) (d:List Int×Int) (i:Int) (b:P6) (e:Option Addr) (f:Nat) (r:EdQ) (h:oW c d i=some r):
 FC Tryz.prog 203 [.agg (cD c b).toArray,.agg #[sL e d.1 f,I d.2],I i] (bP c b [fI e f d.1]) (fun _:P6=>True) (fun q=>.agg (aG r q).toArray) (fun q=>(bP r q [])):= by
 refine FC.of (T:=TTx) Tryz.call203 Tryz.func203 E E fun G=>?_
 unfold oW at h
 refine aM aA 3 [] [8,9,10] [(3,.bp 8 0),(4,.bp 9 0),(6,.bp 10 0)] (.new 8 46 (aG c b) (.new 9 38 [sL e d.1 f,I d.2] (.new 10 46 bA .nil))) ⟨(Es E),(Bs E E)⟩ E E (JS.seq (JS.region (aB aA 2 [] [] [(8,.v (.agg (aG c b).toArray)),(9,.v (I i))] _ E ⟨(Es E),E⟩ ?_)))
 refine bnw h fun g w h=>JO.call E E E E (nG c i b _ w) E [0,1,2,3,4,5] E E fun a _=>aL aA 2 [] [31] [(7,.bp 31 0)] (.new 8 46 (aG c b) (.new 9 38 [sL e d.1 f,I d.2] (.new 10 46 bA (.new 31 46 (aG g a) .nil)))) E ⟨ev2,(Bs E E)⟩ (aD E ?_)
 obtain ⟨x,y,h⟩:=aN h
 refine bZ (ι:=(List (List Int×Int))×Option Addr×Nat) ⟨fun z=>x z.1=some r,fun z=>[(3,.bp 8 0),(4,.bp 9 0),(6,.bp 10 0),(7,.bp 31 0)],fun z=>(.new 8 46 (aG c b) (.new 9 38 [sL e d.1 f,I d.2] (.new 10 46 bA (.new 31 46 (aG (U11 g z.1) (a.1,a.2.1,a.2.2.1,a.2.2.2.1,z.2.1,z.2.2,(Q4 a).2.2)) .nil)))),fun z=>(bP c b [fI e f d.1]),fun z=>[⟨(.pair (.sl iT) iT),⟨z.2.1,z.1.length,z.2.2⟩,z.1⟩,fI a.1 a.2.1 g.2.2.1.1,⟨(.sl iT),⟨a.2.2.1,(Q8 g).2.2.1.length,a.2.2.2.1⟩,(Q8 g).2.2.1⟩,fI (Q4 a).2.2.1 (Q4 a).2.2.2.1 (Q12 g).2.1.1,fI (Q8 a).1 (Q8 a).2.1 (Q12 g).2.2.1,fI (Q8 a).2.2.1 (Q8 a).2.2.2 (Q16 g).1],fun z=>0⟩ ?_ ?_
 ·
  refine JS.seq (JS.region (aB aA 5 [] [] [(12,.v (sL e d.1 f)),(15,.v (sL b.1 c.2.2.1.1 b.2.1))] _ E ⟨(Es E),E⟩ ?_))
  refine bnw h fun A B h=>JO.call E E E E (aBh d.1 c.2.2.1.1 e f b.1 b.2.1 _ B) E [6,0] E E fun _ _=>aB aA 11 [] [] [(27,.v (.bool (bif (!A) then (!(bif (decide (i=1)) then (decide ((Q8 c).2.1=1)) else false)) else false)))] _ E ev1 (aD E ?_)
  refine aH E h (fun h=>?_) (fun h=>?_)
  ·
   refine JS.region (aB aA 4 [] [] [(30,.v (.agg #[sL (Q4 b).1 (Q8 c).2.2.2.1 (Q4 b).2.1])),(32,.v (.agg #[sL b.1 c.2.2.1.1 b.2.1,I c.2.2.1.2]))] _ E ⟨(Es E),E⟩ ?_)
   obtain ⟨⟨o,H⟩,C,h⟩:=aE h
   refine JO.call E E E E (aKg (Q8 c).2.2.2.1 c.2.2.1 (Q4 b).1 (Q4 b).2.1 b.1 b.2.1 _ C) E [2,0] E E ?_
   rintro ⟨p,s⟩ -
   refine aL aA 5 [] [] [] (.new 8 46 (aG c b) (.new 9 38 [sL e d.1 f,I d.2] (.new 10 46 bA (.new 31 46 (aG (U11 g o) (a.1,a.2.1,a.2.2.1,a.2.2.2.1,p,s,(Q4 a).2.2)) .nil)))) E ⟨V,(Bs E E)⟩ (aD E (bT (o,p,s) h (Es E) (Bs E E) [0,1,2,3,4,5,6] E [0,1,2,4,5,6] E E))
  refine JS.skip (bT ((Q8 g).2.2.2.1,(Q4 a).1,(Q4 a).2.1) h (Es E) (Bs E E) [0,1,2,3,4,5,6] E [2,0,1,3,4,5] E E)
 rintro ⟨t,l,m⟩ h
 subst y
 refine JS.seq ?_
 obtain ⟨n,D,h⟩:=aE h
 refine bnw h fun u F h=>bF E (.new 8 46 (aG c b) (.new 9 38 [sL e d.1 f,I d.2] .nil)) [] [4,5,6] ev6 E (fun J=>?_)
 refine bX aA aJ true 4 [0,2,3] E (by kernel_rfl) [] [(37,.v (.agg #[sL e d.1 f,I d.2])),(40,.v (I c.2.1))] ev6 [] E E (Es E) (JA.one 1 (by kernel_rfl) (JK.call E E E E (eG d e f _ D) E [6] E E ?_))
 rintro ⟨j,k⟩ -
 refine aU ev6 [] E (JA.one 4 (by kernel_rfl) (JK.call E E E E (uR n c.2.1 j k _ F) E [7] E E fun _ _=>aR E (aT aA aJ 1 [5] E (by kernel_rfl) [] [(42,.bp 31 2)] E ev2 (JA.one 6 (by kernel_rfl) (bH aA E E E E E E E E (aR E (bM (by kernel_rfl) (bE (B':=(.new 10 46 bA (.new 31 46 (aG (U11 (U2 g (n.1,u.2)) t) (j,k,a.2.2.1,a.2.2.2.1,l,m,(Q4 a).2.2)) .nil))) (Bs E E) (aM aA 2 [] [] [] (.new 10 46 (aG (U11 (U2 g (n.1,u.2)) t) (j,k,a.2.2.1,a.2.2.2.1,l,m,(Q4 a).2.2)) .nil) ⟨V,(Bs E E)⟩ E E ?_)))))))))
 cases h
 exact JS.ret aA (j,k,a.2.2.1,a.2.2.2.1,l,m,(Q4 a).2.2) V E E [0,2,0,1,1,1] E

def iH (a:EdQ) (b:List Int×Int):Option (EdQ×Int):= (aF (oW a b 0) fun c=> some (c,0))

theorem nU (b:EdQ) (a:List Int×Int) (c:P6) (d:Option Addr) (e:Nat) (r:EdQ×Int) (h:iH b a=some r):
 FC Tryz.prog 169 [.agg (cD b c).toArray,.agg #[sL d a.1 e,I a.2]] (bP b c [fI d e a.1]) (fun _:P6=>True) (fun q=>.tuple #[.agg (aG r.1 q).toArray,I r.2]) (fun q=>(bP r.1 q [])):= by
 refine FC.of (T:=TTx) Tryz.call169 Tryz.func169 E E fun j=>?_
 unfold iH at h
 refine aM aA 4 [] [8,9,10] [(2,.bp 8 0),(3,.bp 9 0),(4,.bp 10 0)] (.new 8 46 (aG b c) (.new 9 38 [sL d a.1 e,I a.2] (.new 10 46 bA .nil))) ⟨(Es E),(Bs E E)⟩ E E (JS.seq (JS.region (aB aA 2 [] [] [(6,.v (.agg (aG b c).toArray)),(7,.v (.agg #[sL d a.1 e,I a.2]))] _ E ⟨(Es E),E⟩ ?_)))
 refine bnw h fun g i h=>JO.call E E E E (wY b a 0 c d e _ i) E [0,1,2,3,4,5,6] E E fun f _=>aL aA 2 [] [] [(5,.v (I 0))] (.new 10 46 (aG g f) .nil) E ⟨ev2,(Bs E E)⟩ (aD E ?_)
 cases h
 exact JS.ret aA f V E E [0,0,0,0,0,0] E

def vI (a:List Int×Int) (b:Int) (c:Int):Option Bool:= (aF (eQ a) fun d=> some (bif (bif (bif d then (decide (0≤b)) else false) then (decide (b≤c)) else false) then (decide (c≤(a.1.length:Int))) else false))

theorem aMl (a:List Int×Int) (d:Int) (e:Int) (b:Option Addr) (c:Nat) (r:Bool) (h:vI a d e=some r):
 FC Tryz.prog 260 [.agg #[sL b a.1 c,I a.2],I d,I e] [fI b c a.1] (fun _:Unit=>True) (fun _=>.bool r) (fun _=>[]):= by
 refine FC.of (T:=TTx) Tryz.call260 Tryz.func260 E E fun i=>?_
 unfold vI at h
 refine aM aA 2 [] [2] [(3,.bp 2 0)] (.new 2 38 [sL b a.1 c,I a.2] .nil) ⟨ev2,(Bs E E)⟩ E E (JS.seq (JS.region (aB aA 1 [] [] [(7,.v (.agg #[sL b a.1 c,I a.2]))] _ E ev1 ?_)))
 refine bnw h fun f g h=>JO.call E E E E (hX a b c _ g) E [0] E E fun _ _=>aB aA 17 [] [] [(6,.v (.bool (bif (bif (bif f then (decide (0≤d)) else false) then (decide (d≤e)) else false) then (decide (e≤(a.1.length:Int))) else false)))] _ E ev1 (aD E ?_)
 cases h
 exact JS.ret aA () V E E [] E

def jW (a:List Int×Int) (b:Int) (c:Int):Option ((List Int×Int)×List Int×Bool):= (aF (vI a b c) fun f=>(bif (!f) then some (([],0),[],false) else (aS (fun (g:List Int)=>(aS (fun (h:Int)=>(aP (0≤b∧b≤c∧c≤(a.1.length:Int)) <|(aF (cQ (bU a.1 b c)) fun i=> some ((g,h),i,true)))) fun d=>(bif decide (c≤a.2) then d (W (a.2 - (W (c - b)))) else (bif decide (b<a.2) then d b else d a.2)))) fun j=>(aP (0≤(0:Int)∧(0:Int)≤b∧b≤(a.1.length:Int)) <|(aF (cQ (bU a.1 (0:Int) b)) fun e=>(aP (0≤c∧c≤(a.1.length:Int)∧(a.1.length:Int)≤(a.1.length:Int)) <|(aP (e.length+(bU a.1 c (a.1.length:Int)).length≤536870912) <|j (e ++ (bU a.1 c (a.1.length:Int))))))))))

theorem yJ (a:List Int×Int) (c:Int) (b:Int) (d:Option Addr) (e:Nat) (r:(List Int×Int)×List Int×Bool) (h:jW a c b=some r):
 FC Tryz.prog 202 [.agg #[sL d a.1 e,I a.2],I c,I b] [fI d e a.1] (fun _:Option Addr×Nat×Option Addr×Nat=>True) (fun q=>.tuple #[.agg #[sL q.1 r.1.1 q.2.1,I r.1.2],sL q.2.2.1 r.2.1 q.2.2.2,.bool r.2.2]) (fun q=>[fI q.1 q.2.1 r.1.1,fI q.2.2.1 q.2.2.2 r.2.1]):= by
 refine FC.of (T:=TTx) Tryz.call202 Tryz.func202 E E fun U=>?_
 unfold jW at h
 refine aM aA 4 [] [2,3] [(3,.bp 2 0),(6,.bp 3 0)] (.new 2 38 [sL d a.1 e,I a.2] (.new 3 38 [.slice none 0 0,I 0] .nil)) ⟨(Es E),(Bs E E)⟩ E E (JS.seq (JS.seq (JS.region (aB aA 3 [] [] [(10,.v (.agg #[sL d a.1 e,I a.2])),(11,.v (I c)),(12,.v (I b))] _ E ⟨(Es E),E⟩ ?_))))
 refine bnw h fun B C h=>JO.call E E E E (aMl a c b d e _ C) E [0] E E fun _ _=>aB aA 1 [] [] [(14,.v (.bool (!B)))] _ E ev1 (aD E ?_)
 refine aH E h (fun h=>?_) (fun h=>?_)
 ·
  refine aM aA 4 [] [] [(7,.v (.slice none 0 0)),(8,.v (.bool false))] (.new 3 38 [.slice none 0 0,I 0] .nil) ⟨(Es E),(Bs E E)⟩ E E ?_
  cases h
  refine aZ iT Sl.nil E E (aZ iT Sl.nil E E (JS.ret aA (none,0,none,0) V E E [1,0] E))
 refine JS.skip (JS.seq ?_)
 obtain ⟨D,F,h⟩:=aN h
 refine yR (ι:=List Int×Option Addr×Nat) ⟨fun z=>D z.1=some r,fun z=>[(1,.v (I c)),(2,.v (I b)),(3,.bp 2 0),(6,.bp 3 0),(9,.bp 25 0)],fun z=>(.new 2 38 [sL d a.1 e,I a.2] (.new 3 38 [.slice none 0 0,I 0] (.new 25 38 [sL z.2.1 z.1 z.2.2,I a.2] .nil))),fun z=>[fI d e a.1],fun z=>[fI z.2.1 z.2.2 z.1],fun z=>0⟩ ?_ ?_
 ·
  obtain ⟨m,h⟩:=aK h
  obtain ⟨i,t,h⟩:=aE h
  obtain ⟨n,h⟩:=aK h
  obtain ⟨p,h⟩:=aK h
  refine oX 0 E (0:Int) c fun u w G=>oX 1 E b (a.1.length:Int) fun X Y H=>cV 2 E fun x=>?_
  refine bF E (.new 2 38 [sL d a.1 e,I a.2] .nil) [] [12,14] ev4 E (fun Z=>?_)
  refine bX aA aJ true 7 [0,1,2,5,6,7,10,11] E (by kernel_rfl) [] [(17,.v (sL d a.1 e)),(18,.v (I c)),(22,.v (sL d a.1 e)),(23,.v (I b)),(27,.v (I a.2))] ev4 [] E E (Es E) (gN aA aJ 3 E (by kernel_rfl) E E E E E E (0:Int) c E E ⟨m.1,m.2.1,m.2.2,x.cap,G m⟩ E (gN aA aJ 8 E (by kernel_rfl) E E E E E E b (a.1.length:Int) E E ⟨n.1,n.2.1,n.2.2,x.cap,H n⟩ E ?_))
  refine JA.all (rs:=[4,13]) (by kernel_rfl) E (List.forall_mem_cons.2 ⟨?_,List.forall_mem_cons.2 ⟨?_,(fun _ hx=>absurd hx List.not_mem_nil)⟩⟩)
  ·
   refine JK.call E E E E (dH (bU a.1 (0:Int) c) u w _ t) E [1] E E ?_
   rintro ⟨J,K⟩ -
   refine aU ev4 [] E ?_
   refine JA.all (rs:=[9,13]) (by kernel_rfl) E (List.forall_mem_cons.2 ⟨?_,List.forall_mem_cons.2 ⟨?_,(fun _ hx=>absurd hx List.not_mem_nil)⟩⟩)
   ·
    refine dG aA E E E E ⟨E,E,E,E,V,E,E,E,E⟩ E E E [0] E 0 E p E fun f g=>aU ev4 [] E (aT aA aJ 2 [12] E (by kernel_rfl) [] [(28,.v (.agg #[sL f (i ++ (bU a.1 b (a.1.length:Int))) g,I a.2]))] E ev2 (JA.one 13 (by kernel_rfl) (JK.alloc aA E E E E E 25 E (eZ _ E) (aU ev4 [] E (JA.one 14 (by kernel_rfl) (bH aA E E E E E E E E (aR E (bM (by kernel_rfl) (bE (B':=(.new 2 38 [sL d a.1 e,I a.2] (.new 3 38 [.slice none 0 0,I 0] (.new 25 38 [sL f (i ++ (bU a.1 b (a.1.length:Int))) g,I a.2] .nil)))) (Bs E E) (aQ ((i ++ (bU a.1 b (a.1.length:Int))),f,g) h (Es E) (Bs E E) [2] E [0] E))))))))))
   refine JK.alloc aA E E E E E 25 E (eZ _ E) (aU ev4 [] E (JA.one 9 (by kernel_rfl) (dG aA E E E E ⟨E,E,E,E,V,E,E,E,E⟩ E E E [0] E 0 E p E fun f g=>aU ev4 [] E (aT aA aJ 1 [12] E (by kernel_rfl) [] [(28,.v (.agg #[sL f (i ++ (bU a.1 b (a.1.length:Int))) g,I a.2]))] E ev2 (JA.one 14 (by kernel_rfl) (bH aA E E E E E E E E (aR E (bM (by kernel_rfl) (bE (B':=(.new 2 38 [sL d a.1 e,I a.2] (.new 3 38 [.slice none 0 0,I 0] (.new 25 38 [sL f (i ++ (bU a.1 b (a.1.length:Int))) g,I a.2] .nil)))) (Bs E E) (aQ ((i ++ (bU a.1 b (a.1.length:Int))),f,g) h (Es E) (Bs E E) [2] E [0] E))))))))))
  refine JK.alloc aA E E E E E 25 E (eZ _ E) (aU ev4 [] E (JA.one 4 (by kernel_rfl) (JK.call E E E E (dH (bU a.1 (0:Int) c) u w _ t) E [1] E E ?_)))
  rintro ⟨J,K⟩ -
  refine aU ev4 [] E (JA.one 9 (by kernel_rfl) (dG aA E E E E ⟨E,E,E,E,V,E,E,E,E⟩ E E E [0] E 0 E p E fun f g=>aU ev4 [] E (aT aA aJ 1 [12] E (by kernel_rfl) [] [(28,.v (.agg #[sL f (i ++ (bU a.1 b (a.1.length:Int))) g,I a.2]))] E ev2 (JA.one 14 (by kernel_rfl) (bH aA E E E E E E E E (aR E (bM (by kernel_rfl) (bE (B':=(.new 2 38 [sL d a.1 e,I a.2] (.new 3 38 [.slice none 0 0,I 0] (.new 25 38 [sL f (i ++ (bU a.1 b (a.1.length:Int))) g,I a.2] .nil)))) (Bs E E) (aQ ((i ++ (bU a.1 b (a.1.length:Int))),f,g) h (Es E) (Bs E E) [2] E [0] E)))))))))
 rintro ⟨l,j,k⟩ h
 subst F
 refine JS.seq ?_
 obtain ⟨L,M,h⟩:=aN h
 refine aX (ι:=Int) ⟨fun z=>L z=some r,fun z=>[(1,.v (I c)),(2,.v (I b)),(3,.bp 2 0),(6,.bp 3 0),(9,.bp 25 0)],fun z=>(.new 2 38 [sL d a.1 e,I a.2] (.new 3 38 [.slice none 0 0,I 0] (.new 25 38 [sL j l k,I z] .nil))),fun z=>[fI d e a.1],fun z=>[fI j k l],fun z=>0⟩ ?_ ?_
 ·
  refine aC aA 5 [(29,.v (.bool (decide (b≤a.2))))] ev1 E E ?_
  refine aH E h (fun h=>?_) (fun h=>?_)
  ·
   refine wP aA 8 [(W (b - c)),(W (a.2 - (W (b - c))))] [] [] (.new 2 38 [sL d a.1 e,I a.2] (.new 3 38 [.slice none 0 0,I 0] (.new 25 38 [sL j l k,I (W (a.2 - (W (b - c))))] .nil))) ⟨ev5,ev5,V,(Bs E E)⟩ E E (aV (aQ (W (a.2 - (W (b - c)))) h (Es E) (Bs E E) [0] E [0] E))
  refine aC aA 5 [(41,.v (.bool (decide (c<a.2))))] ev1 E E ?_
  refine aH E h (fun h=>?_) (fun h=>?_)
  ·
   refine wP aA 3 [] [] [] (.new 2 38 [sL d a.1 e,I a.2] (.new 3 38 [.slice none 0 0,I 0] (.new 25 38 [sL j l k,I c] .nil))) ⟨V,(Bs E E)⟩ E E (aV (aQ c h (Es E) (Bs E E) [0] E [0] E))
  refine JS.skip (aV (aQ a.2 h (Es E) (Bs E E) [0] E [0] E))
 rintro s h
 subst M
 refine JS.seq ?_
 obtain ⟨o,h⟩:=aK h
 refine bnw h fun N O h=>oX 0 E c b fun P Q R=>cV 1 E fun S=>?_
 refine bF E (.new 2 38 [sL d a.1 e,I a.2] (.new 25 38 [sL j l k,I s] .nil)) [] [7,8,9] ev6 E (fun a0=>?_)
 refine bX aA aJ true 5 [0,1,2,3,4] E (by kernel_rfl) [] [(48,.v (.agg #[sL j l k,I s])),(50,.v (sL d a.1 e)),(51,.v (I c)),(52,.v (I b))] ev6 [] E E (Es E) (gN aA aJ 5 E (by kernel_rfl) E E E E E E c b E E ⟨o.1,o.2.1,o.2.2,S.cap,R o⟩ E (JA.one 6 (by kernel_rfl) (JK.call E E E E (dH (bU a.1 c b) P Q _ O) E [0] E E ?_)))
 rintro ⟨y,A⟩ -
 refine aU ev6 [] E (JA.one 7 (by kernel_rfl) (bH aA E E E E E E E E (aR E (aT aA aJ 0 [8,9] E (by kernel_rfl) [] [(7,.v (sL y N A)),(8,.v (.bool true))] E (Es E) (bM (by kernel_rfl) (bE (B':=(.new 3 38 [sL j l k,I s] .nil)) (Bs E E) ?_))))))
 cases h
 exact JS.ret aA (j,k,y,A) V E E [1,0] E

def yQ (a:EdQ) (b:Int) (c:Int):Option (EdQ×Int):= (aF (jW a.2.2.1 b c) fun (d,e,f)=>(bif (bif (!f) then true else (decide ((e.length:Int)=0))) then (aF (cZ a) fun (g,h)=> some (g,h)) else (aF (iH a d) fun (i,j)=> some (i,j))))

theorem aGh (a:EdQ) (d:Int) (e:Int) (b:P6) (r:EdQ×Int) (h:yQ a d e=some r):
 FC Tryz.prog 168 [.agg (cD a b).toArray,I d,I e] (bP a b []) (fun _:P6=>True) (fun q=>.tuple #[.agg (aG r.1 q).toArray,I r.2]) (fun q=>(bP r.1 q [])):= by
 refine FC.of (T:=TTx) Tryz.call168 Tryz.func168 E E fun y=>?_
 unfold yQ at h
 refine aM aA 3 [] [7,8] [(3,.bp 7 0),(6,.bp 8 0)] (.new 7 46 (aG a b) (.new 8 46 bA .nil)) ⟨(Es E),(Bs E E)⟩ E E (JS.seq (JS.region (aB aA 4 [] [] [(13,.v (.agg #[sL b.1 a.2.2.1.1 b.2.1,I a.2.2.1.2])),(14,.v (I d)),(15,.v (I e))] _ E ⟨(Es E),E⟩ ?_)))
 obtain ⟨⟨c,i,j⟩,m,h⟩:=aE h
 refine JO.call E E E E (yJ a.2.2.1 d e b.1 b.2.1 _ m) E [0] E E ?_
 rintro ⟨f,g,n,o⟩ -
 refine aL aA 8 [] [19] [(8,.bp 19 0),(9,.v (sL n i o)),(10,.v (.bool j))] (.new 7 46 (aG a b) (.new 8 46 bA (.new 19 38 [sL f c.1 g,I c.2] .nil))) E ⟨(Es E),(Bs E E)⟩ (aD E (JS.seq (aC aA 7 [(26,.v (.bool (bif (!j) then true else (decide ((i.length:Int)=0)))))] ev1 E E ?_)))
 refine aH E h (fun h=>?_) (fun h=>?_)
 ·
  refine JS.seq (JS.region (aB aA 1 [] [] [(27,.v (.agg (aG a b).toArray))] _ E ev1 ?_))
  obtain ⟨⟨p,s⟩,t,h⟩:=aE h
  refine JO.call E E E E (dR a b _ t) E [0,1,2,3,4,5] E E fun k _=>aL aA 4 [] [] [(7,.v (I s))] (.new 8 46 (aG p k) .nil) E ⟨ev2,(Bs E E)⟩ (aD E ?_)
  cases h
  exact JS.ret aA k V E E [0,0,0,0,0,0] E
 refine JS.skip (JS.seq (JS.region (aB aA 2 [] [] [(31,.v (.agg (aG a b).toArray)),(32,.v (.agg #[sL f c.1 g,I c.2]))] _ E ⟨(Es E),E⟩ ?_)))
 obtain ⟨⟨u,w⟩,x,h⟩:=aE h
 refine JO.call E E E E (nU a c b f g _ x) E [0,1,2,3,4,5,6] E E fun l _=>aL aA 4 [] [] [(7,.v (I w))] (.new 8 46 (aG u l) .nil) E ⟨ev2,(Bs E E)⟩ (aD E ?_)
 cases h
 exact JS.ret aA l V E E [0,0,0,0,0,0] E

def dE (a:Int) (b:Int):Option Int:= some (max (0:Int) (min a b))

theorem jR (a:Int) (b:Int) (r:Int) (h:dE a b=some r) :
 FC Tryz.prog 200 [I a,I b] [] (fun _:Unit=>True) (fun _=>I r) (fun _=>[]):= by
 refine FC.of (T:=TTx) Tryz.call200 Tryz.func200 E E fun c=>?_
 unfold dE at h
 refine aC aA 1 [] ev5 E E (aC aA 5 [(4,.v (I (max (0:Int) (min a b))))] ev1 E E ?_)
 cases h
 exact JS.ret aA () V E E [] E

def jV (a:Int):Option Bool:= (aF (dK a 65 90) fun b=> some b)

theorem yH (a:Int) (r:Bool) (h:jV a=some r) :
 FC Tryz.prog 261 [I a] [] (fun _:Unit=>True) (fun _=>.bool r) (fun _=>[]):= by
 refine FC.of (T:=TTx) Tryz.call261 Tryz.func261 E E fun d=>?_
 unfold jV at h
 refine aC aA 1 [] ev5 E E (JS.seq (JS.region (aB aA 1 [] [] [(3,.v (I a))] _ E ev1 ?_)))
 refine bnw h fun b c h=>JO.call E E E E (eK a 65 90 _ c) E [] E E fun _ _=>aB aA 1 [] [] [(2,.v (.bool b))] _ E ev1 (aD E ?_)
 cases h
 exact JS.ret aA () V E E [] E

def wD (a:Int):Option Bool:= (aF (dK a 48 57) fun b=> some b)

theorem aKe (a:Int) (r:Bool) (h:wD a=some r) :
 FC Tryz.prog 197 [I a] [] (fun _:Unit=>True) (fun _=>.bool r) (fun _=>[]):= by
 refine FC.of (T:=TTx) Tryz.call197 Tryz.func197 E E fun d=>?_
 unfold wD at h
 refine aC aA 1 [] ev5 E E (JS.seq (JS.region (aB aA 1 [] [] [(3,.v (I a))] _ E ev1 ?_)))
 refine bnw h fun b c h=>JO.call E E E E (eK a 48 57 _ c) E [] E E fun _ _=>aB aA 1 [] [] [(2,.v (.bool b))] _ E ev1 (aD E ?_)
 cases h
 exact JS.ret aA () V E E [] E

def qJ (a:Int):Option Int:= (bif (bif (bif decide (a=9) then true else (decide (a=10))) then true else (decide (a=32))) then some 0 else (aF (gG a) fun b=>(bW (b=false) (jV a) false fun c=>(bW ((bif b then true else c)=false) (wD a) false fun d=>(bW ((decide (159<a))=true∧(bif (bif (bif b then true else c) then true else d) then true else (decide (a=95)))=false) (eI a) false fun e=>(bif (bif (bif (bif (bif b then true else c) then true else d) then true else (decide (a=95))) then true else (bif decide (159<a) then e else false)) then some 1 else some 2))))))

theorem aCs (a:Int) (r:Int) (h:qJ a=some r) :
 FC Tryz.prog 201 [I a] [] (fun _:Unit=>True) (fun _=>I r) (fun _=>[]):= by
 refine FC.of (T:=TTx) Tryz.call201 Tryz.func201 E E fun o=>?_
 unfold qJ at h
 refine aC aA 1 [] ev5 E E (JS.seq (JS.block (aC aA 11 [(3,.v (.bool (bif (bif (decide (a=9)) then true else (decide (a=10))) then true else (decide (a=32)))))] ev1 E E ?_)))
 refine aH E h (fun h=>?_) (fun h=>?_)
 ·
  refine aC aA 1 [(2,.v (I 0))] ev1 E E ?_
  cases h
  exact JS.ret aA () V E E [] E
 refine JS.seq (JS.region (aB aA 1 [] [] [(15,.v (I a))] _ E ev1 ?_))
 refine bnw h fun b e h=>JO.call E E E E (tR a _ e) E [] E E fun _ _=>aB aA 2 [] [] [(17,.v (.bool b)),(18,.cd [(17,false)] (.v (I a)))] _ E ⟨(Es E),E⟩ ?_
 obtain ⟨c,f,-,h⟩:=aY h
 refine bL E E E E (fun g=>yH a _ (f g)) E [] E E (aB aA 3 [] [] [(21,.v (.bool (bif b then true else c))),(22,.cd [(21,false)] (.v (I a)))] _ E ⟨(Es E),E⟩ ?_)
 obtain ⟨d,i,-,h⟩:=aY h
 refine bL E E E E (fun j=>aKe a _ (i j)) E [] E E (aB aA 10 [] [] [(29,.v (.bool (bif (bif (bif b then true else c) then true else d) then true else (decide (a=95))))),(32,.cd [(29,false)] (.v (.bool (decide (159<a))))),(33,.cd [(32,true),(29,false)] (.v (I a)))] _ E ⟨(Es E),E⟩ ?_)
 obtain ⟨k,l,-,h⟩:=aY h
 refine bL E E E E (fun m n=>mB a _ (l ⟨m,n⟩)) E [] E E (aB aA 3 [] [] [(14,.v (.bool (bif (bif (bif (bif b then true else c) then true else d) then true else (decide (a=95))) then true else (bif (decide (159<a)) then k else false))))] _ E ev1 (aD E ?_))
 refine aH E h (fun h=>?_) (fun h=>?_)
 ·
  refine aC aA 1 [(2,.v (I 1))] ev1 E E ?_
  cases h
  exact JS.ret aA () V E E [] E
 refine JS.skip (aV (aC aA 1 [(2,.v (I 2))] ev1 E E ?_))
 cases h
 exact JS.ret aA () V E E [] E

def eX (b:List Int) (a:Int) (d:Bool):Option Int:= (aP (0≤a∧a<(b.length:Int)) <|(aF (qJ (at' b a)) fun c=>(bif (bif d then (decide (c=2)) else false) then some 1 else some c)))

theorem hJ (a:List Int) (b:Int) (c:Bool) (d:Option Addr) (e:Nat) (r:Int) (h:eX a b c=some r):
 FC Tryz.prog 288 [sL d a e,I b,.bool c] [fI d e a] (fun _:Unit=>True) (fun _=>I r) (fun _=>[]):= by
 refine FC.of (T:=TTx) Tryz.call288 Tryz.func288 E E fun k=>?_
 unfold eX at h
 refine aC aA 1 [] ev5 E E (JS.seq (JS.region (bJ 0 E fun i=>?_)))
 obtain ⟨g,h⟩:=aK h
 refine aB aA 3 [] [] [(10,.ep ⟨d,a.length,e⟩ (Int.toNat b*1))] _ E ⟨i.ix g,ev2,E⟩ (JO.load aA E E E E E E E 0 E E (Int.toNat b) 0 (at' a b) ⟨bD g,E⟩ E E ?_)
 refine bnw h fun f j h=>JO.call E E E E (aCs (at' a b) _ j) E [] E E fun _ _=>aB aA 1 [] [] [(7,.v (I f))] _ E ev1 (aD E (JS.seq (aC aA 5 [(17,.v (.bool (bif c then (decide (f=2)) else false)))] ev1 E E ?_)))
 refine aH E h (fun h=>?_) (fun h=>?_)
 ·
  refine aC aA 1 [(6,.v (I 1))] ev1 E E ?_
  cases h
  exact JS.ret aA () V E E [] E
 refine JS.skip (aC aA 2 [(6,.v (I f))] ev1 E E ?_)
 cases h
 exact JS.ret aA () V E E [] E

def iK (b:List Int) (c:Bool) (d:Int→Option Int) (e:Int→Option Int):Int→Option Int:=fun a=>(bW ((decide (0<a))=true) (eX b (W (a - 1)) c) (0:Int) fun f=>(bif (bif decide (0<a) then (decide (f=0)) else false) then e (W (a - 1)) else d a))

def iJ (b:List Int) (c:Bool) (d:Int) (e:Int→Option Int) (f:Int→Option Int):Int→Option Int:=fun a=>(bW ((decide (0<a))=true) (eX b (W (a - 1)) c) (0:Int) fun g=>(bif (bif decide (0<a) then (decide (g=d)) else false) then f (W (a - 1)) else e a))

def jM (a:List Int) (d:Int) (b:Bool):Option Int:= (aF (dE d (a.length:Int)) fun e=>(aS (fun (c:Int)=>(bif decide (c=0) then some 0 else (aF (eX a (W (c - 1)) b) fun f=>(aS (fun (g:Int)=> some g) fun h=>(aW (iJ a b f h) bG c))))) fun i=>(aW (iK a b i) bG e)))

theorem yY (a:List Int) (i:Int) (d:Bool) (b:Option Addr) (c:Nat) (r:Int) (h:jM a i d=some r):
 FC Tryz.prog 246 [sL b a c,I i,.bool d] [fI b c a] (fun _:Unit=>True) (fun _=>I r) (fun _=>[]):= by
 refine FC.of (T:=TTx) Tryz.call246 Tryz.func246 E E fun D=>?_
 unfold jM at h
 refine aC aA 1 [] ev5 E E (JS.seq (JS.region (aB aA 3 [] [] [(8,.v (I i)),(10,.v (I (a.length:Int)))] _ E ⟨(Es E),E⟩ ?_)))
 refine bnw h fun k p h=>JO.call E E E E (jR i (a.length:Int) _ p) E [] E E fun _ _=>aB aA 1 [] [] [(1,.v (I k))] _ E ev1 (aD E (JS.seq ?_))
 obtain ⟨l,q,h⟩:=aN h
 refine aX (ι:=Int) ⟨fun z=>l z=some r,fun z=>[(0,.v (sL b a c)),(1,.v (I z)),(2,.v (.bool d))],fun z=>.nil,fun z=>[fI b c a],fun z=>[],fun z=>0⟩ ?_ ?_
 ·
  refine JS.loop (ι:=Nat×Int) ⟨fun z=>aW (iK a d l) z.1 z.2=some r,fun z=>[(0,.v (sL b a c)),(1,.v (I z.2)),(2,.v (.bool d))],fun z=>.nil,fun z=>[fI b c a],fun z=>[],fun z=>z.1⟩ (bG,k) h (Es E) V [0] E [] E ?_
  rintro ⟨m,e⟩ h
  obtain ⟨m,rfl,h⟩:=bC h
  rw [iK] at h
  refine JS.seq (JS.seq (JS.region (aB aA 7 [(W (e - 1))] [] [(14,.v (.bool (decide (0<e)))),(15,.cd [(14,true)] (.v (sL b a c))),(17,.cd [(14,true)] (.v (I (W (e - 1))))),(18,.cd [(14,true)] (.v (.bool d)))] _ E ⟨(fun F=>ev5),(Es E),E⟩ ?_)))
  obtain ⟨s,t,-,h⟩:=aY h
  refine bL E E E E (fun u=>hJ a (W (e - 1)) d b c _ (t u)) E [0] E E (aB aA 2 [] [] [(21,.v (.bool (bif (decide (0<e)) then (decide (s=0)) else false)))] _ E ev1 (aD E ?_))
  refine aH E h (fun h=>?_) (fun h=>?_)
  ·
   refine JS.skip (JS.block (bY aA 3 [(W (e - 1))] [] [(1,.v (I (W (e - 1))))] _ ev3 E E (aV (bR (m,(W (e - 1))) h (Nat.lt_succ_self _) (Es E) V [0] E [] E))))
  refine JS.exit E (aQ e h (Es E) V [0] E [] E)
 rintro g h
 subst q
 refine JS.seq (aC aA 2 [(25,.v (.bool (decide (g=0))))] ev1 E E ?_)
 refine aH E h (fun h=>?_) (fun h=>?_)
 ·
  refine aC aA 1 [(6,.v (I 0))] ev1 E E ?_
  cases h
  exact JS.ret aA () V E E [] E
 refine JS.skip (JS.seq (JS.region (aB aA 4 [(W (g - 1))] [] [(26,.v (sL b a c)),(28,.v (I (W (g - 1)))),(29,.v (.bool d))] _ E ⟨ev5,(Es E),E⟩ ?_)))
 refine bnw h fun j w h=>JO.call E E E E (hJ a (W (g - 1)) d b c _ w) E [0] E E fun _ _=>aB aA 1 [] [] [(7,.v (I j))] _ E ev1 (aD E (JS.seq ?_))
 obtain ⟨n,x,h⟩:=aN h
 refine aX (ι:=Int) ⟨fun z=>n z=some r,fun z=>[(1,.v (I z))],fun z=>.nil,fun z=>[],fun z=>[],fun z=>0⟩ ?_ ?_
 ·
  refine JS.loop (ι:=Nat×Int) ⟨fun z=>aW (iJ a d j n) z.1 z.2=some r,fun z=>[(0,.v (sL b a c)),(1,.v (I z.2)),(2,.v (.bool d)),(7,.v (I j))],fun z=>.nil,fun z=>[fI b c a],fun z=>[],fun z=>z.1⟩ (bG,g) h (Es E) V [0] E [] E ?_
  rintro ⟨o,f⟩ h
  obtain ⟨o,rfl,h⟩:=bC h
  rw [iJ] at h
  refine JS.seq (JS.seq (JS.region (aB aA 7 [(W (f - 1))] [] [(33,.v (.bool (decide (0<f)))),(34,.cd [(33,true)] (.v (sL b a c))),(36,.cd [(33,true)] (.v (I (W (f - 1))))),(37,.cd [(33,true)] (.v (.bool d)))] _ E ⟨(fun G=>ev5),(Es E),E⟩ ?_)))
  obtain ⟨y,A,-,h⟩:=aY h
  refine bL E E E E (fun B=>hJ a (W (f - 1)) d b c _ (A B)) E [0] E E (aB aA 3 [] [] [(41,.v (.bool (bif (decide (0<f)) then (decide (y=j)) else false)))] _ E ev1 (aD E ?_))
  refine aH E h (fun h=>?_) (fun h=>?_)
  ·
   refine JS.skip (JS.block (bY aA 3 [(W (f - 1))] [] [(1,.v (I (W (f - 1))))] _ ev3 E E (aV (bR (o,(W (f - 1))) h (Nat.lt_succ_self _) (Es E) V [0] E [] E))))
  refine JS.exit E (aQ f h ev2 V [] E [] E)
 rintro C h
 subst x
 refine aC aA 2 [(6,.v (I C))] ev1 E E ?_
 cases h
 exact JS.ret aA () V E E [] E

def qI (g:List (List Int)) (b:List Int) (d:Int):Option (List (List Int)×Bool):= (aF (pT g) fun f=>(bW ((!f)=false) (dK d 0 2) false fun h=>(bW ((bif (!f) then true else (!h))=false) (eP b) false fun j=>(bif (bif (bif (!f) then true else (!h)) then true else (!j)) then some ([],false) else (aF (nR g) fun a=>(aS (fun (k:List (List Int))=> some (k,true)) fun e=>(bif decide ((b.length:Int)=0) then e a else (aP (((bif decide (d=0) then true else (decide ((a.length:Int)=0)))=false)→0≤(0:Int)∧0<(a.length:Int)) <|(bif (bif (bif decide (d=0) then true else (decide ((a.length:Int)=0))) then true else (decide (400<(W (((at' a 0).length:Int)+(b.length:Int)))))) then (aF (cQ b) fun c=>(aP (([c]:List (List Int)).length+a.length≤536870912) <|(aP (0≤(0:Int)∧(0:Int)≤(min ((([c]:List (List Int)) ++ a).length:Int) 6)∧(min ((([c]:List (List Int)) ++ a).length:Int) 6)≤((([c]:List (List Int)) ++ a).length:Int)) <|e (bU (([c]:List (List Int)) ++ a) 0 (min ((([c]:List (List Int)) ++ a).length:Int) 6))))) else (bif decide (d=1) then (aP (0≤(0:Int)∧0<(a.length:Int)) <|(aP ((at' a 0).length+b.length≤536870912) <|(aP (0≤(0:Int)∧0<(a.length:Int)) <|e (List.set a (Int.toNat 0) ((at' a 0) ++ b))))) else (aF (cQ b) fun i=>(aP (0≤(0:Int)∧0<(a.length:Int)) <|(aP (i.length+(at' a 0).length≤536870912) <|(aP (0≤(0:Int)∧0<(a.length:Int)) <|e (List.set a (Int.toNat 0) (i ++ (at' a 0)))))))))))))))))

theorem aCq (g:List (List Int)) (d:List Int) (k:Int) (l:Option Addr) (m:Nat) (i:Option Addr) (j:Nat) (r:List (List Int)×Bool) (h:qI g d k=some r):
 FC Tryz.prog 204 [.agg #[sL l g m],sL i d j,I k] [⟨(.sl iT),⟨l,g.length,m⟩,g⟩,fI i j d] (fun _:Option Addr×Nat=>True) (fun q=>.tuple #[.agg #[sL q.1 r.1 q.2],.bool r.2]) (fun q=>[⟨(.sl iT),⟨q.1,r.1.length,q.2⟩,r.1⟩]):= by
 refine FC.of (T:=TTx) Tryz.call204 Tryz.func204 E E fun w0=>?_
 unfold qI at h
 refine aM aA 3 [] [3,4] [(3,.bp 3 0),(6,.bp 4 0)] (.new 3 41 [sL l g m] (.new 4 41 [.slice none 0 0] .nil)) ⟨(Es E),(Bs E E)⟩ E E (JS.seq (JS.seq (JS.region (aB aA 1 [] [] [(9,.v (.agg #[sL l g m]))] _ E ev1 ?_))))
 refine bnw h fun o O h=>JO.call E E E E (aAb g l m _ O) E [0] E E fun _ _=>aB aA 3 [] [] [(12,.v (.bool (!o))),(13,.cd [(12,false)] (.v (I k)))] _ E ⟨(Es E),E⟩ ?_
 obtain ⟨y,P,-,h⟩:=aY h
 refine bL E E E E (fun Q=>eK k 0 2 _ (P Q)) E [] E E (aB aA 4 [] [] [(17,.v (.bool (bif (!o) then true else (!y)))),(18,.cd [(17,false)] (.v (sL i d j)))] _ E ⟨(Es E),E⟩ ?_)
 obtain ⟨R,S,-,h⟩:=aY h
 refine bL E E E E (fun U=>pB d i j _ (S U)) E [1] E E (aB aA 2 [] [] [(21,.v (.bool (bif (bif (!o) then true else (!y)) then true else (!R))))] _ E ev1 (aD E ?_))
 refine aH E h (fun h=>?_) (fun h=>?_)
 ·
  refine aM aA 3 [] [] [(7,.v (.bool false))] (.new 4 41 [.slice none 0 0] .nil) ⟨ev2,(Bs E E)⟩ E E ?_
  cases h
  refine aZ (.sl iT) Sl.nil E E (JS.ret aA (none,0) V E E [0] E)
 refine JS.skip (JS.seq (JS.region (aB aA 1 [] [] [(23,.v (.agg #[sL l g m]))] _ E ev1 ?_)))
 refine bnw h fun a X h=>JO.call E E E E (aBi g l m _ X) E [0] E E ?_
 rintro ⟨b,c⟩ -
 refine aL aA 2 [] [16] [(8,.bp 16 0)] (.new 4 41 [.slice none 0 0] (.new 16 41 [sL b a c] .nil)) E ⟨ev2,(Bs E E)⟩ (aD E (JS.seq ?_))
 obtain ⟨Y,Z,h⟩:=aN h
 refine aX (ι:=List (List Int)×Option Addr×Nat) ⟨fun z=>Y z.1=some r,fun z=>[(6,.bp 4 0),(8,.bp 16 0)],fun z=>(.new 4 41 [.slice none 0 0] (.new 16 41 [sL z.2.1 z.1 z.2.2] .nil)),fun z=>[],fun z=>[⟨(.sl iT),⟨z.2.1,z.1.length,z.2.2⟩,z.1⟩],fun z=>0⟩ ?_ ?_
 ·
  refine aC aA 4 [(37,.v (.bool (decide ((d.length:Int)=0))))] ev1 E E ?_
  refine aH E h (fun h=>?_) (fun h=>?_)
  ·
   refine JS.skip (aV (aQ (a,b,c) h (Es E) (Bs E E) [] E [0] E))
  refine JS.seq (JS.region (bJ 2 E fun e=>?_))
  obtain ⟨p,h⟩:=aK h
  refine aB aA 13 [] [] [(50,.v (.bool (bif (decide (k=0)) then true else (decide ((a.length:Int)=0))))),(54,.cd [(50,false)] (.ep ⟨b,a.length,c⟩ (Int.toNat 0*1)))] _ E ⟨(fun a0=>e.ix (p a0)),(fun a1=>e.fa (p a1)),(Es E),E⟩ (wF [0] E (Int.toNat 0) (at' a 0) E fun A B a2 a3=>?_)
  obtain rfl:([sL A (at' a 0) B]:List Value)=a2:=Option.some.inj a3
  refine cN aA E E E E E E 2 E E (Int.toNat 0) 0 (Sum.inr [sL A (at' a 0) B]) (fun a5=>⟨nW (bD (p a5)),E⟩) E E E (aB aA 7 [(W (((at' a 0).length:Int)+(d.length:Int)))] [] [(41,.v (.bool (bif (bif (decide (k=0)) then true else (decide ((a.length:Int)=0))) then true else (decide (400<(W (((at' a 0).length:Int)+(d.length:Int))))))))] _ E ⟨(fun c6=>ev5),ev2,E⟩ (aB6 [0,0] E (at' a 0) E ev8 (aD E ?_)))
  refine aH E h (fun h=>?_) (fun h=>?_)
  ·
   refine JS.seq ?_
   obtain ⟨f,a6,h⟩:=aE h
   obtain ⟨a7,h⟩:=aK h
   refine bF E (.new 16 41 [sL b a c] .nil) [] [6,7,8] ev4 E (fun c7=>?_)
   refine bX aA aJ true 6 [0,4,5] E (by kernel_rfl) [] [(62,.v (sL i d j)),(67,.v (sL b a c))] ev4 [] E E (Es E) (JA.one 1 (by kernel_rfl) (JK.call E E E E (dH d i j _ a6) E [1] E E ?_))
   rintro ⟨a9,b0⟩ -
   refine aU ev4 [] E (bX aA aJ true 4 [2] E (by kernel_rfl) [] [(64,.v (.agg #[sL a9 f b0]))] ev4 [] E E ev2 (JA.one 3 (by kernel_rfl) (JK.buildSlice aA E E E E E E E E E E E [0] E (.sl iT) [f] ev8 E E fun c8=>aU ev4 [] E (JA.one 6 (by kernel_rfl) (jX aA E E E E ⟨E,E,E,E,V,E,E,E,E⟩ E E [0,0] E a7 E fun C D=>aR E (aT aA aJ 1 [7] E (by kernel_rfl) [] [(69,.bp 16 0)] E ev2 (JA.one 8 (by kernel_rfl) (bH aA E E E E E E E E (aR E (bM (by kernel_rfl) (bE (B':=(.new 4 41 [.slice none 0 0] (.new 16 41 [sL C (([f]:List (List Int)) ++ a) D] .nil))) (Bs E E) (JS.region (aB aA 6 [] [] [(71,.v (sL C (([f]:List (List Int)) ++ a) D)),(75,.v (I (min ((([f]:List (List Int)) ++ a).length:Int) 6)))] _ E ⟨(Es E),E⟩ ?_)))))))))))))
   obtain ⟨b1,h⟩:=aK h
   refine yS aA E E E E E E E E [0] E (0:Int) (min ((([f]:List (List Int)) ++ a).length:Int) 6) E E b1 E fun F G=>aL aA 2 [] [] [] (.new 4 41 [.slice none 0 0] (.new 16 41 [sL F (bU (([f]:List (List Int)) ++ a) 0 (min ((([f]:List (List Int)) ++ a).length:Int) 6)) G] .nil)) E ⟨V,(Bs E E)⟩ (aD E (aV (aQ ((bU (([f]:List (List Int)) ++ a) 0 (min ((([f]:List (List Int)) ++ a).length:Int) 6)),F,G) h (Es E) (Bs E E) [] E [0] E)))
  refine aC aA 3 [(78,.v (.bool (decide (k=1))))] ev1 E E ?_
  refine aH E h (fun h=>?_) (fun h=>?_)
  ·
   obtain ⟨s,h⟩:=aK h
   obtain ⟨b2,h⟩:=aK h
   obtain ⟨t,h⟩:=aK h
   refine wQ (id:=0) (wF [0] E (Int.toNat 0) (at' a 0) E ?_)
   intro H J b3 b4
   obtain rfl:([sL H (at' a 0) J]:List Value)=b3:=Option.some.inj b4
   refine wR ?_
   refine bF E (.new 16 41 [sL b a c] .nil) [2] [9,10,11] ev4 E (fun d0=>?_)
   refine bX aA aJ true 5 [0,1,2,3,4,5,7] E (by kernel_rfl) [] [(82,.v (sL b a c)),(86,.ep ⟨b,a.length,c⟩ (Int.toNat 0*1)),(88,.v (sL i d j))] ev4 [2] E E ⟨e.ix s,e.fa s,(Es E)⟩ (aC5 aA aJ 6 E (by kernel_rfl) E E E E E 0 E E (Int.toNat 0) 0 (Sum.inr [sL H (at' a 0) J]) ⟨nW (bD s),E⟩ E E E ev4 [2] E (JA.one 8 (by kernel_rfl) (dG aA E E E E ⟨E,E,E,E,V,E,E,E,E⟩ E E E [1] E 1 E b2 E fun b5 b6=>aU ev4 [3] E (aT aA aJ 1 [9,10] E (by kernel_rfl) [] [(91,.ep ⟨b,a.length,c⟩ (Int.toNat 0*1))] E ⟨e.ix t,e.fa t,ev2⟩ (JA.one 11 (by kernel_rfl) (aJh aA E E E E E E E E E [1] E 0 [sL b5 ((at' a 0) ++ d) b6] (nW (bD t)) E ev8 (aR E (bM (by kernel_rfl) (bE (B':=(.new 4 41 [.slice none 0 0] (.new 16 41 [sL b a c] .nil))) (Bs E E) ?_)))))))))
   refine wQ (id:=0) (xW [0,0] E ((at' a 0) ++ d) ev8 (wR ?_))
   refine aV (aQ ((List.set a (Int.toNat 0) ((at' a 0) ++ d)),b,c) h (Es E) ⟨E,E,E,E,E,(congrArg (fun n=>([.slice b n c]:List Value)) (List.length_set.trans E)),E,E,V⟩ [] E [0] (by simp only [List.length_set,List.length_replicate,cF,eU,sL,fI,rM,rL];rfl))
  obtain ⟨u,b7,h⟩:=aE h
  obtain ⟨w,h⟩:=aK h
  obtain ⟨b8,h⟩:=aK h
  obtain ⟨x,h⟩:=aK h
  refine wQ (id:=0) (wF [0] E (Int.toNat 0) (at' a 0) E ?_)
  intro K L b9 c0
  obtain rfl:([sL K (at' a 0) L]:List Value)=b9:=Option.some.inj c0
  refine wR ?_
  refine bF E (.new 16 41 [sL b a c] .nil) [2] [10,11,12] ev4 E (fun d1=>?_)
  refine bX aA aJ true 6 [0,1,2,4,5,6,7] E (by kernel_rfl) [] [(26,.v (sL b a c)),(27,.v (sL i d j)),(32,.ep ⟨b,a.length,c⟩ (Int.toNat 0*1))] ev4 [2] E E ⟨e.ix w,e.fa w,(Es E)⟩ (aC5 aA aJ 8 E (by kernel_rfl) E E E E E 0 E E (Int.toNat 0) 0 (Sum.inr [sL K (at' a 0) L]) ⟨nW (bD w),E⟩ E E E ev4 [2] E (JA.one 3 (by kernel_rfl) (JK.call E E E E (dH d i j _ b7) E [1] E E ?_)))
  rintro ⟨d2,d3⟩ -
  refine aU ev4 [3] E (JA.one 9 (by kernel_rfl) (dG aA E E E E ⟨E,E,E,E,V,E,E,E,E⟩ E E E [0] E 4 E b8 E fun c1 c2=>aU ev4 [3] E (aT aA aJ 1 [10,11] E (by kernel_rfl) [] [(36,.ep ⟨b,a.length,c⟩ (Int.toNat 0*1))] E ⟨e.ix x,e.fa x,ev2⟩ (JA.one 12 (by kernel_rfl) (aJh aA E E E E E E E E E [1] E 0 [sL c1 (u ++ (at' a 0)) c2] (nW (bD x)) E ev8 (aR E (bM (by kernel_rfl) (bE (B':=(.new 4 41 [.slice none 0 0] (.new 16 41 [sL b a c] .nil))) (Bs E E) ?_))))))))
  refine wQ (id:=0) (xW [0,0] E (u ++ (at' a 0)) ev8 (wR ?_))
  refine aV (aQ ((List.set a (Int.toNat 0) (u ++ (at' a 0))),b,c) h (Es E) ⟨E,E,E,E,E,(congrArg (fun n=>([.slice b n c]:List Value)) (List.length_set.trans E)),E,E,V⟩ [] E [0] (by simp only [List.length_set,List.length_replicate,cF,eU,sL,fI,rM,rL];rfl))
 rintro ⟨c3,M,N⟩ h
 subst Z
 refine aM aA 3 [] [] [(7,.v (.bool true))] (.new 4 41 [sL M c3 N] .nil) ⟨ev2,(Bs E E)⟩ E E ?_
 cases h
 exact JS.ret aA (M,N) V E E [0] E

def xR (b:EdQ) (e:Int) (f:Int) (g:Int):Option (EdQ×Int):= (aF (jW b.2.2.1 e f) fun (h,c,i)=>(bif (bif (!i) then true else (decide ((c.length:Int)=0))) then (aF (cZ b) fun (j,k)=> some (j,k)) else (aS (fun (l:Int)=>(aF (oW b h 2) fun a=>(aF (qI b.2.2.2.2.2.2.2.2.2.2.1 c l) fun (m,n)=> some ((a.1,a.2.1,a.2.2.1,a.2.2.2.1,a.2.2.2.2.1,a.2.2.2.2.2.1,a.2.2.2.2.2.2.1,a.2.2.2.2.2.2.2.1,a.2.2.2.2.2.2.2.2.1,a.2.2.2.2.2.2.2.2.2.1,m,a.2.2.2.2.2.2.2.2.2.2.2.1,a.2.2.2.2.2.2.2.2.2.2.2.2.1,a.2.2.2.2.2.2.2.2.2.2.2.2.2.1,a.2.2.2.2.2.2.2.2.2.2.2.2.2.2.1,a.2.2.2.2.2.2.2.2.2.2.2.2.2.2.2.1,a.2.2.2.2.2.2.2.2.2.2.2.2.2.2.2.2),0)))) fun d=>(bif (!(decide (b.2.2.2.2.2.2.2.2.2.1=2))) then d 0 else d g))))

theorem aIz (b:EdQ) (k:Int) (l:Int) (m:Int) (a:P6) (r:EdQ×Int) (h:xR b k l m=some r):
 FC Tryz.prog 117 [.agg (cD b a).toArray,I k,I l,I m] (bP b a []) (fun _:P6=>True) (fun q=>.tuple #[.agg (aG r.1 q).toArray,I r.2]) (fun q=>(bP r.1 q [])):= by
 refine FC.of (T:=TTx) Tryz.call117 Tryz.func117 E E fun H=>?_
 unfold xR at h
 refine aM aA 3 [] [7,8] [(4,.bp 7 0),(8,.bp 8 0)] (.new 7 46 (aG b a) (.new 8 46 bA .nil)) ⟨(Es E),(Bs E E)⟩ E E (JS.seq (JS.region (aB aA 4 [] [] [(16,.v (.agg #[sL a.1 b.2.2.1.1 a.2.1,I b.2.2.1.2])),(17,.v (I k)),(18,.v (I l))] _ E ⟨(Es E),E⟩ ?_)))
 obtain ⟨⟨c,e,s⟩,x,h⟩:=aE h
 refine JO.call E E E E (yJ b.2.2.1 k l a.1 a.2.1 _ x) E [0] E E ?_
 rintro ⟨f,g,i,j⟩ -
 refine aL aA 8 [] [19] [(10,.bp 19 0),(11,.v (sL i e j)),(12,.v (.bool s))] (.new 7 46 (aG b a) (.new 8 46 bA (.new 19 38 [sL f c.1 g,I c.2] .nil))) E ⟨(Es E),(Bs E E)⟩ (aD E (JS.seq (aC aA 7 [(29,.v (.bool (bif (!s) then true else (decide ((e.length:Int)=0)))))] ev1 E E ?_)))
 refine aH E h (fun h=>?_) (fun h=>?_)
 ·
  refine JS.seq (JS.region (aB aA 1 [] [] [(30,.v (.agg (aG b a).toArray))] _ E ev1 ?_))
  obtain ⟨⟨y,A⟩,B,h⟩:=aE h
  refine JO.call E E E E (dR b a _ B) E [0,1,2,3,4,5] E E fun t _=>aL aA 4 [] [] [(9,.v (I A))] (.new 8 46 (aG y t) .nil) E ⟨ev2,(Bs E E)⟩ (aD E ?_)
  cases h
  exact JS.ret aA t V E E [0,0,0,0,0,0] E
 refine JS.skip ?_
 obtain ⟨C,D,h⟩:=aN h
 refine bZ (ι:=Int) ⟨fun z=>C z=some r,fun z=>[(3,.v (I z)),(4,.bp 7 0),(8,.bp 8 0),(10,.bp 19 0),(11,.v (sL i e j))],fun z=>(.new 7 46 (aG b a) (.new 8 46 bA (.new 19 38 [sL f c.1 g,I c.2] .nil))),fun z=>(bP b a []),fun z=>[fI i j e,fI f g c.1],fun z=>0⟩ ?_ ?_
 ·
  refine aC aA 3 [(36,.v (.bool (!(decide ((Q8 b).2.1=2)))))] ev1 E E ?_
  refine aH E h (fun h=>?_) (fun h=>?_)
  ·
   refine eR aA 1 [(3,.v (I 0))] ev1 E E (aQ 0 h (Es E) (Bs E E) [0,1,2,3,4,5] E [1,0] E)
  refine JS.skip (aQ m h (Es E) (Bs E E) [0,1,2,3,4,5] E [1,0] E)
 rintro u h
 subst D
 refine JS.seq (JS.region (aB aA 2 [] [] [(37,.v (.agg (aG b a).toArray)),(38,.v (.agg #[sL f c.1 g,I c.2]))] _ E ⟨(Es E),E⟩ ?_))
 refine bnw h fun n F h=>JO.call E E E E (wY b c 2 a f g _ F) E [0,1,2,3,4,5,7] E E fun d _=>aL aA 2 [] [63] [(13,.bp 63 0)] (.new 7 46 (aG b a) (.new 8 46 bA (.new 63 46 (aG n d) .nil))) E ⟨ev2,(Bs E E)⟩ (aD E (JS.seq (JS.region (aB aA 4 [] [] [(42,.v (.agg #[sL a.2.2.1 (Q8 b).2.2.1 a.2.2.2.1])),(43,.v (sL i e j)),(44,.v (I u))] _ E ⟨(Es E),E⟩ ?_))))
 obtain ⟨⟨w,J⟩,G,h⟩:=aE h
 refine JO.call E E E E (aCq (Q8 b).2.2.1 e u a.2.2.1 a.2.2.2.1 i j _ G) E [1,12] E E ?_
 rintro ⟨o,p⟩ -
 refine aL aA 5 [] [] [] (.new 8 46 bA (.new 63 46 (aG (U10 n w) (d.1,d.2.1,o,p,(Q4 d))) .nil)) E ⟨V,(Bs E E)⟩ (aD E (aM aA 3 [] [] [(9,.v (I 0))] (.new 8 46 (aG (U10 n w) (d.1,d.2.1,o,p,(Q4 d))) .nil) ⟨ev2,(Bs E E)⟩ E E ?_))
 cases h
 exact JS.ret aA (U3 (U2 d o) p) V E E [1,0,1,1,1,1] E

def oP (a:EdQ) (c:Int):Option (EdQ×Int×Bool):= (aF (dZ a) fun d=>(aS (fun ((e,f):Int×EdQ)=> some (f,e,true)) fun b=>(bif decide (c=99) then b (3,d) else (bif decide (c=108) then b (5,d) else (bif decide (c=100) then (bif decide (0<(a.2.2.1.1.length:Int)) then (aF (yQ a a.2.2.1.2 (min (W (a.2.2.1.2+(max a.2.2.2.1 1))) (a.2.2.1.1.length:Int))) fun (g,h)=> b (h,g)) else b (4,d)) else (bif decide (c=117) then (aF (xR a 0 a.2.2.1.2 2) fun (i,j)=> b (j,i)) else (bif decide (c=119) then (aF (jM a.2.2.1.1 a.2.2.1.2 true) fun k=>(aF (xR a k a.2.2.1.2 2) fun (l,m)=> b (m,l))) else some ((false,0,([],0),0,0,0,0,0,0,0,[],[],0,([],0),[],0,([],0)),0,false))))))))

theorem aGf (a:EdQ) (c:Int) (b:P6) (r:EdQ×Int×Bool) (h:oP a c=some r):
 FC Tryz.prog 167 [.agg (cD a b).toArray,I c] (bP a b []) (fun _:P6=>True) (fun q=>.tuple #[.agg (aG r.1 q).toArray,I r.2.1,.bool r.2.2]) (fun q=>(bP r.1 q [])):= by
 refine FC.of (T:=TTx) Tryz.call167 Tryz.func167 E E fun F=>?_
 unfold oP at h
 refine aM aA 4 [] [7,8] [(2,.bp 7 0),(4,.bp 8 0)] (.new 7 46 (aG a b) (.new 8 46 bA .nil)) ⟨(Es E),(Bs E E)⟩ E E (JS.seq (dF E (by kernel_rfl) (cX aA 8 [] [(7,.v (I a.2.2.1.2)),(8,.v (I (max a.2.2.2.1 1)))] E (Es E) (iN E (JS.seq (JS.region (aB aA 1 [] [] [(17,.v (.agg (aG a b).toArray))] _ E ev1 ?_)))))))
 refine bnw h fun d s h=>JO.call E E E E (hD a b _ s) E [0,1,2,3,4,5] E E fun e _=>aL aA 3 [] [29] [(9,.bp 29 0)] (.new 7 46 (aG a b) (.new 8 46 bA (.new 29 46 (aG d e) .nil))) E ⟨ev2,(Bs E E)⟩ (aD E (JS.seq (aC aA 1 [(19,.v (I c))] ev1 E E ?_)))
 obtain ⟨t,u,h⟩:=aN h
 refine aX (ι:=Int×EdQ×P6) ⟨fun z=>t (z.1,z.2.1)=some r,fun z=>[(4,.bp 8 0),(9,.bp 29 0),(10,.v (I z.1))],fun z=>(.new 8 46 bA (.new 29 46 (aG z.2.1 z.2.2) .nil)),fun z=>[],fun z=>(bP z.2.1 z.2.2 []),fun z=>0⟩ ?_ ?_
 ·
  refine aC aA 2 [(21,.v (.bool (decide (c=99))))] ev1 E E ?_
  refine aH E h (fun h=>?_) (fun h=>?_)
  ·
   refine eR aA 1 [(10,.v (I 3))] ev1 E E (aV (bT (3,d,e) h (Es E) (Bs E E) [] E [0,1,2,3,4,5] E E))
  refine aC aA 2 [(23,.v (.bool (decide (c=108))))] ev1 E E ?_
  refine aH E h (fun h=>?_) (fun h=>?_)
  ·
   refine eR aA 1 [(10,.v (I 5))] ev1 E E (aV (bT (5,d,e) h (Es E) (Bs E E) [] E [0,1,2,3,4,5] E E))
  refine aC aA 2 [(25,.v (.bool (decide (c=100))))] ev1 E E ?_
  refine aH E h (fun h=>?_) (fun h=>?_)
  ·
   refine aC aA 1 [(10,.v (I 4))] ev1 E E (aC aA 5 [(31,.v (.bool (decide (0<(a.2.2.1.1.length:Int)))))] ev1 E E ?_)
   refine aH E h (fun h=>?_) (fun h=>?_)
   ·
    refine JS.region (aB aA 10 [(W (a.2.2.1.2+(max a.2.2.2.1 1)))] [] [(33,.v (.agg (aG a b).toArray)),(34,.v (I a.2.2.1.2)),(42,.v (I (min (W (a.2.2.1.2+(max a.2.2.2.1 1))) (a.2.2.1.1.length:Int))))] _ E ⟨ev5,(Es E),E⟩ ?_)
    obtain ⟨⟨j,k⟩,w,h⟩:=aE h
    refine JO.call E E E E (aGh a a.2.2.1.2 (min (W (a.2.2.1.2+(max a.2.2.2.1 1))) (a.2.2.1.1.length:Int)) b _ w) E [0,1,2,3,4,5] E E fun l _=>aL aA 5 [] [] [(10,.v (I k))] (.new 8 46 bA (.new 29 46 (aG j l) .nil)) E ⟨ev2,(Bs E E)⟩ (aD E (aV (bT (k,j,l) h (Es E) (Bs E E) [] E [0,1,2,3,4,5] E E)))
   refine JS.skip (aV (bT (4,d,e) h (Es E) (Bs E E) [] E [0,1,2,3,4,5] E E))
  refine aC aA 2 [(46,.v (.bool (decide (c=117))))] ev1 E E ?_
  refine aH E h (fun h=>?_) (fun h=>?_)
  ·
   refine JS.region (aB aA 2 [] [] [(49,.v (.agg (aG a b).toArray)),(50,.v (I a.2.2.1.2))] _ E ⟨(Es E),E⟩ ?_)
   obtain ⟨⟨m,n⟩,x,h⟩:=aE h
   refine JO.call E E E E (aIz a 0 a.2.2.1.2 2 b _ x) E [0,1,2,3,4,5] E E fun o _=>aL aA 5 [] [] [(10,.v (I n))] (.new 8 46 bA (.new 29 46 (aG m o) .nil)) E ⟨ev2,(Bs E E)⟩ (aD E (aV (bT (n,m,o) h (Es E) (Bs E E) [] E [0,1,2,3,4,5] E E)))
  refine aC aA 2 [(54,.v (.bool (decide (c=119))))] ev1 E E ?_
  refine aH E h (fun h=>?_) (fun h=>?_)
  ·
   obtain ⟨y,A,h⟩:=aE h
   obtain ⟨⟨f,g⟩,B,h⟩:=aE h
   refine bF E (.new 7 46 (aG a b) .nil) [] [7,8,9,10,11,12] ev4 E (fun G=>?_)
   refine bX aA aJ true 10 [0,4,6] E (by kernel_rfl) [] [(57,.v (.agg (aG a b).toArray)),(61,.v (I a.2.2.1.2)),(63,.v (I a.2.2.1.2))] ev4 [] E E (Es E) (aT aA aJ 9 [1] E (by kernel_rfl) [] [(58,.bp 7 2)] E ev2 (bX aA aJ true 7 [2,3] E (by kernel_rfl) [] [(60,.v (sL b.1 a.2.2.1.1 b.2.1))] ev4 [] E E ev2 (JA.one 5 (by kernel_rfl) (JK.call E E E E (yY a.2.2.1.1 a.2.2.1.2 true b.1 b.2.1 _ A) E [0] E E fun _ _=>aU ev4 [] E (JA.one 7 (by kernel_rfl) (JK.call E E E E (aIz a y a.2.2.1.2 2 b _ B) E [0,1,2,3,4,5] E E ?_))))))
   rintro i -
   refine aR E (aT aA aJ 2 [8,9,10] E (by kernel_rfl) [] [(65,.v (.agg (aG f i).toArray)),(66,.v (I g))] E (Es E) (JA.one 11 (by kernel_rfl) (bH aA E E E E E E E E (aR E (aT aA aJ 0 [12] E (by kernel_rfl) [] [(10,.v (I g))] E ev2 (bM (by kernel_rfl) (bE (B':=(.new 8 46 bA (.new 29 46 (aG f i) .nil))) (Bs E E) (aV (bT (g,f,i) h (Es E) (Bs E E) [] E [0,1,2,3,4,5] E E)))))))))
  refine aM aA 4 [] [] [(5,.v (I 0)),(6,.v (.bool false))] (.new 8 46 bA .nil) ⟨(Es E),(Bs E E)⟩ E E ?_
  cases h
  refine aZ iT Sl.nil E E (aZ (.sl iT) Sl.nil E E (aZ (.pair (.sl iT) iT) Sl.nil E E (aZ iT Sl.nil E E (aZ iT Sl.nil E E (aZ iT Sl.nil E E (JS.ret aA (none,0,none,0,none,0,none,0,none,0,none,0) V E E [5,4,3,2,1,0] E))))))
 rintro ⟨C,D,p⟩ h
 subst u
 refine aM aA 5 [] [] [(5,.v (I C)),(6,.v (.bool true))] (.new 8 46 (aG D p) .nil) ⟨(Es E),(Bs E E)⟩ E E ?_
 cases h
 exact JS.ret aA p V E E [0,0,0,0,0,0] E

def kH (b:List Int) (d:Int) (e:(List Int)→Option (List Int)) (f:(List Int×Int)→Option (List Int)):(List Int×Int)→Option (List Int):=fun (a,c)=>(bif (bif decide (c<d) then (decide ((a.length:Int)≤400)) else false) then (aP (a.length+b.length≤536870912) <|f ((a ++ b),(W (c+1)))) else e a)

def nP (a:List Int) (b:Int):Option (List Int):= (aS (fun (c:List Int)=> some c) fun d=>(aW (kH a b d) bG (([]:List Int),0)))

theorem aBx (a:List Int) (b:Int) (c:Option Addr) (d:Nat) (r:List Int) (h:nP a b=some r):
 FC Tryz.prog 166 [sL c a d,I b] [fI c d a] (fun _:Option Addr×Nat=>True) (fun q=>sL q.1 r q.2) (fun q=>[fI q.1 q.2 r]):= by
 refine FC.of (T:=TTx) Tryz.call166 Tryz.func166 E E fun u=>?_
 unfold nP at h
 refine aC aA 1 [] ev5 E E (aC aA 1 [(5,.v (.slice none 0 0))] ev1 E E (JS.seq (aC aA 1 [(6,.v (I 0))] ev1 E E ?_)))
 obtain ⟨g,p,h⟩:=aN h
 refine aX (ι:=List Int×Option Addr×Nat) ⟨fun z=>g z.1=some r,fun z=>[(5,.v (sL z.2.1 z.1 z.2.2))],fun z=>.nil,fun z=>[],fun z=>[fI z.2.1 z.2.2 z.1],fun z=>0⟩ ?_ ?_
 ·
  refine aZ iT Sl.nil E E (JS.loop (ι:=Nat×List Int×Int×Option Addr×Nat) ⟨fun z=>aW (kH a b g) z.1 (z.2.1,z.2.2.1)=some r,fun z=>[(0,.v (sL c a d)),(1,.v (I b)),(5,.v (sL z.2.2.2.1 z.2.1 (Q4 z))),(6,.v (I z.2.2.1))],fun z=>.nil,fun z=>[fI c d a],fun z=>[fI z.2.2.2.1 (Q4 z) z.2.1],fun z=>z.1⟩ (bG,([]:List Int),0,none,0) h (Es E) V [0] E [0] E ?_)
  rintro ⟨i,e,f,j,k⟩ h
  obtain ⟨i,rfl,h⟩:=bC h
  rw [kH] at h
  refine JS.seq (aC aA 8 [(14,.v (.bool (bif (decide (f<b)) then (decide ((e.length:Int)≤400)) else false)))] ev1 E E ?_)
  refine aH E h (fun h=>?_) (fun h=>?_)
  ·
   refine JS.skip (JS.seq (JS.block (JS.region (aB aA 2 [] [] [(17,.v (sL j e k)),(18,.v (sL c a d))] _ E ⟨(Es E),E⟩ ?_))))
   obtain ⟨s,h⟩:=aK h
   refine fU aA E E E E ⟨E,E,E,E,V,E,E,E,E⟩ E E E [0] E 0 E s E fun l m=>aB aA 1 [] [] [(5,.v (sL l (e ++ a) m))] _ E ev1 (aD E (aV (bY aA 3 [(W (f+1))] [] [(6,.v (I (W (f+1))))] _ ev3 E E (bR (i,(e ++ a),(W (f+1)),l,m) h (Nat.lt_succ_self _) (Es E) V [0] E [0] E))))
  refine JS.exit E (aQ (e,j,k) h ev2 V [] E [0] E)
 rintro ⟨t,n,o⟩ h
 subst p
 refine aC aA 2 [(4,.v (sL n t o))] ev1 E E ?_
 cases h
 exact JS.ret aA (n,o) V E E [0] E

def mZ (a:List Int×Int) (b:List Int):Option ((List Int×Int)×Bool):= (aF (eQ a) fun e=>(bif (bif (!e) then true else (decide (400<(b.length:Int)))) then some (([],0),false) else (aS (fun (d:List Int)=>(aF (eQ (d,(W (a.2+(b.length:Int))))) fun f=>(bif (!f) then some (([],0),false) else some ((d,(W (a.2+(b.length:Int)))),true)))) fun g=>(aP (0≤(0:Int)∧(0:Int)≤a.2∧a.2≤(a.1.length:Int)) <|(aF (cQ (bU a.1 (0:Int) a.2)) fun c=>(aP (c.length+b.length≤536870912) <|(aP (0≤a.2∧a.2≤(a.1.length:Int)∧(a.1.length:Int)≤(a.1.length:Int)) <|(aP ((c ++ b).length+(bU a.1 a.2 (a.1.length:Int)).length≤536870912) <|g ((c ++ b) ++ (bU a.1 a.2 (a.1.length:Int)))))))))))

theorem aCr (a:List Int×Int) (b:List Int) (f:Option Addr) (g:Nat) (n:Option Addr) (o:Nat) (r:(List Int×Int)×Bool) (h:mZ a b=some r):
 FC Tryz.prog 245 [.agg #[sL f a.1 g,I a.2],sL n b o] [fI f g a.1,fI n o b] (fun _:Option Addr×Nat=>True) (fun q=>.tuple #[.agg #[sL q.1 r.1.1 q.2,I r.1.2],.bool r.2]) (fun q=>[fI q.1 q.2 r.1.1]):= by
 refine FC.of (T:=TTx) Tryz.call245 Tryz.func245 E E fun N=>?_
 unfold mZ at h
 refine aM aA 3 [] [3,4] [(2,.bp 3 0),(4,.bp 4 0)] (.new 3 38 [sL f a.1 g,I a.2] (.new 4 38 [.slice none 0 0,I 0] .nil)) ⟨(Es E),(Bs E E)⟩ E E (JS.seq (JS.seq (JS.region (aB aA 1 [] [] [(7,.v (.agg #[sL f a.1 g,I a.2]))] _ E ev1 ?_))))
 refine bnw h fun B C h=>JO.call E E E E (hX a f g _ C) E [0] E E fun _ _=>aB aA 6 [] [] [(14,.v (.bool (bif (!B) then true else (decide (400<(b.length:Int))))))] _ E ev1 (aD E ?_)
 refine aH E h (fun h=>?_) (fun h=>?_)
 ·
  refine aM aA 3 [] [] [(5,.v (.bool false))] (.new 4 38 [.slice none 0 0,I 0] .nil) ⟨ev2,(Bs E E)⟩ E E ?_
  cases h
  refine aZ iT Sl.nil E E (JS.ret aA (none,0) V E E [0] E)
 refine JS.skip (JS.seq ?_)
 obtain ⟨D,F,h⟩:=aN h
 refine yR (ι:=List Int×Option Addr×Nat) ⟨fun z=>D z.1=some r,fun z=>[(4,.bp 4 0),(6,.bp 30 0)],fun z=>(.new 4 38 [.slice none 0 0,I 0] (.new 30 38 [sL z.2.1 z.1 z.2.2,I (W (a.2+(b.length:Int)))] .nil)),fun z=>[],fun z=>[fI z.2.1 z.2.2 z.1],fun z=>0⟩ ?_ ?_
 ·
  obtain ⟨i,h⟩:=aK h
  obtain ⟨e,t,h⟩:=aE h
  obtain ⟨p,h⟩:=aK h
  obtain ⟨j,h⟩:=aK h
  obtain ⟨k,h⟩:=aK h
  refine oX 0 E (0:Int) a.2 fun u w G=>oX 1 E a.2 (a.1.length:Int) fun O P H=>cV 2 E fun x=>?_
  refine bF E (.new 3 38 [sL f a.1 g,I a.2] .nil) [] [19,21] ev4 E (fun Q=>?_)
  refine aT aA aJ 20 [0,2] E (by kernel_rfl) [] [(16,.bp 3 0),(18,.bp 3 1)] E (Es E) (bX aA aJ true 8 [1,3,6,8,9,10,11,14,15,16,17,18] E (by kernel_rfl) [(W (a.2+(b.length:Int)))] [(17,.v (sL f a.1 g)),(19,.v (I a.2)),(22,.v (sL n b o)),(25,.v (sL f a.1 g)),(27,.v (I a.2)),(34,.v (I (W (a.2+(b.length:Int)))))] ev4 [] E E ⟨ev5,(Es E)⟩ (gN aA aJ 4 E (by kernel_rfl) E E E E E E (0:Int) a.2 E E ⟨i.1,i.2.1,i.2.2,x.cap,G i⟩ E (gN aA aJ 12 E (by kernel_rfl) E E E E E E a.2 (a.1.length:Int) E E ⟨j.1,j.2.1,j.2.2,x.cap,H j⟩ E ?_)))
  refine JA.all (rs:=[5,20]) (by kernel_rfl) E (List.forall_mem_cons.2 ⟨?_,List.forall_mem_cons.2 ⟨?_,(fun _ hx=>absurd hx List.not_mem_nil)⟩⟩)
  ·
   refine JK.call E E E E (dH (bU a.1 (0:Int) a.2) u w _ t) E [1] E E ?_
   rintro ⟨J,K⟩ -
   refine aU ev4 [] E ?_
   refine JA.all (rs:=[7,20]) (by kernel_rfl) E (List.forall_mem_cons.2 ⟨?_,List.forall_mem_cons.2 ⟨?_,(fun _ hx=>absurd hx List.not_mem_nil)⟩⟩)
   ·
    refine dG aA E E E E ⟨E,E,E,E,V,E,E,E,E⟩ E E E [0] E 3 E p E fun y A=>aU ev4 [] E ?_
    refine JA.all (rs:=[13,20]) (by kernel_rfl) E (List.forall_mem_cons.2 ⟨?_,List.forall_mem_cons.2 ⟨?_,(fun _ hx=>absurd hx List.not_mem_nil)⟩⟩)
    ·
     refine dG aA E E E E ⟨E,E,E,E,V,E,E,E,E⟩ E E E [0] E 0 E k E fun c d=>aU ev4 [] E (aT aA aJ 2 [19] E (by kernel_rfl) [] [(35,.v (.agg #[sL c ((e ++ b) ++ (bU a.1 a.2 (a.1.length:Int))) d,I (W (a.2+(b.length:Int)))]))] E ev2 (JA.one 20 (by kernel_rfl) (JK.alloc aA E E E E E 30 E (eZ _ E) (aU ev4 [] E (JA.one 21 (by kernel_rfl) (bH aA E E E E E E E E (aR E (bM (by kernel_rfl) (bE (B':=(.new 4 38 [.slice none 0 0,I 0] (.new 30 38 [sL c ((e ++ b) ++ (bU a.1 a.2 (a.1.length:Int))) d,I (W (a.2+(b.length:Int)))] .nil))) (Bs E E) (aQ (((e ++ b) ++ (bU a.1 a.2 (a.1.length:Int))),c,d) h (Es E) (Bs E E) [] E [0] E))))))))))
    refine JK.alloc aA E E E E E 30 E (eZ _ E) (aU ev4 [] E (JA.one 13 (by kernel_rfl) (dG aA E E E E ⟨E,E,E,E,V,E,E,E,E⟩ E E E [0] E 0 E k E fun c d=>aU ev4 [] E (aT aA aJ 1 [19] E (by kernel_rfl) [] [(35,.v (.agg #[sL c ((e ++ b) ++ (bU a.1 a.2 (a.1.length:Int))) d,I (W (a.2+(b.length:Int)))]))] E ev2 (JA.one 21 (by kernel_rfl) (bH aA E E E E E E E E (aR E (bM (by kernel_rfl) (bE (B':=(.new 4 38 [.slice none 0 0,I 0] (.new 30 38 [sL c ((e ++ b) ++ (bU a.1 a.2 (a.1.length:Int))) d,I (W (a.2+(b.length:Int)))] .nil))) (Bs E E) (aQ (((e ++ b) ++ (bU a.1 a.2 (a.1.length:Int))),c,d) h (Es E) (Bs E E) [] E [0] E))))))))))
   refine JK.alloc aA E E E E E 30 E (eZ _ E) (aU ev4 [] E (JA.one 7 (by kernel_rfl) (dG aA E E E E ⟨E,E,E,E,V,E,E,E,E⟩ E E E [0] E 3 E p E fun y A=>aU ev4 [] E (JA.one 13 (by kernel_rfl) (dG aA E E E E ⟨E,E,E,E,V,E,E,E,E⟩ E E E [0] E 0 E k E fun c d=>aU ev4 [] E (aT aA aJ 1 [19] E (by kernel_rfl) [] [(35,.v (.agg #[sL c ((e ++ b) ++ (bU a.1 a.2 (a.1.length:Int))) d,I (W (a.2+(b.length:Int)))]))] E ev2 (JA.one 21 (by kernel_rfl) (bH aA E E E E E E E E (aR E (bM (by kernel_rfl) (bE (B':=(.new 4 38 [.slice none 0 0,I 0] (.new 30 38 [sL c ((e ++ b) ++ (bU a.1 a.2 (a.1.length:Int))) d,I (W (a.2+(b.length:Int)))] .nil))) (Bs E E) (aQ (((e ++ b) ++ (bU a.1 a.2 (a.1.length:Int))),c,d) h (Es E) (Bs E E) [] E [0] E))))))))))))
  refine JK.alloc aA E E E E E 30 E (eZ _ E) (aU ev4 [] E (JA.one 5 (by kernel_rfl) (JK.call E E E E (dH (bU a.1 (0:Int) a.2) u w _ t) E [1] E E ?_)))
  rintro ⟨J,K⟩ -
  refine aU ev4 [] E (JA.one 7 (by kernel_rfl) (dG aA E E E E ⟨E,E,E,E,V,E,E,E,E⟩ E E E [0] E 3 E p E fun y A=>aU ev4 [] E (JA.one 13 (by kernel_rfl) (dG aA E E E E ⟨E,E,E,E,V,E,E,E,E⟩ E E E [0] E 0 E k E fun c d=>aU ev4 [] E (aT aA aJ 1 [19] E (by kernel_rfl) [] [(35,.v (.agg #[sL c ((e ++ b) ++ (bU a.1 a.2 (a.1.length:Int))) d,I (W (a.2+(b.length:Int)))]))] E ev2 (JA.one 21 (by kernel_rfl) (bH aA E E E E E E E E (aR E (bM (by kernel_rfl) (bE (B':=(.new 4 38 [.slice none 0 0,I 0] (.new 30 38 [sL c ((e ++ b) ++ (bU a.1 a.2 (a.1.length:Int))) d,I (W (a.2+(b.length:Int)))] .nil))) (Bs E E) (aQ (((e ++ b) ++ (bU a.1 a.2 (a.1.length:Int))),c,d) h (Es E) (Bs E E) [] E [0] E)))))))))))
 rintro ⟨s,l,m⟩ h
 subst F
 refine JS.seq (JS.seq (JS.region (aB aA 1 [] [] [(36,.v (.agg #[sL l s m,I (W (a.2+(b.length:Int)))]))] _ E ev1 ?_)))
 refine bnw h fun L M h=>JO.call E E E E (hX (s,(W (a.2+(b.length:Int)))) l m _ M) E [0] E E fun _ _=>aB aA 1 [] [] [(38,.v (.bool (!L)))] _ E ev1 (aD E ?_)
 refine aH E h (fun h=>?_) (fun h=>?_)
 ·
  refine aM aA 3 [] [] [(5,.v (.bool false))] (.new 4 38 [.slice none 0 0,I 0] .nil) ⟨ev2,(Bs E E)⟩ E E ?_
  cases h
  refine aZ iT Sl.nil E E (JS.ret aA (none,0) V E E [0] E)
 refine JS.skip (aM aA 3 [] [] [(5,.v (.bool true))] (.new 4 38 [sL l s m,I (W (a.2+(b.length:Int)))] .nil) ⟨ev2,(Bs E E)⟩ E E ?_)
 cases h
 exact JS.ret aA (l,m) V E E [0] E

def rW (a:EdQ) (b:List Int) (c:Int):Option (EdQ×Int):= (aF (mZ a.2.2.1 b) fun (d,e)=>(bif (!e) then (aF (cZ a) fun (f,g)=> some (f,g)) else (aF (oW a d c) fun h=> some (h,0))))

theorem aEe (a:EdQ) (c:List Int) (e:Int) (b:P6) (f:Option Addr) (g:Nat) (r:EdQ×Int) (h:rW a c e=some r):
 FC Tryz.prog 165 [.agg (cD a b).toArray,sL f c g,I e] (bP a b [fI f g c]) (fun _:P6=>True) (fun q=>.tuple #[.agg (aG r.1 q).toArray,I r.2]) (fun q=>(bP r.1 q [])):= by
 refine FC.of (T:=TTx) Tryz.call165 Tryz.func165 E E fun w=>?_
 unfold rW at h
 refine aM aA 3 [] [8,9] [(3,.bp 8 0),(6,.bp 9 0)] (.new 8 46 (aG a b) (.new 9 46 bA .nil)) ⟨(Es E),(Bs E E)⟩ E E (JS.seq (JS.region (aB aA 3 [] [] [(12,.v (.agg #[sL b.1 a.2.2.1.1 b.2.1,I a.2.2.1.2])),(13,.v (sL f c g))] _ E ⟨(Es E),E⟩ ?_)))
 obtain ⟨⟨d,k⟩,n,h⟩:=aE h
 refine JO.call E E E E (aCr a.2.2.1 c b.1 b.2.1 f g _ n) E [0,6] E E ?_
 rintro ⟨i,j⟩ -
 refine aL aA 6 [] [16] [(8,.bp 16 0),(9,.v (.bool k))] (.new 8 46 (aG a b) (.new 9 46 bA (.new 16 38 [sL i d.1 j,I d.2] .nil))) E ⟨(Es E),(Bs E E)⟩ (aD E (JS.seq (aC aA 2 [(18,.v (.bool (!k)))] ev1 E E ?_)))
 refine aH E h (fun h=>?_) (fun h=>?_)
 ·
  refine JS.seq (JS.region (aB aA 1 [] [] [(19,.v (.agg (aG a b).toArray))] _ E ev1 ?_))
  obtain ⟨⟨o,p⟩,s,h⟩:=aE h
  refine JO.call E E E E (dR a b _ s) E [0,1,2,3,4,5] E E fun l _=>aL aA 4 [] [] [(7,.v (I p))] (.new 9 46 (aG o l) .nil) E ⟨ev2,(Bs E E)⟩ (aD E ?_)
  cases h
  exact JS.ret aA l V E E [0,0,0,0,0,0] E
 refine JS.skip (JS.seq (JS.region (aB aA 3 [] [] [(23,.v (.agg (aG a b).toArray)),(24,.v (.agg #[sL i d.1 j,I d.2])),(25,.v (I e))] _ E ⟨(Es E),E⟩ ?_)))
 refine bnw h fun t u h=>JO.call E E E E (wY a d e b i j _ u) E [0,1,2,3,4,5,7] E E fun m _=>aL aA 2 [] [] [(7,.v (I 0))] (.new 9 46 (aG t m) .nil) E ⟨ev2,(Bs E E)⟩ (aD E ?_)
 cases h
 exact JS.ret aA m V E E [0,0,0,0,0,0] E

def xP (a:EdQ) (d:Int×List (List UInt8)) (b:Int×Int):Option (EdQ×Int×Bool):= (aS (fun ((e,f):Int×EdQ)=> some (f,e,true)) fun c=>(bif decide (b.1=1) then (aF (nP ([b.2]:List Int) (max a.2.2.2.1 1)) fun g=>(aF (rW a g 1) fun (h,i)=> c (i,h))) else (bif decide (b.1=6) then (aF (nP ([9]:List Int) (max a.2.2.2.1 1)) fun j=>(aF (rW a j 1) fun (k,l)=> c (l,k))) else (bif decide (b.1=4) then (aF (dZ a) fun m=> c (2,m)) else (bif decide (b.1=2) then (aF (oP a b.2) fun (n,o,p)=> some (n,o,p)) else (bif decide (b.1=5) then (aF (yQ a (max (W (a.2.2.1.2 - (max a.2.2.2.1 1))) 0) a.2.2.1.2) fun (q,r)=> c (r,q)) else (bif decide (b.1=14) then (aF (yQ a a.2.2.1.2 (min (W (a.2.2.1.2+(max a.2.2.2.1 1))) (a.2.2.1.1.length:Int))) fun (s,t)=> c (t,s)) else (bif decide (b.1=11) then (aF (eE a.2.2.1 (W (a.2.2.1.2 - (max a.2.2.2.1 1)))) fun u=>(aF (iH a u) fun (v,w)=> c (w,v))) else (bif decide (b.1=10) then (aF (eE a.2.2.1 (W (a.2.2.1.2+(max a.2.2.2.1 1)))) fun x=>(aF (iH a x) fun (y,z)=> c (z,y))) else (bif decide (b.1=12) then (aF (eE a.2.2.1 0) fun A=>(aF (iH a A) fun (B,C)=> c (C,B))) else (bif decide (b.1=13) then (aF (eE a.2.2.1 (a.2.2.1.1.length:Int)) fun D=>(aF (iH a D) fun (F,G)=> c (G,F))) else (bif decide (b.1=8) then (aF (oN a d (-1)) fun (H,J)=> c (J,H)) else (bif decide (b.1=9) then (aF (oN a d 1) fun (K,L)=> c (L,K)) else some ((false,0,([],0),0,0,0,0,0,0,0,[],[],0,([],0),[],0,([],0)),0,false))))))))))))))

theorem aOx (a:EdQ) (d:Int×List (List UInt8)) (c:Int×Int) (b:P6) (e:Option Addr) (f:Nat) (r:EdQ×Int×Bool) (h:xP a d c=some r):
 FC Tryz.prog 88 [.agg (cD a b).toArray,.agg #[I d.1,sL e d.2 f],.agg #[I c.1,I c.2]] (bP a b [⟨.str,⟨e,d.2.length,f⟩,d.2⟩]) (fun _:P6=>True) (fun q=>.tuple #[.agg (aG r.1 q).toArray,I r.2.1,.bool r.2.2]) (fun q=>(bP r.1 q [])):= by
 refine FC.of (T:=TTx) Tryz.call88 Tryz.func88 E E fun w0=>?_
 unfold xP at h
 refine aM aA 6 [] [8,9,10,11] [(3,.bp 8 0),(4,.bp 9 0),(5,.bp 10 0),(6,.bp 11 0)] (.new 8 46 (aG a b) (.new 9 50 [I d.1,sL e d.2 f] (.new 10 64 [I c.1,I c.2] (.new 11 46 bA .nil)))) ⟨(Es E),(Bs E E)⟩ E E (JS.seq (dF E (by kernel_rfl) (cX aA 13 [] [(9,.v (I a.2.2.1.2)),(10,.v (I (max a.2.2.2.1 1))),(11,.v (I (a.2.2.1.1.length:Int)))] E (Es E) (iN E (aM aA 1 [] [12] [(12,.bp 12 0)] (.new 8 46 (aG a b) (.new 9 50 [I d.1,sL e d.2 f] (.new 10 64 [I c.1,I c.2] (.new 11 46 bA (.new 12 46 bA .nil))))) ⟨ev2,(Bs E E)⟩ E E (aC aA 1 [] ev5 E E (JS.seq (aC aA 2 [(25,.v (I c.1))] ev1 E E ?_))))))))
 obtain ⟨Y,Z,h⟩:=aN h
 refine aX (ι:=Int×EdQ×P6) ⟨fun z=>Y (z.1,z.2.1)=some r,fun z=>[(6,.bp 11 0),(12,.bp 12 0),(13,.v (I z.1))],fun z=>(.new 11 46 bA (.new 12 46 (aG z.2.1 z.2.2) .nil)),fun z=>[],fun z=>(bP z.2.1 z.2.2 []),fun z=>0⟩ ?_ ?_
 ·
  refine aC aA 2 [(27,.v (.bool (decide (c.1=1))))] ev1 E E ?_
  refine aH E h (fun h=>?_) (fun h=>?_)
  ·
   obtain ⟨a0,a1,h⟩:=aE h
   obtain ⟨⟨g,i⟩,a2,h⟩:=aE h
   refine bF E (.new 8 46 (aG a b) (.new 10 64 [I c.1,I c.2] .nil)) [] [6,7,8,9,10,11] ev6 E (fun e4=>?_)
   refine bX aA aJ true 10 [0,4] E (by kernel_rfl) [] [(30,.v (.agg (aG a b).toArray)),(34,.v (I (max a.2.2.2.1 1)))] ev6 [] E E (Es E) (aT aA aJ 9 [1] E (by kernel_rfl) [] [(31,.bp 10 1)] E ev2 (bX aA aJ true 8 [2] E (by kernel_rfl) [] [(32,.v (I c.2))] ev6 [] E E ev2 (JA.one 3 (by kernel_rfl) (JK.buildSlice aA E E E E E E E E E E E [] E iT [c.2] ev9 E E fun a3=>aU ev6 [] E (JA.one 5 (by kernel_rfl) (JK.call E E E E (aBx ([c.2]:List Int) (max a.2.2.2.1 1) a3 (([c.2]:List Int).length) _ a1) E [7] E E ?_))))))
   rintro ⟨a4,a5⟩ -
   refine aU ev6 [] E (JA.one 6 (by kernel_rfl) (JK.call E E E E (aEe a a0 1 b a4 a5 _ a2) E [0,1,2,3,4,5,7] E E ?_))
   rintro j -
   refine aR E (aT aA aJ 2 [7,8,9] E (by kernel_rfl) [] [(37,.v (.agg (aG g j).toArray)),(38,.v (I i))] E (Es E) (JA.one 10 (by kernel_rfl) (bH aA E E E E E E E E (aR E (aT aA aJ 0 [11] E (by kernel_rfl) [] [(13,.v (I i))] E ev2 (bM (by kernel_rfl) (bE (B':=(.new 11 46 bA (.new 12 46 (aG g j) .nil))) (Bs E E) (aV (bT (i,g,j) h (Es E) (Bs E E) [] E [0,1,2,3,4,5] E E)))))))))
  refine aC aA 2 [(39,.v (.bool (decide (c.1=6))))] ev1 E E ?_
  refine aH E h (fun h=>?_) (fun h=>?_)
  ·
   obtain ⟨a6,a7,h⟩:=aE h
   obtain ⟨⟨k,l⟩,a8,h⟩:=aE h
   refine bF E (.new 8 46 (aG a b) .nil) [] [4,5,6,7,8,9] ev4 E (fun e5=>?_)
   refine bX aA aJ true 8 [0,2] E (by kernel_rfl) [] [(42,.v (.agg (aG a b).toArray)),(44,.v (I (max a.2.2.2.1 1)))] ev4 [] E E (Es E) (JA.one 1 (by kernel_rfl) (JK.buildSlice aA E E E E E E E E E E E [] E iT [9] ev9 E E fun a9=>aU ev4 [] E (JA.one 3 (by kernel_rfl) (JK.call E E E E (aBx ([9]:List Int) (max a.2.2.2.1 1) a9 (([9]:List Int).length) _ a7) E [7] E E ?_))))
   rintro ⟨b0,b1⟩ -
   refine aU ev4 [] E (JA.one 4 (by kernel_rfl) (JK.call E E E E (aEe a a6 1 b b0 b1 _ a8) E [0,1,2,3,4,5,7] E E ?_))
   rintro m -
   refine aR E (aT aA aJ 2 [5,6,7] E (by kernel_rfl) [] [(47,.v (.agg (aG k m).toArray)),(48,.v (I l))] E (Es E) (JA.one 8 (by kernel_rfl) (bH aA E E E E E E E E (aR E (aT aA aJ 0 [9] E (by kernel_rfl) [] [(13,.v (I l))] E ev2 (bM (by kernel_rfl) (bE (B':=(.new 11 46 bA (.new 12 46 (aG k m) .nil))) (Bs E E) (aV (bT (l,k,m) h (Es E) (Bs E E) [] E [0,1,2,3,4,5] E E)))))))))
  refine aC aA 2 [(49,.v (.bool (decide (c.1=4))))] ev1 E E ?_
  refine aH E h (fun h=>?_) (fun h=>?_)
  ·
   refine JS.region (aB aA 1 [] [] [(51,.v (.agg (aG a b).toArray))] _ E ev1 ?_)
   refine bnw h fun D b2 h=>JO.call E E E E (hD a b _ b2) E [0,1,2,3,4,5] E E fun F _=>aL aA 2 [] [] [(13,.v (I 2))] (.new 11 46 bA (.new 12 46 (aG D F) .nil)) E ⟨ev2,(Bs E E)⟩ (aD E (aV (bT (2,D,F) h (Es E) (Bs E E) [] E [0,1,2,3,4,5] E E)))
  refine aC aA 2 [(53,.v (.bool (decide (c.1=2))))] ev1 E E ?_
  refine aH E h (fun h=>?_) (fun h=>?_)
  ·
   refine JS.seq (JS.region (aB aA 3 [] [] [(55,.v (.agg (aG a b).toArray)),(57,.v (I c.2))] _ E ⟨(Es E),E⟩ ?_))
   obtain ⟨⟨b3,b4,b5⟩,b6,h⟩:=aE h
   refine JO.call E E E E (aGf a c.2 b _ b6) E [0,1,2,3,4,5] E E fun G _=>aL aA 6 [] [] [(7,.v (I b4)),(8,.v (.bool b5))] (.new 11 46 (aG b3 G) .nil) E ⟨(Es E),(Bs E E)⟩ (aD E ?_)
   cases h
   exact JS.ret aA G V E E [0,0,0,0,0,0] E
  refine aC aA 2 [(62,.v (.bool (decide (c.1=5))))] ev1 E E ?_
  refine aH E h (fun h=>?_) (fun h=>?_)
  ·
   refine JS.region (aB aA 6 [(W (a.2.2.1.2 - (max a.2.2.2.1 1)))] [] [(65,.v (.agg (aG a b).toArray)),(69,.v (I (max (W (a.2.2.1.2 - (max a.2.2.2.1 1))) 0))),(70,.v (I a.2.2.1.2))] _ E ⟨ev5,(Es E),E⟩ ?_)
   obtain ⟨⟨H,J⟩,b7,h⟩:=aE h
   refine JO.call E E E E (aGh a (max (W (a.2.2.1.2 - (max a.2.2.2.1 1))) 0) a.2.2.1.2 b _ b7) E [0,1,2,3,4,5] E E fun K _=>aL aA 5 [] [] [(13,.v (I J))] (.new 11 46 bA (.new 12 46 (aG H K) .nil)) E ⟨ev2,(Bs E E)⟩ (aD E (aV (bT (J,H,K) h (Es E) (Bs E E) [] E [0,1,2,3,4,5] E E)))
  refine aC aA 2 [(74,.v (.bool (decide (c.1=14))))] ev1 E E ?_
  refine aH E h (fun h=>?_) (fun h=>?_)
  ·
   refine JS.region (aB aA 7 [(W (a.2.2.1.2+(max a.2.2.2.1 1)))] [] [(77,.v (.agg (aG a b).toArray)),(78,.v (I a.2.2.1.2)),(83,.v (I (min (W (a.2.2.1.2+(max a.2.2.2.1 1))) (a.2.2.1.1.length:Int))))] _ E ⟨ev5,(Es E),E⟩ ?_)
   obtain ⟨⟨L,M⟩,b8,h⟩:=aE h
   refine JO.call E E E E (aGh a a.2.2.1.2 (min (W (a.2.2.1.2+(max a.2.2.2.1 1))) (a.2.2.1.1.length:Int)) b _ b8) E [0,1,2,3,4,5] E E fun N _=>aL aA 5 [] [] [(13,.v (I M))] (.new 11 46 bA (.new 12 46 (aG L N) .nil)) E ⟨ev2,(Bs E E)⟩ (aD E (aV (bT (M,L,N) h (Es E) (Bs E E) [] E [0,1,2,3,4,5] E E)))
  refine aC aA 2 [(87,.v (.bool (decide (c.1=11))))] ev1 E E ?_
  refine aH E h (fun h=>?_) (fun h=>?_)
  ·
   obtain ⟨b9,c0,h⟩:=aE h
   obtain ⟨⟨n,o⟩,c1,h⟩:=aE h
   refine bF E (.new 8 46 (aG a b) .nil) [] [7,8,9,10,11,12] ev4 E (fun e6=>?_)
   refine bX aA aJ true 7 [0,1,2,3,4,5] E (by kernel_rfl) [(W (a.2.2.1.2 - (max a.2.2.2.1 1)))] [(90,.v (.agg (aG a b).toArray)),(92,.v (.agg #[sL b.1 a.2.2.1.1 b.2.1,I a.2.2.1.2])),(95,.v (I (W (a.2.2.1.2 - (max a.2.2.2.1 1)))))] ev4 [] E E ⟨ev5,(Es E)⟩ (JA.one 6 (by kernel_rfl) (JK.call E E E E (gI a.2.2.1 (W (a.2.2.1.2 - (max a.2.2.2.1 1))) b.1 b.2.1 _ c0) E [0] E E ?_))
   rintro ⟨c2,c3⟩ -
   refine aU ev4 [] E (JA.one 7 (by kernel_rfl) (JK.call E E E E (nU a b9 b c2 c3 _ c1) E [0,1,2,3,4,5,7] E E ?_))
   rintro p -
   refine aR E (aT aA aJ 2 [8,9,10] E (by kernel_rfl) [] [(98,.v (.agg (aG n p).toArray)),(99,.v (I o))] E (Es E) (JA.one 11 (by kernel_rfl) (bH aA E E E E E E E E (aR E (aT aA aJ 0 [12] E (by kernel_rfl) [] [(13,.v (I o))] E ev2 (bM (by kernel_rfl) (bE (B':=(.new 11 46 bA (.new 12 46 (aG n p) .nil))) (Bs E E) (aV (bT (o,n,p) h (Es E) (Bs E E) [] E [0,1,2,3,4,5] E E)))))))))
  refine aC aA 2 [(100,.v (.bool (decide (c.1=10))))] ev1 E E ?_
  refine aH E h (fun h=>?_) (fun h=>?_)
  ·
   obtain ⟨c4,c5,h⟩:=aE h
   obtain ⟨⟨s,t⟩,c6,h⟩:=aE h
   refine bF E (.new 8 46 (aG a b) .nil) [] [7,8,9,10,11,12] ev4 E (fun e7=>?_)
   refine bX aA aJ true 7 [0,1,2,3,4,5] E (by kernel_rfl) [(W (a.2.2.1.2+(max a.2.2.2.1 1)))] [(103,.v (.agg (aG a b).toArray)),(105,.v (.agg #[sL b.1 a.2.2.1.1 b.2.1,I a.2.2.1.2])),(108,.v (I (W (a.2.2.1.2+(max a.2.2.2.1 1)))))] ev4 [] E E ⟨ev5,(Es E)⟩ (JA.one 6 (by kernel_rfl) (JK.call E E E E (gI a.2.2.1 (W (a.2.2.1.2+(max a.2.2.2.1 1))) b.1 b.2.1 _ c5) E [0] E E ?_))
   rintro ⟨c7,c8⟩ -
   refine aU ev4 [] E (JA.one 7 (by kernel_rfl) (JK.call E E E E (nU a c4 b c7 c8 _ c6) E [0,1,2,3,4,5,7] E E ?_))
   rintro u -
   refine aR E (aT aA aJ 2 [8,9,10] E (by kernel_rfl) [] [(111,.v (.agg (aG s u).toArray)),(112,.v (I t))] E (Es E) (JA.one 11 (by kernel_rfl) (bH aA E E E E E E E E (aR E (aT aA aJ 0 [12] E (by kernel_rfl) [] [(13,.v (I t))] E ev2 (bM (by kernel_rfl) (bE (B':=(.new 11 46 bA (.new 12 46 (aG s u) .nil))) (Bs E E) (aV (bT (t,s,u) h (Es E) (Bs E E) [] E [0,1,2,3,4,5] E E)))))))))
  refine aC aA 2 [(113,.v (.bool (decide (c.1=12))))] ev1 E E ?_
  refine aH E h (fun h=>?_) (fun h=>?_)
  ·
   obtain ⟨c9,d0,h⟩:=aE h
   obtain ⟨⟨w,x⟩,d1,h⟩:=aE h
   refine bF E (.new 8 46 (aG a b) .nil) [] [4,5,6,7,8,9] ev4 E (fun e8=>?_)
   refine bX aA aJ true 7 [0,1,2] E (by kernel_rfl) [] [(116,.v (.agg (aG a b).toArray)),(118,.v (.agg #[sL b.1 a.2.2.1.1 b.2.1,I a.2.2.1.2]))] ev4 [] E E (Es E) (JA.one 3 (by kernel_rfl) (JK.call E E E E (gI a.2.2.1 0 b.1 b.2.1 _ d0) E [0] E E ?_))
   rintro ⟨d2,d3⟩ -
   refine aU ev4 [] E (JA.one 4 (by kernel_rfl) (JK.call E E E E (nU a c9 b d2 d3 _ d1) E [0,1,2,3,4,5,7] E E ?_))
   rintro y -
   refine aR E (aT aA aJ 2 [5,6,7] E (by kernel_rfl) [] [(121,.v (.agg (aG w y).toArray)),(122,.v (I x))] E (Es E) (JA.one 8 (by kernel_rfl) (bH aA E E E E E E E E (aR E (aT aA aJ 0 [9] E (by kernel_rfl) [] [(13,.v (I x))] E ev2 (bM (by kernel_rfl) (bE (B':=(.new 11 46 bA (.new 12 46 (aG w y) .nil))) (Bs E E) (aV (bT (x,w,y) h (Es E) (Bs E E) [] E [0,1,2,3,4,5] E E)))))))))
  refine aC aA 2 [(123,.v (.bool (decide (c.1=13))))] ev1 E E ?_
  refine aH E h (fun h=>?_) (fun h=>?_)
  ·
   obtain ⟨d4,d5,h⟩:=aE h
   obtain ⟨⟨A,B⟩,d6,h⟩:=aE h
   refine bF E (.new 8 46 (aG a b) .nil) [] [5,6,7,8,9,10] ev4 E (fun e9=>?_)
   refine bX aA aJ true 7 [0,1,2,3] E (by kernel_rfl) [] [(126,.v (.agg (aG a b).toArray)),(128,.v (.agg #[sL b.1 a.2.2.1.1 b.2.1,I a.2.2.1.2])),(129,.v (I (a.2.2.1.1.length:Int)))] ev4 [] E E (Es E) (JA.one 4 (by kernel_rfl) (JK.call E E E E (gI a.2.2.1 (a.2.2.1.1.length:Int) b.1 b.2.1 _ d5) E [0] E E ?_))
   rintro ⟨d7,d8⟩ -
   refine aU ev4 [] E (JA.one 5 (by kernel_rfl) (JK.call E E E E (nU a d4 b d7 d8 _ d6) E [0,1,2,3,4,5,7] E E ?_))
   rintro C -
   refine aR E (aT aA aJ 2 [6,7,8] E (by kernel_rfl) [] [(132,.v (.agg (aG A C).toArray)),(133,.v (I B))] E (Es E) (JA.one 9 (by kernel_rfl) (bH aA E E E E E E E E (aR E (aT aA aJ 0 [10] E (by kernel_rfl) [] [(13,.v (I B))] E ev2 (bM (by kernel_rfl) (bE (B':=(.new 11 46 bA (.new 12 46 (aG A C) .nil))) (Bs E E) (aV (bT (B,A,C) h (Es E) (Bs E E) [] E [0,1,2,3,4,5] E E)))))))))
  refine aC aA 2 [(134,.v (.bool (decide (c.1=8))))] ev1 E E ?_
  refine aH E h (fun h=>?_) (fun h=>?_)
  ·
   refine JS.region (aB aA 2 [] [] [(137,.v (.agg (aG a b).toArray)),(138,.v (.agg #[I d.1,sL e d.2 f]))] _ E ⟨(Es E),E⟩ ?_)
   obtain ⟨⟨O,P⟩,d9,h⟩:=aE h
   refine JO.call E E E E (uD a d (-1) b e f _ d9) E [0,1,2,3,4,5,6] E E fun Q _=>aL aA 5 [] [] [(13,.v (I P))] (.new 11 46 bA (.new 12 46 (aG O Q) .nil)) E ⟨ev2,(Bs E E)⟩ (aD E (aV (bT (P,O,Q) h (Es E) (Bs E E) [] E [0,1,2,3,4,5] E E)))
  refine aC aA 2 [(142,.v (.bool (decide (c.1=9))))] ev1 E E ?_
  refine aH E h (fun h=>?_) (fun h=>?_)
  ·
   refine JS.region (aB aA 2 [] [] [(145,.v (.agg (aG a b).toArray)),(146,.v (.agg #[I d.1,sL e d.2 f]))] _ E ⟨(Es E),E⟩ ?_)
   obtain ⟨⟨R,S⟩,e0,h⟩:=aE h
   refine JO.call E E E E (uD a d 1 b e f _ e0) E [0,1,2,3,4,5,6] E E fun U _=>aL aA 5 [] [] [(13,.v (I S))] (.new 11 46 bA (.new 12 46 (aG R U) .nil)) E ⟨ev2,(Bs E E)⟩ (aD E (aV (bT (S,R,U) h (Es E) (Bs E E) [] E [0,1,2,3,4,5] E E)))
  refine aM aA 4 [] [] [(7,.v (I 0)),(8,.v (.bool false))] (.new 11 46 bA .nil) ⟨(Es E),(Bs E E)⟩ E E ?_
  cases h
  refine aZ iT Sl.nil E E (aZ (.sl iT) Sl.nil E E (aZ (.pair (.sl iT) iT) Sl.nil E E (aZ iT Sl.nil E E (aZ iT Sl.nil E E (aZ iT Sl.nil E E (JS.ret aA (none,0,none,0,none,0,none,0,none,0,none,0) V E E [5,4,3,2,1,0] E))))))
 rintro ⟨e1,e2,X⟩ h
 subst Z
 refine aM aA 5 [] [] [(7,.v (I e1)),(8,.v (.bool true))] (.new 11 46 (aG e2 X) .nil) ⟨(Es E),(Bs E E)⟩ E E ?_
 cases h
 exact JS.ret aA X V E E [0,0,0,0,0,0] E

def xO (b:EdQ):Option (EdQ×Int):= (aF (dQ b 0) fun a=>(aF (cY b.2.2.1) fun c=> some ((a.1,3,a.2.2.1,a.2.2.2.1,a.2.2.2.2.1,a.2.2.2.2.2.1,a.2.2.2.2.2.2.1,a.2.2.2.2.2.2.2.1,a.2.2.2.2.2.2.2.2.1,a.2.2.2.2.2.2.2.2.2.1,a.2.2.2.2.2.2.2.2.2.2.1,a.2.2.2.2.2.2.2.2.2.2.2.1,a.2.2.2.2.2.2.2.2.2.2.2.2.1,a.2.2.2.2.2.2.2.2.2.2.2.2.2.1,[],0,c),0)))

theorem aIy (c:EdQ) (d:P6) (r:EdQ×Int) (h:xO c=some r):
 FC Tryz.prog 208 [.agg (cD c d).toArray] (bP c d []) (fun _:Option Addr×Nat×Option Addr×Nat×Option Addr×Nat×Option Addr×Nat×Option Addr×Nat=>True) (fun q=>.tuple #[.agg (aG (U14 r.1 []) (q.1,q.2.1,q.2.2.1,q.2.2.2.1,(Q4 q).1,(Q4 q).2.1,(Q4 q).2.2.1,(Q4 q).2.2.2.1,none,0,(Q8 q))).toArray,I r.2]) (fun q=>[fI q.1 q.2.1 r.1.2.2.1.1,⟨(.sl iT),⟨q.2.2.1,r.1.2.2.2.2.2.2.2.2.2.2.1.length,q.2.2.2.1⟩,r.1.2.2.2.2.2.2.2.2.2.2.1⟩,⟨(.pair (.sl iT) iT),⟨(Q4 q).1,r.1.2.2.2.2.2.2.2.2.2.2.2.1.length,(Q4 q).2.1⟩,r.1.2.2.2.2.2.2.2.2.2.2.2.1⟩,fI (Q4 q).2.2.1 (Q4 q).2.2.2.1 r.1.2.2.2.2.2.2.2.2.2.2.2.2.2.1.1,fI (Q8 q).1 (Q8 q).2 r.1.2.2.2.2.2.2.2.2.2.2.2.2.2.2.2.2.1]):= by
 refine FC.of (T:=TTx) Tryz.call208 Tryz.func208 E E fun k=>?_
 unfold xO at h
 refine aM aA 3 [] [7,8] [(1,.bp 7 0),(2,.bp 8 0)] (.new 7 46 (aG c d) (.new 8 46 bA .nil)) ⟨(Es E),(Bs E E)⟩ E E (JS.seq (JS.region (aB aA 1 [] [] [(5,.v (.agg (aG c d).toArray))] _ E ev1 ?_)))
 refine bnw h fun a i h=>JO.call E E E E (nG c 0 d _ i) E [0,1,2,3,4,5] E E fun b _=>aL aA 2 [] [29] [(4,.bp 29 0)] (.new 7 46 (aG c d) (.new 8 46 bA (.new 29 46 (aG a b) .nil))) E ⟨ev2,(Bs E E)⟩ (aD E (JS.seq (JS.region (aB aA 2 [] [] [(8,.v (.agg #[sL d.1 c.2.2.1.1 d.2.1,I c.2.2.1.2]))] _ E ev1 ?_))))
 refine bnw h fun g j h=>JO.call E E E E (eG c.2.2.1 d.1 d.2.1 _ j) E [0] E E ?_
 rintro ⟨e,f⟩ -
 refine aL aA 8 [] [] [] (.new 8 46 bA (.new 29 46 (aG (a.1,3,a.2.2.1,a.2.2.2.1,(Q4 a).1,(Q4 a).2.1,(Q4 a).2.2.1,(Q4 a).2.2.2.1,(Q8 a).1,(Q8 a).2.1,(Q8 a).2.2.1,(Q8 a).2.2.2.1,(Q12 a).1,(Q12 a).2.1,[],0,g) (b.1,b.2.1,b.2.2.1,b.2.2.2.1,(Q4 b).1,(Q4 b).2.1,(Q4 b).2.2.1,(Q4 b).2.2.2.1,none,0,e,f)) .nil)) E ⟨V,(Bs E E)⟩ (aD E (aM aA 3 [] [] [(3,.v (I 0))] (.new 8 46 (aG (a.1,3,a.2.2.1,a.2.2.2.1,(Q4 a).1,(Q4 a).2.1,(Q4 a).2.2.1,(Q4 a).2.2.2.1,(Q8 a).1,(Q8 a).2.1,(Q8 a).2.2.1,(Q8 a).2.2.2.1,(Q12 a).1,(Q12 a).2.1,[],0,g) (b.1,b.2.1,b.2.2.1,b.2.2.2.1,(Q4 b).1,(Q4 b).2.1,(Q4 b).2.2.1,(Q4 b).2.2.2.1,none,0,e,f)) .nil) ⟨ev2,(Bs E E)⟩ E E ?_))
 cases h
 exact JS.ret aA (b.1,b.2.1,b.2.2.1,b.2.2.2.1,(Q4 b).1,(Q4 b).2.1,(Q4 b).2.2.1,(Q4 b).2.2.2.1,e,f) V E E [1,1,1,1,0] E

def pP (a:EdQ) (b:Int):Option EdQ:= some (a.1,1,(a.2.2.1.1,b),a.2.2.2.1,a.2.2.2.2.1,a.2.2.2.2.2.1,a.2.2.2.2.2.2.1,a.2.2.2.2.2.2.2.1,a.2.2.2.2.2.2.2.2.1,a.2.2.2.2.2.2.2.2.2.1,a.2.2.2.2.2.2.2.2.2.2.1,a.2.2.2.2.2.2.2.2.2.2.2.1,a.2.2.2.2.2.2.2.2.2.2.2.2.1,a.2.2.2.2.2.2.2.2.2.2.2.2.2.1,a.2.2.2.2.2.2.2.2.2.2.2.2.2.2.1,a.2.2.2.2.2.2.2.2.2.2.2.2.2.2.2.1,a.2.2.2.2.2.2.2.2.2.2.2.2.2.2.2.2)

theorem zY (a:EdQ) (c:Int) (b:P6) (r:EdQ) (h:pP a c=some r):
 FC Tryz.prog 276 [.agg (cD a b).toArray,I c] (bP a b []) (fun _:Unit=>True) (fun _=>.agg #[.bool r.1,I r.2.1,sL b.1 a.2.2.1.1 b.2.1,I r.2.2.1.2,I r.2.2.2.1,I (Q4 r).1,I (Q4 r).2.1,I (Q4 r).2.2.1,I (Q4 r).2.2.2.1,I (Q8 r).1,I (Q8 r).2.1,sL b.2.2.1 (Q8 a).2.2.1 b.2.2.2.1,sL (Q4 b).1 (Q8 a).2.2.2.1 (Q4 b).2.1,I (Q12 r).1,sL (Q4 b).2.2.1 (Q12 a).2.1.1 (Q4 b).2.2.2.1,I (Q12 r).2.1.2,sL (Q8 b).1 (Q12 a).2.2.1 (Q8 b).2.1,I (Q12 r).2.2.2.1,sL (Q8 b).2.2.1 (Q16 a).1 (Q8 b).2.2.2,I (Q16 r).2]) (fun _=>[]):= by
 refine FC.of (T:=TTx) Tryz.call276 Tryz.func276 E E fun d=>?_
 unfold pP at h
 refine aM aA 2 [] [7,8] [(2,.bp 7 0),(4,.bp 8 0)] (.new 7 46 (aG a b) (.new 8 46 bA .nil)) ⟨(Es E),(Bs E E)⟩ E E (aM aA 2 [] [] [] (.new 7 46 (aG (a.1,1,a.2.2) b) (.new 8 46 bA .nil)) ⟨V,(Bs E E)⟩ E E (aM aA 4 [] [] [] (.new 7 46 (aG (a.1,1,(a.2.2.1.1,c),a.2.2.2) b) (.new 8 46 bA .nil)) ⟨V,(Bs E E)⟩ E E (aM aA 2 [] [] [] (.new 8 46 (aG (a.1,1,(a.2.2.1.1,c),a.2.2.2) b) .nil) ⟨V,(Bs E E)⟩ E E ?_)))
 cases h
 exact JS.ret aA () V E E [] E

def eA (e:EdQ) (h:Int) (f:Int) (i:Int):Option (EdQ×Int):= (bif decide (f=i) then (bif (!(decide (h=99))) then (aF (cZ e) fun (l,m)=> some (l,m)) else (aF (eE e.2.2.1 f) fun n=>(aF (oW e n 0) fun g=>(aF (pP g f) fun c=> some ((c.1,c.2.1,(g.2.2.1.1,c.2.2.1.2),c.2.2.2.1,c.2.2.2.2.1,c.2.2.2.2.2.1,c.2.2.2.2.2.2.1,c.2.2.2.2.2.2.2.1,c.2.2.2.2.2.2.2.2.1,c.2.2.2.2.2.2.2.2.2.1,g.2.2.2.2.2.2.2.2.2.2.1,g.2.2.2.2.2.2.2.2.2.2.2.1,c.2.2.2.2.2.2.2.2.2.2.2.2.1,(g.2.2.2.2.2.2.2.2.2.2.2.2.2.1.1,c.2.2.2.2.2.2.2.2.2.2.2.2.2.1.2),g.2.2.2.2.2.2.2.2.2.2.2.2.2.2.1,c.2.2.2.2.2.2.2.2.2.2.2.2.2.2.2.1,(g.2.2.2.2.2.2.2.2.2.2.2.2.2.2.2.2.1,c.2.2.2.2.2.2.2.2.2.2.2.2.2.2.2.2.2)),0))))) else (aF (jW e.2.2.1 f i) fun (o,p,K)=>(aF (dZ e) fun a=>(aF (qI e.2.2.2.2.2.2.2.2.2.2.1 p 0) fun (j,L)=>(bif decide (h=121) then (aF (eE e.2.2.1 f) fun q=>(aF (iH (a.1,a.2.1,a.2.2.1,a.2.2.2.1,a.2.2.2.2.1,a.2.2.2.2.2.1,a.2.2.2.2.2.2.1,a.2.2.2.2.2.2.2.1,a.2.2.2.2.2.2.2.2.1,a.2.2.2.2.2.2.2.2.2.1,j,a.2.2.2.2.2.2.2.2.2.2.2.1,a.2.2.2.2.2.2.2.2.2.2.2.2.1,a.2.2.2.2.2.2.2.2.2.2.2.2.2.1,a.2.2.2.2.2.2.2.2.2.2.2.2.2.2.1,a.2.2.2.2.2.2.2.2.2.2.2.2.2.2.2.1,a.2.2.2.2.2.2.2.2.2.2.2.2.2.2.2.2) q) fun (r,s)=> some (r,s))) else (aF (eE o f) fun t=>(aF (oW (a.1,a.2.1,a.2.2.1,a.2.2.2.1,a.2.2.2.2.1,a.2.2.2.2.2.1,a.2.2.2.2.2.2.1,a.2.2.2.2.2.2.2.1,a.2.2.2.2.2.2.2.2.1,a.2.2.2.2.2.2.2.2.2.1,j,a.2.2.2.2.2.2.2.2.2.2.2.1,a.2.2.2.2.2.2.2.2.2.2.2.2.1,a.2.2.2.2.2.2.2.2.2.2.2.2.2.1,a.2.2.2.2.2.2.2.2.2.2.2.2.2.2.1,a.2.2.2.2.2.2.2.2.2.2.2.2.2.2.2.1,a.2.2.2.2.2.2.2.2.2.2.2.2.2.2.2.2) t 0) fun b=>(aS (fun ((u,v,w,x,y,z,A,B,C,D,F,G,H,J):Bool×Int×Int×Int×Int×Int×Int×Int×Int×Int×Int×Int×Int×Int)=> some ((u,v,(b.2.2.1.1,w),x,y,z,A,B,C,D,b.2.2.2.2.2.2.2.2.2.2.1,b.2.2.2.2.2.2.2.2.2.2.2.1,F,(b.2.2.2.2.2.2.2.2.2.2.2.2.2.1.1,G),b.2.2.2.2.2.2.2.2.2.2.2.2.2.2.1,H,(b.2.2.2.2.2.2.2.2.2.2.2.2.2.2.2.2.1,J)),0)) fun k=>(bif decide (h=99) then (aF (pP b f) fun d=> k (d.1,d.2.1,d.2.2.1.2,d.2.2.2.1,d.2.2.2.2.1,d.2.2.2.2.2.1,d.2.2.2.2.2.2.1,d.2.2.2.2.2.2.2.1,d.2.2.2.2.2.2.2.2.1,d.2.2.2.2.2.2.2.2.2.1,d.2.2.2.2.2.2.2.2.2.2.2.2.1,d.2.2.2.2.2.2.2.2.2.2.2.2.2.1.2,d.2.2.2.2.2.2.2.2.2.2.2.2.2.2.2.1,d.2.2.2.2.2.2.2.2.2.2.2.2.2.2.2.2.2)) else k (b.1,b.2.1,b.2.2.1.2,b.2.2.2.1,b.2.2.2.2.1,b.2.2.2.2.2.1,b.2.2.2.2.2.2.1,b.2.2.2.2.2.2.2.1,b.2.2.2.2.2.2.2.2.1,b.2.2.2.2.2.2.2.2.2.1,b.2.2.2.2.2.2.2.2.2.2.2.2.1,b.2.2.2.2.2.2.2.2.2.2.2.2.2.1.2,b.2.2.2.2.2.2.2.2.2.2.2.2.2.2.2.1,b.2.2.2.2.2.2.2.2.2.2.2.2.2.2.2.2.2))))))))))

theorem hU (d:EdQ) (t:Int) (f:Int) (u:Int) (b:P6) (r:EdQ×Int) (h:eA d t f u=some r):
 FC Tryz.prog 219 [.agg (cD d b).toArray,I t,I f,I u] (bP d b []) (fun _:P6=>True) (fun q=>.tuple #[.agg (aG r.1 q).toArray,I r.2]) (fun q=>(bP r.1 q [])):= by
 refine FC.of (T:=TTx) Tryz.call219 Tryz.func219 E E fun w0=>?_
 unfold eA at h
 refine aM aA 3 [] [7,8] [(4,.bp 7 0),(8,.bp 8 0)] (.new 7 46 (aG d b) (.new 8 46 bA .nil)) ⟨(Es E),(Bs E E)⟩ E E (JS.seq (aC aA 3 [(16,.v (.bool (decide (f=u))))] ev1 E E ?_))
 refine aH E h (fun h=>?_) (fun h=>?_)
 ·
  refine JS.seq (aC aA 2 [(18,.v (.bool (!(decide (t=99)))))] ev1 E E ?_)
  refine aH E h (fun h=>?_) (fun h=>?_)
  ·
   refine JS.seq (JS.region (aB aA 1 [] [] [(19,.v (.agg (aG d b).toArray))] _ E ev1 ?_))
   obtain ⟨⟨G,H⟩,J,h⟩:=aE h
   refine JO.call E E E E (dR d b _ J) E [0,1,2,3,4,5] E E fun C _=>aL aA 4 [] [] [(9,.v (I H))] (.new 8 46 (aG G C) .nil) E ⟨ev2,(Bs E E)⟩ (aD E ?_)
   cases h
   exact JS.ret aA C V E E [0,0,0,0,0,0] E
  refine JS.skip (JS.seq ?_)
  obtain ⟨K,L,h⟩:=aE h
  obtain ⟨l,M,h⟩:=aE h
  refine bnw h fun g N h=>bF E (.new 7 46 (aG d b) .nil) [] [5,7,8,9] ev4 E (fun c3=>?_)
  refine bX aA aJ true 6 [0,1,2,3] E (by kernel_rfl) [] [(23,.v (.agg (aG d b).toArray)),(25,.v (.agg #[sL b.1 d.2.2.1.1 b.2.1,I d.2.2.1.2])),(26,.v (I f))] ev4 [] E E (Es E) (aT aA aJ 5 [6] E (by kernel_rfl) [] [(29,.v (I f))] E ev2 (JA.one 4 (by kernel_rfl) (JK.call E E E E (gI d.2.2.1 f b.1 b.2.1 _ L) E [0] E E ?_)))
  rintro ⟨O,P⟩ -
  refine aU ev4 [] E (JA.one 5 (by kernel_rfl) (JK.call E E E E (wY d K 0 b O P _ M) E [0,1,2,3,4,5,6] E E ?_))
  rintro w -
  refine aR E (JA.one 7 (by kernel_rfl) (JK.call E E E E (zY l f w _ N) E [6,7,8,9,10,11] E E fun _ _=>aR E (JA.one 8 (by kernel_rfl) (bH aA E E E E E E E E (aR E (aT aA aJ 0 [9] E (by kernel_rfl) [] [(9,.v (I 0))] E ev2 (bM (by kernel_rfl) (bE (B':=(.new 8 46 (aG (g.1,g.2.1,(l.2.2.1.1,g.2.2.1.2),g.2.2.2.1,(Q4 g).1,(Q4 g).2.1,(Q4 g).2.2.1,(Q4 g).2.2.2.1,(Q8 g).1,(Q8 g).2.1,(Q8 l).2.2.1,(Q8 l).2.2.2.1,(Q12 g).1,((Q12 l).2.1.1,(Q12 g).2.1.2),(Q12 l).2.2.1,(Q12 g).2.2.2.1,((Q16 l).1,(Q16 g).2)) w) .nil)) (Bs E E) ?_))))))))
  cases h
  exact JS.ret aA w V E E [0,0,0,0,0,0] E
 refine JS.skip (JS.seq (JS.region (aB aA 4 [] [] [(33,.v (.agg #[sL b.1 d.2.2.1.1 b.2.1,I d.2.2.1.2])),(34,.v (I f)),(35,.v (I u))] _ E ⟨(Es E),E⟩ ?_)))
 obtain ⟨⟨i,x,c4⟩,Q,h⟩:=aE h
 refine JO.call E E E E (yJ d.2.2.1 f u b.1 b.2.1 _ Q) E [0] E E ?_
 rintro ⟨p,s,y,A⟩ -
 refine aL aA 8 [] [68] [(10,.bp 68 0),(11,.v (sL y x A))] (.new 7 46 (aG d b) (.new 8 46 bA (.new 68 38 [sL p i.1 s,I i.2] .nil))) E ⟨(Es E),(Bs E E)⟩ (aD E (JS.seq (JS.region (aB aA 1 [] [] [(40,.v (.agg (aG d b).toArray))] _ E ev1 ?_))))
 refine bnw h fun k R h=>JO.call E E E E (hD d b _ R) E [0,1,2,3,4,5] E E fun e _=>aL aA 2 [] [89] [(13,.bp 89 0)] (.new 7 46 (aG d b) (.new 8 46 bA (.new 68 38 [sL p i.1 s,I i.2] (.new 89 46 (aG k e) .nil)))) E ⟨ev2,(Bs E E)⟩ (aD E (JS.seq (JS.region (aB aA 3 [] [] [(44,.v (.agg #[sL b.2.2.1 (Q8 d).2.2.1 b.2.2.2.1])),(45,.v (sL y x A))] _ E ⟨(Es E),E⟩ ?_))))
 obtain ⟨⟨m,c5⟩,S,h⟩:=aE h
 refine JO.call E E E E (aCq (Q8 d).2.2.1 x 0 b.2.2.1 b.2.2.2.1 y A _ S) E [1,13] E E ?_
 rintro ⟨n,o⟩ -
 refine aL aA 5 [] [] [] (.new 7 46 (aG d b) (.new 8 46 bA (.new 68 38 [sL p i.1 s,I i.2] (.new 89 46 (aG (U10 k m) (e.1,e.2.1,n,o,(Q4 e))) .nil)))) E ⟨V,(Bs E E)⟩ (aD E (JS.seq (aC aA 2 [(51,.v (.bool (decide (t=121))))] ev1 E E ?_)))
 refine aH E h (fun h=>?_) (fun h=>?_)
 ·
  refine JS.seq ?_
  obtain ⟨U,W,h⟩:=aE h
  obtain ⟨⟨D,F⟩,X,h⟩:=aE h
  refine bF E (.new 7 46 (aG d b) (.new 89 46 (aG (U10 k m) (e.1,e.2.1,n,o,(Q4 e))) .nil)) [] [5,6,7,8,9] ev6 E (fun c6=>?_)
  refine bX aA aJ true 6 [0,1,2,3] E (by kernel_rfl) [] [(52,.v (.agg (aG (U10 k m) (e.1,e.2.1,n,o,(Q4 e))).toArray)),(54,.v (.agg #[sL b.1 d.2.2.1.1 b.2.1,I d.2.2.1.2])),(55,.v (I f))] ev6 [] E E (Es E) (JA.one 4 (by kernel_rfl) (JK.call E E E E (gI d.2.2.1 f b.1 b.2.1 _ W) E [0] E E ?_))
  rintro ⟨Y,Z⟩ -
  refine aU ev6 [] E (JA.one 5 (by kernel_rfl) (JK.call E E E E (nU (U10 k m) U (e.1,e.2.1,n,o,(Q4 e)) Y Z _ X) E [8,7,10,11,12,13,6] E E ?_))
  rintro B -
  refine aR E (aT aA aJ 2 [6,7] E (by kernel_rfl) [] [(58,.v (.agg (aG D B).toArray)),(59,.v (I F))] E (Es E) (JA.one 8 (by kernel_rfl) (bH aA E E E E E E E E (aR E (aT aA aJ 0 [9] E (by kernel_rfl) [] [(9,.v (I F))] E ev2 (bM (by kernel_rfl) (bE (B':=(.new 8 46 (aG D B) .nil)) (Bs E E) ?_)))))))
  cases h
  exact JS.ret aA B V E E [0,0,0,0,0,0] E
 refine JS.skip (JS.seq ?_)
 obtain ⟨a0,a1,h⟩:=aE h
 refine bnw h fun a a2 h=>bF E (.new 68 38 [sL p i.1 s,I i.2] (.new 89 46 (aG (U10 k m) (e.1,e.2.1,n,o,(Q4 e))) .nil)) [] [4,5] ev6 E (fun c7=>?_)
 refine bX aA aJ true 3 [0,1,2] E (by kernel_rfl) [] [(60,.v (.agg (aG (U10 k m) (e.1,e.2.1,n,o,(Q4 e))).toArray)),(61,.v (.agg #[sL p i.1 s,I i.2])),(62,.v (I f))] ev6 [] E E (Es E) (JA.one 3 (by kernel_rfl) (JK.call E E E E (gI i f p s _ a1) E [13] E E ?_))
 rintro ⟨a3,a4⟩ -
 refine aU ev6 [] E (JA.one 4 (by kernel_rfl) (JK.call E E E E (wY (U10 k m) a0 0 (e.1,e.2.1,n,o,(Q4 e)) a3 a4 _ a2) E [8,7,10,11,12,13,6] E E ?_))
 rintro j -
 refine aR E (JA.one 5 (by kernel_rfl) (bH aA E E E E E E E E (aR E (bM (by kernel_rfl) (bE (B':=(.new 8 46 bA (.new 89 46 (aG a j) .nil))) (Bs E E) ?_)))))
 obtain ⟨a5,a6,h⟩:=aN h
 refine bZ (ι:=Bool×Int×Int×Int×Int×Int×Int×Int×Int×Int×Int×Int×Int×Int) ⟨fun z=>a5 z=some r,fun z=>[(8,.bp 8 0),(13,.bp 89 0)],fun z=>(.new 8 46 bA (.new 89 46 (aG (z.1,z.2.1,(a.2.2.1.1,z.2.2.1),z.2.2.2.1,(Q4 z).1,(Q4 z).2.1,(Q4 z).2.2.1,(Q4 z).2.2.2.1,(Q8 z).1,(Q8 z).2.1,(Q8 a).2.2.1,(Q8 a).2.2.2.1,(Q8 z).2.2.1,((Q12 a).2.1.1,(Q8 z).2.2.2.1),(Q12 a).2.2.1,(Q12 z).1,((Q16 a).1,(Q12 z).2)) j) .nil)),fun z=>[],fun z=>(bP a j []),fun z=>0⟩ ?_ ?_
 ·
  refine JS.seq (wE [true,true,true,true,true,true,false,false,false,false,false,false,false,false,false,false] (bP d b []) (bP a j []) E E (eR aA 2 [(66,.v (.bool (decide (t=99))))] ev1 E E ?_))
  refine aH E h (fun h=>?_) (fun h=>?_)
  ·
   refine JS.region (aB aA 2 [] [] [(67,.v (.agg (aG a j).toArray)),(68,.v (I f))] _ E ⟨(Es E),E⟩ ?_)
   obtain ⟨c,a7,h⟩:=aE h
   refine JO.call E E E E (zY a f j _ a7) E [6,7,8,9,10,11] E E fun _ _=>aL aA 1 [] [] [] (.new 8 46 bA (.new 89 46 (aG (c.1,c.2.1,(a.2.2.1.1,c.2.2.1.2),c.2.2.2.1,(Q4 c).1,(Q4 c).2.1,(Q4 c).2.2.1,(Q4 c).2.2.2.1,(Q8 c).1,(Q8 c).2.1,(Q8 a).2.2.1,(Q8 a).2.2.2.1,(Q12 c).1,((Q12 a).2.1.1,(Q12 c).2.1.2),(Q12 a).2.2.1,(Q12 c).2.2.2.1,((Q16 a).1,(Q16 c).2)) j) .nil)) E ⟨V,(Bs E E)⟩ (aD E (bT (c.1,c.2.1,c.2.2.1.2,c.2.2.2.1,(Q4 c).1,(Q4 c).2.1,(Q4 c).2.2.1,(Q4 c).2.2.2.1,(Q8 c).1,(Q8 c).2.1,(Q12 c).1,(Q12 c).2.1.2,(Q12 c).2.2.2.1,(Q16 c).2) h (Es E) (Bs E E) [] E [0,1,2,3,4,5] E E))
  refine JS.skip (bT (a.1,a.2.1,a.2.2.1.2,a.2.2.2.1,(Q4 a).1,(Q4 a).2.1,(Q4 a).2.2.1,(Q4 a).2.2.2.1,(Q8 a).1,(Q8 a).2.1,(Q12 a).1,(Q12 a).2.1.2,(Q12 a).2.2.2.1,(Q16 a).2) h (Es E) (Bs E E) [] E [0,1,2,3,4,5] E E)
 rintro ⟨a8,a9,b0,b1,b2,b3,b4,b5,b6,b7,b8,b9,c0,c1⟩ h
 subst a6
 refine aM aA 3 [] [] [(9,.v (I 0))] (.new 8 46 (aG (a8,a9,(a.2.2.1.1,b0),b1,b2,b3,b4,b5,b6,b7,(Q8 a).2.2.1,(Q8 a).2.2.2.1,b8,((Q12 a).2.1.1,b9),(Q12 a).2.2.1,c0,((Q16 a).1,c1)) j) .nil) ⟨ev2,(Bs E E)⟩ E E ?_
 cases h
 exact JS.ret aA j V E E [0,0,0,0,0,0] E

def oO (b:List Int) (c:Bool) (d:Int) (e:Int→Option Int) (f:Int→Option Int):Int→Option Int:=fun a=>(bW ((decide (a<(b.length:Int)))=true) (eX b a c) (0:Int) fun g=>(bif (bif decide (a<(b.length:Int)) then (decide (g=d)) else false) then f (W (a+1)) else e a))

def mV (a:List Int) (b:Int) (c:Bool):Option Int:= (aF (eX a b c) fun d=>(aS (fun (e:Int)=> some e) fun f=>(aW (oO a c d f) bG b)))

theorem aEd (a:List Int) (f:Int) (b:Bool) (c:Option Addr) (d:Nat) (r:Int) (h:mV a f b=some r):
 FC Tryz.prog 295 [sL c a d,I f,.bool b] [fI c d a] (fun _:Unit=>True) (fun _=>I r) (fun _=>[]):= by
 refine FC.of (T:=TTx) Tryz.call295 Tryz.func295 E E fun q=>?_
 unfold mV at h
 refine aC aA 1 [] ev5 E E (JS.seq (JS.region (aB aA 3 [] [] [(8,.v (sL c a d)),(9,.v (I f)),(10,.v (.bool b))] _ E ⟨(Es E),E⟩ ?_)))
 refine bnw h fun g k h=>JO.call E E E E (hJ a f b c d _ k) E [0] E E fun _ _=>aB aA 1 [] [] [(7,.v (I g))] _ E ev1 (aD E (JS.seq ?_))
 obtain ⟨i,l,h⟩:=aN h
 refine aX (ι:=Int) ⟨fun z=>i z=some r,fun z=>[(1,.v (I z))],fun z=>.nil,fun z=>[],fun z=>[],fun z=>0⟩ ?_ ?_
 ·
  refine JS.loop (ι:=Nat×Int) ⟨fun z=>aW (oO a b g i) z.1 z.2=some r,fun z=>[(0,.v (sL c a d)),(1,.v (I z.2)),(2,.v (.bool b)),(7,.v (I g))],fun z=>.nil,fun z=>[fI c d a],fun z=>[],fun z=>z.1⟩ (bG,f) h (Es E) V [0] E [] E ?_
  rintro ⟨j,e⟩ h
  obtain ⟨j,rfl,h⟩:=bC h
  rw [oO] at h
  refine JS.seq (JS.seq (JS.region (aB aA 8 [] [] [(16,.v (.bool (decide (e<(a.length:Int))))),(17,.cd [(16,true)] (.v (sL c a d))),(18,.cd [(16,true)] (.v (I e))),(19,.cd [(16,true)] (.v (.bool b)))] _ E ⟨(Es E),E⟩ ?_)))
  obtain ⟨m,n,-,h⟩:=aY h
  refine bL E E E E (fun o=>hJ a e b c d _ (n o)) E [0] E E (aB aA 3 [] [] [(23,.v (.bool (bif (decide (e<(a.length:Int))) then (decide (m=g)) else false)))] _ E ev1 (aD E ?_))
  refine aH E h (fun h=>?_) (fun h=>?_)
  ·
   refine JS.skip (JS.block (bY aA 3 [(W (e+1))] [] [(1,.v (I (W (e+1))))] _ ev3 E E (aV (bR (j,(W (e+1))) h (Nat.lt_succ_self _) (Es E) V [0] E [] E))))
  refine JS.exit E (aQ e h ev2 V [] E [] E)
 rintro p h
 subst l
 refine aC aA 2 [(6,.v (I p))] ev1 E E ?_
 cases h
 exact JS.ret aA () V E E [] E

def gM (b:List Int) (c:Bool) (d:Int→Option Int) (e:Int→Option Int):Int→Option Int:=fun a=>(bW ((decide (a<(b.length:Int)))=true) (eX b a c) (0:Int) fun f=>(bif (bif decide (a<(b.length:Int)) then (decide (f=0)) else false) then e (W (a+1)) else d a))

def oQ (a:List Int) (d:Int) (b:Bool):Option Int:= (bif decide ((a.length:Int)=0) then some 0 else (aF (dE d (a.length:Int)) fun e=>(aS (fun (c:Int)=>(bif decide ((a.length:Int)≤c) then some (W ((a.length:Int) - 1)) else (aF (mV a c b) fun f=> some (W (f - 1))))) fun g=>(aW (gM a b g) bG (W (e+1))))))

theorem aGi (a:List Int) (f:Int) (d:Bool) (b:Option Addr) (c:Nat) (r:Int) (h:oQ a f d=some r):
 FC Tryz.prog 281 [sL b a c,I f,.bool d] [fI b c a] (fun _:Unit=>True) (fun _=>I r) (fun _=>[]):= by
 refine FC.of (T:=TTx) Tryz.call281 Tryz.func281 E E fun t=>?_
 unfold oQ at h
 refine aC aA 1 [] ev5 E E (aC aA 3 [(7,.v (I (a.length:Int)))] ev1 E E (JS.seq (aC aA 2 [(11,.v (.bool (decide ((a.length:Int)=0))))] ev1 E E ?_)))
 refine aH E h (fun h=>?_) (fun h=>?_)
 ·
  refine aC aA 1 [(6,.v (I 0))] ev1 E E ?_
  cases h
  exact JS.ret aA () V E E [] E
 refine JS.skip (JS.seq (JS.region (aB aA 2 [] [] [(12,.v (I f)),(13,.v (I (a.length:Int)))] _ E ⟨(Es E),E⟩ ?_)))
 refine bnw h fun g m h=>JO.call E E E E (jR f (a.length:Int) _ m) E [] E E fun _ _=>aB aA 2 [(W (g+1))] [] [(1,.v (I (W (g+1))))] _ E ev3 (aD E (JS.seq ?_))
 obtain ⟨j,n,h⟩:=aN h
 refine aX (ι:=Int) ⟨fun z=>j z=some r,fun z=>[(0,.v (sL b a c)),(1,.v (I z)),(2,.v (.bool d)),(7,.v (I (a.length:Int)))],fun z=>.nil,fun z=>[fI b c a],fun z=>[],fun z=>0⟩ ?_ ?_
 ·
  refine JS.loop (ι:=Nat×Int) ⟨fun z=>aW (gM a d j) z.1 z.2=some r,fun z=>[(0,.v (sL b a c)),(1,.v (I z.2)),(2,.v (.bool d)),(7,.v (I (a.length:Int)))],fun z=>.nil,fun z=>[fI b c a],fun z=>[],fun z=>z.1⟩ (bG,(W (g+1))) h (Es E) V [0] E [] E ?_
  rintro ⟨k,e⟩ h
  obtain ⟨k,rfl,h⟩:=bC h
  rw [gM] at h
  refine JS.seq (JS.seq (JS.region (aB aA 7 [] [] [(19,.v (.bool (decide (e<(a.length:Int))))),(20,.cd [(19,true)] (.v (sL b a c))),(21,.cd [(19,true)] (.v (I e))),(22,.cd [(19,true)] (.v (.bool d)))] _ E ⟨(Es E),E⟩ ?_)))
  obtain ⟨o,p,-,h⟩:=aY h
  refine bL E E E E (fun q=>hJ a e d b c _ (p q)) E [0] E E (aB aA 2 [] [] [(25,.v (.bool (bif (decide (e<(a.length:Int))) then (decide (o=0)) else false)))] _ E ev1 (aD E ?_))
  refine aH E h (fun h=>?_) (fun h=>?_)
  ·
   refine JS.skip (JS.block (bY aA 3 [(W (e+1))] [] [(1,.v (I (W (e+1))))] _ ev3 E E (aV (bR (k,(W (e+1))) h (Nat.lt_succ_self _) (Es E) V [0] E [] E))))
  refine JS.exit E (aQ e h (Es E) V [0] E [] E)
 rintro i h
 subst n
 refine JS.seq (aC aA 3 [(30,.v (.bool (decide ((a.length:Int)≤i))))] ev1 E E ?_)
 refine aH E h (fun h=>?_) (fun h=>?_)
 ·
  refine gH aA 3 [(W ((a.length:Int) - 1))] [] [(6,.v (I (W ((a.length:Int) - 1))))] _ ev3 E E ?_
  cases h
  exact JS.ret aA () V E E [] E
 refine JS.skip (JS.seq (JS.region (aB aA 3 [] [] [(33,.v (sL b a c)),(34,.v (I i)),(35,.v (.bool d))] _ E ⟨(Es E),E⟩ ?_)))
 refine bnw h fun l s h=>JO.call E E E E (aEd a i d b c _ s) E [0] E E fun _ _=>aB aA 2 [(W (l - 1))] [] [(6,.v (I (W (l - 1))))] _ E ev3 (aD E ?_)
 cases h
 exact JS.ret aA () V E E [] E

def lF (b:List Int) (c:Bool) (d:Int→Option Int) (e:Int→Option Int):Int→Option Int:=fun a=>(bW ((decide (a<(b.length:Int)))=true) (eX b a c) (0:Int) fun f=>(bif (bif decide (a<(b.length:Int)) then (decide (f=0)) else false) then e (W (a+1)) else d a))

def rH (a:List Int) (e:Int) (c:Bool):Option Int:= (aF (dE e (a.length:Int)) fun b=>(aS (fun (f:Int)=>(aS (fun (g:Int)=> some g) fun h=>(aW (lF a c h) bG f))) fun d=>(bW ((decide (b<(a.length:Int)))=true) (eX a b c) (0:Int) fun i=>(bif (bif decide (b<(a.length:Int)) then (!(decide (i=0))) else false) then (aF (mV a b c) fun j=> d j) else d b))))

theorem aIb (a:List Int) (g:Int) (d:Bool) (b:Option Addr) (c:Nat) (r:Int) (h:rH a g d=some r):
 FC Tryz.prog 278 [sL b a c,I g,.bool d] [fI b c a] (fun _:Unit=>True) (fun _=>I r) (fun _=>[]):= by
 refine FC.of (T:=TTx) Tryz.call278 Tryz.func278 E E fun B=>?_
 unfold rH at h
 refine aC aA 1 [] ev5 E E (JS.seq (JS.region (aB aA 3 [] [] [(7,.v (I g)),(9,.v (I (a.length:Int)))] _ E ⟨(Es E),E⟩ ?_)))
 refine bnw h fun e l h=>JO.call E E E E (jR g (a.length:Int) _ l) E [] E E fun _ _=>aB aA 1 [] [] [(1,.v (I e))] _ E ev1 (aD E ?_)
 obtain ⟨m,n,h⟩:=aN h
 refine bZ (ι:=Int) ⟨fun z=>m z=some r,fun z=>[(0,.v (sL b a c)),(1,.v (I z)),(2,.v (.bool d))],fun z=>.nil,fun z=>[fI b c a],fun z=>[],fun z=>0⟩ ?_ ?_
 ·
  refine JS.seq (JS.region (aB aA 8 [] [] [(15,.v (.bool (decide (e<(a.length:Int))))),(16,.cd [(15,true)] (.v (sL b a c))),(17,.cd [(15,true)] (.v (I e))),(18,.cd [(15,true)] (.v (.bool d)))] _ E ⟨(Es E),E⟩ ?_))
  obtain ⟨o,p,-,h⟩:=aY h
  refine bL E E E E (fun q=>hJ a e d b c _ (p q)) E [0] E E (aB aA 2 [] [] [(21,.v (.bool (bif (decide (e<(a.length:Int))) then (!(decide (o=0))) else false)))] _ E ev1 (aD E ?_))
  refine aH E h (fun h=>?_) (fun h=>?_)
  ·
   refine JS.region (aB aA 3 [] [] [(22,.v (sL b a c)),(23,.v (I e)),(24,.v (.bool d))] _ E ⟨(Es E),E⟩ ?_)
   obtain ⟨i,s,h⟩:=aE h
   refine JO.call E E E E (aEd a e d b c _ s) E [0] E E fun _ _=>aB aA 1 [] [] [(1,.v (I i))] _ E ev1 (aD E (aQ i h (Es E) V [0] E [] E))
  refine JS.skip (aQ e h (Es E) V [0] E [] E)
 rintro t h
 subst n
 refine JS.seq ?_
 obtain ⟨j,u,h⟩:=aN h
 refine aX (ι:=Int) ⟨fun z=>j z=some r,fun z=>[(1,.v (I z))],fun z=>.nil,fun z=>[],fun z=>[],fun z=>0⟩ ?_ ?_
 ·
  refine JS.loop (ι:=Nat×Int) ⟨fun z=>aW (lF a d j) z.1 z.2=some r,fun z=>[(0,.v (sL b a c)),(1,.v (I z.2)),(2,.v (.bool d))],fun z=>.nil,fun z=>[fI b c a],fun z=>[],fun z=>z.1⟩ (bG,t) h (Es E) V [0] E [] E ?_
  rintro ⟨k,f⟩ h
  obtain ⟨k,rfl,h⟩:=bC h
  rw [lF] at h
  refine JS.seq (JS.seq (JS.region (aB aA 8 [] [] [(30,.v (.bool (decide (f<(a.length:Int))))),(31,.cd [(30,true)] (.v (sL b a c))),(32,.cd [(30,true)] (.v (I f))),(33,.cd [(30,true)] (.v (.bool d)))] _ E ⟨(Es E),E⟩ ?_)))
  obtain ⟨w,x,-,h⟩:=aY h
  refine bL E E E E (fun y=>hJ a f d b c _ (x y)) E [0] E E (aB aA 2 [] [] [(36,.v (.bool (bif (decide (f<(a.length:Int))) then (decide (w=0)) else false)))] _ E ev1 (aD E ?_))
  refine aH E h (fun h=>?_) (fun h=>?_)
  ·
   refine JS.skip (JS.block (bY aA 3 [(W (f+1))] [] [(1,.v (I (W (f+1))))] _ ev3 E E (aV (bR (k,(W (f+1))) h (Nat.lt_succ_self _) (Es E) V [0] E [] E))))
  refine JS.exit E (aQ f h ev2 V [] E [] E)
 rintro A h
 subst u
 refine aC aA 2 [(6,.v (I A))] ev1 E E ?_
 cases h
 exact JS.ret aA () V E E [] E

def sI (c:Int) (a:List Int) (b:Bool):Option (Int×List Int×Bool):= (aF (rH a c b) fun d=> some (d,a,b))

theorem aGm (d:Int) (a:List Int) (e:Bool) (f:Option Addr) (b:Option Addr) (c:Nat) (g:Option Addr) (r:Int×List Int×Bool) (h:sI d a e=some r):
 FX Tryz.prog 277 [I d,.pointer f,.pointer g] [fI b c a] [⟨.val,⟨f,1,1⟩,[(Sl.v ⟨b,a.length,c⟩)]⟩,⟨.bool,⟨g,1,1⟩,[e]⟩] (fun _:Unit=>True) (fun _=>I r.1) (fun _=>[⟨.val,⟨f,1,1⟩,[(Sl.v ⟨b,a.length,c⟩)]⟩,⟨.bool,⟨g,1,1⟩,[r.2.2]⟩]):= by
 refine FX.of (T:=TTx) Tryz.call277 Tryz.func277 E E fun k L0=>?_
 unfold sI at h
 refine aDw 1 f E ?_
 refine aDw 2 g E ?_
 refine aC aA 1 [] ev5 E E (JS.seq (JS.region (cN aA E E E E E E 1 E E 0 0 (Sl.v ⟨b,a.length,c⟩) ev9 E E E (aB aA 1 [] [] [(6,.v (I d))] _ E ev1 (cN aA E E E E E E 2 E E 0 0 e ev9 E E E ?_)))))
 refine bnw h fun i j h=>JO.call E E E E (aIb a d e b c _ j) E [0] E E fun _ _=>aB aA 1 [] [] [(4,.v (I i))] _ E ev1 (aD E ?_)
 cases h
 exact iM aA () V E E [0,0] E

def dO (d:Int) (e:(List Int)×Bool) (f:(Int×Bool)→Option (Int×List Int×Bool)) (g:(Int×Int×Bool)→Option (Int×List Int×Bool)):(Int×Int×Bool)→Option (Int×List Int×Bool):=fun (a,b,c)=>(bif decide (b<d) then (aF (sI a e.1 c) fun (h,j,i)=> g (h,(W (b+1)),i)) else f (a,c))

def eO (b:Int) (c:Int) (a:(List Int)×Bool):Option (Int×List Int×Bool):= (aS (fun ((d,e):Int×Bool)=> some (d,a.1,e)) fun f=>(aW (dO c a f) bG (b,0,a.2)))

theorem xB (j:Int) (f:Int) (a:(List Int)×Bool) (b:Option Addr) (d:Option Addr) (e:Nat) (c:Option Addr) (r:Int×List Int×Bool) (h:eO j f a=some r):
 FX Tryz.prog 114 [I j,I f,.func (.func 277) #[] #[.pointer b,.pointer c]] [fI d e a.1] [⟨.val,⟨b,1,1⟩,[(Sl.v ⟨d,a.1.length,e⟩)]⟩,⟨.bool,⟨c,1,1⟩,[a.2]⟩] (fun _:Unit=>True) (fun _=>I r.1) (fun _=>[⟨.val,⟨b,1,1⟩,[(Sl.v ⟨d,a.1.length,e⟩)]⟩,⟨.bool,⟨c,1,1⟩,[r.2.2]⟩]):= by
 refine FX.of (T:=TTx) Tryz.call114 Tryz.func114 E E fun t L0=>?_
 unfold eO at h
 refine aC aA 1 [] ev5 E E (JS.seq (aC aA 2 [(7,.v (I f)),(8,.v (I 0))] ⟨(Es E),E⟩ E E ?_))
 obtain ⟨k,o,h⟩:=aN h
 refine aX (ι:=Int×Bool) ⟨fun z=>k z=some r,fun z=>[(0,.v (I z.1))],fun z=>.nil,fun z=>[fI d e a.1],fun z=>[⟨.val,⟨b,1,1⟩,[(Sl.v ⟨d,a.1.length,e⟩)]⟩,⟨.bool,⟨c,1,1⟩,[z.2]⟩],fun z=>0⟩ ?_ ?_
 ·
  refine JS.loop (ι:=Nat×Int×Int×Bool) ⟨fun z=>aW (dO f a k) z.1 z.2=some r,fun z=>[(0,.v (I z.2.1)),(2,.v (.func (.func 277) #[] #[.pointer b,.pointer c])),(7,.v (I f)),(8,.v (I z.2.2.1))],fun z=>.nil,fun z=>[fI d e a.1],fun z=>[⟨.val,⟨b,1,1⟩,[(Sl.v ⟨d,a.1.length,e⟩)]⟩,⟨.bool,⟨c,1,1⟩,[z.2.2.2]⟩],fun z=>z.1⟩ (bG,j,0,a.2) h (Es E) V [0] E [0,0] E ?_
  rintro ⟨l,g,i,m⟩ h
  obtain ⟨l,rfl,h⟩:=bC h
  rw [dO] at h
  refine aC aA 1 [(9,.v (.bool (decide (i<f))))] ev1 E E (JS.seq ?_)
  refine aH E h (fun h=>?_) (fun h=>?_)
  ·
   refine JS.skip (JS.seq (JS.block (JS.region (aB aA 2 [] [] [(10,.v (.func (.func 277) #[] #[.pointer b,.pointer c])),(11,.v (I g))] _ E ⟨(Es E),E⟩ ?_))))
   obtain ⟨⟨n,u,p⟩,q,h⟩:=aE h
   refine aDy (vs0:=[I g]) (caps:=[.pointer b,.pointer c]) E E E E E (aGm g a.1 m b d e c _ q) E [0,0] E [0] E E fun _ _=>aB aA 1 [] [] [(0,.v (I n))] _ E ⟨⟨E,V⟩,E⟩ (aD E (aV (bY aA 2 [(W (i+1))] [] [(8,.v (I (W (i+1))))] _ ⟨⟨V,E⟩,⟨E,V⟩,E⟩ E E (bR (l,n,(W (i+1)),p) h (Nat.lt_succ_self _) (Es E) V [0] E [0,0] E))))
  refine JS.exit E (aQ (g,m) h ev2 V [0] E [0,0] E)
 rintro ⟨s,w⟩ h
 subst o
 refine aC aA 2 [(6,.v (I s))] ev1 E E ?_
 cases h
 exact iM aA () V E E [0,0] E

def sH (c:Int) (a:List Int) (b:Bool):Option (Int×List Int×Bool):= (aF (jM a c b) fun d=> some (d,a,b))

theorem aGl (d:Int) (a:List Int) (e:Bool) (f:Option Addr) (b:Option Addr) (c:Nat) (g:Option Addr) (r:Int×List Int×Bool) (h:sH d a e=some r):
 FX Tryz.prog 279 [I d,.pointer f,.pointer g] [fI b c a] [⟨.val,⟨f,1,1⟩,[(Sl.v ⟨b,a.length,c⟩)]⟩,⟨.bool,⟨g,1,1⟩,[e]⟩] (fun _:Unit=>True) (fun _=>I r.1) (fun _=>[⟨.val,⟨f,1,1⟩,[(Sl.v ⟨b,a.length,c⟩)]⟩,⟨.bool,⟨g,1,1⟩,[r.2.2]⟩]):= by
 refine FX.of (T:=TTx) Tryz.call279 Tryz.func279 E E fun k L0=>?_
 unfold sH at h
 refine aDw 1 f E ?_
 refine aDw 2 g E ?_
 refine aC aA 1 [] ev5 E E (JS.seq (JS.region (cN aA E E E E E E 1 E E 0 0 (Sl.v ⟨b,a.length,c⟩) ev9 E E E (aB aA 1 [] [] [(6,.v (I d))] _ E ev1 (cN aA E E E E E E 2 E E 0 0 e ev9 E E E ?_)))))
 refine bnw h fun i j h=>JO.call E E E E (yY a d e b c _ j) E [0] E E fun _ _=>aB aA 1 [] [] [(4,.v (I i))] _ E ev1 (aD E ?_)
 cases h
 exact iM aA () V E E [0,0] E

def dN (d:Int) (e:(List Int)×Bool) (f:(Int×Bool)→Option (Int×List Int×Bool)) (g:(Int×Int×Bool)→Option (Int×List Int×Bool)):(Int×Int×Bool)→Option (Int×List Int×Bool):=fun (a,b,c)=>(bif decide (b<d) then (aF (sH a e.1 c) fun (h,j,i)=> g (h,(W (b+1)),i)) else f (a,c))

def eN (b:Int) (c:Int) (a:(List Int)×Bool):Option (Int×List Int×Bool):= (aS (fun ((d,e):Int×Bool)=> some (d,a.1,e)) fun f=>(aW (dN c a f) bG (b,0,a.2)))

theorem xA (j:Int) (f:Int) (a:(List Int)×Bool) (b:Option Addr) (d:Option Addr) (e:Nat) (c:Option Addr) (r:Int×List Int×Bool) (h:eN j f a=some r):
 FX Tryz.prog 114 [I j,I f,.func (.func 279) #[] #[.pointer b,.pointer c]] [fI d e a.1] [⟨.val,⟨b,1,1⟩,[(Sl.v ⟨d,a.1.length,e⟩)]⟩,⟨.bool,⟨c,1,1⟩,[a.2]⟩] (fun _:Unit=>True) (fun _=>I r.1) (fun _=>[⟨.val,⟨b,1,1⟩,[(Sl.v ⟨d,a.1.length,e⟩)]⟩,⟨.bool,⟨c,1,1⟩,[r.2.2]⟩]):= by
 refine FX.of (T:=TTx) Tryz.call114 Tryz.func114 E E fun t L0=>?_
 unfold eN at h
 refine aC aA 1 [] ev5 E E (JS.seq (aC aA 2 [(7,.v (I f)),(8,.v (I 0))] ⟨(Es E),E⟩ E E ?_))
 obtain ⟨k,o,h⟩:=aN h
 refine aX (ι:=Int×Bool) ⟨fun z=>k z=some r,fun z=>[(0,.v (I z.1))],fun z=>.nil,fun z=>[fI d e a.1],fun z=>[⟨.val,⟨b,1,1⟩,[(Sl.v ⟨d,a.1.length,e⟩)]⟩,⟨.bool,⟨c,1,1⟩,[z.2]⟩],fun z=>0⟩ ?_ ?_
 ·
  refine JS.loop (ι:=Nat×Int×Int×Bool) ⟨fun z=>aW (dN f a k) z.1 z.2=some r,fun z=>[(0,.v (I z.2.1)),(2,.v (.func (.func 279) #[] #[.pointer b,.pointer c])),(7,.v (I f)),(8,.v (I z.2.2.1))],fun z=>.nil,fun z=>[fI d e a.1],fun z=>[⟨.val,⟨b,1,1⟩,[(Sl.v ⟨d,a.1.length,e⟩)]⟩,⟨.bool,⟨c,1,1⟩,[z.2.2.2]⟩],fun z=>z.1⟩ (bG,j,0,a.2) h (Es E) V [0] E [0,0] E ?_
  rintro ⟨l,g,i,m⟩ h
  obtain ⟨l,rfl,h⟩:=bC h
  rw [dN] at h
  refine aC aA 1 [(9,.v (.bool (decide (i<f))))] ev1 E E (JS.seq ?_)
  refine aH E h (fun h=>?_) (fun h=>?_)
  ·
   refine JS.skip (JS.seq (JS.block (JS.region (aB aA 2 [] [] [(10,.v (.func (.func 279) #[] #[.pointer b,.pointer c])),(11,.v (I g))] _ E ⟨(Es E),E⟩ ?_))))
   obtain ⟨⟨n,u,p⟩,q,h⟩:=aE h
   refine aDy (vs0:=[I g]) (caps:=[.pointer b,.pointer c]) E E E E E (aGl g a.1 m b d e c _ q) E [0,0] E [0] E E fun _ _=>aB aA 1 [] [] [(0,.v (I n))] _ E ⟨⟨E,V⟩,E⟩ (aD E (aV (bY aA 2 [(W (i+1))] [] [(8,.v (I (W (i+1))))] _ ⟨⟨V,E⟩,⟨E,V⟩,E⟩ E E (bR (l,n,(W (i+1)),p) h (Nat.lt_succ_self _) (Es E) V [0] E [0,0] E))))
  refine JS.exit E (aQ (g,m) h ev2 V [0] E [0,0] E)
 rintro ⟨s,w⟩ h
 subst o
 refine aC aA 2 [(6,.v (I s))] ev1 E E ?_
 cases h
 exact iM aA () V E E [0,0] E

def sG (c:Int) (a:List Int) (b:Bool):Option (Int×List Int×Bool):= (aF (oQ a c b) fun d=> some (d,a,b))

theorem aGk (d:Int) (a:List Int) (e:Bool) (f:Option Addr) (b:Option Addr) (c:Nat) (g:Option Addr) (r:Int×List Int×Bool) (h:sG d a e=some r):
 FX Tryz.prog 280 [I d,.pointer f,.pointer g] [fI b c a] [⟨.val,⟨f,1,1⟩,[(Sl.v ⟨b,a.length,c⟩)]⟩,⟨.bool,⟨g,1,1⟩,[e]⟩] (fun _:Unit=>True) (fun _=>I r.1) (fun _=>[⟨.val,⟨f,1,1⟩,[(Sl.v ⟨b,a.length,c⟩)]⟩,⟨.bool,⟨g,1,1⟩,[r.2.2]⟩]):= by
 refine FX.of (T:=TTx) Tryz.call280 Tryz.func280 E E fun k L0=>?_
 unfold sG at h
 refine aDw 1 f E ?_
 refine aDw 2 g E ?_
 refine aC aA 1 [] ev5 E E (JS.seq (JS.region (cN aA E E E E E E 1 E E 0 0 (Sl.v ⟨b,a.length,c⟩) ev9 E E E (aB aA 1 [] [] [(6,.v (I d))] _ E ev1 (cN aA E E E E E E 2 E E 0 0 e ev9 E E E ?_)))))
 refine bnw h fun i j h=>JO.call E E E E (aGi a d e b c _ j) E [0] E E fun _ _=>aB aA 1 [] [] [(4,.v (I i))] _ E ev1 (aD E ?_)
 cases h
 exact iM aA () V E E [0,0] E

def dM (d:Int) (e:(List Int)×Bool) (f:(Int×Bool)→Option (Int×List Int×Bool)) (g:(Int×Int×Bool)→Option (Int×List Int×Bool)):(Int×Int×Bool)→Option (Int×List Int×Bool):=fun (a,b,c)=>(bif decide (b<d) then (aF (sG a e.1 c) fun (h,j,i)=> g (h,(W (b+1)),i)) else f (a,c))

def eM (b:Int) (c:Int) (a:(List Int)×Bool):Option (Int×List Int×Bool):= (aS (fun ((d,e):Int×Bool)=> some (d,a.1,e)) fun f=>(aW (dM c a f) bG (b,0,a.2)))

theorem wZ (j:Int) (f:Int) (a:(List Int)×Bool) (b:Option Addr) (d:Option Addr) (e:Nat) (c:Option Addr) (r:Int×List Int×Bool) (h:eM j f a=some r):
 FX Tryz.prog 114 [I j,I f,.func (.func 280) #[] #[.pointer b,.pointer c]] [fI d e a.1] [⟨.val,⟨b,1,1⟩,[(Sl.v ⟨d,a.1.length,e⟩)]⟩,⟨.bool,⟨c,1,1⟩,[a.2]⟩] (fun _:Unit=>True) (fun _=>I r.1) (fun _=>[⟨.val,⟨b,1,1⟩,[(Sl.v ⟨d,a.1.length,e⟩)]⟩,⟨.bool,⟨c,1,1⟩,[r.2.2]⟩]):= by
 refine FX.of (T:=TTx) Tryz.call114 Tryz.func114 E E fun t L0=>?_
 unfold eM at h
 refine aC aA 1 [] ev5 E E (JS.seq (aC aA 2 [(7,.v (I f)),(8,.v (I 0))] ⟨(Es E),E⟩ E E ?_))
 obtain ⟨k,o,h⟩:=aN h
 refine aX (ι:=Int×Bool) ⟨fun z=>k z=some r,fun z=>[(0,.v (I z.1))],fun z=>.nil,fun z=>[fI d e a.1],fun z=>[⟨.val,⟨b,1,1⟩,[(Sl.v ⟨d,a.1.length,e⟩)]⟩,⟨.bool,⟨c,1,1⟩,[z.2]⟩],fun z=>0⟩ ?_ ?_
 ·
  refine JS.loop (ι:=Nat×Int×Int×Bool) ⟨fun z=>aW (dM f a k) z.1 z.2=some r,fun z=>[(0,.v (I z.2.1)),(2,.v (.func (.func 280) #[] #[.pointer b,.pointer c])),(7,.v (I f)),(8,.v (I z.2.2.1))],fun z=>.nil,fun z=>[fI d e a.1],fun z=>[⟨.val,⟨b,1,1⟩,[(Sl.v ⟨d,a.1.length,e⟩)]⟩,⟨.bool,⟨c,1,1⟩,[z.2.2.2]⟩],fun z=>z.1⟩ (bG,j,0,a.2) h (Es E) V [0] E [0,0] E ?_
  rintro ⟨l,g,i,m⟩ h
  obtain ⟨l,rfl,h⟩:=bC h
  rw [dM] at h
  refine aC aA 1 [(9,.v (.bool (decide (i<f))))] ev1 E E (JS.seq ?_)
  refine aH E h (fun h=>?_) (fun h=>?_)
  ·
   refine JS.skip (JS.seq (JS.block (JS.region (aB aA 2 [] [] [(10,.v (.func (.func 280) #[] #[.pointer b,.pointer c])),(11,.v (I g))] _ E ⟨(Es E),E⟩ ?_))))
   obtain ⟨⟨n,u,p⟩,q,h⟩:=aE h
   refine aDy (vs0:=[I g]) (caps:=[.pointer b,.pointer c]) E E E E E (aGk g a.1 m b d e c _ q) E [0,0] E [0] E E fun _ _=>aB aA 1 [] [] [(0,.v (I n))] _ E ⟨⟨E,V⟩,E⟩ (aD E (aV (bY aA 2 [(W (i+1))] [] [(8,.v (I (W (i+1))))] _ ⟨⟨V,E⟩,⟨E,V⟩,E⟩ E E (bR (l,n,(W (i+1)),p) h (Nat.lt_succ_self _) (Es E) V [0] E [0,0] E))))
  refine JS.exit E (aQ (g,m) h ev2 V [0] E [0,0] E)
 rintro ⟨s,w⟩ h
 subst o
 refine aC aA 2 [(6,.v (I s))] ev1 E E ?_
 cases h
 exact iM aA () V E E [0,0] E

def lG (b:List Int) (c:Int→Option (Int×Bool×Bool)) (d:Int→Option (Int×Bool×Bool)):Int→Option (Int×Bool×Bool):=fun a=>(aP (((decide (a<(b.length:Int)))=true)→0≤a∧a<(b.length:Int)) <|(bW ((decide (a<(b.length:Int)))=true) (qJ (at' b a)) (0:Int) fun e=>(bif (bif decide (a<(b.length:Int)) then (decide (e=0)) else false) then d (W (a+1)) else c a)))

def kJ (b:List Int) (j:Int) (a:Int) (c:Int):Option (Int×Bool×Bool):= (aF (dE j (b.length:Int)) fun d=>(aF (jV a) fun e=>(aS (fun (_:Unit)=> some (0,false,false)) fun k=>(bif decide (a=104) then some ((max (W (d - (max (1:Int) (min c 999)))) 0),false,true) else (aS (fun (l:Bool)=>(bif l then some ((min (W (d+(max (1:Int) (min c 999)))) (b.length:Int)),false,true) else (aS (fun (m:Bool)=>(bif m then (aF (eO d (max (1:Int) (min c 999)) (b,e)) fun (n,u,v)=> some (n,false,true)) else (aS (fun (o:Bool)=>(bif o then (aF (eN d (max (1:Int) (min c 999)) (b,e)) fun (p,w,x)=> some (p,false,true)) else (aS (fun (q:Bool)=>(bif q then (aF (eM d (max (1:Int) (min c 999)) (b,e)) fun (r,y,z)=> some (r,(decide (0<(b.length:Int))),true)) else (bif decide (a=48) then some (0,false,true) else (bif decide (a=94) then (aS (fun (s:Int)=> some (s,false,true)) fun t=>(aW (lG b t) bG 0)) else (bif decide (a=36) then some ((max (W ((b.length:Int) - 1)) 0),(decide (0<(b.length:Int))),true) else (bif decide (a=124) then some ((min (W ((max (1:Int) (min c 999)) - 1)) (b.length:Int)),false,true) else k ())))))) fun f=>(bif decide (a=101) then f (decide (a=101)) else f (decide (a=69)))))) fun g=>(bif decide (a=98) then g (decide (a=98)) else g (decide (a=66)))))) fun h=>(bif decide (a=119) then h (decide (a=119)) else h (decide (a=87)))))) fun i=>(bif decide (a=108) then i (decide (a=108)) else i (decide (a=32))))))))

theorem wL (a:List Int) (l:Int) (b:Int) (c:Int) (e:Option Addr) (f:Nat) (r:Int×Bool×Bool) (h:kJ a l b c=some r):
 FC Tryz.prog 221 [sL e a f,I l,I b,I c] [fI e f a] (fun _:Unit=>True) (fun _=>.tuple #[I r.1,.bool r.2.1,.bool r.2.2]) (fun _=>[]):= by
 refine FC.of (T:=TTx) Tryz.call221 Tryz.func221 E E fun w0=>?_
 unfold kJ at h
 refine aM aA 4 [] [2] [(4,.bp 2 0)] (.new 2 22 [sL e a f] .nil) ⟨ev2,(Bs E E)⟩ E E (aC aA 3 [(11,.v (I (a.length:Int)))] ev1 E E (JS.seq (JS.region (aB aA 2 [] [] [(16,.v (I l)),(17,.v (I (a.length:Int)))] _ E ⟨(Es E),E⟩ ?_))))
 refine bnw h fun d t h=>JO.call E E E E (jR l (a.length:Int) _ t) E [] E E fun _ _=>aB aA 5 [] [] [(1,.v (I d)),(3,.v (I (max (1:Int) (min c 999))))] _ E ⟨(Es E),E⟩ (aD E (JS.seq (JS.region (aB aA 1 [] [] [(22,.v (I b))] _ E ev1 ?_))))
 refine bnw h fun g u h=>JO.call E E E E (yH b _ u) E [] E E fun _ _=>aL aA 2 [] [7] [(12,.bp 7 0)] (.new 2 22 [sL e a f] (.new 7 4 [.bool g] .nil)) E ⟨ev2,(Bs E E)⟩ (aD E (JS.seq (aC aA 1 [(24,.v (I b))] ev1 E E ?_)))
 obtain ⟨w,x,h⟩:=aN h
 refine aX (ι:=Unit) ⟨fun _=>w ()=some r,fun _=>[],fun _=>.nil,fun _=>[],fun _=>[],fun _=>0⟩ ?_ ?_
 ·
  refine aC aA 2 [(25,.v (.bool (decide (b=104))))] ev1 E E ?_
  refine aH E h (fun h=>?_) (fun h=>?_)
  ·
   refine gH aA 7 [(W (d - (max (1:Int) (min c 999))))] [] [(8,.v (I (max (W (d - (max (1:Int) (min c 999)))) 0))),(9,.v (.bool false)),(10,.v (.bool true))] _ ⟨ev5,(Es E),E⟩ E E ?_
   cases h
   exact JS.ret aA () V E E [] E
  obtain ⟨y,A,h⟩:=aN h
  refine bZ (ι:=Bool) ⟨fun z=>y z=some r,fun z=>[(1,.v (I d)),(3,.v (I (max (1:Int) (min c 999)))),(4,.bp 2 0),(11,.v (I (a.length:Int))),(12,.bp 7 0),(24,.v (I b)),(31,.v (.bool z))],fun z=>(.new 2 22 [sL e a f] (.new 7 4 [.bool g] .nil)),fun z=>[fI e f a],fun z=>[],fun z=>0⟩ ?_ ?_
  ·
   refine aC aA 2 [(31,.v (.bool (decide (b=108))))] ev1 E E ?_
   refine aH E h (fun h=>?_) (fun h=>?_)
   ·
    refine JS.skip (aQ (decide (b=108)) h (Es E) (Bs E E) [0] E [] E)
   refine eR aA 2 [(31,.v (.bool (decide (b=32))))] ev1 E E (aQ (decide (b=32)) h (Es E) (Bs E E) [0] E [] E)
  rintro a1 h
  subst A
  refine aH E h (fun h=>?_) (fun h=>?_)
  ·
   refine gH aA 8 [(W (d+(max (1:Int) (min c 999))))] [] [(8,.v (I (min (W (d+(max (1:Int) (min c 999)))) (a.length:Int)))),(9,.v (.bool false)),(10,.v (.bool true))] _ ⟨ev5,(Es E),E⟩ E E ?_
   cases h
   exact JS.ret aA () V E E [] E
  obtain ⟨B,C,h⟩:=aN h
  refine bZ (ι:=Bool) ⟨fun z=>B z=some r,fun z=>[(1,.v (I d)),(3,.v (I (max (1:Int) (min c 999)))),(4,.bp 2 0),(11,.v (I (a.length:Int))),(12,.bp 7 0),(24,.v (I b)),(39,.v (.bool z))],fun z=>(.new 2 22 [sL e a f] (.new 7 4 [.bool g] .nil)),fun z=>[fI e f a],fun z=>[],fun z=>0⟩ ?_ ?_
  ·
   refine aC aA 2 [(39,.v (.bool (decide (b=119))))] ev1 E E ?_
   refine aH E h (fun h=>?_) (fun h=>?_)
   ·
    refine JS.skip (aQ (decide (b=119)) h (Es E) (Bs E E) [0] E [] E)
   refine eR aA 2 [(39,.v (.bool (decide (b=87))))] ev1 E E (aQ (decide (b=87)) h (Es E) (Bs E E) [0] E [] E)
  rintro m h
  subst C
  refine aH E h (fun h=>?_) (fun h=>?_)
  ·
   refine JS.seq (JS.region (aB aA 2 [] [] [(42,.v (I d)),(43,.v (I (max (1:Int) (min c 999))))] _ E ⟨(Es E),E⟩ (xX 2 E (B':=(.new 7 4 [.bool g] .nil)) (Bs E E) E .val (Sl.v ⟨e,a.length,f⟩) ev8 (fun i=>[(1,.v (I d)),(3,.v (I (max (1:Int) (min c 999)))),(4,.ep ⟨i,1,1⟩ 0),(11,.v (I (a.length:Int))),(12,.bp 7 0),(24,.v (I b)),(39,.v (.bool m)),(42,.v (I d)),(43,.v (I (max (1:Int) (min c 999))))]) (fun _=>(Es E)) fun i=>xX 7 E (B':=.nil) V E .bool g ev9 (fun j=>[(1,.v (I d)),(3,.v (I (max (1:Int) (min c 999)))),(4,.ep ⟨i,1,1⟩ 0),(11,.v (I (a.length:Int))),(12,.ep ⟨j,1,1⟩ 0),(24,.v (I b)),(39,.v (.bool m)),(42,.v (I d)),(43,.v (I (max (1:Int) (min c 999))))]) (fun _=>(Es E)) fun j=>aDx E E E E E E ?_)))
   obtain ⟨⟨D,a2,a3⟩,F,h⟩:=aE h
   refine eS E E E E (xB d (max (1:Int) (min c 999)) (a,g) i e f j _ F) E [1,0] E [0] E E fun _ _=>aB aA 3 [] [] [(8,.v (I D)),(9,.v (.bool false)),(10,.v (.bool true))] _ E ⟨(Es E),E⟩ (aD E ?_)
   cases h
   exact JS.ret aA () V E E [] E
  obtain ⟨G,H,h⟩:=aN h
  refine bZ (ι:=Bool) ⟨fun z=>G z=some r,fun z=>[(1,.v (I d)),(3,.v (I (max (1:Int) (min c 999)))),(4,.bp 2 0),(11,.v (I (a.length:Int))),(12,.bp 7 0),(24,.v (I b)),(46,.v (.bool z))],fun z=>(.new 2 22 [sL e a f] (.new 7 4 [.bool g] .nil)),fun z=>[fI e f a],fun z=>[],fun z=>0⟩ ?_ ?_
  ·
   refine aC aA 2 [(46,.v (.bool (decide (b=98))))] ev1 E E ?_
   refine aH E h (fun h=>?_) (fun h=>?_)
   ·
    refine JS.skip (aQ (decide (b=98)) h (Es E) (Bs E E) [0] E [] E)
   refine eR aA 2 [(46,.v (.bool (decide (b=66))))] ev1 E E (aQ (decide (b=66)) h (Es E) (Bs E E) [0] E [] E)
  rintro n h
  subst H
  refine aH E h (fun h=>?_) (fun h=>?_)
  ·
   refine JS.seq (JS.region (aB aA 2 [] [] [(49,.v (I d)),(50,.v (I (max (1:Int) (min c 999))))] _ E ⟨(Es E),E⟩ (xX 2 E (B':=(.new 7 4 [.bool g] .nil)) (Bs E E) E .val (Sl.v ⟨e,a.length,f⟩) ev8 (fun i=>[(1,.v (I d)),(3,.v (I (max (1:Int) (min c 999)))),(4,.ep ⟨i,1,1⟩ 0),(11,.v (I (a.length:Int))),(12,.bp 7 0),(24,.v (I b)),(46,.v (.bool n)),(49,.v (I d)),(50,.v (I (max (1:Int) (min c 999))))]) (fun _=>(Es E)) fun i=>xX 7 E (B':=.nil) V E .bool g ev9 (fun j=>[(1,.v (I d)),(3,.v (I (max (1:Int) (min c 999)))),(4,.ep ⟨i,1,1⟩ 0),(11,.v (I (a.length:Int))),(12,.ep ⟨j,1,1⟩ 0),(24,.v (I b)),(46,.v (.bool n)),(49,.v (I d)),(50,.v (I (max (1:Int) (min c 999))))]) (fun _=>(Es E)) fun j=>aDx E E E E E E ?_)))
   obtain ⟨⟨J,a4,a6⟩,K,h⟩:=aE h
   refine eS E E E E (xA d (max (1:Int) (min c 999)) (a,g) i e f j _ K) E [1,0] E [0] E E fun _ _=>aB aA 3 [] [] [(8,.v (I J)),(9,.v (.bool false)),(10,.v (.bool true))] _ E ⟨(Es E),E⟩ (aD E ?_)
   cases h
   exact JS.ret aA () V E E [] E
  obtain ⟨L,M,h⟩:=aN h
  refine bZ (ι:=Bool) ⟨fun z=>L z=some r,fun z=>[(1,.v (I d)),(3,.v (I (max (1:Int) (min c 999)))),(4,.bp 2 0),(11,.v (I (a.length:Int))),(12,.bp 7 0),(24,.v (I b)),(53,.v (.bool z))],fun z=>(.new 2 22 [sL e a f] (.new 7 4 [.bool g] .nil)),fun z=>[fI e f a],fun z=>[],fun z=>0⟩ ?_ ?_
  ·
   refine aC aA 2 [(53,.v (.bool (decide (b=101))))] ev1 E E ?_
   refine aH E h (fun h=>?_) (fun h=>?_)
   ·
    refine JS.skip (aQ (decide (b=101)) h (Es E) (Bs E E) [0] E [] E)
   refine eR aA 2 [(53,.v (.bool (decide (b=69))))] ev1 E E (aQ (decide (b=69)) h (Es E) (Bs E E) [0] E [] E)
  rintro o h
  subst M
  refine aH E h (fun h=>?_) (fun h=>?_)
  ·
   refine JS.seq (JS.region (aB aA 2 [] [] [(56,.v (I d)),(57,.v (I (max (1:Int) (min c 999))))] _ E ⟨(Es E),E⟩ (xX 2 E (B':=(.new 7 4 [.bool g] .nil)) (Bs E E) E .val (Sl.v ⟨e,a.length,f⟩) ev8 (fun i=>[(1,.v (I d)),(3,.v (I (max (1:Int) (min c 999)))),(4,.ep ⟨i,1,1⟩ 0),(11,.v (I (a.length:Int))),(12,.bp 7 0),(24,.v (I b)),(53,.v (.bool o)),(56,.v (I d)),(57,.v (I (max (1:Int) (min c 999))))]) (fun _=>(Es E)) fun i=>xX 7 E (B':=.nil) V E .bool g ev9 (fun j=>[(1,.v (I d)),(3,.v (I (max (1:Int) (min c 999)))),(4,.ep ⟨i,1,1⟩ 0),(11,.v (I (a.length:Int))),(12,.ep ⟨j,1,1⟩ 0),(24,.v (I b)),(53,.v (.bool o)),(56,.v (I d)),(57,.v (I (max (1:Int) (min c 999))))]) (fun _=>(Es E)) fun j=>aDx E E E E E E ?_)))
   obtain ⟨⟨N,a7,a8⟩,O,h⟩:=aE h
   refine eS E E E E (wZ d (max (1:Int) (min c 999)) (a,g) i e f j _ O) E [1,0] E [0] E E fun _ _=>aB aA 5 [] [] [(8,.v (I N)),(9,.v (.bool (decide (0<(a.length:Int))))),(10,.v (.bool true))] _ E ⟨(Es E),E⟩ (aD E ?_)
   cases h
   exact JS.ret aA () V E E [] E
  refine aC aA 2 [(62,.v (.bool (decide (b=48))))] ev1 E E ?_
  refine aH E h (fun h=>?_) (fun h=>?_)
  ·
   refine aC aA 3 [(8,.v (I 0)),(9,.v (.bool false)),(10,.v (.bool true))] ⟨(Es E),E⟩ E E ?_
   cases h
   exact JS.ret aA () V E E [] E
  refine aC aA 2 [(64,.v (.bool (decide (b=94))))] ev1 E E ?_
  refine aH E h (fun h=>?_) (fun h=>?_)
  ·
   refine aC aA 1 [(13,.v (I 0))] ev1 E E (JS.seq ?_)
   obtain ⟨p,P,h⟩:=aN h
   refine aX (ι:=Int) ⟨fun z=>p z=some r,fun z=>[(13,.v (I z))],fun z=>.nil,fun z=>[],fun z=>[],fun z=>0⟩ ?_ ?_
   ·
    refine JS.loop (ι:=Nat×Int) ⟨fun z=>aW (lG a p) z.1 z.2=some r,fun z=>[(4,.bp 2 0),(11,.v (I (a.length:Int))),(13,.v (I z.2))],fun z=>(.new 2 22 [sL e a f] .nil),fun z=>[fI e f a],fun z=>[],fun z=>z.1⟩ (bG,0) h (Es E) (Bs E E) [0] E [] E ?_
    rintro ⟨q,k⟩ h
    obtain ⟨q,rfl,h⟩:=bC h
    rw [lG] at h
    refine JS.seq (JS.seq (JS.region (bJ 0 E fun Q=>?_)))
    obtain ⟨s,h⟩:=aK h
    refine aB aA 7 [] [] [(69,.v (.bool (decide (k<(a.length:Int))))),(72,.cd [(69,true)] (.ep ⟨e,a.length,f⟩ (Int.toNat k*1)))] _ E ⟨(fun R=>Q.ix (s R)),(Es E),E⟩ (JO.load aA E E E E E E E 0 E E (Int.toNat k) 0 (at' a k) (fun S=>⟨bD (s S),E⟩) E E ?_)
    obtain ⟨U,X,-,h⟩:=aY h
    refine bL E E E E (fun Y=>aCs (at' a k) _ (X Y)) E [] E E (aB aA 2 [] [] [(76,.v (.bool (bif (decide (k<(a.length:Int))) then (decide (U=0)) else false)))] _ E ev1 (aD E ?_))
    refine aH E h (fun h=>?_) (fun h=>?_)
    ·
     refine JS.skip (JS.block (bY aA 3 [(W (k+1))] [] [(13,.v (I (W (k+1))))] _ ev3 E E (aV (bR (q,(W (k+1))) h (Nat.lt_succ_self _) (Es E) (Bs E E) [0] E [] E))))
    refine JS.exit E (aQ k h ev2 V [] E [] E)
   rintro Z h
   subst P
   refine aC aA 4 [(8,.v (I Z)),(9,.v (.bool false)),(10,.v (.bool true))] ⟨(Es E),E⟩ E E ?_
   cases h
   exact JS.ret aA () V E E [] E
  refine aC aA 2 [(80,.v (.bool (decide (b=36))))] ev1 E E ?_
  refine aH E h (fun h=>?_) (fun h=>?_)
  ·
   refine gH aA 8 [(W ((a.length:Int) - 1))] [] [(8,.v (I (max (W ((a.length:Int) - 1)) 0))),(9,.v (.bool (decide (0<(a.length:Int))))),(10,.v (.bool true))] _ ⟨ev5,(Es E),E⟩ E E ?_
   cases h
   exact JS.ret aA () V E E [] E
  refine aC aA 2 [(87,.v (.bool (decide (b=124))))] ev1 E E ?_
  refine aH E h (fun h=>?_) (fun h=>?_)
  ·
   refine gH aA 7 [(W ((max (1:Int) (min c 999)) - 1))] [] [(8,.v (I (min (W ((max (1:Int) (min c 999)) - 1)) (a.length:Int)))),(9,.v (.bool false)),(10,.v (.bool true))] _ ⟨ev5,(Es E),E⟩ E E ?_
   cases h
   exact JS.ret aA () V E E [] E
  refine JS.skip (aV (aQ () h V V [] E [] E))
 rintro _ h
 subst x
 refine aC aA 3 [(8,.v (I 0)),(9,.v (.bool false)),(10,.v (.bool false))] ⟨(Es E),E⟩ E E ?_
 cases h
 exact JS.ret aA () V E E [] E

def aAx (c:List Int) (e:Int) (f:Int) (g:Bool):Option (Int×Int):= (aF (dE e (c.length:Int)) fun a=>(aF (dE f (c.length:Int)) fun b=>(aS (fun (h:Int)=> some ((min a b),h)) fun d=>(bif (bif g then (decide ((max a b)<(c.length:Int))) else false) then d (W ((max a b)+1)) else d (max a b)))))

theorem aRf (c:List Int) (d:Int) (e:Int) (f:Bool) (g:Option Addr) (i:Nat) (r:Int×Int) (h:aAx c d e f=some r):
 FC Tryz.prog 282 [sL g c i,I d,I e,.bool f] [fI g i c] (fun _:Unit=>True) (fun _=>.tuple #[I r.1,I r.2]) (fun _=>[]):= by
 refine FC.of (T:=TTx) Tryz.call282 Tryz.func282 E E fun o=>?_
 unfold aAx at h
 refine aC aA 2 [] ev5 E E (aC aA 3 [(10,.v (I (c.length:Int)))] ev1 E E (JS.seq (JS.region (aB aA 2 [] [] [(15,.v (I d)),(16,.v (I (c.length:Int)))] _ E ⟨(Es E),E⟩ ?_))))
 refine bnw h fun a j h=>JO.call E E E E (jR d (c.length:Int) _ j) E [] E E fun _ _=>aB aA 2 [] [] [(18,.v (I e)),(19,.v (I (c.length:Int)))] _ E ⟨(Es E),E⟩ ?_
 refine bnw h fun b k h=>JO.call E E E E (jR e (c.length:Int) _ k) E [] E E fun _ _=>aB aA 2 [] [] [(1,.v (I a)),(2,.v (I b))] _ E ⟨(Es E),E⟩ (aD E (aC aA 8 [(11,.v (I (min a b))),(12,.v (I (max a b)))] ⟨(Es E),E⟩ E E ?_))
 obtain ⟨l,m,h⟩:=aN h
 refine bZ (ι:=Int) ⟨fun z=>l z=some r,fun z=>[(11,.v (I (min a b))),(12,.v (I z))],fun z=>.nil,fun z=>[],fun z=>[],fun z=>0⟩ ?_ ?_
 ·
  refine aC aA 6 [(32,.v (.bool (bif f then (decide ((max a b)<(c.length:Int))) else false)))] ev1 E E ?_
  refine aH E h (fun h=>?_) (fun h=>?_)
  ·
   refine bY aA 3 [(W ((max a b)+1))] [] [(12,.v (I (W ((max a b)+1))))] _ ev3 E E (aQ (W ((max a b)+1)) h (Es E) V [] E [] E)
  refine JS.skip (aQ (max a b) h (Es E) V [] E [] E)
 rintro n h
 subst m
 refine aC aA 4 [(8,.v (I (min a b))),(9,.v (I n))] ⟨(Es E),E⟩ E E ?_
 cases h
 exact JS.ret aA () V E E [] E

def tE (a:EdQ) (b:Int) (c:Bool):Option (EdQ×Int):= (bif decide (a.2.2.2.2.1=0) then (aF (eE a.2.2.1 b) fun d=>(aF (iH a d) fun (e,f)=> some (e,f))) else (aF (aAx a.2.2.1.1 a.2.2.1.2 b c) fun (g,h)=>(aF (eA a a.2.2.2.2.1 g h) fun (i,j)=> some (i,j))))

theorem aDi (a:EdQ) (c:Int) (d:Bool) (b:P6) (r:EdQ×Int) (h:tE a c d=some r):
 FC Tryz.prog 222 [.agg (cD a b).toArray,I c,.bool d] (bP a b []) (fun _:P6=>True) (fun q=>.tuple #[.agg (aG r.1 q).toArray,I r.2]) (fun q=>(bP r.1 q [])):= by
 refine FC.of (T:=TTx) Tryz.call222 Tryz.func222 E E fun x=>?_
 unfold tE at h
 refine aM aA 3 [] [7,8] [(3,.bp 7 0),(6,.bp 8 0)] (.new 7 46 (aG a b) (.new 8 46 bA .nil)) ⟨(Es E),(Bs E E)⟩ E E (JS.seq (aC aA 3 [(12,.v (.bool (decide ((Q4 a).1=0))))] ev1 E E ?_))
 refine aH E h (fun h=>?_) (fun h=>?_)
 ·
  refine JS.seq ?_
  obtain ⟨l,m,h⟩:=aE h
  obtain ⟨⟨i,j⟩,n,h⟩:=aE h
  refine bF E (.new 7 46 (aG a b) .nil) [] [5,6,7,8,9] ev4 E (fun y=>?_)
  refine bX aA aJ true 6 [0,1,2,3] E (by kernel_rfl) [] [(13,.v (.agg (aG a b).toArray)),(15,.v (.agg #[sL b.1 a.2.2.1.1 b.2.1,I a.2.2.1.2])),(16,.v (I c))] ev4 [] E E (Es E) (JA.one 4 (by kernel_rfl) (JK.call E E E E (gI a.2.2.1 c b.1 b.2.1 _ m) E [0] E E ?_))
  rintro ⟨o,p⟩ -
  refine aU ev4 [] E (JA.one 5 (by kernel_rfl) (JK.call E E E E (nU a l b o p _ n) E [0,1,2,3,4,5,6] E E ?_))
  rintro e -
  refine aR E (aT aA aJ 2 [6,7] E (by kernel_rfl) [] [(19,.v (.agg (aG i e).toArray)),(20,.v (I j))] E (Es E) (JA.one 8 (by kernel_rfl) (bH aA E E E E E E E E (aR E (aT aA aJ 0 [9] E (by kernel_rfl) [] [(7,.v (I j))] E ev2 (bM (by kernel_rfl) (bE (B':=(.new 8 46 (aG i e) .nil)) (Bs E E) ?_)))))))
  cases h
  exact JS.ret aA e V E E [0,0,0,0,0,0] E
 refine JS.skip (JS.seq (JS.region (aB aA 8 [] [] [(24,.v (sL b.1 a.2.2.1.1 b.2.1)),(27,.v (I a.2.2.1.2)),(28,.v (I c)),(29,.v (.bool d))] _ E ⟨(Es E),E⟩ ?_)))
 obtain ⟨⟨f,g⟩,s,h⟩:=aE h
 refine JO.call E E E E (aRf a.2.2.1.1 a.2.2.1.2 c d b.1 b.2.1 _ s) E [0] E E fun _ _=>aB aA 5 [] [] [(8,.v (I f)),(9,.v (I g))] _ E ⟨(Es E),E⟩ (aD E (JS.seq (JS.region (aB aA 5 [] [] [(33,.v (.agg (aG a b).toArray)),(35,.v (I (Q4 a).1)),(36,.v (I f)),(37,.v (I g))] _ E ⟨(Es E),E⟩ ?_))))
 obtain ⟨⟨t,u⟩,w,h⟩:=aE h
 refine JO.call E E E E (hU a (Q4 a).1 f g b _ w) E [0,1,2,3,4,5] E E fun k _=>aL aA 4 [] [] [(7,.v (I u))] (.new 8 46 (aG t k) .nil) E ⟨ev2,(Bs E E)⟩ (aD E ?_)
 cases h
 exact JS.ret aA k V E E [0,0,0,0,0,0] E

def mW (a:EdQ) (b:Int) (c:Int):Option (EdQ×Int):= (aF (kJ a.2.2.1.1 a.2.2.1.2 b c) fun (d,e,h)=>(aF (tE a d e) fun (f,g)=> some (f,g)))

theorem vU (a:EdQ) (c:Int) (d:Int) (b:P6) (r:EdQ×Int) (h:mW a c d=some r):
 FC Tryz.prog 218 [.agg (cD a b).toArray,I c,I d] (bP a b []) (fun _:P6=>True) (fun q=>.tuple #[.agg (aG r.1 q).toArray,I r.2]) (fun q=>(bP r.1 q [])):= by
 refine FC.of (T:=TTx) Tryz.call218 Tryz.func218 E E fun m=>?_
 unfold mW at h
 refine aM aA 3 [] [7,8] [(3,.bp 7 0),(6,.bp 8 0)] (.new 7 46 (aG a b) (.new 8 46 bA .nil)) ⟨(Es E),(Bs E E)⟩ E E (JS.seq (JS.region (aB aA 8 [] [] [(14,.v (sL b.1 a.2.2.1.1 b.2.1)),(17,.v (I a.2.2.1.2)),(18,.v (I c)),(19,.v (I d))] _ E ⟨(Es E),E⟩ ?_)))
 obtain ⟨⟨e,f,n⟩,i,h⟩:=aE h
 refine JO.call E E E E (wL a.2.2.1.1 a.2.2.1.2 c d b.1 b.2.1 _ i) E [0] E E fun _ _=>aB aA 7 [] [] [(8,.v (I e)),(9,.v (.bool f))] _ E ⟨(Es E),E⟩ (aD E (JS.seq (JS.region (aB aA 3 [] [] [(24,.v (.agg (aG a b).toArray)),(25,.v (I e)),(26,.v (.bool f))] _ E ⟨(Es E),E⟩ ?_))))
 obtain ⟨⟨j,k⟩,l,h⟩:=aE h
 refine JO.call E E E E (aDi a e f b _ l) E [0,1,2,3,4,5] E E fun g _=>aL aA 4 [] [] [(7,.v (I k))] (.new 8 46 (aG j g) .nil) E ⟨ev2,(Bs E E)⟩ (aD E ?_)
 cases h
 exact JS.ret aA g V E E [0,0,0,0,0,0] E

def tD (a:EdQ) (f:Int×List (List UInt8)) (b:Int×Int) (d:Int):Option (EdQ×Int):= (aF (dZ a) fun e=>(aS (fun (_:Unit)=>(aF (cZ a) fun (i,j)=> some (i,j))) fun g=>(bif decide (b.1=4) then some (e,2) else (bif decide (b.1=7) then (bif (bif (bif (bif decide (a.2.2.2.1=0) then (decide (a.2.2.2.2.1=0)) else false) then (decide (a.2.2.2.2.2.1=0)) else false) then (decide (a.2.2.2.2.2.2.1=0)) else false) then (aF (cZ a) fun (k,l)=> some (k,l)) else (aF (dQ a a.2.2.2.2.2.2.2.2.2.1) fun m=> some (m,0))) else (bif decide (b.1=8) then (aF (oN a f (-1)) fun (n,o)=> some (n,o)) else (bif decide (b.1=9) then (aF (oN a f 1) fun (p,q)=> some (p,q)) else (aS (fun (r:Bool)=>(bif r then (aF (mW a 104 d) fun (s,t)=> some (s,t)) else (bif decide (b.1=10) then (aF (mW a 108 d) fun (u,v)=> some (u,v)) else (bif decide (b.1=12) then (aF (mW a 48 d) fun (w,x)=> some (w,x)) else (bif decide (b.1=13) then (aF (mW a 36 d) fun (y,z)=> some (y,z)) else (bif decide (b.1=14) then (aF (eA a 100 a.2.2.1.2 (min (W (a.2.2.1.2+d)) (a.2.2.1.1.length:Int))) fun (A,B)=> some (A,B)) else (bif decide (b.1=2) then (bif decide (b.2=99) then some (e,3) else (bif decide (b.2=108) then some (e,5) else (bif (bif decide (b.2=100) then (decide ((a.2.2.1.1.length:Int)=0)) else false) then some (e,4) else (bif decide (b.2=114) then (aF (xO a) fun (c,C)=> some ((c.1,c.2.1,c.2.2.1,c.2.2.2.1,c.2.2.2.2.1,c.2.2.2.2.2.1,c.2.2.2.2.2.2.1,c.2.2.2.2.2.2.2.1,c.2.2.2.2.2.2.2.2.1,c.2.2.2.2.2.2.2.2.2.1,c.2.2.2.2.2.2.2.2.2.2.1,c.2.2.2.2.2.2.2.2.2.2.2.1,c.2.2.2.2.2.2.2.2.2.2.2.2.1,c.2.2.2.2.2.2.2.2.2.2.2.2.2.1,[],c.2.2.2.2.2.2.2.2.2.2.2.2.2.2.2.1,c.2.2.2.2.2.2.2.2.2.2.2.2.2.2.2.2),C)) else g ())))) else g ()))))))) fun h=>(bif decide (b.1=11) then h (decide (b.1=11)) else h (decide (b.1=5))))))))))

theorem aKd (a:EdQ) (d:Int×List (List UInt8)) (c:Int×Int) (e:Int) (b:P6) (g:Option Addr) (i:Nat) (r:EdQ×Int) (h:tD a d c e=some r):
 FC Tryz.prog 124 [.agg (cD a b).toArray,.agg #[I d.1,sL g d.2 i],.agg #[I c.1,I c.2],I e] (bP a b [⟨.str,⟨g,d.2.length,i⟩,d.2⟩]) (fun _:P6=>True) (fun q=>.tuple #[.agg (aG r.1 q).toArray,I r.2]) (fun q=>(bP r.1 q [])):= by
 refine FC.of (T:=TTx) Tryz.call124 Tryz.func124 E E fun w0=>?_
 unfold tD at h
 refine aM aA 5 [] [8,9,10,11] [(4,.bp 8 0),(5,.bp 9 0),(6,.bp 10 0),(8,.bp 11 0)] (.new 8 46 (aG a b) (.new 9 50 [I d.1,sL g d.2 i] (.new 10 64 [I c.1,I c.2] (.new 11 46 bA .nil)))) ⟨(Es E),(Bs E E)⟩ E E (JS.seq (dF E (by kernel_rfl) (cX aA 9 [] [(10,.v (I a.2.2.1.2)),(11,.v (I (a.2.2.1.1.length:Int)))] E (Es E) (iN E (JS.seq (JS.region (aB aA 1 [] [] [(20,.v (.agg (aG a b).toArray))] _ E ev1 ?_)))))))
 refine bnw h fun j K h=>JO.call E E E E (hD a b _ K) E [0,1,2,3,4,5] E E fun f _=>aL aA 2 [] [32] [(12,.bp 32 0)] (.new 8 46 (aG a b) (.new 9 50 [I d.1,sL g d.2 i] (.new 10 64 [I c.1,I c.2] (.new 11 46 bA (.new 32 46 (aG j f) .nil))))) E ⟨ev2,(Bs E E)⟩ (aD E (JS.seq (aC aA 2 [(23,.v (I c.1))] ev1 E E ?_)))
 obtain ⟨L,M,h⟩:=aN h
 refine aX (ι:=Unit) ⟨fun _=>L ()=some r,fun _=>[(4,.bp 8 0),(8,.bp 11 0)],fun _=>(.new 8 46 (aG a b) (.new 11 46 bA .nil)),fun _=>(bP a b []),fun _=>[],fun _=>0⟩ ?_ ?_
 ·
  refine aC aA 2 [(24,.v (.bool (decide (c.1=4))))] ev1 E E ?_
  refine aH E h (fun h=>?_) (fun h=>?_)
  ·
   refine aM aA 3 [] [] [(9,.v (I 2))] (.new 11 46 (aG j f) .nil) ⟨ev2,(Bs E E)⟩ E E ?_
   cases h
   exact JS.ret aA f V E E [0,0,0,0,0,0] E
  refine aC aA 2 [(27,.v (.bool (decide (c.1=7))))] ev1 E E ?_
  refine aH E h (fun h=>?_) (fun h=>?_)
  ·
   refine JS.seq (aC aA 18 [(46,.v (.bool (bif (bif (bif (decide (a.2.2.2.1=0)) then (decide ((Q4 a).1=0)) else false) then (decide ((Q4 a).2.1=0)) else false) then (decide ((Q4 a).2.2.1=0)) else false)))] ev1 E E ?_)
   refine aH E h (fun h=>?_) (fun h=>?_)
   ·
    refine JS.seq (JS.region (aB aA 1 [] [] [(47,.v (.agg (aG a b).toArray))] _ E ev1 ?_))
    obtain ⟨⟨N,O⟩,P,h⟩:=aE h
    refine JO.call E E E E (dR a b _ P) E [0,1,2,3,4,5] E E fun k _=>aL aA 4 [] [] [(9,.v (I O))] (.new 11 46 (aG N k) .nil) E ⟨ev2,(Bs E E)⟩ (aD E ?_)
    cases h
    exact JS.ret aA k V E E [0,0,0,0,0,0] E
   refine JS.skip (JS.seq (JS.region (aB aA 3 [] [] [(51,.v (.agg (aG a b).toArray)),(53,.v (I (Q8 a).2.1))] _ E ⟨(Es E),E⟩ ?_)))
   refine bnw h fun Q R h=>JO.call E E E E (nG a (Q8 a).2.1 b _ R) E [0,1,2,3,4,5] E E fun l _=>aL aA 2 [] [] [(9,.v (I 0))] (.new 11 46 (aG Q l) .nil) E ⟨ev2,(Bs E E)⟩ (aD E ?_)
   cases h
   exact JS.ret aA l V E E [0,0,0,0,0,0] E
  refine aC aA 2 [(55,.v (.bool (decide (c.1=8))))] ev1 E E ?_
  refine aH E h (fun h=>?_) (fun h=>?_)
  ·
   refine JS.seq (JS.region (aB aA 2 [] [] [(57,.v (.agg (aG a b).toArray)),(58,.v (.agg #[I d.1,sL g d.2 i]))] _ E ⟨(Es E),E⟩ ?_))
   obtain ⟨⟨S,U⟩,X,h⟩:=aE h
   refine JO.call E E E E (uD a d (-1) b g i _ X) E [0,1,2,3,4,5,6] E E fun m _=>aL aA 4 [] [] [(9,.v (I U))] (.new 11 46 (aG S m) .nil) E ⟨ev2,(Bs E E)⟩ (aD E ?_)
   cases h
   exact JS.ret aA m V E E [0,0,0,0,0,0] E
  refine aC aA 2 [(62,.v (.bool (decide (c.1=9))))] ev1 E E ?_
  refine aH E h (fun h=>?_) (fun h=>?_)
  ·
   refine JS.seq (JS.region (aB aA 2 [] [] [(64,.v (.agg (aG a b).toArray)),(65,.v (.agg #[I d.1,sL g d.2 i]))] _ E ⟨(Es E),E⟩ ?_))
   obtain ⟨⟨Y,Z⟩,a0,h⟩:=aE h
   refine JO.call E E E E (uD a d 1 b g i _ a0) E [0,1,2,3,4,5,6] E E fun n _=>aL aA 4 [] [] [(9,.v (I Z))] (.new 11 46 (aG Y n) .nil) E ⟨ev2,(Bs E E)⟩ (aD E ?_)
   cases h
   exact JS.ret aA n V E E [0,0,0,0,0,0] E
  obtain ⟨a1,a2,h⟩:=aN h
  refine bZ (ι:=Bool) ⟨fun z=>a1 z=some r,fun z=>[(3,.v (I e)),(4,.bp 8 0),(6,.bp 10 0),(8,.bp 11 0),(10,.v (I a.2.2.1.2)),(11,.v (I (a.2.2.1.1.length:Int))),(12,.bp 32 0),(23,.v (I c.1)),(69,.v (.bool z))],fun z=>(.new 8 46 (aG a b) (.new 10 64 [I c.1,I c.2] (.new 11 46 bA (.new 32 46 (aG j f) .nil)))),fun z=>(bP a b []),fun z=>(bP j f []),fun z=>0⟩ ?_ ?_
  ·
   refine aC aA 2 [(69,.v (.bool (decide (c.1=11))))] ev1 E E ?_
   refine aH E h (fun h=>?_) (fun h=>?_)
   ·
    refine JS.skip (bT (decide (c.1=11)) h (Es E) (Bs E E) [0,1,2,3,4,5] E [0,1,2,3,4,5] E E)
   refine eR aA 2 [(69,.v (.bool (decide (c.1=5))))] ev1 E E (bT (decide (c.1=5)) h (Es E) (Bs E E) [0,1,2,3,4,5] E [0,1,2,3,4,5] E E)
  rintro c5 h
  subst a2
  refine aH E h (fun h=>?_) (fun h=>?_)
  ·
   refine JS.seq (JS.region (aB aA 2 [] [] [(72,.v (.agg (aG a b).toArray)),(73,.v (I e))] _ E ⟨(Es E),E⟩ ?_))
   obtain ⟨⟨a3,a4⟩,a5,h⟩:=aE h
   refine JO.call E E E E (vU a 104 e b _ a5) E [0,1,2,3,4,5] E E fun o _=>aL aA 4 [] [] [(9,.v (I a4))] (.new 11 46 (aG a3 o) .nil) E ⟨ev2,(Bs E E)⟩ (aD E ?_)
   cases h
   exact JS.ret aA o V E E [0,0,0,0,0,0] E
  refine aC aA 2 [(77,.v (.bool (decide (c.1=10))))] ev1 E E ?_
  refine aH E h (fun h=>?_) (fun h=>?_)
  ·
   refine JS.seq (JS.region (aB aA 2 [] [] [(79,.v (.agg (aG a b).toArray)),(80,.v (I e))] _ E ⟨(Es E),E⟩ ?_))
   obtain ⟨⟨a6,a7⟩,a8,h⟩:=aE h
   refine JO.call E E E E (vU a 108 e b _ a8) E [0,1,2,3,4,5] E E fun p _=>aL aA 4 [] [] [(9,.v (I a7))] (.new 11 46 (aG a6 p) .nil) E ⟨ev2,(Bs E E)⟩ (aD E ?_)
   cases h
   exact JS.ret aA p V E E [0,0,0,0,0,0] E
  refine aC aA 2 [(84,.v (.bool (decide (c.1=12))))] ev1 E E ?_
  refine aH E h (fun h=>?_) (fun h=>?_)
  ·
   refine JS.seq (JS.region (aB aA 2 [] [] [(86,.v (.agg (aG a b).toArray)),(87,.v (I e))] _ E ⟨(Es E),E⟩ ?_))
   obtain ⟨⟨a9,b0⟩,b1,h⟩:=aE h
   refine JO.call E E E E (vU a 48 e b _ b1) E [0,1,2,3,4,5] E E fun s _=>aL aA 4 [] [] [(9,.v (I b0))] (.new 11 46 (aG a9 s) .nil) E ⟨ev2,(Bs E E)⟩ (aD E ?_)
   cases h
   exact JS.ret aA s V E E [0,0,0,0,0,0] E
  refine aC aA 2 [(91,.v (.bool (decide (c.1=13))))] ev1 E E ?_
  refine aH E h (fun h=>?_) (fun h=>?_)
  ·
   refine JS.seq (JS.region (aB aA 2 [] [] [(93,.v (.agg (aG a b).toArray)),(94,.v (I e))] _ E ⟨(Es E),E⟩ ?_))
   obtain ⟨⟨b2,b3⟩,b4,h⟩:=aE h
   refine JO.call E E E E (vU a 36 e b _ b4) E [0,1,2,3,4,5] E E fun t _=>aL aA 4 [] [] [(9,.v (I b3))] (.new 11 46 (aG b2 t) .nil) E ⟨ev2,(Bs E E)⟩ (aD E ?_)
   cases h
   exact JS.ret aA t V E E [0,0,0,0,0,0] E
  refine aC aA 2 [(98,.v (.bool (decide (c.1=14))))] ev1 E E ?_
  refine aH E h (fun h=>?_) (fun h=>?_)
  ·
   refine JS.seq (JS.region (aB aA 7 [(W (a.2.2.1.2+e))] [] [(100,.v (.agg (aG a b).toArray)),(101,.v (I a.2.2.1.2)),(106,.v (I (min (W (a.2.2.1.2+e)) (a.2.2.1.1.length:Int))))] _ E ⟨ev5,(Es E),E⟩ ?_))
   obtain ⟨⟨b5,b6⟩,b7,h⟩:=aE h
   refine JO.call E E E E (hU a 100 a.2.2.1.2 (min (W (a.2.2.1.2+e)) (a.2.2.1.1.length:Int)) b _ b7) E [0,1,2,3,4,5] E E fun u _=>aL aA 4 [] [] [(9,.v (I b6))] (.new 11 46 (aG b5 u) .nil) E ⟨ev2,(Bs E E)⟩ (aD E ?_)
   cases h
   exact JS.ret aA u V E E [0,0,0,0,0,0] E
  refine aC aA 2 [(110,.v (.bool (decide (c.1=2))))] ev1 E E ?_
  refine aH E h (fun h=>?_) (fun h=>?_)
  ·
   refine JS.block (aC aA 4 [(112,.v (.bool (decide (c.2=99))))] ev1 E E ?_)
   refine aH E h (fun h=>?_) (fun h=>?_)
   ·
    refine aM aA 3 [] [] [(9,.v (I 3))] (.new 11 46 (aG j f) .nil) ⟨ev2,(Bs E E)⟩ E E ?_
    cases h
    exact JS.ret aA f V E E [0,0,0,0,0,0] E
   refine aC aA 4 [(117,.v (.bool (decide (c.2=108))))] ev1 E E ?_
   refine aH E h (fun h=>?_) (fun h=>?_)
   ·
    refine aM aA 3 [] [] [(9,.v (I 5))] (.new 11 46 (aG j f) .nil) ⟨ev2,(Bs E E)⟩ E E ?_
    cases h
    exact JS.ret aA f V E E [0,0,0,0,0,0] E
   refine aC aA 8 [(122,.v (.bool (bif (decide (c.2=100)) then (decide ((a.2.2.1.1.length:Int)=0)) else false)))] ev1 E E ?_
   refine aH E h (fun h=>?_) (fun h=>?_)
   ·
    refine aM aA 3 [] [] [(9,.v (I 4))] (.new 11 46 (aG j f) .nil) ⟨ev2,(Bs E E)⟩ E E ?_
    cases h
    exact JS.ret aA f V E E [0,0,0,0,0,0] E
   refine aC aA 4 [(131,.v (.bool (decide (c.2=114))))] ev1 E E ?_
   refine aH E h (fun h=>?_) (fun h=>?_)
   ·
    refine JS.seq (JS.region (aB aA 1 [] [] [(135,.v (.agg (aG a b).toArray))] _ E ev1 ?_))
    obtain ⟨⟨b8,b9⟩,c0,h⟩:=aE h
    refine JO.call E E E E (aIy a b _ c0) E [0,1,2,3,4,5] E E ?_
    rintro ⟨w,x,y,A,B,C,D,F,G,H⟩ -
    refine aL aA 4 [] [] [(9,.v (I b9))] (.new 11 46 (aG (U14 b8 []) (w,x,y,A,B,C,D,F,none,0,G,H)) .nil) E ⟨ev2,(Bs E E)⟩ (aD E ?_)
    cases h
    refine aZ iT Sl.nil E E (JS.ret aA (w,x,y,A,B,C,D,F,none,0,G,H) V E E [1,1,1,1,0,0] E)
   refine JS.skip (aV (aV (aQ () h (Es E) (Bs E E) [0,1,2,3,4,5] E [] E)))
  refine JS.skip (aV (aQ () h (Es E) (Bs E E) [0,1,2,3,4,5] E [] E))
 rintro _ h
 subst M
 refine JS.seq (JS.region (aB aA 1 [] [] [(139,.v (.agg (aG a b).toArray))] _ E ev1 ?_))
 obtain ⟨⟨c1,c2⟩,c3,h⟩:=aE h
 refine JO.call E E E E (dR a b _ c3) E [0,1,2,3,4,5] E E fun J _=>aL aA 4 [] [] [(9,.v (I c2))] (.new 11 46 (aG c1 J) .nil) E ⟨ev2,(Bs E E)⟩ (aD E ?_)
 cases h
 exact JS.ret aA J V E E [0,0,0,0,0,0] E

def uJ (a:Int):Option Int:= (bif decide (a=102) then some 0 else (bif decide (a=70) then some 1 else (bif decide (a=116) then some 2 else (bif decide (a=84) then some 3 else some (-1)))))

theorem aGn (a:Int) (r:Int) (h:uJ a=some r) :
 FC Tryz.prog 215 [I a] [] (fun _:Unit=>True) (fun _=>I r) (fun _=>[]):= by
 refine FC.of (T:=TTx) Tryz.call215 Tryz.func215 E E fun b=>?_
 unfold uJ at h
 refine aC aA 1 [] ev5 E E (JS.seq (aC aA 1 [(3,.v (I a))] ev1 E E (JS.block (aC aA 2 [(4,.v (.bool (decide (a=102))))] ev1 E E ?_))))
 refine aH E h (fun h=>?_) (fun h=>?_)
 ·
  refine aC aA 1 [(2,.v (I 0))] ev1 E E ?_
  cases h
  exact JS.ret aA () V E E [] E
 refine aC aA 2 [(6,.v (.bool (decide (a=70))))] ev1 E E ?_
 refine aH E h (fun h=>?_) (fun h=>?_)
 ·
  refine aC aA 1 [(2,.v (I 1))] ev1 E E ?_
  cases h
  exact JS.ret aA () V E E [] E
 refine aC aA 2 [(8,.v (.bool (decide (a=116))))] ev1 E E ?_
 refine aH E h (fun h=>?_) (fun h=>?_)
 ·
  refine aC aA 1 [(2,.v (I 2))] ev1 E E ?_
  cases h
  exact JS.ret aA () V E E [] E
 refine aC aA 2 [(10,.v (.bool (decide (a=84))))] ev1 E E ?_
 refine aH E h (fun h=>?_) (fun h=>?_)
 ·
  refine aC aA 1 [(2,.v (I 3))] ev1 E E ?_
  cases h
  exact JS.ret aA () V E E [] E
 refine JS.skip (aV (aC aA 1 [(2,.v (I (-1)))] ev1 E E ?_))
 cases h
 exact JS.ret aA () V E E [] E

def lK (b:List Int) (c:Int) (d:Unit→Option Int) (e:Int→Option Int):Int→Option Int:=fun a=>(bif decide (a<(b.length:Int)) then (aP (0≤a∧a<(b.length:Int)) <|(bif decide ((at' b a)=c) then some a else e (W (a+1)))) else d ())

def lJ (b:List Int) (c:Int) (d:Unit→Option Int) (e:Int→Option Int):Int→Option Int:=fun a=>(bif decide (0≤a) then (aP (0≤a∧a<(b.length:Int)) <|(bif decide ((at' b a)=c) then some a else e (W (a - 1)))) else d ())

def lI (b:List Int) (c:Int) (d:Unit→Option Int) (e:Int→Option Int):Int→Option Int:=fun a=>(bif decide ((W (a+1))<(b.length:Int)) then (aP (0≤(W (a+1))∧(W (a+1))<(b.length:Int)) <|(bif decide ((at' b (W (a+1)))=c) then some a else e (W (a+1)))) else d ())

def lH (b:List Int) (c:Int) (d:Unit→Option Int) (e:Int→Option Int):Int→Option Int:=fun a=>(bif decide (1≤a) then (aP (0≤(W (a - 1))∧(W (a - 1))<(b.length:Int)) <|(bif decide ((at' b (W (a - 1)))=c) then some a else e (W (a - 1)))) else d ())

def rK (a:List Int) (f:Int) (c:Int) (d:Int):Option Int:= (aF (dE f (a.length:Int)) fun e=>(aS (fun (_:Unit)=> some (-1)) fun b=>(bif decide (d=0) then (aS (fun (_:Unit)=> b ()) fun g=>(aW (lK a c g) bG (W (e+1)))) else (bif decide (d=1) then (aS (fun (_:Unit)=> b ()) fun h=>(aW (lJ a c h) bG (W (e - 1)))) else (bif decide (d=2) then (aS (fun (_:Unit)=> b ()) fun i=>(aW (lI a c i) bG (W (e+1)))) else (bif decide (d=3) then (aS (fun (_:Unit)=> b ()) fun j=>(aW (lH a c j) bG (W (e - 1)))) else b ()))))))

theorem aIf (a:List Int) (l:Int) (b:Int) (k:Int) (c:Option Addr) (d:Nat) (r:Int) (h:rK a l b k=some r):
 FC Tryz.prog 275 [sL c a d,I l,I b,I k] [fI c d a] (fun _:Unit=>True) (fun _=>I r) (fun _=>[]):= by
 refine FC.of (T:=TTx) Tryz.call275 Tryz.func275 E E fun O=>?_
 unfold rK at h
 refine aC aA 1 [] ev5 E E (aC aA 3 [(9,.v (I (a.length:Int)))] ev1 E E (JS.seq (JS.region (aB aA 2 [] [] [(16,.v (I l)),(17,.v (I (a.length:Int)))] _ E ⟨(Es E),E⟩ ?_))))
 refine bnw h fun e B h=>JO.call E E E E (jR l (a.length:Int) _ B) E [] E E fun _ _=>aB aA 1 [] [] [(1,.v (I e))] _ E ev1 (aD E (JS.seq (aC aA 1 [(19,.v (I k))] ev1 E E ?_)))
 obtain ⟨C,D,h⟩:=aN h
 refine aX (ι:=Unit) ⟨fun _=>C ()=some r,fun _=>[],fun _=>.nil,fun _=>[],fun _=>[],fun _=>0⟩ ?_ ?_
 ·
  refine aC aA 2 [(20,.v (.bool (decide (k=0))))] ev1 E E ?_
  refine aH E h (fun h=>?_) (fun h=>?_)
  ·
   refine gH aA 3 [(W (e+1))] [] [(10,.v (I (W (e+1))))] _ ev3 E E ?_
   obtain ⟨m,F,h⟩:=aN h
   refine aX (ι:=Unit) ⟨fun _=>m ()=some r,fun _=>[],fun _=>.nil,fun _=>[],fun _=>[],fun _=>0⟩ ?_ ?_
   ·
    refine JS.loop (ι:=Nat×Int) ⟨fun z=>aW (lK a b m) z.1 z.2=some r,fun z=>[(0,.v (sL c a d)),(2,.v (I b)),(9,.v (I (a.length:Int))),(10,.v (I z.2))],fun z=>.nil,fun z=>[fI c d a],fun z=>[],fun z=>z.1⟩ (bG,(W (e+1))) h (Es E) V [0] E [] E ?_
    rintro ⟨n,i⟩ h
    obtain ⟨n,rfl,h⟩:=bC h
    rw [lK] at h
    refine JS.seq (aC aA 3 [(26,.v (.bool (decide (i<(a.length:Int)))))] ev1 E E ?_)
    refine aH E h (fun h=>?_) (fun h=>?_)
    ·
     refine JS.skip (JS.seq (JS.block (JS.seq (JS.region (bJ 0 E fun G=>?_)))))
     obtain ⟨o,h⟩:=aK h
     refine aB aA 3 [] [] [(31,.ep ⟨c,a.length,d⟩ (Int.toNat i*1))] _ E ⟨G.ix o,ev2,E⟩ (JO.load aA E E E E E E E 0 E E (Int.toNat i) 0 (at' a i) ⟨bD o,E⟩ E E (aB aA 2 [] [] [(34,.v (.bool (decide ((at' a i)=b))))] _ E ev1 (aD E ?_)))
     refine aH E h (fun h=>?_) (fun h=>?_)
     ·
      refine aC aA 2 [(8,.v (I i))] ev1 E E ?_
      cases h
      exact JS.ret aA () V E E [] E
     refine JS.skip (aV (bY aA 3 [(W (i+1))] [] [(10,.v (I (W (i+1))))] _ ev3 E E (bR (n,(W (i+1))) h (Nat.lt_succ_self _) (Es E) V [0] E [] E)))
    refine JS.exit E (aQ () h V V [] E [] E)
   rintro _ h
   subst F
   refine aV (aQ () h V V [] E [] E)
  refine aC aA 2 [(36,.v (.bool (decide (k=1))))] ev1 E E ?_
  refine aH E h (fun h=>?_) (fun h=>?_)
  ·
   refine gH aA 3 [(W (e - 1))] [] [(11,.v (I (W (e - 1))))] _ ev3 E E ?_
   obtain ⟨p,H,h⟩:=aN h
   refine aX (ι:=Unit) ⟨fun _=>p ()=some r,fun _=>[],fun _=>.nil,fun _=>[],fun _=>[],fun _=>0⟩ ?_ ?_
   ·
    refine JS.loop (ι:=Nat×Int) ⟨fun z=>aW (lJ a b p) z.1 z.2=some r,fun z=>[(0,.v (sL c a d)),(2,.v (I b)),(11,.v (I z.2))],fun z=>.nil,fun z=>[fI c d a],fun z=>[],fun z=>z.1⟩ (bG,(W (e - 1))) h (Es E) V [0] E [] E ?_
    rintro ⟨q,j⟩ h
    obtain ⟨q,rfl,h⟩:=bC h
    rw [lJ] at h
    refine JS.seq (aC aA 2 [(41,.v (.bool (decide (0≤j))))] ev1 E E ?_)
    refine aH E h (fun h=>?_) (fun h=>?_)
    ·
     refine JS.skip (JS.seq (JS.block (JS.seq (JS.region (bJ 0 E fun J=>?_)))))
     obtain ⟨s,h⟩:=aK h
     refine aB aA 3 [] [] [(46,.ep ⟨c,a.length,d⟩ (Int.toNat j*1))] _ E ⟨J.ix s,ev2,E⟩ (JO.load aA E E E E E E E 0 E E (Int.toNat j) 0 (at' a j) ⟨bD s,E⟩ E E (aB aA 2 [] [] [(49,.v (.bool (decide ((at' a j)=b))))] _ E ev1 (aD E ?_)))
     refine aH E h (fun h=>?_) (fun h=>?_)
     ·
      refine aC aA 2 [(8,.v (I j))] ev1 E E ?_
      cases h
      exact JS.ret aA () V E E [] E
     refine JS.skip (aV (bY aA 3 [(W (j - 1))] [] [(11,.v (I (W (j - 1))))] _ ev3 E E (bR (q,(W (j - 1))) h (Nat.lt_succ_self _) (Es E) V [0] E [] E)))
    refine JS.exit E (aQ () h V V [] E [] E)
   rintro _ h
   subst H
   refine aV (aQ () h V V [] E [] E)
  refine aC aA 2 [(51,.v (.bool (decide (k=2))))] ev1 E E ?_
  refine aH E h (fun h=>?_) (fun h=>?_)
  ·
   refine gH aA 3 [(W (e+1))] [] [(12,.v (I (W (e+1))))] _ ev3 E E ?_
   obtain ⟨t,K,h⟩:=aN h
   refine aX (ι:=Unit) ⟨fun _=>t ()=some r,fun _=>[],fun _=>.nil,fun _=>[],fun _=>[],fun _=>0⟩ ?_ ?_
   ·
    refine JS.loop (ι:=Nat×Int) ⟨fun z=>aW (lI a b t) z.1 z.2=some r,fun z=>[(0,.v (sL c a d)),(2,.v (I b)),(9,.v (I (a.length:Int))),(12,.v (I z.2))],fun z=>.nil,fun z=>[fI c d a],fun z=>[],fun z=>z.1⟩ (bG,(W (e+1))) h (Es E) V [0] E [] E ?_
    rintro ⟨u,f⟩ h
    obtain ⟨u,rfl,h⟩:=bC h
    rw [lI] at h
    refine JS.seq (gH aA 4 [(W (f+1))] [] [(58,.v (.bool (decide ((W (f+1))<(a.length:Int)))))] _ ev3 E E ?_)
    refine aH E h (fun h=>?_) (fun h=>?_)
    ·
     refine JS.skip (JS.seq (JS.block (JS.seq (JS.region (bJ 0 E fun L=>?_)))))
     obtain ⟨w,h⟩:=aK h
     refine aB aA 4 [(W (f+1))] [] [(64,.ep ⟨c,a.length,d⟩ (Int.toNat (W (f+1))*1))] _ E ⟨ev5,L.ix w,ev2,E⟩ (JO.load aA E E E E E E E 0 E E (Int.toNat (W (f+1))) 0 (at' a (W (f+1))) ⟨bD w,E⟩ E E (aB aA 2 [] [] [(67,.v (.bool (decide ((at' a (W (f+1)))=b))))] _ E ev1 (aD E ?_)))
     refine aH E h (fun h=>?_) (fun h=>?_)
     ·
      refine aC aA 2 [(8,.v (I f))] ev1 E E ?_
      cases h
      exact JS.ret aA () V E E [] E
     refine JS.skip (aV (bY aA 3 [(W (f+1))] [] [(12,.v (I (W (f+1))))] _ ev3 E E (bR (u,(W (f+1))) h (Nat.lt_succ_self _) (Es E) V [0] E [] E)))
    refine JS.exit E (aQ () h V V [] E [] E)
   rintro _ h
   subst K
   refine aV (aQ () h V V [] E [] E)
  refine aC aA 2 [(69,.v (.bool (decide (k=3))))] ev1 E E ?_
  refine aH E h (fun h=>?_) (fun h=>?_)
  ·
   refine gH aA 3 [(W (e - 1))] [] [(13,.v (I (W (e - 1))))] _ ev3 E E ?_
   obtain ⟨x,M,h⟩:=aN h
   refine aX (ι:=Unit) ⟨fun _=>x ()=some r,fun _=>[],fun _=>.nil,fun _=>[],fun _=>[],fun _=>0⟩ ?_ ?_
   ·
    refine JS.loop (ι:=Nat×Int) ⟨fun z=>aW (lH a b x) z.1 z.2=some r,fun z=>[(0,.v (sL c a d)),(2,.v (I b)),(13,.v (I z.2))],fun z=>.nil,fun z=>[fI c d a],fun z=>[],fun z=>z.1⟩ (bG,(W (e - 1))) h (Es E) V [0] E [] E ?_
    rintro ⟨y,g⟩ h
    obtain ⟨y,rfl,h⟩:=bC h
    rw [lH] at h
    refine JS.seq (aC aA 2 [(74,.v (.bool (decide (1≤g))))] ev1 E E ?_)
    refine aH E h (fun h=>?_) (fun h=>?_)
    ·
     refine JS.skip (JS.seq (JS.block (JS.seq (JS.region (bJ 0 E fun N=>?_)))))
     obtain ⟨A,h⟩:=aK h
     refine aB aA 4 [(W (g - 1))] [] [(80,.ep ⟨c,a.length,d⟩ (Int.toNat (W (g - 1))*1))] _ E ⟨ev5,N.ix A,ev2,E⟩ (JO.load aA E E E E E E E 0 E E (Int.toNat (W (g - 1))) 0 (at' a (W (g - 1))) ⟨bD A,E⟩ E E (aB aA 2 [] [] [(83,.v (.bool (decide ((at' a (W (g - 1)))=b))))] _ E ev1 (aD E ?_)))
     refine aH E h (fun h=>?_) (fun h=>?_)
     ·
      refine aC aA 2 [(8,.v (I g))] ev1 E E ?_
      cases h
      exact JS.ret aA () V E E [] E
     refine JS.skip (aV (bY aA 3 [(W (g - 1))] [] [(13,.v (I (W (g - 1))))] _ ev3 E E (bR (y,(W (g - 1))) h (Nat.lt_succ_self _) (Es E) V [0] E [] E)))
    refine JS.exit E (aQ () h V V [] E [] E)
   rintro _ h
   subst M
   refine aV (aQ () h V V [] E [] E)
  refine JS.skip (aV (aQ () h V V [] E [] E))
 rintro _ h
 subst D
 refine aC aA 1 [(8,.v (I (-1)))] ev1 E E ?_
 cases h
 exact JS.ret aA () V E E [] E

def oU (d:List Int) (e:Int) (f:Int) (g:Int) (h:Int→Option (Int×Bool)) (i:(Int×Int)→Option (Int×Bool)):(Int×Int)→Option (Int×Bool):=fun (a,b)=>(bif decide (b<(max (1:Int) (min g 999))) then (aF (rK d a e f) fun c=>(bif decide (c<0) then some ((-1),false) else i (c,(W (b+1))))) else h a)

def nA (a:List Int) (b:Int) (c:Int) (d:Int) (e:Int):Option (Int×Bool):= (aF (dE b (a.length:Int)) fun f=>(aS (fun (g:Int)=> some (g,true)) fun h=>(aW (oU a c d e h) bG (f,0))))

theorem aEh (a:List Int) (g:Int) (b:Int) (c:Int) (d:Int) (e:Option Addr) (f:Nat) (r:Int×Bool) (h:nA a g b c d=some r):
 FC Tryz.prog 216 [sL e a f,I g,I b,I c,I d] [fI e f a] (fun _:Unit=>True) (fun _=>.tuple #[I r.1,.bool r.2]) (fun _=>[]):= by
 refine FC.of (T:=TTx) Tryz.call216 Tryz.func216 E E fun t=>?_
 unfold nA at h
 refine aC aA 2 [] ev5 E E (JS.seq (JS.region (aB aA 3 [] [] [(12,.v (I g)),(14,.v (I (a.length:Int)))] _ E ⟨(Es E),E⟩ ?_)))
 refine bnw h fun l o h=>JO.call E E E E (jR g (a.length:Int) _ o) E [] E E fun _ _=>aB aA 1 [] [] [(1,.v (I l))] _ E ev1 (aD E (JS.seq (aC aA 4 [(18,.v (I (max (1:Int) (min d 999)))),(19,.v (I 0))] ⟨(Es E),E⟩ E E ?_)))
 obtain ⟨m,p,h⟩:=aN h
 refine aX (ι:=Int) ⟨fun z=>m z=some r,fun z=>[(1,.v (I z))],fun z=>.nil,fun z=>[],fun z=>[],fun z=>0⟩ ?_ ?_
 ·
  refine JS.loop (ι:=Nat×Int×Int) ⟨fun z=>aW (oU a b c d m) z.1 z.2=some r,fun z=>[(0,.v (sL e a f)),(1,.v (I z.2.1)),(2,.v (I b)),(3,.v (I c)),(18,.v (I (max (1:Int) (min d 999)))),(19,.v (I z.2.2))],fun z=>.nil,fun z=>[fI e f a],fun z=>[],fun z=>z.1⟩ (bG,l,0) h (Es E) V [0] E [] E ?_
  rintro ⟨n,j,i⟩ h
  obtain ⟨n,rfl,h⟩:=bC h
  rw [oU] at h
  refine aC aA 1 [(20,.v (.bool (decide (i<(max (1:Int) (min d 999))))))] ev1 E E (JS.seq ?_)
  refine aH E h (fun h=>?_) (fun h=>?_)
  ·
   refine JS.skip (JS.seq (JS.block (JS.seq (JS.region (aB aA 4 [] [] [(21,.v (sL e a f)),(22,.v (I j)),(23,.v (I b)),(24,.v (I c))] _ E ⟨(Es E),E⟩ ?_)))))
   refine bnw h fun k q h=>JO.call E E E E (aIf a j b c e f _ q) E [0] E E fun _ _=>aB aA 1 [] [] [(1,.v (I k))] _ E ev1 (aD E (aC aA 2 [(27,.v (.bool (decide (k<0))))] ev1 E E ?_))
   refine aH E h (fun h=>?_) (fun h=>?_)
   ·
    refine aC aA 2 [(10,.v (I (-1))),(11,.v (.bool false))] ⟨(Es E),E⟩ E E ?_
    cases h
    exact JS.ret aA () V E E [] E
   refine JS.skip (aV (bY aA 2 [(W (i+1))] [] [(19,.v (I (W (i+1))))] _ ev3 E E (bR (n,k,(W (i+1))) h (Nat.lt_succ_self _) (Es E) V [0] E [] E)))
  refine JS.exit E (aQ j h ev2 V [] E [] E)
 rintro s h
 subst p
 refine aC aA 3 [(10,.v (I s)),(11,.v (.bool true))] ⟨(Es E),E⟩ E E ?_
 cases h
 exact JS.ret aA () V E E [] E

def pQ (a:EdQ) (c:Int) (b:Int) (d:Int):Option (EdQ×Int):= (aF (nA a.2.2.1.1 a.2.2.1.2 c b d) fun (e,f)=>(bif (!f) then (aF (cZ a) fun (g,h)=> some (g,h)) else (aF (tE a e (bif decide (b=0) then true else (decide (b=2)))) fun (i,j)=> some (i,j))))

theorem aEf (a:EdQ) (d:Int) (c:Int) (e:Int) (b:P6) (r:EdQ×Int) (h:pQ a d c e=some r):
 FC Tryz.prog 217 [.agg (cD a b).toArray,I d,I c,I e] (bP a b []) (fun _:P6=>True) (fun q=>.tuple #[.agg (aG r.1 q).toArray,I r.2]) (fun q=>(bP r.1 q [])):= by
 refine FC.of (T:=TTx) Tryz.call217 Tryz.func217 E E fun t=>?_
 unfold pQ at h
 refine aM aA 3 [] [7,8] [(4,.bp 7 0),(8,.bp 8 0)] (.new 7 46 (aG a b) (.new 8 46 bA .nil)) ⟨(Es E),(Bs E E)⟩ E E (JS.seq (JS.region (aB aA 9 [] [] [(15,.v (sL b.1 a.2.2.1.1 b.2.1)),(18,.v (I a.2.2.1.2)),(19,.v (I d)),(20,.v (I c)),(21,.v (I e))] _ E ⟨(Es E),E⟩ ?_)))
 obtain ⟨⟨f,g⟩,k,h⟩:=aE h
 refine JO.call E E E E (aEh a.2.2.1.1 a.2.2.1.2 d c e b.1 b.2.1 _ k) E [0] E E fun _ _=>aB aA 5 [] [] [(10,.v (I f)),(11,.v (.bool g))] _ E ⟨(Es E),E⟩ (aD E (JS.seq (aC aA 2 [(26,.v (.bool (!g)))] ev1 E E ?_)))
 refine aH E h (fun h=>?_) (fun h=>?_)
 ·
  refine JS.seq (JS.region (aB aA 1 [] [] [(27,.v (.agg (aG a b).toArray))] _ E ev1 ?_))
  obtain ⟨⟨l,m⟩,n,h⟩:=aE h
  refine JO.call E E E E (dR a b _ n) E [0,1,2,3,4,5] E E fun i _=>aL aA 4 [] [] [(9,.v (I m))] (.new 8 46 (aG l i) .nil) E ⟨ev2,(Bs E E)⟩ (aD E ?_)
  cases h
  exact JS.ret aA i V E E [0,0,0,0,0,0] E
 refine JS.skip (JS.seq (JS.region (aB aA 8 [] [] [(31,.v (.agg (aG a b).toArray)),(32,.v (I f)),(38,.v (.bool (bif (decide (c=0)) then true else (decide (c=2)))))] _ E ⟨(Es E),E⟩ ?_)))
 obtain ⟨⟨o,p⟩,s,h⟩:=aE h
 refine JO.call E E E E (aDi a f (bif (decide (c=0)) then true else (decide (c=2))) b _ s) E [0,1,2,3,4,5] E E fun j _=>aL aA 4 [] [] [(9,.v (I p))] (.new 8 46 (aG o j) .nil) E ⟨ev2,(Bs E E)⟩ (aD E ?_)
 cases h
 exact JS.ret aA j V E E [0,0,0,0,0,0] E

end
end Go.Eng
