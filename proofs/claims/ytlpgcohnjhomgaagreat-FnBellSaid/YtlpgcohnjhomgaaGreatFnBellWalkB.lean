/- The walks of the functions that FnBell reaches: what each computes, as a plain function (M_..), and that the model computes it (ok_..). Condition of each: that the plain function answers. -/
import Derived.Test.YtlpgcohnjhomgaaGreatFnBellWalkA
set_option linter.unusedVariables false
set_option linter.unusedSimpArgs false
namespace Go.Eng
open Go Go.Proofs
noncomputable section

def dA (a:List Int×Int):Option (List Int×Int):= (aF (cL a.1) fun b=> some (b,a.2))

theorem dW (a:List Int×Int) (b:Option Addr) (c:Nat) (r:List Int×Int) (h:dA a=some r):
 FC Tryz.prog 64 [.agg #[sL b a.1 c,I a.2]] [fI b c a.1] (fun _:Option Addr×Nat=>True) (fun q=>.agg #[sL q.1 r.1 q.2,I r.2]) (fun q=>[fI q.1 q.2 r.1]):= by
 refine FC.of (T:=TTx) Tryz.call64 Tryz.func64 E E fun i=>?_
 unfold dA at h
 refine aS aA 2 [] [2,3] [(1,.bp 2 0),(2,.bp 3 0)] (.new 2 38 [sL b a.1 c,I a.2] (.new 3 38 [.slice none 0 0,I 0] .nil)) ⟨(Es E),(Bs E E)⟩ E E (JS.seq ?_)
 refine bnw h fun f g h=>bE E (.new 2 38 [sL b a.1 c,I a.2] .nil) [] [5,6] ev3 E (fun j=>?_)
 refine cD aA aI true 3 [0,1,3,4] E (by kernel_rfl) [] [(4,.v (sL b a.1 c)),(7,.v (I a.2))] ev3 [] E E (Es E) (JA.one 2 (by kernel_rfl) (JK.call E E E E (dC a.1 b c _ g) E [0] E E ?_))
 rintro ⟨d,e⟩ -
 refine aQ ev3 [] E (aW aA aI 1 [5] E (by kernel_rfl) [] [(8,.v (.agg #[sL d f e,I a.2]))] E ev2 (JA.one 6 (by kernel_rfl) (aY aA E E E E E E E E (aR E (bI (by kernel_rfl) (bC (B':=(.new 3 38 [sL d f e,I a.2] .nil)) (Bs E E) ?_))))))
 cases h
 exact JS.ret aA (d,e) V E E [0] E

def kD (b:List (List Int)) (e:(List (List Int))→Option (List (List Int))) (f:(Int×List (List Int))→Option (List (List Int))):(Int×List (List Int))→Option (List (List Int)):=fun (a,c)=>(bif decide (a<(b.length:Int)) then (aN (0≤a∧a<(b.length:Int)) <|(aF (cL (at' b a)) fun d=>(aN (c.length+([d]:List (List Int)).length≤536870912) <|f ((W (a+1)),(c ++ ([d]:List (List Int))))))) else e c)

def jQ (a:List (List Int)):Option (List (List Int)):= (aT (fun (b:List (List Int))=> some b) fun c=>(aZ (kD a c) bO (0,([]:List (List Int)))))

theorem tF (a:List (List Int)) (c:Option Addr) (d:Nat) (r:List (List Int)) (h:jQ a=some r):
 FC Tryz.prog 145 [.agg #[sL c a d]] [⟨(.sl iT),⟨c,a.length,d⟩,a⟩] (fun _:Option Addr×Nat=>True) (fun q=>.agg #[sL q.1 r q.2]) (fun q=>[⟨(.sl iT),⟨q.1,r.length,q.2⟩,r⟩]):= by
 refine FC.of (T:=TTx) Tryz.call145 Tryz.func145 E E fun F=>?_
 unfold jQ at h
 refine aS aA 2 [] [2,3] [(1,.bp 2 0),(2,.bp 3 0)] (.new 2 41 [sL c a d] (.new 3 41 [.slice none 0 0] .nil)) ⟨(Es E),(Bs E E)⟩ E E (aS aA 1 [] [4] [(3,.bp 4 0)] (.new 2 41 [sL c a d] (.new 3 41 [.slice none 0 0] (.new 4 41 [.slice none 0 0] .nil))) ⟨ev2,(Bs E E)⟩ E E (JS.seq (aE aA 4 [(7,.v (sL c a d)),(8,.v (I (a.length:Int))),(9,.v (I 0))] ⟨(Es E),E⟩ E E ?_)))
 obtain ⟨l,u,h⟩:=aM h
 refine bA (ι:=List (List Int)×Option Addr×Nat) ⟨fun z=>l z.1=some r,fun z=>[(2,.bp 3 0),(3,.bp 4 0)],fun z=>(.new 3 41 [.slice none 0 0] (.new 4 41 [sL z.2.1 z.1 z.2.2] .nil)),fun z=>[],fun z=>[⟨(.sl iT),⟨z.2.1,z.1.length,z.2.2⟩,z.1⟩],fun z=>0⟩ ?_ ?_
 ·
  refine aX (.sl iT) Sl.nil E E (JS.loop (ι:=Nat×Int×List (List Int)×Option Addr×Nat) ⟨fun z=>aZ (kD a l) z.1 (z.2.1,z.2.2.1)=some r,fun z=>[(2,.bp 3 0),(3,.bp 4 0),(7,.v (sL c a d)),(8,.v (I (a.length:Int))),(9,.v (I z.2.1))],fun z=>(.new 3 41 [.slice none 0 0] (.new 4 41 [sL z.2.2.2.1 z.2.2.1 (Q4 z)] .nil)),fun z=>[⟨(.sl iT),⟨c,a.length,d⟩,a⟩],fun z=>[⟨(.sl iT),⟨z.2.2.2.1,z.2.2.1.length,(Q4 z)⟩,z.2.2.1⟩],fun z=>z.1⟩ (bO,0,([]:List (List Int)),none,0) h (Es E) (Bs E E) [0] E [0] E ?_)
  rintro ⟨m,b,e,i,j⟩ h
  obtain ⟨m,rfl,h⟩:=bK h
  rw [kD] at h
  refine aE aA 1 [(10,.v (.bool (decide (b<(a.length:Int)))))] ev1 E E (JS.seq ?_)
  refine aJ E h (fun h=>?_) (fun h=>?_)
  ·
   refine JS.skip (JS.seq (JS.block (JS.seq (JS.region (cC 0 E fun w=>?_)))))
   obtain ⟨n,h⟩:=aH h
   refine aB aA 1 [] [] [(11,.ep ⟨c,a.length,d⟩ (Int.toNat b*1))] _ E ⟨w.ix n,ev2,E⟩ (nH 0 E (Int.toNat b) (at' a b) E fun f g G H x=>dI aA E E E E E E 0 E E (Int.toNat b) 0 (Sl.v ⟨f,(at' a b).length,g⟩) ⟨x (tY n),E⟩ E E E (aL aA 2 [] [22] [(5,.bp 22 0)] (.new 3 41 [.slice none 0 0] (.new 4 41 [sL i e j] (.new 22 174 [sL f (at' a b) g] .nil))) E ⟨ev2,(Bs E E)⟩ (aC E ?_)))
   obtain ⟨k,y,h⟩:=aD h
   obtain ⟨A,h⟩:=aH h
   refine bE E (.new 4 41 [sL i e j] (.new 22 174 [sL f (at' a b) g] .nil)) [] [7,8,9] ev6 E (fun J=>?_)
   refine cD aA aI true 6 [0,1,2,3] E (by kernel_rfl) [] [(14,.v (sL i e j)),(16,.v (sL f (at' a b) g))] ev6 [] E E (Es E) (JA.one 4 (by kernel_rfl) (JK.call E E E E (dC (at' a b) f g _ y) E [1] E E ?_))
   rintro ⟨B,C⟩ -
   refine aQ ⟨E,E,E,E,E,E,E,E,V⟩ [] E (cD aA aI true 4 [5] E (by kernel_rfl) [] [(18,.v (.agg #[sL B k C]))] ⟨E,E,E,E,E,E,E,E,V⟩ [] E E ⟨E,V⟩ (JA.one 6 (by kernel_rfl) (JK.buildSlice aA E E E E E E E E E E E [0] E (.sl iT) [k] ⟨E,E,E⟩ E E fun K=>aQ ⟨E,E,E,E,E,E,E,E,V⟩ [] E (JA.one 7 (by kernel_rfl) (iL aA E E E E ⟨E,E,E,E,V,E,E,E,E⟩ E E [1,0] E A E fun o p=>aR E (aW aA aI 1 [8] E (by kernel_rfl) [] [(21,.bp 4 0)] E ⟨E,V⟩ (JA.one 9 (by kernel_rfl) (aY aA E E E E E E E E (aR E (bI (by kernel_rfl) (bC (B':=(.new 3 41 [.slice none 0 0] (.new 4 41 [sL o (e ++ ([k]:List (List Int))) p] .nil))) (Bs E E) (aV (cS aA 2 [(W (b+1))] [] [(9,.v (I (W (b+1))))] _ ⟨⟨V,E⟩,⟨E,V⟩,E⟩ E E (bZ (m,(W (b+1)),(e ++ ([k]:List (List Int))),o,p) h (Nat.lt_succ_self _) (Es E) (Bs E E) [2] E [0] E))))))))))))))
  refine JS.exit E (aO (e,i,j) h (Es E) (Bs E E) [] E [0] E)
 rintro ⟨D,s,t⟩ h
 subst u
 refine aS aA 2 [] [] [] (.new 3 41 [sL s D t] .nil) ⟨V,(Bs E E)⟩ E E ?_
 cases h
 exact JS.ret aA (s,t) V E E [0] E

def kC (b:List (List Int×Int)) (e:(List (List Int×Int))→Option (List (List Int×Int))) (f:(Int×(List (List Int×Int)))→Option (List (List Int×Int))):(Int×(List (List Int×Int)))→Option (List (List Int×Int)):=fun (a,c)=>(bif decide (a<(b.length:Int)) then (aN (0≤a∧a<(b.length:Int)) <|(aF (dA ((at' b a).1,(at' b a).2)) fun d=>(aN (c.length+([d]:List (List Int×Int)).length≤536870912) <|f ((W (a+1)),(c ++ ([d]:List (List Int×Int))))))) else e c)

def jP (a:List (List Int×Int)):Option (List (List Int×Int)):= (aT (fun (b:List (List Int×Int))=> some b) fun c=>(aZ (kC a c) bO (0,([]:List (List Int×Int)))))

theorem tE (a:List (List Int×Int)) (c:Option Addr) (d:Nat) (r:List (List Int×Int)) (h:jP a=some r):
 FC Tryz.prog 146 [.agg #[sL c a d]] [⟨(.pair (.sl iT) iT),⟨c,a.length,d⟩,a⟩] (fun _:Option Addr×Nat=>True) (fun q=>.agg #[sL q.1 r q.2]) (fun q=>[⟨(.pair (.sl iT) iT),⟨q.1,r.length,q.2⟩,r⟩]):= by
 refine FC.of (T:=TTx) Tryz.call146 Tryz.func146 E E fun C=>?_
 unfold jP at h
 refine aS aA 2 [] [2,3] [(1,.bp 2 0),(2,.bp 3 0)] (.new 2 44 [sL c a d] (.new 3 44 [.slice none 0 0] .nil)) ⟨(Es E),(Bs E E)⟩ E E (aS aA 1 [] [4] [(3,.bp 4 0)] (.new 2 44 [sL c a d] (.new 3 44 [.slice none 0 0] (.new 4 44 [.slice none 0 0] .nil))) ⟨ev2,(Bs E E)⟩ E E (JS.seq (aE aA 4 [(7,.v (sL c a d)),(8,.v (I (a.length:Int))),(9,.v (I 0))] ⟨(Es E),E⟩ E E ?_)))
 obtain ⟨l,u,h⟩:=aM h
 refine bA (ι:=(List (List Int×Int))×Option Addr×Nat) ⟨fun z=>l z.1=some r,fun z=>[(2,.bp 3 0),(3,.bp 4 0)],fun z=>(.new 3 44 [.slice none 0 0] (.new 4 44 [sL z.2.1 z.1 z.2.2] .nil)),fun z=>[],fun z=>[⟨(.pair (.sl iT) iT),⟨z.2.1,z.1.length,z.2.2⟩,z.1⟩],fun z=>0⟩ ?_ ?_
 ·
  refine aX (.pair (.sl iT) iT) Sl.nil E E (JS.loop (ι:=Nat×Int×(List (List Int×Int))×Option Addr×Nat) ⟨fun z=>aZ (kC a l) z.1 (z.2.1,z.2.2.1)=some r,fun z=>[(2,.bp 3 0),(3,.bp 4 0),(7,.v (sL c a d)),(8,.v (I (a.length:Int))),(9,.v (I z.2.1))],fun z=>(.new 3 44 [.slice none 0 0] (.new 4 44 [sL z.2.2.2.1 z.2.2.1 (Q4 z)] .nil)),fun z=>[⟨(.pair (.sl iT) iT),⟨c,a.length,d⟩,a⟩],fun z=>[⟨(.pair (.sl iT) iT),⟨z.2.2.2.1,z.2.2.1.length,(Q4 z)⟩,z.2.2.1⟩],fun z=>z.1⟩ (bO,0,([]:List (List Int×Int)),none,0) h (Es E) (Bs E E) [0] E [0] E ?_)
  rintro ⟨m,b,e,i,j⟩ h
  obtain ⟨m,rfl,h⟩:=bK h
  rw [kC] at h
  refine aE aA 1 [(10,.v (.bool (decide (b<(a.length:Int)))))] ev1 E E (JS.seq ?_)
  refine aJ E h (fun h=>?_) (fun h=>?_)
  ·
   refine JS.skip (JS.seq (JS.block (JS.seq (JS.region (cC 0 E fun w=>?_)))))
   obtain ⟨n,h⟩:=aH h
   refine aB aA 1 [] [] [(11,.ep ⟨c,a.length,d⟩ (Int.toNat b*2))] _ E ⟨w.ix n,ev2,E⟩ (nH 0 E (Int.toNat b) (at' a b) E fun f g D F x=>dI aA E E E E E E 0 E E (Int.toNat b) 0 ((Sl.v ⟨f,((at' a b).1).length,g⟩),(at' a b).2) ⟨x (tY n),E⟩ E E E (aL aA 2 [] [22] [(5,.bp 22 0)] (.new 3 44 [.slice none 0 0] (.new 4 44 [sL i e j] (.new 22 38 [sL f ((at' a b).1) g,I (at' a b).2] .nil))) E ⟨ev2,(Bs E E)⟩ (aC E ?_)))
   obtain ⟨k,y,h⟩:=aD h
   obtain ⟨A,h⟩:=aH h
   refine bE E (.new 4 44 [sL i e j] (.new 22 38 [sL f ((at' a b).1) g,I (at' a b).2] .nil)) [] [5,6,7] ev6 E (fun G=>?_)
   refine cD aA aI true 5 [0,1,2] E (by kernel_rfl) [] [(14,.v (sL i e j)),(15,.v (.agg #[sL f ((at' a b).1) g,I (at' a b).2]))] ev6 [] E E (Es E) (JA.one 3 (by kernel_rfl) (JK.call E E E E (dW ((at' a b).1,(at' a b).2) f g _ y) E [1] E E ?_))
   rintro ⟨H,J⟩ -
   refine aQ ⟨E,E,E,E,E,E,E,E,V⟩ [] E (JA.one 4 (by kernel_rfl) (JK.buildSlice aA E E E E E E E E E E E [0] E (.pair (.sl iT) iT) [k] ⟨E,E,E⟩ E E fun K=>aQ ⟨E,E,E,E,E,E,E,E,V⟩ [] E (JA.one 5 (by kernel_rfl) (iL aA E E E E ⟨E,E,E,E,V,E,E,E,E⟩ E E [1,0] E A E fun o p=>aR E (aW aA aI 1 [6] E (by kernel_rfl) [] [(19,.bp 4 0)] E ⟨E,V⟩ (JA.one 7 (by kernel_rfl) (aY aA E E E E E E E E (aR E (bI (by kernel_rfl) (bC (B':=(.new 3 44 [.slice none 0 0] (.new 4 44 [sL o (e ++ ([k]:List (List Int×Int))) p] .nil))) (Bs E E) (aV (cS aA 2 [(W (b+1))] [] [(9,.v (I (W (b+1))))] _ ⟨⟨V,E⟩,⟨E,V⟩,E⟩ E E (bZ (m,(W (b+1)),(e ++ ([k]:List (List Int×Int))),o,p) h (Nat.lt_succ_self _) (Es E) (Bs E E) [2] E [0] E)))))))))))))
  refine JS.exit E (aO (e,i,j) h (Es E) (Bs E E) [] E [0] E)
 rintro ⟨B,s,t⟩ h
 subst u
 refine aS aA 2 [] [] [] (.new 3 44 [sL s B t] .nil) ⟨V,(Bs E E)⟩ E E ?_
 cases h
 exact JS.ret aA (s,t) V E E [0] E

def cK (a:EdQ):Option EdQ:= (aF (dA a.2.2.1) fun b=>(aF (dA a.2.2.2.2.2.2.2.2.2.2.2.2.2.1) fun c=>(aF (dA a.2.2.2.2.2.2.2.2.2.2.2.2.2.2.2.2) fun d=>(aF (jQ a.2.2.2.2.2.2.2.2.2.2.1) fun e=>(aF (jP a.2.2.2.2.2.2.2.2.2.2.2.1) fun f=>(aF (cL a.2.2.2.2.2.2.2.2.2.2.2.2.2.2.1) fun g=> some (a.1,a.2.1,b,a.2.2.2.1,a.2.2.2.2.1,a.2.2.2.2.2.1,a.2.2.2.2.2.2.1,a.2.2.2.2.2.2.2.1,a.2.2.2.2.2.2.2.2.1,a.2.2.2.2.2.2.2.2.2.1,e,f,a.2.2.2.2.2.2.2.2.2.2.2.2.1,c,g,a.2.2.2.2.2.2.2.2.2.2.2.2.2.2.2.1,d)))))))

theorem dK (a:EdQ) (b:P6) (r:EdQ) (h:cK a=some r):
 FC Tryz.prog 63 [.agg (aG a b).toArray] (cH a b []) (fun _:P6=>True) (fun q=>.agg (aG r q).toArray) (fun q=>(cH r q [])):= by
 refine FC.of (T:=TTx) Tryz.call63 Tryz.func63 E E fun F=>?_
 unfold cK at h
 refine aS aA 2 [] [7,8] [(1,.bp 7 0),(2,.bp 8 0)] (.new 7 46 (aG a b) (.new 8 46 bG .nil)) ⟨(Es E),(Bs E E)⟩ E E (JS.seq ?_)
 obtain ⟨j,y,h⟩:=aD h
 obtain ⟨k,z,h⟩:=aD h
 refine bnw h fun l A h=>bE E (.new 7 46 (aG a b) .nil) [] [8,9,10,11,12,13,14] ev3 E (fun G=>?_)
 refine cD aA aI true 9 [0,1,3,4,6,7] E (by kernel_rfl) [] [(4,.v (.agg #[sL b.1 a.2.2.1.1 b.2.1,I a.2.2.1.2])),(7,.v (.agg #[sL (Q4 b).2.2.1 (Q12 a).2.1.1 (Q4 b).2.2.2.1,I (Q12 a).2.1.2])),(10,.v (.agg #[sL (Q8 b).2.2.1 (Q16 a).1 (Q8 b).2.2.2,I (Q16 a).2]))] ev3 [] E E (Es E) (JA.one 2 (by kernel_rfl) (JK.call E E E E (dW a.2.2.1 b.1 b.2.1 _ y) E [0] E E ?_))
 rintro ⟨c,d⟩ -
 refine aQ ev3 [] E (aW aA aI 7 [9] E (by kernel_rfl) [] [(12,.bp 7 2)] E ev2 (JA.one 5 (by kernel_rfl) (JK.call E E E E (dW (Q12 a).2.1 (Q4 b).2.2.1 (Q4 b).2.2.2.1 _ z) E [3] E E ?_)))
 rintro ⟨e,f⟩ -
 refine aQ ev3 [] E (JA.one 8 (by kernel_rfl) (JK.call E E E E (dW (Q16 a) (Q8 b).2.2.1 (Q8 b).2.2.2 _ A) E [5] E E ?_))
 rintro ⟨g,i⟩ -
 refine aR E (JA.one 10 (by kernel_rfl) (aY aA E E E E E E E E (aR E (aW aA aI 3 [11] E (by kernel_rfl) [] [(13,.bp 7 14)] E ev2 (JA.one 12 (by kernel_rfl) (aY aA E E E E E E E E (aR E (aW aA aI 1 [13] E (by kernel_rfl) [] [(14,.bp 7 18)] E ev2 (JA.one 14 (by kernel_rfl) (aY aA E E E E E E E E (aR E (bI (by kernel_rfl) (bC (B':=(.new 7 46 (aG (a.1,a.2.1,j,a.2.2.2.1,(Q4 a).1,(Q4 a).2.1,(Q4 a).2.2.1,(Q4 a).2.2.2.1,(Q8 a).1,(Q8 a).2.1,(Q8 a).2.2.1,(Q8 a).2.2.2.1,(Q12 a).1,k,(Q12 a).2.2.1,(Q12 a).2.2.2.1,l) (c,d,b.2.2.1,b.2.2.2.1,(Q4 b).1,(Q4 b).2.1,e,f,(Q8 b).1,(Q8 b).2.1,g,i)) (.new 8 46 bG .nil))) (Bs E E) (JS.seq ?_))))))))))))))
 obtain ⟨s,B,h⟩:=aD h
 refine bnw h fun t C h=>bE E (.new 7 46 (aG (a.1,a.2.1,j,a.2.2.2.1,(Q4 a).1,(Q4 a).2.1,(Q4 a).2.2.1,(Q4 a).2.2.2.1,(Q8 a).1,(Q8 a).2.1,(Q8 a).2.2.1,(Q8 a).2.2.2.1,(Q12 a).1,k,(Q12 a).2.2.1,(Q12 a).2.2.2.1,l) (c,d,b.2.2.1,b.2.2.2.1,(Q4 b).1,(Q4 b).2.1,e,f,(Q8 b).1,(Q8 b).2.1,g,i)) .nil) [] [5,6,7,8,9] ev3 E (fun H=>?_)
 refine cD aA aI true 6 [0,1,3,4] E (by kernel_rfl) [] [(16,.v (.agg #[sL b.2.2.1 (Q8 a).2.2.1 b.2.2.2.1])),(19,.v (.agg #[sL (Q4 b).1 (Q8 a).2.2.2.1 (Q4 b).2.1]))] ev3 [] E E (Es E) (JA.one 2 (by kernel_rfl) (JK.call E E E E (tF (Q8 a).2.2.1 b.2.2.1 b.2.2.2.1 _ B) E [1] E E ?_))
 rintro ⟨m,n⟩ -
 refine aQ ev3 [] E (aW aA aI 4 [6] E (by kernel_rfl) [] [(21,.bp 7 11)] E ev2 (JA.one 5 (by kernel_rfl) (JK.call E E E E (tE (Q8 a).2.2.2.1 (Q4 b).1 (Q4 b).2.1 _ C) E [2] E E ?_)))
 rintro ⟨o,p⟩ -
 refine aR E (JA.one 7 (by kernel_rfl) (aY aA E E E E E E E E (aR E (aW aA aI 1 [8] E (by kernel_rfl) [] [(22,.bp 7 12)] E ev2 (JA.one 9 (by kernel_rfl) (aY aA E E E E E E E E (aR E (bI (by kernel_rfl) (bC (B':=(.new 7 46 (aG (a.1,a.2.1,j,a.2.2.2.1,(Q4 a).1,(Q4 a).2.1,(Q4 a).2.2.1,(Q4 a).2.2.2.1,(Q8 a).1,(Q8 a).2.1,s,t,(Q12 a).1,k,(Q12 a).2.2.1,(Q12 a).2.2.2.1,l) (c,d,m,n,o,p,e,f,(Q8 b).1,(Q8 b).2.1,g,i)) (.new 8 46 bG .nil))) (Bs E E) (JS.seq (JS.region (aB aA 2 [] [] [(24,.v (sL (Q8 b).1 (Q12 a).2.2.1 (Q8 b).2.1))] _ E ev1 ?_))))))))))))
 refine bnw h fun x D h=>JO.call E E E E (dC (Q12 a).2.2.1 (Q8 b).1 (Q8 b).2.1 _ D) E [4] E E ?_
 rintro ⟨u,w⟩ -
 refine aL aA 2 [] [] [] (.new 7 46 (aG (a.1,a.2.1,j,a.2.2.2.1,(Q4 a).1,(Q4 a).2.1,(Q4 a).2.2.1,(Q4 a).2.2.2.1,(Q8 a).1,(Q8 a).2.1,s,t,(Q12 a).1,k,x,(Q12 a).2.2.2.1,l) (c,d,m,n,o,p,e,f,u,w,g,i)) (.new 8 46 bG .nil)) E ⟨V,(Bs E E)⟩ (aC E (aS aA 2 [] [] [] (.new 8 46 (aG (a.1,a.2.1,j,a.2.2.2.1,(Q4 a).1,(Q4 a).2.1,(Q4 a).2.2.1,(Q4 a).2.2.2.1,(Q8 a).1,(Q8 a).2.1,s,t,(Q12 a).1,k,x,(Q12 a).2.2.2.1,l) (c,d,m,n,o,p,e,f,u,w,g,i)) .nil) ⟨V,(Bs E E)⟩ E E ?_))
 cases h
 exact JS.ret aA (c,d,m,n,o,p,e,f,u,w,g,i) V E E [5,2,1,2,0,0] E

def gF (a:List Int×Int) (b:Int):Option (List Int×Int):= (aT (fun (d:Int)=> some (a.1,d)) fun c=>(cA ((decide (b=2))=true) (oG a) false fun e=>(bif (bif decide (b=2) then e else false) then c (W (a.2 - 1)) else c a.2)))

theorem oO (a:List Int×Int) (d:Int) (b:Option Addr) (c:Nat) (r:List Int×Int) (h:gF a d=some r):
 FC Tryz.prog 158 [.agg #[sL b a.1 c,I a.2],I d] [fI b c a.1] (fun _:Unit=>True) (fun _=>.agg #[sL b a.1 c,I r.2]) (fun _=>[]):= by
 refine FC.of (T:=TTx) Tryz.call158 Tryz.func158 E E fun l=>?_
 unfold gF at h
 refine aS aA 2 [] [2,3] [(2,.bp 2 0),(4,.bp 3 0)] (.new 2 38 [sL b a.1 c,I a.2] (.new 3 38 [.slice none 0 0,I 0] .nil)) ⟨(Es E),(Bs E E)⟩ E E ?_
 obtain ⟨e,f,h⟩:=aM h
 refine cJ (ι:=Int) ⟨fun z=>e z=some r,fun z=>[(2,.bp 2 0),(4,.bp 3 0)],fun z=>(.new 2 38 [sL b a.1 c,I z] (.new 3 38 [.slice none 0 0,I 0] .nil)),fun z=>[fI b c a.1],fun z=>[],fun z=>0⟩ ?_ ?_
 ·
  refine JS.seq (JS.region (aB aA 4 [] [] [(7,.v (.bool (decide (d=2)))),(8,.cd [(7,true)] (.v (.agg #[sL b a.1 c,I a.2])))] _ E ⟨(Es E),E⟩ ?_))
  obtain ⟨g,i,-,h⟩:=bB h
  refine bR E E E E (fun j=>aAa a b c _ (i j)) E [0] E E (aB aA 1 [] [] [(10,.v (.bool (bif (decide (d=2)) then g else false)))] _ E ev1 (aC E ?_))
  refine aJ E h (fun h=>?_) (fun h=>?_)
  ·
   refine tK aA 5 [(W (a.2 - 1))] [] [] (.new 2 38 [sL b a.1 c,I (W (a.2 - 1))] (.new 3 38 [.slice none 0 0,I 0] .nil)) ⟨ev5,V,(Bs E E)⟩ E E (aO (W (a.2 - 1)) h (Es E) (Bs E E) [0] E [] E)
  refine JS.skip (aO a.2 h (Es E) (Bs E E) [0] E [] E)
 rintro k h
 subst f
 refine aS aA 2 [] [] [] (.new 3 38 [sL b a.1 c,I k] .nil) ⟨V,(Bs E E)⟩ E E ?_
 cases h
 exact JS.ret aA () V E E [] E

def sS (b:EdQ):Option EdQ:= (aF (cK b) fun a=>(aT (fun (c:Int)=>(aF (gF a.2.2.1 c) fun e=> some (a.1,c,(a.2.2.1.1,e.2),a.2.2.2.1,a.2.2.2.2.1,a.2.2.2.2.2.1,a.2.2.2.2.2.2.1,a.2.2.2.2.2.2.2.1,a.2.2.2.2.2.2.2.2.1,a.2.2.2.2.2.2.2.2.2.1,a.2.2.2.2.2.2.2.2.2.2.1,a.2.2.2.2.2.2.2.2.2.2.2.1,a.2.2.2.2.2.2.2.2.2.2.2.2.1,a.2.2.2.2.2.2.2.2.2.2.2.2.2.1,[],0,([],0)))) fun d=>(bif b.1 then d 2 else d 0)))

theorem aA4 (c:EdQ) (d:P6) (r:EdQ) (h:sS c=some r):
 FC Tryz.prog 86 [.agg (aG c d).toArray] (cH c d []) (fun _:Option Addr×Nat×Option Addr×Nat×Option Addr×Nat×Option Addr×Nat=>True) (fun q=>.agg (aG (r.1,r.2.1,r.2.2.1,r.2.2.2.1,(Q4 r).1,(Q4 r).2.1,(Q4 r).2.2.1,(Q4 r).2.2.2.1,(Q8 r).1,(Q8 r).2.1,(Q8 r).2.2.1,(Q8 r).2.2.2.1,(Q12 r).1,(Q12 r).2.1,[],(Q12 r).2.2.2.1,([],(Q16 r).2)) (q.1,q.2.1,q.2.2.1,q.2.2.2.1,(Q4 q).1,(Q4 q).2.1,(Q4 q).2.2.1,(Q4 q).2.2.2,none,0,none,0)).toArray) (fun q=>[fI q.1 q.2.1 r.2.2.1.1,⟨(.sl iT),⟨q.2.2.1,(Q8 r).2.2.1.length,q.2.2.2.1⟩,(Q8 r).2.2.1⟩,⟨(.pair (.sl iT) iT),⟨(Q4 q).1,(Q8 r).2.2.2.1.length,(Q4 q).2.1⟩,(Q8 r).2.2.2.1⟩,fI (Q4 q).2.2.1 (Q4 q).2.2.2 (Q12 r).2.1.1]):= by
 refine FC.of (T:=TTx) Tryz.call86 Tryz.func86 E E fun l=>?_
 unfold sS at h
 refine aS aA 2 [] [7,8] [(1,.bp 7 0),(2,.bp 8 0)] (.new 7 46 (aG c d) (.new 8 46 bG .nil)) ⟨(Es E),(Bs E E)⟩ E E (JS.seq (JS.region (aB aA 1 [] [] [(4,.v (.agg (aG c d).toArray))] _ E ev1 ?_)))
 refine bnw h fun a g h=>JO.call E E E E (dK c d _ g) E [0,1,2,3,4,5] E E fun b _=>aL aA 2 [] [29] [(3,.bp 29 0)] (.new 7 46 (aG c d) (.new 8 46 bG (.new 29 46 (aG a b) .nil))) E ⟨ev2,(Bs E E)⟩ (aC E (aS aA 2 [] [] [] (.new 7 46 (aG c d) (.new 8 46 bG (.new 29 46 (aG (a.1,0,a.2.2) b) .nil))) ⟨V,(Bs E E)⟩ E E ?_))
 obtain ⟨i,j,h⟩:=aM h
 refine cJ (ι:=Int) ⟨fun z=>i z=some r,fun z=>[(2,.bp 8 0),(3,.bp 29 0)],fun z=>(.new 8 46 bG (.new 29 46 (aG (a.1,z,a.2.2) b) .nil)),fun z=>[],fun z=>(cH a b []),fun z=>0⟩ ?_ ?_
 ·
  refine aE aA 2 [(8,.v (.bool c.1))] ev1 E E ?_
  refine aJ E h (fun h=>?_) (fun h=>?_)
  ·
   refine tK aA 2 [] [] [] (.new 8 46 bG (.new 29 46 (aG (a.1,2,a.2.2) b) .nil)) ⟨V,(Bs E E)⟩ E E (bT 2 h (Es E) (Bs E E) [] E [0,1,2,3,4,5] E E)
  refine JS.skip (bT 0 h (Es E) (Bs E E) [] E [0,1,2,3,4,5] E E)
 rintro e h
 subst j
 refine aS aA 7 [] [] [] (.new 8 46 bG (.new 29 46 (aG (a.1,e,a.2.2.1,a.2.2.2.1,(Q4 a).1,(Q4 a).2.1,(Q4 a).2.2.1,(Q4 a).2.2.2.1,(Q8 a).1,(Q8 a).2.1,(Q8 a).2.2.1,(Q8 a).2.2.2.1,(Q12 a).1,(Q12 a).2.1,[],0,([],0)) (b.1,b.2.1,b.2.2.1,b.2.2.2.1,(Q4 b).1,(Q4 b).2.1,(Q4 b).2.2.1,(Q4 b).2.2.2.1,none,0,none,0)) .nil)) ⟨V,(Bs E E)⟩ E E (JS.seq (JS.region (aB aA 4 [] [] [(15,.v (.agg #[sL b.1 a.2.2.1.1 b.2.1,I a.2.2.1.2])),(17,.v (I e))] _ E ⟨(Es E),E⟩ ?_)))
 refine bnw h fun f k h=>JO.call E E E E (oO a.2.2.1 e b.1 b.2.1 _ k) E [0] E E fun _ _=>aL aA 2 [] [] [] (.new 8 46 bG (.new 29 46 (aG (a.1,e,(a.2.2.1.1,f.2),a.2.2.2.1,(Q4 a).1,(Q4 a).2.1,(Q4 a).2.2.1,(Q4 a).2.2.2.1,(Q8 a).1,(Q8 a).2.1,(Q8 a).2.2.1,(Q8 a).2.2.2.1,(Q12 a).1,(Q12 a).2.1,[],0,([],0)) (b.1,b.2.1,b.2.2.1,b.2.2.2.1,(Q4 b).1,(Q4 b).2.1,(Q4 b).2.2.1,(Q4 b).2.2.2.1,none,0,none,0)) .nil)) E ⟨V,(Bs E E)⟩ (aC E (aS aA 2 [] [] [] (.new 8 46 (aG (a.1,e,(a.2.2.1.1,f.2),a.2.2.2.1,(Q4 a).1,(Q4 a).2.1,(Q4 a).2.2.1,(Q4 a).2.2.2.1,(Q8 a).1,(Q8 a).2.1,(Q8 a).2.2.1,(Q8 a).2.2.2.1,(Q12 a).1,(Q12 a).2.1,[],0,([],0)) (b.1,b.2.1,b.2.2.1,b.2.2.2.1,(Q4 b).1,(Q4 b).2.1,(Q4 b).2.2.1,(Q4 b).2.2.2.1,none,0,none,0)) .nil) ⟨V,(Bs E E)⟩ E E ?_))
 cases h
 exact JS.ret aA (b.1,b.2.1,b.2.2.1,b.2.2.2.1,(Q4 b).1,(Q4 b).2.1,(Q4 b).2.2.1,(Q4 b).2.2.2.1) V E E [0,0,0,0] E

def jT (a:Int×List (List UInt8)):Option Int:= (aF (lQ a) fun b=>(bif (bif (!b) then true else (decide ((a.2.length:Int)=0))) then some 0 else some (W ((W (a.1+(a.2.length:Int))) - 1))))

theorem yA (a:Int×List (List UInt8)) (b:Option Addr) (c:Nat) (r:Int) (h:jT a=some r):
 FC Tryz.prog 156 [.agg #[I a.1,sL b a.2 c]] [⟨.str,⟨b,a.2.length,c⟩,a.2⟩] (fun _:Unit=>True) (fun _=>I r) (fun _=>[]):= by
 refine FC.of (T:=TTx) Tryz.call156 Tryz.func156 E E fun f=>?_
 unfold jT at h
 refine aS aA 2 [] [2] [(1,.bp 2 0)] (.new 2 50 [I a.1,sL b a.2 c] .nil) ⟨ev2,(Bs E E)⟩ E E (JS.seq (JS.seq (JS.region (aB aA 1 [] [] [(3,.v (.agg #[I a.1,sL b a.2 c]))] _ E ev1 ?_))))
 refine bnw h fun d e h=>JO.call E E E E (sX a b c _ e) E [0] E E fun _ _=>aB aA 7 [] [] [(11,.v (.bool (bif (!d) then true else (decide ((a.2.length:Int)=0)))))] _ E ev1 (aC E ?_)
 refine aJ E h (fun h=>?_) (fun h=>?_)
 ·
  refine aE aA 1 [(2,.v (I 0))] ev1 E E ?_
  cases h
  exact JS.ret aA () V E E [] E
 refine JS.skip (gI aA 8 [(W (a.1+(a.2.length:Int))),(W ((W (a.1+(a.2.length:Int))) - 1))] [] [(2,.v (I (W ((W (a.1+(a.2.length:Int))) - 1))))] _ ⟨⟨V,E⟩,⟨V,E⟩,⟨E,V⟩,E⟩ E E ?_)
 cases h
 exact JS.ret aA () V E E [] E

def iQ (a:Int):Option (List UInt8):= (aF (lO a) fun b=>(bif (!b) then some ([]) else (bif decide (a<128) then some ([(u8 (a))]:List UInt8) else (bif decide (a<2048) then some ([(u8 ((W (192+(W (Int.tdiv a 64)))))),(u8 ((W (128+(Int.tmod a 64)))))]:List UInt8) else (bif decide (a<65536) then some ([(u8 ((W (224+(W (Int.tdiv a 4096)))))),(u8 ((W (128+(Int.tmod (W (Int.tdiv a 64)) 64))))),(u8 ((W (128+(Int.tmod a 64)))))]:List UInt8) else some ([(u8 ((W (240+(W (Int.tdiv a 262144)))))),(u8 ((W (128+(Int.tmod (W (Int.tdiv a 4096)) 64))))),(u8 ((W (128+(Int.tmod (W (Int.tdiv a 64)) 64))))),(u8 ((W (128+(Int.tmod a 64)))))]:List UInt8))))))

theorem wM (a:Int) (r:List UInt8) (h:iQ a=some r) :
 FC Tryz.prog 143 [I a] [] (fun _:Option Addr×Nat=>True) (fun q=>sL q.1 r q.2) (fun q=>[⟨.byte,⟨q.1,r.length,q.2⟩,r⟩]):= by
 refine FC.of (T:=TTx) Tryz.call143 Tryz.func143 E E fun x=>?_
 unfold iQ at h
 refine aE aA 1 [] ev5 E E (JS.seq (JS.block (JS.seq (JS.region (aB aA 1 [] [] [(4,.v (I a))] _ E ev1 ?_)))))
 refine bnw h fun f g h=>JO.call E E E E (aBv a _ g) E [] E E fun _ _=>aB aA 2 [] [] [(3,.v (.bool (!f)))] _ E ev1 (aC E ?_)
 refine aJ E h (fun h=>?_) (fun h=>?_)
 ·
  refine aE aA 1 [(2,.v (.slice none 0 0))] ev1 E E ?_
  cases h
  refine aX .byte Sl.nil E E (JS.ret aA (none,0) V E E [0] E)
 refine aE aA 3 [(7,.v (.bool (decide (a<128))))] ev1 E E ?_
 refine aJ E h (fun h=>?_) (fun h=>?_)
 ·
  refine JS.seq (JS.region (aB aA 2 [((u8 (a)).toNat:Int)] [] [(11,.v (.int .u8 ((u8 (a)).toNat:Int)))] _ E ⟨⟨V,qA _⟩,ev2,E⟩ ?_))
  refine kU E (JK.buildSlice aA E E E E E E E E E E E [] E .byte [(u8 (a))] ⟨E,E⟩ E E fun b=>kT ?_)
  refine aB aA 1 [] [] [(2,.v (sL b ([(u8 (a))]:List UInt8) ([(u8 (a))]:List UInt8).length))] _ E ev1 (aC E ?_)
  cases h
  exact JS.ret aA (b,([(u8 (a))]:List UInt8).length) V E E [0] E
 refine aE aA 3 [(13,.v (.bool (decide (a<2048))))] ev1 E E ?_
 refine aJ E h (fun h=>?_) (fun h=>?_)
 ·
  refine JS.seq (JS.region ?_)
  have i:(64:Int)≠0:=by decide
  have j:(64:Int)≠0:=by decide
  refine aB aA 8 [(W (Int.tdiv a 64)),(W (192+(W (Int.tdiv a 64)))),((u8 ((W (192+(W (Int.tdiv a 64)))))).toNat:Int),(W (128+(Int.tmod a 64))),((u8 ((W (128+(Int.tmod a 64))))).toNat:Int)] [] [(19,.v (.int .u8 ((u8 ((W (192+(W (Int.tdiv a 64)))))).toNat:Int))),(23,.v (.int .u8 ((u8 ((W (128+(Int.tmod a 64))))).toNat:Int)))] _ E ⟨⟨i,E⟩,ev5,⟨V,qA _⟩,j,ev5,⟨V,qA _⟩,(Es E),E⟩ ?_
  refine kU E (JK.buildSlice aA E E E E E E E E E E E [] E .byte [(u8 ((W (192+(W (Int.tdiv a 64)))))),(u8 ((W (128+(Int.tmod a 64)))))] ⟨E,E⟩ E E fun c=>kT ?_)
  refine aB aA 1 [] [] [(2,.v (sL c ([(u8 ((W (192+(W (Int.tdiv a 64)))))),(u8 ((W (128+(Int.tmod a 64)))))]:List UInt8) ([(u8 ((W (192+(W (Int.tdiv a 64)))))),(u8 ((W (128+(Int.tmod a 64)))))]:List UInt8).length))] _ E ev1 (aC E ?_)
  cases h
  exact JS.ret aA (c,([(u8 ((W (192+(W (Int.tdiv a 64)))))),(u8 ((W (128+(Int.tmod a 64)))))]:List UInt8).length) V E E [0] E
 refine aE aA 3 [(25,.v (.bool (decide (a<65536))))] ev1 E E ?_
 refine aJ E h (fun h=>?_) (fun h=>?_)
 ·
  refine JS.seq (JS.region ?_)
  have k:(4096:Int)≠0:=by decide
  have l:(64:Int)≠0:=by decide
  have m:(64:Int)≠0:=by decide
  have n:(64:Int)≠0:=by decide
  refine aB aA 13 [(W (Int.tdiv a 4096)),(W (224+(W (Int.tdiv a 4096)))),((u8 ((W (224+(W (Int.tdiv a 4096)))))).toNat:Int),(W (Int.tdiv a 64)),(W (128+(Int.tmod (W (Int.tdiv a 64)) 64))),((u8 ((W (128+(Int.tmod (W (Int.tdiv a 64)) 64))))).toNat:Int),(W (128+(Int.tmod a 64))),((u8 ((W (128+(Int.tmod a 64))))).toNat:Int)] [] [(31,.v (.int .u8 ((u8 ((W (224+(W (Int.tdiv a 4096)))))).toNat:Int))),(36,.v (.int .u8 ((u8 ((W (128+(Int.tmod (W (Int.tdiv a 64)) 64))))).toNat:Int))),(40,.v (.int .u8 ((u8 ((W (128+(Int.tmod a 64))))).toNat:Int)))] _ E ⟨⟨k,E⟩,ev5,⟨V,qA _⟩,⟨l,E⟩,m,ev5,⟨V,qA _⟩,n,ev5,⟨V,qA _⟩,(Es E),E⟩ ?_
  refine kU E (JK.buildSlice aA E E E E E E E E E E E [] E .byte [(u8 ((W (224+(W (Int.tdiv a 4096)))))),(u8 ((W (128+(Int.tmod (W (Int.tdiv a 64)) 64))))),(u8 ((W (128+(Int.tmod a 64)))))] ⟨E,E⟩ E E fun d=>kT ?_)
  refine aB aA 1 [] [] [(2,.v (sL d ([(u8 ((W (224+(W (Int.tdiv a 4096)))))),(u8 ((W (128+(Int.tmod (W (Int.tdiv a 64)) 64))))),(u8 ((W (128+(Int.tmod a 64)))))]:List UInt8) ([(u8 ((W (224+(W (Int.tdiv a 4096)))))),(u8 ((W (128+(Int.tmod (W (Int.tdiv a 64)) 64))))),(u8 ((W (128+(Int.tmod a 64)))))]:List UInt8).length))] _ E ev1 (aC E ?_)
  cases h
  exact JS.ret aA (d,([(u8 ((W (224+(W (Int.tdiv a 4096)))))),(u8 ((W (128+(Int.tmod (W (Int.tdiv a 64)) 64))))),(u8 ((W (128+(Int.tmod a 64)))))]:List UInt8).length) V E E [0] E
 refine JS.skip (aV (JS.seq (JS.region ?_)))
 have o:(262144:Int)≠0:=by decide
 have p:(4096:Int)≠0:=by decide
 have s:(64:Int)≠0:=by decide
 have t:(64:Int)≠0:=by decide
 have u:(64:Int)≠0:=by decide
 have w:(64:Int)≠0:=by decide
 refine aB aA 18 [(W (Int.tdiv a 262144)),(W (240+(W (Int.tdiv a 262144)))),((u8 ((W (240+(W (Int.tdiv a 262144)))))).toNat:Int),(W (Int.tdiv a 4096)),(W (128+(Int.tmod (W (Int.tdiv a 4096)) 64))),((u8 ((W (128+(Int.tmod (W (Int.tdiv a 4096)) 64))))).toNat:Int),(W (Int.tdiv a 64)),(W (128+(Int.tmod (W (Int.tdiv a 64)) 64))),((u8 ((W (128+(Int.tmod (W (Int.tdiv a 64)) 64))))).toNat:Int),(W (128+(Int.tmod a 64))),((u8 ((W (128+(Int.tmod a 64))))).toNat:Int)] [] [(45,.v (.int .u8 ((u8 ((W (240+(W (Int.tdiv a 262144)))))).toNat:Int))),(50,.v (.int .u8 ((u8 ((W (128+(Int.tmod (W (Int.tdiv a 4096)) 64))))).toNat:Int))),(55,.v (.int .u8 ((u8 ((W (128+(Int.tmod (W (Int.tdiv a 64)) 64))))).toNat:Int))),(59,.v (.int .u8 ((u8 ((W (128+(Int.tmod a 64))))).toNat:Int)))] _ E ⟨⟨o,E⟩,ev5,⟨V,qA _⟩,⟨p,E⟩,s,ev5,⟨V,qA _⟩,⟨t,E⟩,u,ev5,⟨V,qA _⟩,w,ev5,⟨V,qA _⟩,(Es E),E⟩ ?_
 refine kU E (JK.buildSlice aA E E E E E E E E E E E [] E .byte [(u8 ((W (240+(W (Int.tdiv a 262144)))))),(u8 ((W (128+(Int.tmod (W (Int.tdiv a 4096)) 64))))),(u8 ((W (128+(Int.tmod (W (Int.tdiv a 64)) 64))))),(u8 ((W (128+(Int.tmod a 64)))))] ⟨E,E⟩ E E fun e=>kT ?_)
 refine aB aA 1 [] [] [(2,.v (sL e ([(u8 ((W (240+(W (Int.tdiv a 262144)))))),(u8 ((W (128+(Int.tmod (W (Int.tdiv a 4096)) 64))))),(u8 ((W (128+(Int.tmod (W (Int.tdiv a 64)) 64))))),(u8 ((W (128+(Int.tmod a 64)))))]:List UInt8) ([(u8 ((W (240+(W (Int.tdiv a 262144)))))),(u8 ((W (128+(Int.tmod (W (Int.tdiv a 4096)) 64))))),(u8 ((W (128+(Int.tmod (W (Int.tdiv a 64)) 64))))),(u8 ((W (128+(Int.tmod a 64)))))]:List UInt8).length))] _ E ev1 (aC E ?_)
 cases h
 exact JS.ret aA (e,([(u8 ((W (240+(W (Int.tdiv a 262144)))))),(u8 ((W (128+(Int.tmod (W (Int.tdiv a 4096)) 64))))),(u8 ((W (128+(Int.tmod (W (Int.tdiv a 64)) 64))))),(u8 ((W (128+(Int.tmod a 64)))))]:List UInt8).length) V E E [0] E

def nC (b:List Int) (e:(List UInt8)→Option (List UInt8)) (f:(List UInt8×Int)→Option (List UInt8)):(List UInt8×Int)→Option (List UInt8):=fun (c,a)=>(bif decide (a<(b.length:Int)) then (aN (0≤a∧a<(b.length:Int)) <|(aF (iQ (at' b a)) fun d=>(aN (c.length+d.length≤536870912) <|f ((c ++ d),(W (a+1)))))) else e c)

def jR (a:List Int):Option (List UInt8):= (aT (fun (b:List UInt8)=> some b) fun c=>(aZ (nC a c) bO (([]:List UInt8),0)))

theorem aBu (a:List Int) (c:Option Addr) (d:Nat) (r:List UInt8) (h:jR a=some r):
 FC Tryz.prog 61 [sL c a d] [fI c d a] (fun _:Unit=>True) (fun _=>.string (bs r)) (fun _=>[]):= by
 refine FC.of (T:=TTx) Tryz.call61 Tryz.func61 E E fun x=>?_
 unfold jR at h
 refine aE aA 1 [] ev5 E E (aE aA 1 [(3,.v (.slice none 0 0))] ev1 E E (JS.seq (aE aA 3 [(6,.v (sL c a d)),(7,.v (I (a.length:Int))),(8,.v (I 0))] ⟨(Es E),E⟩ E E ?_)))
 obtain ⟨f,p,h⟩:=aM h
 refine bA (ι:=List UInt8×Option Addr×Nat) ⟨fun z=>f z.1=some r,fun z=>[(3,.v (sL z.2.1 z.1 z.2.2))],fun z=>.nil,fun z=>[],fun z=>[⟨.byte,⟨z.2.1,z.1.length,z.2.2⟩,z.1⟩],fun z=>0⟩ ?_ ?_
 ·
  refine aX .byte Sl.nil E E (JS.loop (ι:=Nat×List UInt8×Int×Option Addr×Nat) ⟨fun z=>aZ (nC a f) z.1 (z.2.1,z.2.2.1)=some r,fun z=>[(3,.v (sL z.2.2.2.1 z.2.1 (Q4 z))),(6,.v (sL c a d)),(7,.v (I (a.length:Int))),(8,.v (I z.2.2.1))],fun z=>.nil,fun z=>[fI c d a],fun z=>[⟨.byte,⟨z.2.2.2.1,z.2.1.length,(Q4 z)⟩,z.2.1⟩],fun z=>z.1⟩ (bO,([]:List UInt8),0,none,0) h (Es E) V [0] E [0] E ?_)
  rintro ⟨g,e,b,i,j⟩ h
  obtain ⟨g,rfl,h⟩:=bK h
  rw [nC] at h
  refine aE aA 1 [(9,.v (.bool (decide (b<(a.length:Int)))))] ev1 E E (JS.seq ?_)
  refine aJ E h (fun h=>?_) (fun h=>?_)
  ·
   refine JS.skip (JS.seq (JS.block (JS.seq (JS.region (cC 0 E fun q=>?_)))))
   obtain ⟨k,h⟩:=aH h
   refine aB aA 1 [] [] [(10,.ep ⟨c,a.length,d⟩ (Int.toNat b*1))] _ E ⟨q.ix k,ev2,E⟩ (JO.load aA E E E E E E E 0 E E (Int.toNat b) 0 (at' a b) ⟨bH k,E⟩ E E (aB aA 1 [] [] [(5,.v (I (at' a b)))] _ E ev1 (aC E (JS.region (aB aA 2 [] [] [(12,.v (sL i e j)),(13,.v (I (at' a b)))] _ E ⟨(Es E),E⟩ ?_)))))
   refine bnw h fun l s h=>JO.call E E E E (wM (at' a b) _ s) E [] E E ?_
   rintro ⟨y,A⟩ -
   obtain ⟨t,h⟩:=aH h
   refine jK aA E E E E ⟨E,E,E,E,V,E,E,E,E⟩ E E E [1] E 1 E t E fun m n=>aB aA 1 [] [] [(3,.v (sL m (e ++ l) n))] _ E ev1 (aC E (aV (cS aA 2 [(W (b+1))] [] [(8,.v (I (W (b+1))))] _ ev4 E E (bZ (g,(e ++ l),(W (b+1)),m,n) h (Nat.lt_succ_self _) (Es E) V [0] E [0] E))))
  refine JS.exit E (aO (e,i,j) h ev2 V [] E [0] E)
 rintro ⟨o,u,w⟩ h
 subst p
 refine JS.seq (JS.region (aB aA 1 [] [] [(17,.v (sL u o w))] _ E ev1 (aQl aA E E E E E E E E 0 E E (aB aA 1 [] [] [(2,.v (.string (bs o)))] _ E ev1 (aC E ?_)))))
 cases h
 exact JS.ret aA () V E E [] E

def iE (b:List UInt8) (a:List UInt8):Option Bool:= (aN (((decide ((a.length:Int)≤(b.length:Int)))=true)→0≤(0:Int)∧(0:Int)≤(a.length:Int)∧(a.length:Int)≤(b.length:Int)) <|some (bif decide ((a.length:Int)≤(b.length:Int)) then (decide ((bJ b 0 (a.length:Int))=a)) else false))

theorem zG (b:List UInt8) (a:List UInt8) (r:Bool) (h:iE b a=some r) :
 FC Tryz.prog 287 [.string (bs b),.string (bs a)] [] (fun _:Unit=>True) (fun _=>.bool r) (fun _=>[]):= by
 refine FC.of (T:=TTx) Tryz.call287 Tryz.func287 E E fun e=>?_
 unfold iE at h
 refine aE aA 1 [] ev5 E E (JS.seq (JS.region ?_))
 obtain ⟨c,h⟩:=aH h
 refine aB aA 14 [] [] [(4,.v (.bool (bif (decide ((a.length:Int)≤(b.length:Int))) then (decide ((bJ b 0 (a.length:Int))=a)) else false)))] _ E ⟨(fun d=>(c d)),ev2,E⟩ (aC E ?_)
 cases h
 exact JS.ret aA () V E E [] E

def rH (a:List UInt8) (b:List UInt8):Option Bool:=some (Lib.hasPrefix a b)

theorem wE (a:List UInt8) (b:List UInt8) (r:Bool) (h:rH a b=some r):FV Tryz.prog 239 [.string (bs a),.string (bs b)] [] (.bool r):=by
 cases h
 refine FV.of_calls Tryz.call239 fun w=>?_
 exact Tryz.strings_HasPrefix (bs a) (bs b) w

def bY (c:Int) (b:List UInt8) (a:List UInt8):Option Int:=aN (2≤a.length∧(a.length:Int)≤c∧b.length<4294967281) <|some (Lib.index b a)

theorem iR (a:List UInt8) (b:List UInt8) (c:Int) (r:Int) (h:bY c a b=some r) :
  FE Tryz.prog 234 [.string (bs a),.string (bs b)] [⟨iT,⟨(some ⟨0,0,none⟩),1,1⟩,[c]⟩] (I r):=by
 obtain ⟨⟨d,e,f⟩,h⟩:=aH h
 cases h
 refine FE.outer Tryz.func234 (by kernel_rfl) (by kernel_rfl) (by kernel_rfl) (x:=Extern.BytealgIndex.index) (by kernel_rfl) fun w hw=>?_
 obtain ⟨L,hL⟩:=hw _ (List.mem_singleton.2 rfl)
 have:=Lib.run_indexString (P:=Tryz.prog) (bs a) (bs b) w 0 c (by kernel_rfl) (aPu hL) (by rw [aG4];exact d) (by rw [aG4];exact e) (by rw [aG4];exact f)
 rw [aG5,aG5] at this
 exact this

def gQ (a:List UInt8) (b:UInt8):Option Int:=some (Lib.indexByte a b)

theorem mL (a:List UInt8) (b:UInt8) (r:Int) (h:gQ a b=some r) :
  FE Tryz.prog 285 [.string (bs a),.int .u8 (b.toNat:Int)] [] (I r):=by
 cases h
 refine FE.outer Tryz.func285 (by kernel_rfl) (by kernel_rfl) (by kernel_rfl) (x:=Extern.BytealgIndexByte.indexByte) (by kernel_rfl) fun w hw=>?_
 have:=Lib.run_indexByteString (P:=Tryz.prog) (bs a) (b.toNat:Int) w
 rw [aG5,aQt] at this
 exact this

def cY (a:List UInt8) (b:UInt8):Option Int:= (aF (gQ a b) fun c=> some c)

theorem gR (a:List UInt8) (b:UInt8) (r:Int) (h:cY a b=some r) :
 FC Tryz.prog 233 [.string (bs a),.int .u8 (b.toNat:Int)] [] (fun _:Unit=>True) (fun _=>I r) (fun _=>[]):= by
 refine FC.of (T:=TTx) Tryz.call233 Tryz.func233 E E fun e=>?_
 unfold cY at h
 refine aE aA 1 [] ev5 E E (JS.seq (JS.region (aB aA 2 [] [] [(5,.v (.string (bs a))),(6,.v (.int .u8 (b.toNat:Int)))] _ E ⟨(Es E),E⟩ ?_)))
 refine bnw h fun c d h=>JO.ext E E E E (mL a b _ d) E [] E E (aB aA 1 [] [] [(4,.v (I c))] _ E ev1 (aC E ?_))
 cases h
 exact JS.ret aA () V E E [] E

def dG (a:Int):Option Int:= some (W (Int.tdiv (W (a+16)) 8))

theorem rM (a:Int) (r:Int) (h:dG a=some r) :
 FC Tryz.prog 235 [I a] [] (fun _:Unit=>True) (fun _=>I r) (fun _=>[]):= by
 refine FC.of (T:=TTx) Tryz.call235 Tryz.func235 E E fun c=>?_
 unfold dG at h
 refine aE aA 1 [] ev5 E E (JS.seq (JS.region ?_))
 have b:(8:Int)≠0:=by decide
 refine aB aA 4 [(W (a+16)),(W (Int.tdiv (W (a+16)) 8))] [] [(2,.v (I (W (Int.tdiv (W (a+16)) 8))))] _ E ⟨ev5,⟨b,E⟩,ev2,E⟩ (aC E ?_)
 cases h
 exact JS.ret aA () V E E [] E

def cQ (b:List UInt8) (d:Int→Option (Int×Int)) (e:(Int×Int)→Option (Int×Int)):(Int×Int)→Option (Int×Int):=fun (c,a)=>(bif decide (a<(b.length:Int)) then (aN (0≤a∧a<(b.length:Int)) <|e ((IntKind.u32.wrap ((IntKind.u32.wrap (c*16777619))+(IntKind.u32.wrap (((at' b a).toNat:Int))))),(W (a+1)))) else d c)

def cP (e:Int→Option (Int×Int)) (f:(Int×Int×Int)→Option (Int×Int)):(Int×Int×Int)→Option (Int×Int):=fun (a,b,c)=>(bif decide (0<c) then (aT (fun (g:Int)=> f (g,(IntKind.u32.wrap (b*b)),(Int.fdiv c (2 ^ (min (Int.toNat 1) (IntKind.bits .i64)))))) fun d=>(bif (!(decide ((W (((BitVec.ofInt (IntKind.bits .i64) c &&& BitVec.ofInt (IntKind.bits .i64) 1).toNat:Int)))=0))) then d (IntKind.u32.wrap (a*b)) else d a)) else e a)

def cZ (a:List UInt8):Option (Int×Int):= (aT (fun (b:Int)=>(aT (fun (c:Int)=> some (b,c)) fun d=>(aZ (cP d) bO (1,16777619,(a.length:Int))))) fun e=>(aZ (cQ a e) bO (0,0)))

theorem oJ (a:List UInt8) (r:Int×Int) (h:cZ a=some r) :
 FC Tryz.prog 286 [.string (bs a)] [] (fun _:Unit=>True) (fun _=>.tuple #[.int .u32 r.1,.int .u32 r.2]) (fun _=>[]):= by
 refine FC.of (T:=TTx) Tryz.call286 Tryz.func286 E E fun w=>?_
 unfold cZ at h
 refine aE aA 2 [] ev5 E E (aE aA 1 [(4,.v (.int .u32 0))] ev1 E E (JS.seq (aE aA 1 [(5,.v (I 0))] ev1 E E ?_)))
 obtain ⟨i,m,h⟩:=aM h
 refine bA (ι:=Int) ⟨fun z=>i z=some r,fun z=>[(0,.v (.string (bs a))),(4,.v (.int .u32 z))],fun z=>.nil,fun z=>[],fun z=>[],fun z=>0⟩ ?_ ?_
 ·
  refine JS.loop (ι:=Nat×Int×Int) ⟨fun z=>aZ (cQ a i) z.1 z.2=some r,fun z=>[(0,.v (.string (bs a))),(4,.v (.int .u32 z.2.1)),(5,.v (I z.2.2))],fun z=>.nil,fun z=>[],fun z=>[],fun z=>z.1⟩ (bO,0,0) h (Es E) V [] E [] E ?_
  rintro ⟨j,e,c⟩ h
  obtain ⟨j,rfl,h⟩:=bK h
  rw [cQ] at h
  refine JS.seq (aE aA 4 [(12,.v (.bool (decide (c<(a.length:Int)))))] ev1 E E ?_)
  refine aJ E h (fun h=>?_) (fun h=>?_)
  ·
   refine JS.skip (JS.seq (JS.block (JS.region ?_)))
   obtain ⟨n,h⟩:=aH h
   refine aB aA 8 [(IntKind.u32.wrap (e*16777619)),(IntKind.u32.wrap (((at' a c).toNat:Int))),(IntKind.u32.wrap ((IntKind.u32.wrap (e*16777619))+(IntKind.u32.wrap (((at' a c).toNat:Int)))))] [] [(4,.v (.int .u32 (IntKind.u32.wrap ((IntKind.u32.wrap (e*16777619))+(IntKind.u32.wrap (((at' a c).toNat:Int)))))))] _ E ⟨ev5,n,ev5,ev5,ev2,E⟩ (aC E (aV (cS aA 3 [(W (c+1))] [] [(5,.v (I (W (c+1))))] _ ev4 E E (bZ (j,(IntKind.u32.wrap ((IntKind.u32.wrap (e*16777619))+(IntKind.u32.wrap (((at' a c).toNat:Int))))),(W (c+1))) h (Nat.lt_succ_self _) (Es E) V [] E [] E))))
  refine JS.exit E (aO e h (Es E) V [] E [] E)
 rintro g h
 subst m
 refine aE aA 2 [(6,.v (.int .u32 1)),(7,.v (.int .u32 16777619))] ⟨(Es E),E⟩ E E (JS.seq (aE aA 3 [(8,.v (I (a.length:Int)))] ev1 E E ?_))
 obtain ⟨k,o,h⟩:=aM h
 refine bA (ι:=Int) ⟨fun z=>k z=some r,fun z=>[(4,.v (.int .u32 g)),(6,.v (.int .u32 z))],fun z=>.nil,fun z=>[],fun z=>[],fun z=>0⟩ ?_ ?_
 ·
  refine JS.loop (ι:=Nat×Int×Int×Int) ⟨fun z=>aZ (cP k) z.1 z.2=some r,fun z=>[(4,.v (.int .u32 g)),(6,.v (.int .u32 z.2.1)),(7,.v (.int .u32 z.2.2.1)),(8,.v (I z.2.2.2))],fun z=>.nil,fun z=>[],fun z=>[],fun z=>z.1⟩ (bO,1,16777619,(a.length:Int)) h (Es E) V [] E [] E ?_
  rintro ⟨l,f,b,d⟩ h
  obtain ⟨l,rfl,h⟩:=bK h
  rw [cP] at h
  refine JS.seq (aE aA 2 [(25,.v (.bool (decide (0<d))))] ev1 E E ?_)
  refine aJ E h (fun h=>?_) (fun h=>?_)
  ·
   refine JS.skip (JS.seq (JS.block ?_))
   obtain ⟨p,q,h⟩:=aM h
   refine cJ (ι:=Int) ⟨fun z=>p z=some r,fun z=>[(4,.v (.int .u32 g)),(6,.v (.int .u32 z)),(7,.v (.int .u32 b)),(8,.v (I d))],fun z=>.nil,fun z=>[],fun z=>[],fun z=>0⟩ ?_ ?_
   ·
    refine gI aA 3 [(W (((BitVec.ofInt (IntKind.bits .i64) d &&& BitVec.ofInt (IntKind.bits .i64) 1).toNat:Int)))] [] [(30,.v (.bool (!(decide ((W (((BitVec.ofInt (IntKind.bits .i64) d &&& BitVec.ofInt (IntKind.bits .i64) 1).toNat:Int)))=0)))))] _ ev4 E E ?_
    refine aJ E h (fun h=>?_) (fun h=>?_)
    ·
     refine cS aA 4 [(IntKind.u32.wrap (f*b))] [] [(6,.v (.int .u32 (IntKind.u32.wrap (f*b))))] _ ev4 E E (aO (IntKind.u32.wrap (f*b)) h (Es E) V [] E [] E)
    refine JS.skip (aO f h (Es E) V [] E [] E)
   rintro s h
   subst q
   refine cS aA 4 [(IntKind.u32.wrap (b*b))] [] [(7,.v (.int .u32 (IntKind.u32.wrap (b*b))))] _ ev4 E E (aV (JS.region ?_))
   have t:(0:Int)≤1:=by decide
   refine aB aA 3 [] [] [(8,.v (I (Int.fdiv d (2 ^ (min (Int.toNat 1) (IntKind.bits .i64))))))] _ E ⟨t,ev2,E⟩ (aC E (bZ (l,s,(IntKind.u32.wrap (b*b)),(Int.fdiv d (2 ^ (min (Int.toNat 1) (IntKind.bits .i64))))) h (Nat.lt_succ_self _) (Es E) V [] E [] E))
  refine JS.exit E (aO f h (Es E) V [] E [] E)
 rintro u h
 subst o
 refine aE aA 4 [(2,.v (.int .u32 g)),(3,.v (.int .u32 u))] ⟨(Es E),E⟩ E E ?_
 cases h
 exact JS.ret aA () V E E [] E

def cG (b:List UInt8) (d:List UInt8) (e:Int→Option Int) (f:(Int×Int)→Option Int):(Int×Int)→Option Int:=fun (c,a)=>(bif decide (a<(d.length:Int)) then (aN (0≤a∧a<(b.length:Int)) <|f ((IntKind.u32.wrap ((IntKind.u32.wrap (c*16777619))+(IntKind.u32.wrap (((at' b a).toNat:Int))))),(W (a+1)))) else e c)

def bW (b:List UInt8) (c:List UInt8) (f:Int) (d:Int) (g:Unit→Option Int) (h:(Int×Int)→Option Int):(Int×Int)→Option Int:=fun (e,a)=>(bif decide (a<(b.length:Int)) then (aN (0≤a∧a<(b.length:Int)) <|(aN (0≤(W (a - (c.length:Int)))∧(W (a - (c.length:Int)))<(b.length:Int)) <|(aN (((decide ((IntKind.u32.wrap ((IntKind.u32.wrap ((IntKind.u32.wrap (e*16777619))+(IntKind.u32.wrap (((at' b a).toNat:Int))))) - (IntKind.u32.wrap (d*(IntKind.u32.wrap (((at' b (W (a - (c.length:Int)))).toNat:Int)))))))=f))=true)→0≤(W ((W (a+1)) - (c.length:Int)))∧(W ((W (a+1)) - (c.length:Int)))≤(W (a+1))∧(W (a+1))≤(b.length:Int)) <|(bif (bif (decide ((IntKind.u32.wrap ((IntKind.u32.wrap ((IntKind.u32.wrap (e*16777619))+(IntKind.u32.wrap (((at' b a).toNat:Int))))) - (IntKind.u32.wrap (d*(IntKind.u32.wrap (((at' b (W (a - (c.length:Int)))).toNat:Int)))))))=f)) then (decide ((bJ b (W ((W (a+1)) - (c.length:Int))) (W (a+1)))=c)) else false) then some (W ((W (a+1)) - (c.length:Int))) else h ((IntKind.u32.wrap ((IntKind.u32.wrap ((IntKind.u32.wrap (e*16777619))+(IntKind.u32.wrap (((at' b a).toNat:Int))))) - (IntKind.u32.wrap (d*(IntKind.u32.wrap (((at' b (W (a - (c.length:Int)))).toNat:Int))))))),(W (a+1))))))) else g ())

def bU (b:List UInt8) (a:List UInt8):Option Int:= (aF (cZ a) fun (c,e)=>(aT (fun (d:Int)=>(aN (((decide (d=c))=true)→0≤(0:Int)∧(0:Int)≤(a.length:Int)∧(a.length:Int)≤(b.length:Int)) <|(bif (bif decide (d=c) then (decide ((bJ b 0 (a.length:Int))=a)) else false) then some 0 else (aT (fun (_:Unit)=> some (-1)) fun f=>(aZ (bW b a c e f) bO (d,(a.length:Int))))))) fun g=>(aZ (cG b a g) bO (0,0))))

theorem kS (b:List UInt8) (a:List UInt8) (r:Int) (h:bU b a=some r) :
 FC Tryz.prog 236 [.string (bs b),.string (bs a)] [] (fun _:Unit=>True) (fun _=>I r) (fun _=>[]):= by
 refine FC.of (T:=TTx) Tryz.call236 Tryz.func236 E E fun B=>?_
 unfold bU at h
 refine aE aA 1 [] ev5 E E (JS.seq (JS.region (aB aA 1 [] [] [(12,.v (.string (bs a)))] _ E ev1 ?_)))
 obtain ⟨⟨g,d⟩,o,h⟩:=aD h
 refine JO.call E E E E (oJ a _ o) E [] E E fun _ _=>aB aA 5 [] [] [(5,.v (.int .u32 g)),(6,.v (.int .u32 d))] _ E ⟨(Es E),E⟩ (aC E (aE aA 3 [(7,.v (I (a.length:Int)))] ev1 E E (aE aA 1 [(8,.v (.int .u32 0))] ev1 E E (JS.seq (aE aA 1 [(9,.v (I 0))] ev1 E E ?_)))))
 obtain ⟨j,p,h⟩:=aM h
 refine bA (ι:=Int) ⟨fun z=>j z=some r,fun z=>[(0,.v (.string (bs b))),(1,.v (.string (bs a))),(5,.v (.int .u32 g)),(6,.v (.int .u32 d)),(7,.v (I (a.length:Int))),(8,.v (.int .u32 z))],fun z=>.nil,fun z=>[],fun z=>[],fun z=>0⟩ ?_ ?_
 ·
  refine JS.loop (ι:=Nat×Int×Int) ⟨fun z=>aZ (cG b a j) z.1 z.2=some r,fun z=>[(0,.v (.string (bs b))),(1,.v (.string (bs a))),(5,.v (.int .u32 g)),(6,.v (.int .u32 d)),(7,.v (I (a.length:Int))),(8,.v (.int .u32 z.2.1)),(9,.v (I z.2.2))],fun z=>.nil,fun z=>[],fun z=>[],fun z=>z.1⟩ (bO,0,0) h (Es E) V [] E [] E ?_
  rintro ⟨k,i,e⟩ h
  obtain ⟨k,rfl,h⟩:=bK h
  rw [cG] at h
  refine JS.seq (aE aA 3 [(20,.v (.bool (decide (e<(a.length:Int)))))] ev1 E E ?_)
  refine aJ E h (fun h=>?_) (fun h=>?_)
  ·
   refine JS.skip (JS.seq (JS.block (JS.region ?_)))
   obtain ⟨q,h⟩:=aH h
   refine aB aA 8 [(IntKind.u32.wrap (i*16777619)),(IntKind.u32.wrap (((at' b e).toNat:Int))),(IntKind.u32.wrap ((IntKind.u32.wrap (i*16777619))+(IntKind.u32.wrap (((at' b e).toNat:Int)))))] [] [(8,.v (.int .u32 (IntKind.u32.wrap ((IntKind.u32.wrap (i*16777619))+(IntKind.u32.wrap (((at' b e).toNat:Int)))))))] _ E ⟨ev5,q,ev5,ev5,ev2,E⟩ (aC E (aV (cS aA 3 [(W (e+1))] [] [(9,.v (I (W (e+1))))] _ ev4 E E (bZ (k,(IntKind.u32.wrap ((IntKind.u32.wrap (i*16777619))+(IntKind.u32.wrap (((at' b e).toNat:Int))))),(W (e+1))) h (Nat.lt_succ_self _) (Es E) V [] E [] E))))
  refine JS.exit E (aO i h (Es E) V [] E [] E)
 rintro l h
 subst p
 refine JS.seq (JS.seq (JS.region ?_))
 obtain ⟨s,h⟩:=aH h
 refine aB aA 10 [] [] [(39,.v (.bool (bif (decide (l=g)) then (decide ((bJ b 0 (a.length:Int))=a)) else false)))] _ E ⟨(fun t=>(s t)),ev2,E⟩ (aC E ?_)
 refine aJ E h (fun h=>?_) (fun h=>?_)
 ·
  refine aE aA 1 [(4,.v (I 0))] ev1 E E ?_
  cases h
  exact JS.ret aA () V E E [] E
 refine JS.skip (JS.seq (aE aA 2 [(10,.v (I (a.length:Int)))] ev1 E E ?_))
 obtain ⟨m,u,h⟩:=aM h
 refine bA (ι:=Unit) ⟨fun _=>m ()=some r,fun _=>[],fun _=>.nil,fun _=>[],fun _=>[],fun _=>0⟩ ?_ ?_
 ·
  refine JS.loop (ι:=Nat×Int×Int) ⟨fun z=>aZ (bW b a g d m) z.1 z.2=some r,fun z=>[(0,.v (.string (bs b))),(1,.v (.string (bs a))),(5,.v (.int .u32 g)),(6,.v (.int .u32 d)),(7,.v (I (a.length:Int))),(8,.v (.int .u32 z.2.1)),(10,.v (I z.2.2))],fun z=>.nil,fun z=>[],fun z=>[],fun z=>z.1⟩ (bO,l,(a.length:Int)) h (Es E) V [] E [] E ?_
  rintro ⟨n,f,c⟩ h
  obtain ⟨n,rfl,h⟩:=bK h
  rw [bW] at h
  refine JS.seq (aE aA 4 [(44,.v (.bool (decide (c<(b.length:Int)))))] ev1 E E ?_)
  refine aJ E h (fun h=>?_) (fun h=>?_)
  ·
   refine JS.skip (JS.block (gI aA 3 [(IntKind.u32.wrap (f*16777619))] [] [(8,.v (.int .u32 (IntKind.u32.wrap (f*16777619))))] _ ev4 E E (JS.seq (JS.region ?_))))
   obtain ⟨w,h⟩:=aH h
   refine aB aA 7 [(IntKind.u32.wrap (((at' b c).toNat:Int))),(IntKind.u32.wrap ((IntKind.u32.wrap (f*16777619))+(IntKind.u32.wrap (((at' b c).toNat:Int)))))] [] [(8,.v (.int .u32 (IntKind.u32.wrap ((IntKind.u32.wrap (f*16777619))+(IntKind.u32.wrap (((at' b c).toNat:Int)))))))] _ E ⟨w,ev5,ev5,ev2,E⟩ (aC E (JS.seq (JS.region ?_)))
   obtain ⟨x,h⟩:=aH h
   refine aB aA 11 [(W (c - (a.length:Int))),(IntKind.u32.wrap (((at' b (W (c - (a.length:Int)))).toNat:Int))),(IntKind.u32.wrap (d*(IntKind.u32.wrap (((at' b (W (c - (a.length:Int)))).toNat:Int))))),(IntKind.u32.wrap ((IntKind.u32.wrap ((IntKind.u32.wrap (f*16777619))+(IntKind.u32.wrap (((at' b c).toNat:Int))))) - (IntKind.u32.wrap (d*(IntKind.u32.wrap (((at' b (W (c - (a.length:Int)))).toNat:Int)))))))] [] [(8,.v (.int .u32 (IntKind.u32.wrap ((IntKind.u32.wrap ((IntKind.u32.wrap (f*16777619))+(IntKind.u32.wrap (((at' b c).toNat:Int))))) - (IntKind.u32.wrap (d*(IntKind.u32.wrap (((at' b (W (c - (a.length:Int)))).toNat:Int)))))))))] _ E ⟨ev5,x,ev5,ev5,ev5,ev2,E⟩ (aC E (gI aA 3 [(W (c+1))] [] [(10,.v (I (W (c+1))))] _ ev4 E E (JS.seq (JS.region ?_))))
   obtain ⟨y,h⟩:=aH h
   refine aB aA 13 [(W ((W (c+1)) - (a.length:Int)))] [] [(77,.v (.bool (bif (decide ((IntKind.u32.wrap ((IntKind.u32.wrap ((IntKind.u32.wrap (f*16777619))+(IntKind.u32.wrap (((at' b c).toNat:Int))))) - (IntKind.u32.wrap (d*(IntKind.u32.wrap (((at' b (W (c - (a.length:Int)))).toNat:Int)))))))=g)) then (decide ((bJ b (W ((W (c+1)) - (a.length:Int))) (W (c+1)))=a)) else false)))] _ E ⟨(fun C=>ev5),(fun A=>(y A)),ev2,E⟩ (aC E ?_)
   refine aJ E h (fun h=>?_) (fun h=>?_)
   ·
    refine gI aA 4 [(W ((W (c+1)) - (a.length:Int)))] [] [(4,.v (I (W ((W (c+1)) - (a.length:Int)))))] _ ev4 E E ?_
    cases h
    exact JS.ret aA () V E E [] E
   refine JS.skip (aV (bZ (n,(IntKind.u32.wrap ((IntKind.u32.wrap ((IntKind.u32.wrap (f*16777619))+(IntKind.u32.wrap (((at' b c).toNat:Int))))) - (IntKind.u32.wrap (d*(IntKind.u32.wrap (((at' b (W (c - (a.length:Int)))).toNat:Int))))))),(W (c+1))) h (Nat.lt_succ_self _) (Es E) V [] E [] E))
  refine JS.exit E (aO () h V V [] E [] E)
 rintro _ h
 subst u
 refine aE aA 1 [(4,.v (I (-1)))] ev1 E E ?_
 cases h
 exact JS.ret aA () V E E [] E

def cE (a:List UInt8) (c:List UInt8) (e:Int) (k:Unit→Option Int) (l:(Int×Int)→Option Int):(Int×Int)→Option Int:=fun (d,f)=>(bif (decide (d<(W ((W ((a.length:Int) - (c.length:Int)))+1)))) then (aT (fun (b:Int)=>(aN (0≤(W (b+1))∧(W (b+1))<(a.length:Int)) <|(aN (((decide (((at' a (W (b+1))).toNat:Int)=((at' c 1).toNat:Int)))=true)→0≤b∧b≤(W (b+(c.length:Int)))∧(W (b+(c.length:Int)))≤(a.length:Int)) <|(bif (bif (decide (((at' a (W (b+1))).toNat:Int)=((at' c 1).toNat:Int))) then (decide ((bJ a b (W (b+(c.length:Int))))=c)) else false) then some b else (cA ((decide ((c.length:Int)≤e))=true) (dG (W (b+1))) (0:Int) fun m=>(bif (bif decide ((c.length:Int)≤e) then (decide (m<(W (f+1)))) else false) then (aN (0≤(W (b+1))∧(W (b+1))≤(a.length:Int)∧(a.length:Int)≤(a.length:Int)) <|(aF (bY e (bJ a (W (b+1)) (a.length:Int)) c) fun g=>(bif decide (0≤g) then some (W (g+(W (b+1)))) else some (-1)))) else (bif (bif (bif decide (e<(c.length:Int)) then (decide ((W (4+(Int.fdiv (W (b+1)) (2 ^ (min (Int.toNat 4) (IntKind.bits .i64))))))≤(W (f+1)))) else false) then (decide ((W (b+1))<(W ((W ((a.length:Int) - (c.length:Int)))+1)))) else false) then (aN (0≤(W (b+1))∧(W (b+1))≤(a.length:Int)∧(a.length:Int)≤(a.length:Int)) <|(aF (bU (bJ a (W (b+1)) (a.length:Int)) c) fun h=>(bif decide (h<0) then some (-1) else some (W ((W (b+1))+h))))) else l ((W (b+1)),(W (f+1)))))))))) fun i=>(aN (0≤d∧d<(a.length:Int)) <|(bif (!(decide (((at' a d).toNat:Int)=((at' c 0).toNat:Int)))) then (aN (0≤(W (d+1))∧(W (d+1))≤(W ((W ((a.length:Int) - (c.length:Int)))+1))∧(W ((W ((a.length:Int) - (c.length:Int)))+1))≤(a.length:Int)) <|(aF (cY (bJ a (W (d+1)) (W ((W ((a.length:Int) - (c.length:Int)))+1))) (at' c 0)) fun j=>(bif decide (j<0) then some (-1) else i (W (d+(W (j+1))))))) else i d))) else k ())

def dO (c:Int) (b:List UInt8) (a:List UInt8):Option Int:= (bif (bif decide ((a.length:Int)=0) then true else (decide (a=b))) then some 0 else (bif decide ((a.length:Int)=1) then (aN (0≤(0:Int)∧0<(a.length:Int)) <|(aF (cY b (at' a 0)) fun d=> some d)) else (bif decide ((b.length:Int)≤(a.length:Int)) then some (-1) else (bif (bif decide ((a.length:Int)≤c) then (decide ((b.length:Int)≤64)) else false) then (aF (bY c b a) fun e=> some e) else (aN (0≤(0:Int)∧0<(a.length:Int)) <|(aN (0≤(1:Int)∧1<(a.length:Int)) <|(aT (fun (_:Unit)=> some (-1)) fun f=>(aZ (cE b a c f) bO (0,0)))))))))

theorem qL (b:List UInt8) (a:List UInt8) (d:Int) (r:Int) (h:dO d b a=some r) :
 FC Tryz.prog 142 [.string (bs b),.string (bs a)] [⟨iT,⟨(some ⟨0,0,none⟩),1,1⟩,[d]⟩] (fun _:Unit=>True) (fun _=>I r) (fun _=>[]):= by
 refine FC.of (T:=TTx) Tryz.call142 Tryz.func142 E E fun P=>?_
 unfold dO at h
 refine aE aA 1 [] ev5 E E (aE aA 3 [(5,.v (I (a.length:Int)))] ev1 E E (JS.seq (JS.block (aE aA 8 [(16,.v (.bool (bif (decide ((a.length:Int)=0)) then true else (decide (a=b)))))] ev1 E E ?_))))
 refine aJ E h (fun h=>?_) (fun h=>?_)
 ·
  refine aE aA 1 [(4,.v (I 0))] ev1 E E ?_
  cases h
  exact JS.ret aA () V E E [] E
 refine aE aA 3 [(24,.v (.bool (decide ((a.length:Int)=1))))] ev1 E E ?_
 refine aJ E h (fun h=>?_) (fun h=>?_)
 ·
  refine JS.seq (JS.region ?_)
  obtain ⟨m,h⟩:=aH h
  refine aB aA 3 [] [] [(27,.v (.string (bs b))),(29,.v (.int .u8 ((at' a 0).toNat:Int)))] _ E ⟨m,(Es E),E⟩ ?_
  refine bnw h fun n o h=>JO.call E E E E (gR b (at' a 0) _ o) E [] E E fun _ _=>aB aA 1 [] [] [(4,.v (I n))] _ E ev1 (aC E ?_)
  cases h
  exact JS.ret aA () V E E [] E
 refine aE aA 5 [(31,.v (.bool (decide ((b.length:Int)≤(a.length:Int)))))] ev1 E E ?_
 refine aJ E h (fun h=>?_) (fun h=>?_)
 ·
  refine aE aA 1 [(4,.v (I (-1)))] ev1 E E ?_
  cases h
  exact JS.ret aA () V E E [] E
 refine JS.seq (JS.region (aB aA 1 [] [] [(37,.v (I (a.length:Int)))] _ E ev1 (dI aA E E E E E E 0 E E 0 0 d ev7 E E E (aB aA 7 [] [] [(36,.v (.bool (bif (decide ((a.length:Int)≤d)) then (decide ((b.length:Int)≤64)) else false)))] _ E ev1 (aC E ?_)))))
 refine aJ E h (fun h=>?_) (fun h=>?_)
 ·
  refine JS.seq (JS.region (aB aA 2 [] [] [(45,.v (.string (bs b))),(46,.v (.string (bs a)))] _ E ⟨(Es E),E⟩ ?_))
  refine bnw h fun p q h=>JO.ext E E E E (iR b a d _ q) E [0] E E (aB aA 1 [] [] [(4,.v (I p))] _ E ev1 (aC E ?_))
  cases h
  exact JS.ret aA () V E E [] E
 refine JS.skip (aV (JS.seq (JS.region ?_)))
 obtain ⟨s,h⟩:=aH h
 refine aB aA 3 [] [] [(6,.v (.int .u8 ((at' a 0).toNat:Int)))] _ E ⟨s,ev2,E⟩ (aC E (JS.seq (JS.region ?_)))
 obtain ⟨t,h⟩:=aH h
 refine aB aA 3 [] [] [(7,.v (.int .u8 ((at' a 1).toNat:Int)))] _ E ⟨t,ev2,E⟩ (aC E (aE aA 1 [(8,.v (I 0))] ev1 E E (gI aA 6 [(W ((b.length:Int) - (a.length:Int))),(W ((W ((b.length:Int) - (a.length:Int)))+1))] [] [(9,.v (I (W ((W ((b.length:Int) - (a.length:Int)))+1))))] _ ⟨⟨V,E⟩,⟨V,E⟩,⟨E,V⟩,E⟩ E E (aE aA 1 [(10,.v (I 0))] ev1 E E (JS.seq ?_)))))
 obtain ⟨k,u,h⟩:=aM h
 refine bA (ι:=Unit) ⟨fun _=>k ()=some r,fun _=>[],fun _=>.nil,fun _=>[⟨iT,⟨(some ⟨0,0,none⟩),1,1⟩,[d]⟩],fun _=>[],fun _=>0⟩ ?_ ?_
 ·
  refine JS.loop (ι:=Nat×Int×Int) ⟨fun z=>aZ (cE b a d k) z.1 z.2=some r,fun z=>[(0,.v (.string (bs b))),(1,.v (.string (bs a))),(5,.v (I (a.length:Int))),(6,.v (.int .u8 ((at' a 0).toNat:Int))),(7,.v (.int .u8 ((at' a 1).toNat:Int))),(8,.v (I z.2.1)),(9,.v (I (W ((W ((b.length:Int) - (a.length:Int)))+1)))),(10,.v (I z.2.2))],fun z=>.nil,fun z=>[⟨iT,⟨(some ⟨0,0,none⟩),1,1⟩,[d]⟩],fun z=>[],fun z=>z.1⟩ (bO,0,0) h (Es E) V [0] E [] E ?_
  rintro ⟨l,e,f⟩ h
  obtain ⟨l,rfl,h⟩:=bK h
  rw [cE] at h
  refine JS.seq (aE aA 3 [(59,.v (.bool (decide (e<(W ((W ((b.length:Int) - (a.length:Int)))+1))))))] ev1 E E ?_)
  refine aJ E h (fun h=>?_) (fun h=>?_)
  ·
   refine JS.skip (JS.block ?_)
   obtain ⟨w,x,h⟩:=aM h
   refine cJ (ι:=Int) ⟨fun z=>w z=some r,fun z=>[(0,.v (.string (bs b))),(1,.v (.string (bs a))),(5,.v (I (a.length:Int))),(6,.v (.int .u8 ((at' a 0).toNat:Int))),(7,.v (.int .u8 ((at' a 1).toNat:Int))),(8,.v (I z)),(9,.v (I (W ((W ((b.length:Int) - (a.length:Int)))+1)))),(10,.v (I f))],fun z=>.nil,fun z=>[⟨iT,⟨(some ⟨0,0,none⟩),1,1⟩,[d]⟩],fun z=>[],fun z=>0⟩ ?_ ?_
   ·
    refine JS.seq (JS.region ?_)
    obtain ⟨y,h⟩:=aH h
    refine aB aA 5 [] [] [(64,.v (.bool (!(decide (((at' b e).toNat:Int)=((at' a 0).toNat:Int))))))] _ E ⟨y,ev2,E⟩ (aC E ?_)
    refine aJ E h (fun h=>?_) (fun h=>?_)
    ·
     refine JS.seq (JS.region ?_)
     obtain ⟨A,h⟩:=aH h
     refine aB aA 6 [(W (e+1))] [] [(69,.v (.string (bs (bJ b (W (e+1)) (W ((W ((b.length:Int) - (a.length:Int)))+1)))))),(70,.v (.int .u8 ((at' a 0).toNat:Int)))] _ E ⟨ev5,A,(Es E),E⟩ ?_
     refine bnw h fun g B h=>JO.call E E E E (gR (bJ b (W (e+1)) (W ((W ((b.length:Int) - (a.length:Int)))+1))) (at' a 0) _ B) E [] E E fun _ _=>aB aA 1 [] [] [(11,.v (I g))] _ E ev1 (aC E (JS.seq (aE aA 2 [(73,.v (.bool (decide (g<0))))] ev1 E E ?_)))
     refine aJ E h (fun h=>?_) (fun h=>?_)
     ·
      refine aE aA 1 [(4,.v (I (-1)))] ev1 E E ?_
      cases h
      exact JS.ret aA () V E E [] E
     refine JS.skip (cS aA 5 [(W (g+1)),(W (e+(W (g+1))))] [] [(8,.v (I (W (e+(W (g+1))))))] _ ⟨⟨V,E⟩,⟨V,E⟩,⟨E,V⟩,E⟩ E E (aO (W (e+(W (g+1)))) h (Es E) V [0] E [] E))
    refine JS.skip (aO e h (Es E) V [0] E [] E)
   rintro c h
   subst x
   refine JS.seq (JS.seq (JS.region ?_))
   obtain ⟨C,h⟩:=aH h
   obtain ⟨D,h⟩:=aH h
   refine aB aA 16 [(W (c+1)),(W (c+(a.length:Int)))] [] [(93,.v (.bool (bif (decide (((at' b (W (c+1))).toNat:Int)=((at' a 1).toNat:Int))) then (decide ((bJ b c (W (c+(a.length:Int))))=a)) else false)))] _ E ⟨ev5,C,(fun Q=>ev5),(fun F=>(D F)),ev2,E⟩ (aC E ?_)
   refine aJ E h (fun h=>?_) (fun h=>?_)
   ·
    refine aE aA 2 [(4,.v (I c))] ev1 E E ?_
    cases h
    exact JS.ret aA () V E E [] E
   refine JS.skip (gI aA 3 [(W (c+1))] [] [(8,.v (I (W (c+1))))] _ ev4 E E (gI aA 3 [(W (f+1))] [] [(10,.v (I (W (f+1))))] _ ev4 E E (JS.seq (JS.region (aB aA 1 [] [] [(99,.v (I (a.length:Int)))] _ E ev1 (dI aA E E E E E E 0 E E 0 0 d ev7 E E E (aB aA 4 [] [] [(102,.v (.bool (decide ((a.length:Int)≤d)))),(103,.cd [(102,true)] (.v (I (W (f+1))))),(104,.cd [(102,true)] (.v (I (W (c+1)))))] _ E ⟨(Es E),E⟩ ?_)))))))
   obtain ⟨G,H,-,h⟩:=bB h
   refine bR E E E E (fun J=>rM (W (c+1)) _ (H J)) E [] E E (aB aA 2 [] [] [(107,.v (.bool (bif (decide ((a.length:Int)≤d)) then (decide (G<(W (f+1)))) else false)))] _ E ev1 (aC E ?_))
   refine aJ E h (fun h=>?_) (fun h=>?_)
   ·
    refine JS.seq (JS.region ?_)
    obtain ⟨K,h⟩:=aH h
    refine aB aA 4 [] [] [(110,.v (.string (bs (bJ b (W (c+1)) (b.length:Int))))),(111,.v (.string (bs a)))] _ E ⟨K,(Es E),E⟩ ?_
    refine bnw h fun i L h=>JO.ext E E E E (iR (bJ b (W (c+1)) (b.length:Int)) a d _ L) E [0] E E (aB aA 1 [] [] [(12,.v (I i))] _ E ev1 (aC E (JS.seq (aE aA 2 [(114,.v (.bool (decide (0≤i))))] ev1 E E ?_))))
    refine aJ E h (fun h=>?_) (fun h=>?_)
    ·
     refine gI aA 4 [(W (i+(W (c+1))))] [] [(4,.v (I (W (i+(W (c+1))))))] _ ev4 E E ?_
     cases h
     exact JS.ret aA () V E E [] E
    refine JS.skip (aE aA 1 [(4,.v (I (-1)))] ev1 E E ?_)
    cases h
    exact JS.ret aA () V E E [] E
   refine JS.seq (JS.region (aB aA 1 [] [] [(118,.v (I (a.length:Int)))] _ E ev1 (dI aA E E E E E E 0 E E 0 0 d ev7 E E E ?_)))
   have M:(0:Int)≤4:=by decide
   refine aB aA 13 [(W (4+(Int.fdiv (W (c+1)) (2 ^ (min (Int.toNat 4) (IntKind.bits .i64))))))] [] [(132,.v (.bool (bif (bif (decide (d<(a.length:Int))) then (decide ((W (4+(Int.fdiv (W (c+1)) (2 ^ (min (Int.toNat 4) (IntKind.bits .i64))))))≤(W (f+1)))) else false) then (decide ((W (c+1))<(W ((W ((b.length:Int) - (a.length:Int)))+1)))) else false)))] _ E ⟨(fun R=>M),(fun S=>ev5),ev2,E⟩ (aC E ?_)
   refine aJ E h (fun h=>?_) (fun h=>?_)
   ·
    refine JS.seq (JS.region ?_)
    obtain ⟨N,h⟩:=aH h
    refine aB aA 4 [] [] [(135,.v (.string (bs (bJ b (W (c+1)) (b.length:Int))))),(136,.v (.string (bs a)))] _ E ⟨N,(Es E),E⟩ ?_
    refine bnw h fun j O h=>JO.call E E E E (kS (bJ b (W (c+1)) (b.length:Int)) a _ O) E [] E E fun _ _=>aB aA 1 [] [] [(13,.v (I j))] _ E ev1 (aC E (JS.seq (aE aA 2 [(139,.v (.bool (decide (j<0))))] ev1 E E ?_)))
    refine aJ E h (fun h=>?_) (fun h=>?_)
    ·
     refine aE aA 1 [(4,.v (I (-1)))] ev1 E E ?_
     cases h
     exact JS.ret aA () V E E [] E
    refine JS.skip (gI aA 4 [(W ((W (c+1))+j))] [] [(4,.v (I (W ((W (c+1))+j))))] _ ev4 E E ?_)
    cases h
    exact JS.ret aA () V E E [] E
   refine JS.skip (aV (bZ (l,(W (c+1)),(W (f+1))) h (Nat.lt_succ_self _) (Es E) V [0] E [] E))
  refine JS.exit E (aO () h V V [0] E [] E)
 rintro _ h
 subst u
 refine aE aA 1 [(4,.v (I (-1)))] ev1 E E ?_
 cases h
 exact JS.ret aA () V E E [] E

def lZ (a:Int) (b:List UInt8) (c:List UInt8):Option Int:= (aF (dO a b c) fun d=> some d)

theorem zW (a:List UInt8) (b:List UInt8) (c:Int) (r:Int) (h:lZ c a b=some r) :
 FC Tryz.prog 60 [.string (bs a),.string (bs b)] [⟨iT,⟨(some ⟨0,0,none⟩),1,1⟩,[c]⟩] (fun _:Unit=>True) (fun _=>I r) (fun _=>[]):= by
 refine FC.of (T:=TTx) Tryz.call60 Tryz.func60 E E fun f=>?_
 unfold lZ at h
 refine aE aA 1 [] ev5 E E (JS.seq (JS.region (aB aA 2 [] [] [(5,.v (.string (bs a))),(6,.v (.string (bs b)))] _ E ⟨(Es E),E⟩ ?_)))
 refine bnw h fun d e h=>JO.call E E E E (qL a b c _ e) E [0] E E fun _ _=>aB aA 1 [] [] [(4,.v (I d))] _ E ev1 (aC E ?_)
 cases h
 exact JS.ret aA () V E E [] E

theorem uG {α β:Type} {m:Option α} {k:α→Option β} {y:α} (h:m=some y):aF m k=k y:=by rw [h];rfl
theorem aQu (x:Int):IntKind.u32.wrap x=x % 4294967296:=by
  simp [IntKind.wrap,IntKind.bits,IntKind.signed]
theorem atN (l:List UInt8) (k:Nat) (h:k<l.length):at' l (k:Int)=l[k]:=by
  simp [at',List.getD,List.getElem?_eq_getElem h]
theorem aR4 (l:List UInt8) (k:Nat) (h:k<l.length):l.take (k+1)=l.take k ++ [at' l (k:Int)]:=by
  rw [atN l k h,List.take_add_one,List.getElem?_eq_getElem h];rfl
theorem Wn {x:Int} (a:-9000000000000000000≤x) (b:x≤9000000000000000000):W x=x:=bV (by omega) (by omega)

theorem aNo (a:List UInt8) (hl:a.length<4294967281) (j:Int→Option (Int×Int)):∀ (m k:Nat),k≤a.length→a.length - k<m →
    aZ (cQ a j) m (Lib.RK.H (a.take k) % 4294967296,(k:Int))=j (Lib.RK.H a % 4294967296):=by
  intro m
  induction m with
  | zero=>intro k _ h;omega
  | succ m ih=>
    intro k b hm
    simp only [aZ,cQ,aN,Bool.cond_decide]
    by_cases hk:k<a.length
    · rw [if_pos (by omega),if_pos (by omega),Wn (by omega) (by omega)]
      simp only [aQu]
      rw [Lib.RK.step_mod (at' a (k:Int)) rfl,← Lib.RK.H_snoc,← aR4 a k hk]
      exact ih (k+1) (by omega) (by omega)
    · rw [if_neg (by omega)]
      obtain rfl:k=a.length:=by omega
      rw [List.take_length]

theorem and1 (i:Nat) (h:i<4294967296):W (((BitVec.ofInt (IntKind.bits .i64) (i:Int) &&& BitVec.ofInt (IntKind.bits .i64) 1).toNat:Nat):Int)=((i % 2:Nat):Int):=by
  have e:(BitVec.ofInt (IntKind.bits .i64) (i:Int) &&& BitVec.ofInt (IntKind.bits .i64) 1).toNat=i % 2:=by
    rw [BitVec.toNat_and]
    have a:(BitVec.ofInt (IntKind.bits .i64) (i:Int)).toNat=i:=by
      rw [BitVec.toNat_ofInt]
      simp only [IntKind.bits]
      omega
    have b:(BitVec.ofInt (IntKind.bits .i64) 1).toNat=1:=by decide
    rw [a,b,Nat.and_one_is_mod]
  rw [e,Wn (by omega) (by omega)]

theorem aO4 (n:Nat) (hn:n<4294967281) (j:Int→Option (Int×Int)):∀ (m i:Nat) (pw sq:Int),i≤n→i<m→Lib.RK.PowInv n i pw sq→0≤pw→pw<4294967296 →
    aZ (cP j) m (pw,sq,(i:Int))=j (16777619 ^ n % 4294967296):=by
  intro m
  induction m with
  | zero=>intro i _ _ _ h;omega
  | succ m ih=>
    intro i pw sq hi hm hp b c
    simp only [aZ,cP,aT,Bool.cond_decide]
    by_cases hk:0<i
    · have ed:Int.fdiv (i:Int) (2 ^ (min (Int.toNat 1) (IntKind.bits .i64)))=((i / 2:Nat):Int):=by
        rw [show (2:Int) ^ (min (Int.toNat 1) (IntKind.bits .i64))=2 from by decide,Int.fdiv_eq_ediv_of_nonneg _ (by omega)]
        omega
      rw [if_pos (by omega),and1 i (by omega),ed]
      simp only [aQu]
      rcases Nat.mod_two_eq_zero_or_one i with a | a
      · rw [a,decide_eq_true (show ((0:Nat):Int)=0 from rfl)]
        exact ih (i / 2) pw _ (by omega) (by omega) (Lib.RK.pow_even hp a) b c
      · rw [a,decide_eq_false (show ¬ ((1:Nat):Int)=0 by decide)]
        exact ih (i / 2) _ _ (by omega) (by omega) (Lib.RK.pow_odd hp a) (Int.emod_nonneg _ (by decide)) (Int.emod_lt_of_pos _ (by decide))
    · rw [if_neg (by omega)]
      obtain rfl:i=0:=by omega
      rw [Lib.RK.pow_end hp b c]

theorem aLa (a:List UInt8) (hl:a.length<4294967281):cZ a=some (Lib.RK.H a % 4294967296,16777619 ^ a.length % 4294967296):=by
  unfold cZ
  simp only [aT]
  refine (aNo a hl _ bO 0 (by omega) (by have:=bQ;omega)).trans ?_
  exact aO4 a.length hl _ bO a.length 1 16777619 (by omega) (by have:=bQ;omega) (Lib.RK.pow_start _) (by decide) (by decide)

theorem aGj (s sub:List UInt8) (i:Nat) (h:i+sub.length≤s.length):Lib.occAt s sub i=decide (bJ s (i:Int) ((i:Int)+(sub.length:Int))=sub):=by
  rw [Lib.RK.occAt_win s sub i h]
  have:bJ s (i:Int) ((i:Int)+(sub.length:Int))=Lib.RK.win s i sub.length:=by
    unfold bJ Lib.RK.win
    rw [show ((i:Int)+(sub.length:Int)).toNat - (i:Int).toNat=sub.length by omega,Int.toNat_natCast]
  rw [this]
  by_cases h:Lib.RK.win s i sub.length=sub <;> simp [h]

theorem aOu (a b:List UInt8) (hl:a.length<4294967281) (c:b.length≤a.length) (j:Int→Option Int):∀ (m k:Nat),k≤b.length→b.length - k<m →
    aZ (cG a b j) m (Lib.RK.H (a.take k) % 4294967296,(k:Int))=j (Lib.RK.H (a.take b.length) % 4294967296):=by
  intro m
  induction m with
  | zero=>intro k _ h;omega
  | succ m ih=>
    intro k d hm
    simp only [aZ,cG,aN,Bool.cond_decide]
    by_cases hk:k<b.length
    · rw [if_pos (by omega),if_pos (by omega),Wn (by omega) (by omega)]
      simp only [aQu]
      rw [Lib.RK.step_mod (at' a (k:Int)) rfl,← Lib.RK.H_snoc,← aR4 a k (by omega)]
      exact ih (k+1) (by omega) (by omega)
    · rw [if_neg (by omega)]
      obtain rfl:k=b.length:=by omega
      rfl

theorem aOt (b a:List UInt8) (hl:b.length<4294967281) (c:1≤a.length):∀ (m q:Nat),q+a.length≤b.length→Lib.NoOcc b a (q+1)→b.length - q<m →
    aZ (bW b a (Lib.RK.H a % 4294967296) (16777619 ^ a.length % 4294967296) fun _=>some (-1)) m (Lib.RK.H (Lib.RK.win b q a.length) % 4294967296,((q+a.length:Nat):Int))=some (Lib.index b a):=by
  intro m
  induction m with
  | zero=>intro q _ _ h;omega
  | succ m ih=>
    intro q hq hno hm
    simp only [aZ,bW,aN,Bool.cond_decide]
    by_cases hk:q+a.length<b.length
    · rw [if_pos (by omega),if_pos (by omega),Wn (x:=((q+a.length:Nat):Int) - (a.length:Int)) (by omega) (by omega),Wn (x:=((q+a.length:Nat):Int)+1) (by omega) (by omega),Wn (by omega) (by omega)]
      rw [if_pos (by omega)]
      have ei:((q+a.length:Nat):Int) - (a.length:Int)=(q:Int):=by omega
      have ej:((q+a.length:Nat):Int)+1 - (a.length:Int)=((q+1:Nat):Int):=by omega
      rw [ei,ej]
      simp only [aQu]
      obtain ⟨n,hn⟩:∃ n,a.length=n+1:=⟨a.length - 1,by omega⟩
      have hw:=Lib.RK.win_cons b q n (by omega)
      have hs:=Lib.RK.win_snoc b (q+1) n (by omega)
      have hr:=Lib.RK.roll_mod (h:=Lib.RK.H (Lib.RK.win b q a.length) % 4294967296) (pw:=16777619 ^ a.length % 4294967296) (b[q]'(by omega)) (b[q+1+n]'(by omega)) (Lib.RK.win b (q+1) n) (by rw [hn,hw]) (by rw [hn,Lib.RK.win_length _ _ _ (by omega)])
      rw [← hs,← hn] at hr
      have ea:at' b ((q+a.length:Nat):Int)=b[q+1+n]'(by omega):=by rw [atN b _ (by omega)];congr 1;omega
      have eb:at' b (q:Int)=b[q]'(by omega):=atN b _ (by omega)
      rw [ea,eb]
      have eh:((Lib.RK.H (Lib.RK.win b q a.length) % 4294967296*16777619 % 4294967296+((b[q+1+n]'(by omega)).toNat:Int) % 4294967296) % 4294967296 - 16777619 ^ a.length % 4294967296*(((b[q]'(by omega)).toNat:Int) % 4294967296) % 4294967296) % 4294967296=Lib.RK.H (Lib.RK.win b (q+1) a.length) % 4294967296:=by
        rw [← hr]
        generalize 16777619 ^ a.length % 4294967296*(((b[q]'(by omega)).toNat:Int) % 4294967296)=T
        generalize Lib.RK.H (Lib.RK.win b q a.length) % 4294967296=A
        omega
      rw [eh]
      have hocc:=aGj b a (q+1) (by omega)
      have ew:bJ b ((q+1:Nat):Int) (((q+a.length:Nat):Int)+1)=bJ b ((q+1:Nat):Int) (((q+1:Nat):Int)+(a.length:Int)):=by congr 1;omega
      rw [ew]
      have hnext:Lib.occAt b a (q+1)=false→aZ (bW b a (Lib.RK.H a % 4294967296) (16777619 ^ a.length % 4294967296) fun _=>some (-1)) m (Lib.RK.H (Lib.RK.win b (q+1) a.length) % 4294967296,((q+a.length:Nat):Int)+1)=some (Lib.index b a):=by
        intro ho
        have:=ih (q+1) (by omega) (hno.succ ho) (by omega)
        rw [show ((q+a.length:Nat):Int)+1=((q+1+a.length:Nat):Int) by omega]
        exact this
      rw [if_pos (fun _=>by omega)]
      by_cases hh:Lib.RK.H (Lib.RK.win b (q+1) a.length) % 4294967296=Lib.RK.H a % 4294967296
      · rw [if_pos hh]
        by_cases hx:bJ b ((q+1:Nat):Int) (((q+1:Nat):Int)+(a.length:Int))=a
        · rw [decide_eq_true hx,cond_true]
          rw [decide_eq_true hx] at hocc
          rw [Lib.index_hit hno (by omega) hocc]
        · rw [decide_eq_false hx,cond_false]
          rw [decide_eq_false hx] at hocc
          exact hnext hocc
      · rw [if_neg hh,cond_false]
        refine hnext ?_
        rw [Lib.RK.occAt_win b a (q+1) (by omega)]
        exact beq_eq_false_iff_ne.2 (Lib.RK.hash_ne rfl rfl hh)
    · rw [if_neg (by omega)]
      rw [Lib.index_past (by intro h;rw [h] at c;simp at c) hno (by omega)]

theorem aTg (b a:List UInt8) (hl:b.length<4294967281) (c:1≤a.length) (d:a.length≤b.length):bU b a=some (Lib.index b a):=by
  unfold bU
  rw [uG (aLa a (by omega))]
  simp only [aT]
  refine (aOu b a hl d _ bO 0 (by omega) (by have:=bQ;omega)).trans ?_
  simp only [aN]
  rw [if_pos (fun _=>by omega)]
  have hocc:=aGj b a 0 (by omega)
  have ew:bJ b 0 (a.length:Int)=bJ b ((0:Nat):Int) (((0:Nat):Int)+(a.length:Int)):=by congr 1;omega
  rw [ew]
  have hnext:Lib.occAt b a 0=false→aZ (bW b a (Lib.RK.H a % 4294967296) (16777619 ^ a.length % 4294967296) fun _=>some (-1)) bO (Lib.RK.H (b.take a.length) % 4294967296,(a.length:Int))=some (Lib.index b a):=by
    intro ho
    have:=aOt b a hl c bO 0 (by omega) ((Lib.NoOcc.zero b a).succ ho) (by have:=bQ;omega)
    rw [show ((0+a.length:Nat):Int)=(a.length:Int) by omega] at this
    exact this
  by_cases hh:Lib.RK.H (b.take a.length) % 4294967296=Lib.RK.H a % 4294967296
  · rw [decide_eq_true hh,cond_true]
    by_cases hx:bJ b ((0:Nat):Int) (((0:Nat):Int)+(a.length:Int))=a
    · rw [decide_eq_true hx,cond_true]
      rw [decide_eq_true hx] at hocc
      rw [Lib.index_hit (Lib.NoOcc.zero _ _) (by omega) hocc]
      rfl
    · rw [decide_eq_false hx,cond_false]
      rw [decide_eq_false hx] at hocc
      exact hnext hocc
  · rw [decide_eq_false hh,cond_false,cond_false]
    refine hnext ?_
    rw [Lib.RK.occAt_win b a 0 (by omega)]
    exact beq_eq_false_iff_ne.2 (Lib.RK.hash_ne rfl rfl hh)

theorem aPo:∀ (s:List UInt8) (c:UInt8),Lib.index s [c]=Lib.indexByte s c
  | [],c=>by simp [Lib.index,Lib.indexByte]
  | b :: l,c=>by
    rw [Lib.index,Lib.indexByte,aPo l c]
    by_cases h:b=c
    · subst h;simp [List.isPrefixOf]
    · have a:(b == c)=false:=beq_eq_false_iff_ne.2 h
      have d:(c == b)=false:=beq_eq_false_iff_ne.2 fun e=>h e.symm
      simp [List.isPrefixOf,a,d]

theorem aNk (s:List UInt8) (i:Nat) (h:i≤s.length):bJ s (i:Int) (s.length:Int)=s.drop i:=by
  unfold bJ
  rw [List.take_of_length_le (by rw [List.length_drop];omega),Int.toNat_natCast]

theorem aIj (a b:UInt8):((a.toNat:Int)=(b.toNat:Int)) ↔ a=b:=by
  constructor
  · intro h
    exact UInt8.toNat_inj.1 (by omega)
  · intro h;rw [h]

theorem aK6 (c d : List UInt8) (gm : Int) (hl : c.length < 4294967281) (p : 2 ≤ d.length) (hn : d.length < c.length) : ∀ (m i : Nat) (f : Int), i + d.length ≤ c.length + 1 → 0 ≤ f → f ≤ (i : Int) → Lib.NoOcc c d i → c.length + 1 - i < m →
    aZ (cE c d gm fun _ => some (-1)) m ((i : Int), f) = some (Lib.index c d) := by
  obtain ⟨e, l, tl, hx⟩ : ∃ e l tl, d = e :: l :: tl := by
    match d, p with
    | a :: b :: t, _ => exact ⟨a, b, t, rfl⟩
  have w : at' d 0 = e := by rw [hx]; rfl
  have y : at' d 1 = l := by rw [hx]; rfl
  intro m
  induction m with
  | zero => intro i _ _ _ _ _ h; omega
  | succ m ih =>
    intro i f hi C D hno hm
    simp only [aZ, cE, aT, aN]
    rw [Wn (x := (c.length : Int) - (d.length : Int)) (by omega) (by omega), Wn (x := (c.length : Int) - (d.length : Int) + 1) (by omega) (by omega), Wn (x := (i : Int) + 1) (by omega) (by omega), Wn (x := f + 1) (by omega) (by omega), w, y]
    have J : ∀ q : Nat, i ≤ q → q + d.length ≤ c.length → Lib.NoOcc c d q →
        (if 0 ≤ W ((q : Int) + 1) ∧ W ((q : Int) + 1) < (c.length : Int) then
          if decide (((at' c (W ((q : Int) + 1))).toNat : Int) = (l.toNat : Int)) = true → 0 ≤ (q : Int) ∧ (q : Int) ≤ W ((q : Int) + (d.length : Int)) ∧ W ((q : Int) + (d.length : Int)) ≤ (c.length : Int) then
            bif bif decide (((at' c (W ((q : Int) + 1))).toNat : Int) = (l.toNat : Int)) then decide (bJ c (q : Int) (W ((q : Int) + (d.length : Int))) = d) else false then some (q : Int)
            else
              cA (decide ((d.length : Int) ≤ gm) = true) (dG (W ((q : Int) + 1))) (0 : Int) fun (k : Int) =>
                bif bif decide ((d.length : Int) ≤ gm) then decide (k < f + 1) else false then
                  if 0 ≤ W ((q : Int) + 1) ∧ W ((q : Int) + 1) ≤ (c.length : Int) ∧ (c.length : Int) ≤ (c.length : Int) then
                    aF (bY gm (bJ c (W ((q : Int) + 1)) (c.length : Int)) d) fun (g : Int) =>
                      bif decide (0 ≤ g) then some (W (g + W ((q : Int) + 1))) else some (-1)
                  else none
                else
                  bif bif bif decide (gm < (d.length : Int)) then decide (W (4 + Int.fdiv (W ((q : Int) + 1)) (2 ^ (min (Int.toNat 4) (IntKind.bits .i64)))) ≤ f + 1) else false then decide (W ((q : Int) + 1) < (c.length : Int) - (d.length : Int) + 1) else false then
                    if 0 ≤ W ((q : Int) + 1) ∧ W ((q : Int) + 1) ≤ (c.length : Int) ∧ (c.length : Int) ≤ (c.length : Int) then
                      aF (bU (bJ c (W ((q : Int) + 1)) (c.length : Int)) d) fun (j : Int) =>
                        bif decide (j < 0) then some (-1) else some (W (W ((q : Int) + 1) + j))
                    else none
                  else aZ (cE c d gm fun _ => some (-1)) m (W ((q : Int) + 1), f + 1)
          else none
        else none) = some (Lib.index c d) := by
      intro q F z hnq
      rw [Wn (x := (q : Int) + 1) (by omega) (by omega), Wn (x := (q : Int) + (d.length : Int)) (by omega) (by omega), if_pos (by omega), if_pos (fun _ => by omega)]
      have hocc := aGj c d q z
      have ec : ((q : Int) + 1) = ((q + 1 : Nat) : Int) := by omega
      have next : Lib.occAt c d q = false →
          (cA (decide ((d.length : Int) ≤ gm) = true) (dG ((q : Int) + 1)) (0 : Int) fun (k : Int) =>
                bif bif decide ((d.length : Int) ≤ gm) then decide (k < f + 1) else false then
                  if 0 ≤ (q : Int) + 1 ∧ (q : Int) + 1 ≤ (c.length : Int) ∧ (c.length : Int) ≤ (c.length : Int) then
                    aF (bY gm (bJ c ((q : Int) + 1) (c.length : Int)) d) fun (g : Int) =>
                      bif decide (0 ≤ g) then some (W (g + ((q : Int) + 1))) else some (-1)
                  else none
                else
                  bif bif bif decide (gm < (d.length : Int)) then decide (W (4 + Int.fdiv ((q : Int) + 1) (2 ^ (min (Int.toNat 4) (IntKind.bits .i64)))) ≤ f + 1) else false then decide ((q : Int) + 1 < (c.length : Int) - (d.length : Int) + 1) else false then
                    if 0 ≤ (q : Int) + 1 ∧ (q : Int) + 1 ≤ (c.length : Int) ∧ (c.length : Int) ≤ (c.length : Int) then
                      aF (bU (bJ c ((q : Int) + 1) (c.length : Int)) d) fun (j : Int) =>
                        bif decide (j < 0) then some (-1) else some (W ((q : Int) + 1 + j))
                    else none
                  else aZ (cE c d gm fun _ => some (-1)) m ((q : Int) + 1, f + 1)) = some (Lib.index c d) := by
        intro ho
        have s := hnq.succ ho
        have hdr := Lib.index_drop s (by omega)
        have hge := Lib.index_ge (c.drop (q + 1)) d
        have hroom := Lib.index_room (c.drop (q + 1)) d
        rw [List.length_drop] at hroom
        have hcont := ih (q + 1) (f + 1) (by omega) (by omega) (by omega) s (by omega)
        have A : bJ c ((q : Int) + 1) (c.length : Int) = c.drop (q + 1) := by rw [ec]; exact aNk c (q + 1) (by omega)
        have hfin : ∀ r : Int, r = Lib.index (c.drop (q + 1)) d → (if 0 ≤ r then r + ((q : Int) + 1) else -1) = Lib.index c d := by
          intro r hr
          rw [hdr, ← hr]
          rw [← hr] at hge
          by_cases h : r = -1
          · subst h; rfl
          · rw [show (r == -1) = false from beq_eq_false_iff_ne.2 h, if_pos (by omega), ec]; rfl
        rw [← ec] at hcont
        rw [show dG ((q : Int) + 1) = some (W (Int.tdiv (W ((q : Int) + 1 + 16)) 8)) from rfl]
        rw [A]
        have key : ∀ k : Int, (bif bif decide ((d.length : Int) ≤ gm) then decide (k < f + 1) else false then
                  if 0 ≤ (q : Int) + 1 ∧ (q : Int) + 1 ≤ (c.length : Int) ∧ (c.length : Int) ≤ (c.length : Int) then
                    aF (bY gm (c.drop (q + 1)) d) fun (g : Int) =>
                      bif decide (0 ≤ g) then some (W (g + ((q : Int) + 1))) else some (-1)
                  else none
                else
                  bif bif bif decide (gm < (d.length : Int)) then decide (W (4 + Int.fdiv ((q : Int) + 1) (2 ^ (min (Int.toNat 4) (IntKind.bits .i64)))) ≤ f + 1) else false then decide ((q : Int) + 1 < (c.length : Int) - (d.length : Int) + 1) else false then
                    if 0 ≤ (q : Int) + 1 ∧ (q : Int) + 1 ≤ (c.length : Int) ∧ (c.length : Int) ≤ (c.length : Int) then
                      aF (bU (c.drop (q + 1)) d) fun (j : Int) =>
                        bif decide (j < 0) then some (-1) else some (W ((q : Int) + 1 + j))
                    else none
                  else aZ (cE c d gm fun _ => some (-1)) m ((q : Int) + 1, f + 1)) = some (Lib.index c d) := by
          intro k
          have hp : 0 ≤ (q : Int) + 1 ∧ (q : Int) + 1 ≤ (c.length : Int) ∧ (c.length : Int) ≤ (c.length : Int) := by omega
          cases hb : (bif decide ((d.length : Int) ≤ gm) then decide (k < f + 1) else false) with
          | true =>
            have hgm : (d.length : Int) ≤ gm := by
              by_cases h : (d.length : Int) ≤ gm
              · exact h
              · rw [decide_eq_false h] at hb; cases hb
            rw [cond_true, if_pos hp]
            have hi : bY gm (c.drop (q + 1)) d = some (Lib.index (c.drop (q + 1)) d) := by
              unfold bY aN
              rw [if_pos ⟨p, hgm, by rw [List.length_drop]; omega⟩]
            rw [uG hi]
            have := hfin _ rfl
            generalize Lib.index (c.drop (q + 1)) d = r at *
            by_cases h : 0 ≤ r
            · rw [decide_eq_true h, cond_true, Wn (by omega) (by omega)]
              rw [if_pos h] at this
              rw [this]
            · rw [decide_eq_false h, cond_false]
              rw [if_neg h] at this
              rw [this]
          | false =>
            rw [cond_false]
            cases u : (bif bif decide (gm < (d.length : Int)) then decide (W (4 + Int.fdiv ((q : Int) + 1) (2 ^ (min (Int.toNat 4) (IntKind.bits .i64)))) ≤ f + 1) else false then decide ((q : Int) + 1 < (c.length : Int) - (d.length : Int) + 1) else false) with
            | true =>
              have ht : (q : Int) + 1 < (c.length : Int) - (d.length : Int) + 1 := by
                by_cases h : (q : Int) + 1 < (c.length : Int) - (d.length : Int) + 1
                · exact h
                · rw [decide_eq_false h] at u
                  revert u
                  cases (bif decide (gm < (d.length : Int)) then decide (W (4 + Int.fdiv ((q : Int) + 1) (2 ^ (min (Int.toNat 4) (IntKind.bits .i64)))) ≤ f + 1) else false) <;> intro h' <;> cases h'
              rw [cond_true, if_pos hp, uG (aTg (c.drop (q + 1)) d (by rw [List.length_drop]; omega) (by omega) (by rw [List.length_drop]; omega))]
              have := hfin _ rfl
              generalize Lib.index (c.drop (q + 1)) d = r at *
              by_cases h : r < 0
              · rw [decide_eq_true h, cond_true]
                rw [if_neg (by omega)] at this
                rw [this]
              · rw [decide_eq_false h, cond_false, Wn (by omega) (by omega)]
                rw [if_pos (by omega)] at this
                rw [← this]
                congr 1; omega
            | false =>
              rw [cond_false]
              exact hcont
        unfold cA
        split
        · exact key _
        · exact key _
      by_cases n : ((at' c ((q : Int) + 1)).toNat : Int) = (l.toNat : Int)
      · rw [decide_eq_true n, cond_true]
        by_cases hs : bJ c (q : Int) ((q : Int) + (d.length : Int)) = d
        · rw [decide_eq_true hs, cond_true]
          rw [decide_eq_true hs] at hocc
          rw [Lib.index_hit hnq (by omega) hocc]
        · rw [decide_eq_false hs, cond_false]
          rw [decide_eq_false hs] at hocc
          exact next hocc
      · rw [decide_eq_false n, cond_false, cond_false]
        refine next ?_
        cases ho : Lib.occAt c d q with
        | false => rfl
        | true =>
          have := Lib.occAt_second hx ho
          rw [ec, atN c (q + 1) (by omega)] at n
          rw [List.getElem?_eq_getElem (by omega)] at this
          exact absurd ((aIj _ _).2 (Option.some.inj this)) n
    by_cases hk : (i : Int) < (c.length : Int) - (d.length : Int) + 1
    · rw [decide_eq_true hk, cond_true, if_pos (by omega)]
      have hat := atN c i (by omega)
      by_cases hc : ((at' c (i : Int)).toNat : Int) = (e.toNat : Int)
      · rw [decide_eq_true hc, Bool.not_true, cond_false]
        have := J i (Nat.le_refl _) (by omega) hno
        rw [Wn (x := (i : Int) + 1) (by omega) (by omega)] at this
        exact this
      · rw [decide_eq_false hc, Bool.not_false, cond_true, if_pos (by omega)]
        have v : c[i]? ≠ some e := by
          rw [List.getElem?_eq_getElem (by omega), ← hat]
          intro h
          exact hc ((aIj _ _).2 (Option.some.inj h))
        have hib : cY (bJ c ((i : Int) + 1) ((c.length : Int) - (d.length : Int) + 1)) e = some (Lib.indexByte ((c.drop (i + 1)).take ((c.length - d.length + 1) - (i + 1))) e) := by
          have : bJ c ((i : Int) + 1) ((c.length : Int) - (d.length : Int) + 1) = (c.drop (i + 1)).take ((c.length - d.length + 1) - (i + 1)) := by
            unfold bJ
            congr 1
            omega
          rw [this]; rfl
        rw [uG hib]
        have hge := Lib.indexByte_ge ((c.drop (i + 1)).take ((c.length - d.length + 1) - (i + 1))) e
        generalize ho : Lib.indexByte ((c.drop (i + 1)).take ((c.length - d.length + 1) - (i + 1))) e = o at hge
        by_cases hneg : o < 0
        · rw [decide_eq_true hneg, cond_true]
          rw [Lib.index_skip_none (t := c.length - d.length + 1) hx hno v (by omega) (by rw [ho]; omega)]
        · rw [decide_eq_false hneg, cond_false]
          obtain ⟨on, rfl⟩ : ∃ on : Nat, o = (on : Int) := ⟨o.toNat, by omega⟩
          obtain ⟨B, G, H⟩ := Lib.noOcc_skip (t := c.length - d.length + 1) hx hno v ho
          have hw : W ((i : Int) + W ((on : Int) + 1)) = ((i + on + 1 : Nat) : Int) := by
            rw [Wn (x := (on : Int) + 1) (by omega) (by omega), Wn (by omega) (by omega)]; omega
          have := J (i + on + 1) (by omega) (by omega) B
          rw [hw]
          exact this
    · rw [decide_eq_false hk, cond_false]
      rw [Lib.index_past (by rw [hx]; simp) hno (by omega)]

theorem aPn (gm:Int) (b a:List UInt8) (hl:b.length<4294967281):lZ gm b a=some (Lib.index b a):=by
  have main:dO gm b a=some (Lib.index b a):=by
    unfold dO
    by_cases f:(a.length:Int)=0
    · obtain rfl:a=[]:=List.length_eq_zero_iff.1 (by omega)
      rw [Lib.index_empty];rfl
    rw [decide_eq_false f,cond_false]
    by_cases hx:a=b
    · subst hx
      rw [Lib.index_self,decide_eq_true rfl];rfl
    rw [decide_eq_false hx,cond_false]
    by_cases d:(a.length:Int)=1
    · rw [decide_eq_true d,cond_true]
      obtain ⟨c,rfl⟩:∃ c,a=[c]:=List.length_eq_one_iff.1 (by omega)
      simp only [aN]
      rw [if_pos (by simp),aPo]
      rfl
    rw [decide_eq_false d,cond_false]
    by_cases e:(b.length:Int)≤(a.length:Int)
    · rw [decide_eq_true e,cond_true,Lib.index_long (by omega) hx]
    rw [decide_eq_false e,cond_false]
    simp only [aN,aT]
    rw [if_pos (by omega),if_pos (by omega)]
    have hlp:=aK6 b a gm hl (by omega) (by omega) bO 0 0 (by omega) (by omega) (by omega) (Lib.NoOcc.zero _ _) (by have:=bQ;omega)
    cases hb:(bif decide ((a.length:Int)≤gm) then decide ((b.length:Int)≤64) else false) with
    | false=>rw [cond_false];exact hlp
    | true=>
      have hgm:(a.length:Int)≤gm:=by
        by_cases h:(a.length:Int)≤gm
        · exact h
        · rw [decide_eq_false h] at hb;cases hb
      rw [cond_true]
      have hi:bY gm b a=some (Lib.index b a):=by
        unfold bY aN
        rw [if_pos ⟨by omega,hgm,hl⟩]
      rw [uG hi]
  unfold lZ
  rw [uG main]

def gA (a:List UInt8) (b:List UInt8):Option Int:=aN (a.length<4294967281) <|some (Lib.index a b)

theorem tQ (a:List UInt8) (b:List UInt8) (c:Int) (r:Int) (h:gA a b=some r) :
  FC Tryz.prog 60 [.string (bs a),.string (bs b)] [⟨iT,⟨(some ⟨0,0,none⟩),1,1⟩,[c]⟩] (fun _:Unit=>True) (fun _=>I r) (fun _=>[]):=by
 obtain ⟨d,h⟩:=aH h
 cases h
 exact zW a b c _ (aPn c a b d)

def gP (a:List UInt8) (b:List UInt8):Option Bool:= (aF (gA a b) fun c=> some (decide (0≤c)))

theorem xS (a:List UInt8) (b:List UInt8) (c:Int) (r:Bool) (h:gP a b=some r) :
 FC Tryz.prog 240 [.string (bs a),.string (bs b)] [⟨iT,⟨(some ⟨0,0,none⟩),1,1⟩,[c]⟩] (fun _:Unit=>True) (fun _=>.bool r) (fun _=>[]):= by
 refine FC.of (T:=TTx) Tryz.call240 Tryz.func240 E E fun f=>?_
 unfold gP at h
 refine aE aA 1 [] ev5 E E (JS.seq (JS.region (aB aA 2 [] [] [(5,.v (.string (bs a))),(6,.v (.string (bs b)))] _ E ⟨(Es E),E⟩ ?_)))
 refine bnw h fun d e h=>JO.call E E E E (tQ a b c _ e) E [0] E E fun _ _=>aB aA 2 [] [] [(4,.v (.bool (decide (0≤d))))] _ E ev1 (aC E ?_)
 cases h
 exact JS.ret aA () V E E [] E

def gW (a:Int×List (List UInt8)) (d:List UInt8) (f:Int) (c:Bool) (g:Unit→Option Int) (h:Int→Option Int):Int→Option Int:=fun b=>(aF (dH b a.1 (W ((W (a.1+(a.2.length:Int))) - 1))) fun i=>(bif i then (aN (0≤(W (b - a.1))∧(W (b - a.1))<(a.2.length:Int)) <|(cA (c=true) (rH (at' a.2 (W (b - a.1))) d) false fun e=>(cA ((!c)=true∧(bif c then e else false)=false) (gP (at' a.2 (W (b - a.1))) d) false fun j=>(bif (bif (bif c then e else false) then true else (bif (!c) then j else false)) then some b else h (W (b+f)))))) else g ()))

def iJ (a:Int×List (List UInt8)) (e:List UInt8) (c:Int) (b:Int) (f:Bool):Option Int:= (aF (lQ a) fun g=>(bif (bif (!g) then true else (bif (!(decide (b=1))) then (!(decide (b=(-1)))) else false)) then some 0 else (aT (fun (h:Int)=>(aT (fun (_:Unit)=> some 0) fun i=>(aZ (gW a e b f i) bO h))) fun d=>(bif decide (b=1) then d (max c a.1) else d (min c (W ((W (a.1+(a.2.length:Int))) - 1)))))))

theorem aEv (a:Int×List (List UInt8)) (g:List UInt8) (i:Int) (c:Int) (d:Bool) (e:Option Addr) (f:Nat) (j:Int) (r:Int) (h:iJ a g i c d=some r):
 FC Tryz.prog 157 [.agg #[I a.1,sL e a.2 f],.string (bs g),I i,I c,.bool d] [⟨.str,⟨e,a.2.length,f⟩,a.2⟩,⟨iT,⟨(some ⟨0,0,none⟩),1,1⟩,[j]⟩] (fun _:Unit=>True) (fun _=>I r) (fun _=>[]):= by
 refine FC.of (T:=TTx) Tryz.call157 Tryz.func157 E E fun G=>?_
 unfold iJ at h
 refine aS aA 2 [] [3] [(5,.bp 3 0)] (.new 3 50 [I a.1,sL e a.2 f] .nil) ⟨ev2,(Bs E E)⟩ E E (JS.seq (JS.seq (JS.region (aB aA 1 [] [] [(14,.v (.agg #[I a.1,sL e a.2 f]))] _ E ev1 ?_))))
 refine bnw h fun p q h=>JO.call E E E E (sX a e f _ q) E [0] E E fun _ _=>aB aA 9 [] [] [(24,.v (.bool (bif (!p) then true else (bif (!(decide (c=1))) then (!(decide (c=(-1)))) else false))))] _ E ev1 (aC E ?_)
 refine aJ E h (fun h=>?_) (fun h=>?_)
 ·
  refine aE aA 1 [(10,.v (I 0))] ev1 E E ?_
  cases h
  exact JS.ret aA () V E E [] E
 refine JS.skip (gI aA 8 [(W (a.1+(a.2.length:Int))),(W ((W (a.1+(a.2.length:Int))) - 1))] [] [(11,.v (I (W ((W (a.1+(a.2.length:Int))) - 1))))] _ ⟨⟨V,E⟩,⟨V,E⟩,⟨E,V⟩,E⟩ E E ?_)
 obtain ⟨s,t,h⟩:=aM h
 refine cJ (ι:=Int) ⟨fun z=>s z=some r,fun z=>[(1,.v (.string (bs g))),(2,.v (I z)),(3,.v (I c)),(4,.v (.bool d)),(5,.bp 3 0),(11,.v (I (W ((W (a.1+(a.2.length:Int))) - 1))))],fun z=>(.new 3 50 [I a.1,sL e a.2 f] .nil),fun z=>[⟨.str,⟨e,a.2.length,f⟩,a.2⟩,⟨iT,⟨(some ⟨0,0,none⟩),1,1⟩,[j]⟩],fun z=>[],fun z=>0⟩ ?_ ?_
 ·
  refine aE aA 2 [(33,.v (.bool (decide (c=1))))] ev1 E E ?_
  refine aJ E h (fun h=>?_) (fun h=>?_)
  ·
   refine lT aA 5 [(2,.v (I (max i a.1)))] ev1 E E (aO (max i a.1) h (Es E) (Bs E E) [0,1] E [] E)
  refine lT aA 4 [(2,.v (I (min i (W ((W (a.1+(a.2.length:Int))) - 1)))))] ev1 E E (aO (min i (W ((W (a.1+(a.2.length:Int))) - 1))) h (Es E) (Bs E E) [0,1] E [] E)
 rintro k h
 subst t
 refine JS.seq (aE aA 2 [(12,.v (I k))] ev1 E E ?_)
 obtain ⟨l,u,h⟩:=aM h
 refine bA (ι:=Unit) ⟨fun _=>l ()=some r,fun _=>[],fun _=>.nil,fun _=>[⟨iT,⟨(some ⟨0,0,none⟩),1,1⟩,[j]⟩],fun _=>[],fun _=>0⟩ ?_ ?_
 ·
  refine JS.loop (ι:=Nat×Int) ⟨fun z=>aZ (gW a g c d l) z.1 z.2=some r,fun z=>[(1,.v (.string (bs g))),(3,.v (I c)),(4,.v (.bool d)),(5,.bp 3 0),(11,.v (I (W ((W (a.1+(a.2.length:Int))) - 1)))),(12,.v (I z.2))],fun z=>(.new 3 50 [I a.1,sL e a.2 f] .nil),fun z=>[⟨.str,⟨e,a.2.length,f⟩,a.2⟩,⟨iT,⟨(some ⟨0,0,none⟩),1,1⟩,[j]⟩],fun z=>[],fun z=>z.1⟩ (bO,k) h (Es E) (Bs E E) [0,1] E [] E ?_
  rintro ⟨m,b⟩ h
  obtain ⟨m,rfl,h⟩:=bK h
  rw [gW] at h
  refine JS.seq (JS.seq (JS.region (aB aA 4 [] [] [(42,.v (I b)),(44,.v (I a.1)),(45,.v (I (W ((W (a.1+(a.2.length:Int))) - 1))))] _ E ⟨(Es E),E⟩ ?_)))
  refine bnw h fun H w h=>JO.call E E E E (eG b a.1 (W ((W (a.1+(a.2.length:Int))) - 1)) _ w) E [] E E fun _ _=>aC E ?_
  refine aJ E h (fun h=>?_) (fun h=>?_)
  ·
   refine JS.skip (JS.seq (JS.block (JS.seq (JS.region (cC 0 E fun x=>?_)))))
   obtain ⟨n,h⟩:=aH h
   refine aB aA 7 [(W (b - a.1))] [] [(56,.ep ⟨e,a.2.length,f⟩ (Int.toNat (W (b - a.1))*1))] _ E ⟨ev5,x.ix n,ev2,E⟩ (JO.load aA E E E E E E E 0 E E (Int.toNat (W (b - a.1))) 0 (at' a.2 (W (b - a.1))) ⟨bH n,E⟩ E E (aB aA 1 [] [] [(13,.v (.string (bs (at' a.2 (W (b - a.1))))))] _ E ev1 (aC E (JS.seq (JS.region (aB aA 4 [] [] [(59,.v (.bool d)),(60,.cd [(59,true)] (.v (.string (bs (at' a.2 (W (b - a.1))))))),(61,.cd [(59,true)] (.v (.string (bs g))))] _ E ⟨(Es E),E⟩ ?_))))))
   obtain ⟨o,y,-,h⟩:=bB h
   refine bR E E E E (fun A=>wE (at' a.2 (W (b - a.1))) g _ (y A)) E [] E E (aB aA 7 [] [] [(64,.v (.bool (bif d then o else false))),(67,.cd [(64,false)] (.v (.bool (!d)))),(68,.cd [(67,true),(64,false)] (.v (.string (bs (at' a.2 (W (b - a.1))))))),(69,.cd [(67,true),(64,false)] (.v (.string (bs g))))] _ E ⟨(Es E),E⟩ ?_)
   obtain ⟨B,C,-,h⟩:=bB h
   refine bR E E E E (fun D F=>xS (at' a.2 (W (b - a.1))) g j _ (C ⟨D,F⟩)) E [1] E E (aB aA 2 [] [] [(72,.v (.bool (bif (bif d then o else false) then true else (bif (!d) then B else false))))] _ E ev1 (aC E ?_))
   refine aJ E h (fun h=>?_) (fun h=>?_)
   ·
    refine aE aA 2 [(10,.v (I b))] ev1 E E ?_
    cases h
    exact JS.ret aA () V E E [] E
   refine JS.skip (aV (cS aA 4 [(W (b+c))] [] [(12,.v (I (W (b+c))))] _ ev4 E E (bZ (m,(W (b+c))) h (Nat.lt_succ_self _) (Es E) (Bs E E) [0,1] E [] E)))
  refine JS.exit E (aO () h V V [1] E [] E)
 rintro _ h
 subst u
 refine aE aA 1 [(10,.v (I 0))] ev1 E E ?_
 cases h
 exact JS.ret aA () V E E [] E

def jJ (a:Int×List (List UInt8)) (b:Int):Option (List UInt8×Bool):= (aF (lQ a) fun c=>(cA ((!c)=false) (dH b a.1 (W ((W (a.1+(a.2.length:Int))) - 1))) false fun d=>(bif (bif (!c) then true else (!d)) then some ([],false) else (aN (0≤(W (b - a.1))∧(W (b - a.1))<(a.2.length:Int)) <|some ((at' a.2 (W (b - a.1))),true)))))

theorem aAd (a:Int×List (List UInt8)) (b:Int) (c:Option Addr) (d:Nat) (r:List UInt8×Bool) (h:jJ a b=some r):
 FC Tryz.prog 58 [.agg #[I a.1,sL c a.2 d],I b] [⟨.str,⟨c,a.2.length,d⟩,a.2⟩] (fun _:Unit=>True) (fun _=>.tuple #[.string (bs r.1),.bool r.2]) (fun _=>[]):= by
 refine FC.of (T:=TTx) Tryz.call58 Tryz.func58 E E fun m=>?_
 unfold jJ at h
 refine aS aA 3 [] [2] [(2,.bp 2 0)] (.new 2 50 [I a.1,sL c a.2 d] .nil) ⟨ev2,(Bs E E)⟩ E E (JS.seq (JS.seq (JS.region (aB aA 1 [] [] [(6,.v (.agg #[I a.1,sL c a.2 d]))] _ E ev1 ?_))))
 refine bnw h fun e g h=>JO.call E E E E (sX a c d _ g) E [0] E E fun _ _=>aB aA 12 [(W (a.1+(a.2.length:Int))),(W ((W (a.1+(a.2.length:Int))) - 1))] [] [(9,.v (.bool (!e))),(10,.cd [(9,false)] (.v (I b))),(12,.cd [(9,false)] (.v (I a.1))),(19,.cd [(9,false)] (.v (I (W ((W (a.1+(a.2.length:Int))) - 1)))))] _ E ⟨(fun n=>ev5),(fun o=>ev5),(Es E),E⟩ ?_
 obtain ⟨i,j,-,h⟩:=bB h
 refine bR E E E E (fun k=>eG b a.1 (W ((W (a.1+(a.2.length:Int))) - 1)) _ (j k)) E [] E E (aB aA 2 [] [] [(22,.v (.bool (bif (!e) then true else (!i))))] _ E ev1 (aC E ?_))
 refine aJ E h (fun h=>?_) (fun h=>?_)
 ·
  refine aE aA 2 [(4,.v (.string (bs []))),(5,.v (.bool false))] ⟨(Es E),E⟩ E E ?_
  cases h
  exact JS.ret aA () V E E [] E
 refine JS.skip (JS.seq (JS.region (cC 0 E fun l=>?_)))
 obtain ⟨f,h⟩:=aH h
 refine aB aA 7 [(W (b - a.1))] [] [(29,.ep ⟨c,a.2.length,d⟩ (Int.toNat (W (b - a.1))*1))] _ E ⟨ev5,l.ix f,ev2,E⟩ (JO.load aA E E E E E E E 0 E E (Int.toNat (W (b - a.1))) 0 (at' a.2 (W (b - a.1))) ⟨bH f,E⟩ E E (aB aA 2 [] [] [(4,.v (.string (bs (at' a.2 (W (b - a.1)))))),(5,.v (.bool true))] _ E ⟨(Es E),E⟩ (aC E ?_)))
 cases h
 exact JS.ret aA () V E E [] E

def fC (c:List UInt8) (a:Int) (d:Int) (f:Int→Option (Int×Int)) (g:(Int×Int)→Option (Int×Int)):(Int×Int)→Option (Int×Int):=fun (e,b)=>(bif (decide (b<((bJ c (W (a+1)) (W (a+d))).length:Int))) then (aN (0≤b∧b<((bJ c (W (a+1)) (W (a+d))).length:Int)) <|g ((W ((W ((W (e*64))+((at' (bJ c (W (a+1)) (W (a+d))) b).toNat:Int))) - 128)),(W (b+1)))) else f e)

def pF (b:List UInt8) (a:Int):Option (Int×Int):= (bif (bif decide (a<0) then true else (decide ((b.length:Int)≤a))) then some (0,0) else (aN (0≤a∧a<(b.length:Int)) <|(aT (fun ((c,f):Int×Int)=>(bif decide ((W ((b.length:Int) - c))<a) then some (0,0) else (aN (0≤(W (a+1))∧(W (a+1))≤(W (a+c))∧(W (a+c))≤(b.length:Int)) <|(aT (fun (e:Int)=>(aF (iQ e) fun g=>(aN (0≤a∧a≤(W (a+c))∧(W (a+c))≤(b.length:Int)) <|(bif (!(decide (g=(bJ b a (W (a+c)))))) then some (0,0) else some (e,c))))) fun h=>(aZ (fC b a c h) bO (f,0)))))) fun d=>(bif decide (((at' b a).toNat:Int)<128) then some (((at' b a).toNat:Int),1) else (aF (dH ((at' b a).toNat:Int) 192 223) fun i=>(bif i then d (2,(W (((at' b a).toNat:Int) - 192))) else (aF (dH ((at' b a).toNat:Int) 224 239) fun j=>(bif j then d (3,(W (((at' b a).toNat:Int) - 224))) else (aF (dH ((at' b a).toNat:Int) 240 247) fun k=>(bif k then d (4,(W (((at' b a).toNat:Int) - 240))) else some (0,0)))))))))))

theorem aEs (b:List UInt8) (a:Int) (e:Option Addr) (f:Nat) (r:Int×Int) (h:pF b a=some r):
 FC Tryz.prog 144 [sL e b f,I a] [⟨.byte,⟨e,b.length,f⟩,b⟩] (fun _:Unit=>True) (fun _=>.tuple #[I r.1,I r.2]) (fun _=>[]):= by
 refine FC.of (T:=TTx) Tryz.call144 Tryz.func144 E E fun M=>?_
 unfold pF at h
 refine aE aA 2 [] ev5 E E (JS.seq (aE aA 8 [(18,.v (.bool (bif (decide (a<0)) then true else (decide ((b.length:Int)≤a)))))] ev1 E E ?_))
 refine aJ E h (fun h=>?_) (fun h=>?_)
 ·
  refine aE aA 2 [(4,.v (I 0)),(5,.v (I 0))] ⟨(Es E),E⟩ E E ?_
  cases h
  exact JS.ret aA () V E E [] E
 refine JS.skip (JS.seq (JS.region (cC 0 E fun q=>?_)))
 obtain ⟨m,h⟩:=aH h
 refine aB aA 3 [] [] [(21,.ep ⟨e,b.length,f⟩ (Int.toNat a*1))] _ E ⟨q.ix m,ev2,E⟩ (JO.load aA E E E E E E E 0 E E (Int.toNat a) 0 (at' b a) ⟨bH m,E⟩ E E (aB aA 2 [((at' b a).toNat:Int)] [] [(6,.v (I ((at' b a).toNat:Int)))] _ E ⟨⟨V,aD7 _⟩,ev2,E⟩ (aC E (aE aA 2 [] ev5 E E (JS.seq ?_)))))
 obtain ⟨s,t,h⟩:=aM h
 refine bA (ι:=Int×Int) ⟨fun z=>s z=some r,fun z=>[(0,.v (sL e b f)),(1,.v (I a)),(7,.v (I z.1)),(8,.v (I z.2))],fun z=>.nil,fun z=>[⟨.byte,⟨e,b.length,f⟩,b⟩],fun z=>[],fun z=>0⟩ ?_ ?_
 ·
  refine aE aA 3 [(24,.v (.bool (decide (((at' b a).toNat:Int)<128))))] ev1 E E ?_
  refine aJ E h (fun h=>?_) (fun h=>?_)
  ·
   refine aE aA 3 [(4,.v (I ((at' b a).toNat:Int))),(5,.v (I 1))] ⟨(Es E),E⟩ E E ?_
   cases h
   exact JS.ret aA () V E E [] E
  refine JS.seq (JS.region (aB aA 1 [] [] [(29,.v (I ((at' b a).toNat:Int)))] _ E ev1 ?_))
  refine bnw h fun u w h=>JO.call E E E E (eG ((at' b a).toNat:Int) 192 223 _ w) E [] E E fun _ _=>aB aA 1 [] [] [(28,.v (.bool u))] _ E ev1 (aC E ?_)
  refine aJ E h (fun h=>?_) (fun h=>?_)
  ·
   refine cS aA 4 [(W (((at' b a).toNat:Int) - 192))] [] [(7,.v (I 2)),(8,.v (I (W (((at' b a).toNat:Int) - 192))))] _ ⟨ev5,(Es E),E⟩ E E (aV (aO (2,(W (((at' b a).toNat:Int) - 192))) h (Es E) V [0] E [] E))
  refine JS.seq (JS.region (aB aA 1 [] [] [(34,.v (I ((at' b a).toNat:Int)))] _ E ev1 ?_))
  refine bnw h fun x y h=>JO.call E E E E (eG ((at' b a).toNat:Int) 224 239 _ y) E [] E E fun _ _=>aB aA 1 [] [] [(33,.v (.bool x))] _ E ev1 (aC E ?_)
  refine aJ E h (fun h=>?_) (fun h=>?_)
  ·
   refine cS aA 4 [(W (((at' b a).toNat:Int) - 224))] [] [(7,.v (I 3)),(8,.v (I (W (((at' b a).toNat:Int) - 224))))] _ ⟨ev5,(Es E),E⟩ E E (aV (aO (3,(W (((at' b a).toNat:Int) - 224))) h (Es E) V [0] E [] E))
  refine JS.seq (JS.region (aB aA 1 [] [] [(39,.v (I ((at' b a).toNat:Int)))] _ E ev1 ?_))
  refine bnw h fun A B h=>JO.call E E E E (eG ((at' b a).toNat:Int) 240 247 _ B) E [] E E fun _ _=>aB aA 1 [] [] [(38,.v (.bool A))] _ E ev1 (aC E ?_)
  refine aJ E h (fun h=>?_) (fun h=>?_)
  ·
   refine cS aA 4 [(W (((at' b a).toNat:Int) - 240))] [] [(7,.v (I 4)),(8,.v (I (W (((at' b a).toNat:Int) - 240))))] _ ⟨ev5,(Es E),E⟩ E E (aV (aO (4,(W (((at' b a).toNat:Int) - 240))) h (Es E) V [0] E [] E))
  refine aE aA 2 [(4,.v (I 0)),(5,.v (I 0))] ⟨(Es E),E⟩ E E ?_
  cases h
  exact JS.ret aA () V E E [] E
 rintro ⟨c,C⟩ h
 subst t
 refine JS.seq (gI aA 6 [(W ((b.length:Int) - c))] [] [(48,.v (.bool (decide ((W ((b.length:Int) - c))<a))))] _ ev4 E E ?_)
 refine aJ E h (fun h=>?_) (fun h=>?_)
 ·
  refine aE aA 2 [(4,.v (I 0)),(5,.v (I 0))] ⟨(Es E),E⟩ E E ?_
  cases h
  exact JS.ret aA () V E E [] E
 refine JS.skip (JS.seq (JS.seq (JS.region (aB aA 6 [(W (a+1)),(W (a+c))] [] [(49,.v (sL e b f)),(51,.v (I (W (a+1)))),(54,.v (I (W (a+c))))] _ E ⟨ev5,ev5,(Es E),E⟩ ?_))))
 obtain ⟨D,h⟩:=aH h
 refine aD9 aA E E E E E E E E 0 E (W (a+1)) (W (a+c)) E E D E fun j k=>aB aA 2 [] [] [(56,.v (I ((bJ b (W (a+1)) (W (a+c))).length:Int))),(57,.v (I 0))] _ E ⟨(Es E),E⟩ (aC E ?_)
 obtain ⟨n,F,h⟩:=aM h
 refine bA (ι:=Int) ⟨fun z=>n z=some r,fun z=>[(0,.v (sL e b f)),(1,.v (I a)),(7,.v (I c)),(8,.v (I z))],fun z=>.nil,fun z=>[⟨.byte,⟨e,b.length,f⟩,b⟩],fun z=>[],fun z=>0⟩ ?_ ?_
 ·
  refine JS.loop (ι:=Nat×Int×Int) ⟨fun z=>aZ (fC b a c n) z.1 z.2=some r,fun z=>[(0,.v (sL e b f)),(1,.v (I a)),(7,.v (I c)),(8,.v (I z.2.1)),(55,.v (sL j (bJ b (W (a+1)) (W (a+c))) k)),(56,.v (I ((bJ b (W (a+1)) (W (a+c))).length:Int))),(57,.v (I z.2.2))],fun z=>.nil,fun z=>[⟨.byte,⟨e,b.length,f⟩,b⟩,⟨.byte,⟨j,(bJ b (W (a+1)) (W (a+c))).length,k⟩,(bJ b (W (a+1)) (W (a+c)))⟩],fun z=>[],fun z=>z.1⟩ (bO,C,0) h (Es E) V [1,0] E [] E ?_
  rintro ⟨o,g,d⟩ h
  obtain ⟨o,rfl,h⟩:=bK h
  rw [fC] at h
  refine aE aA 1 [(58,.v (.bool (decide (d<((bJ b (W (a+1)) (W (a+c))).length:Int)))))] ev1 E E (JS.seq ?_)
  refine aJ E h (fun h=>?_) (fun h=>?_)
  ·
   refine JS.skip (JS.seq (JS.block (JS.seq (JS.region (cC 1 E fun G=>?_)))))
   obtain ⟨p,h⟩:=aH h
   refine aB aA 1 [] [] [(59,.ep ⟨j,(bJ b (W (a+1)) (W (a+c))).length,k⟩ (Int.toNat d*1))] _ E ⟨G.ix p,ev2,E⟩ (JO.load aA E E E E E E E 1 E E (Int.toNat d) 0 (at' (bJ b (W (a+1)) (W (a+c))) d) ⟨bH p,E⟩ E E (aB aA 1 [] [] [(10,.v (.int .u8 ((at' (bJ b (W (a+1)) (W (a+c))) d).toNat:Int)))] _ E ev1 (aC E (cS aA 7 [(W (g*64)),((at' (bJ b (W (a+1)) (W (a+c))) d).toNat:Int),(W ((W (g*64))+((at' (bJ b (W (a+1)) (W (a+c))) d).toNat:Int))),(W ((W ((W (g*64))+((at' (bJ b (W (a+1)) (W (a+c))) d).toNat:Int))) - 128))] [] [(8,.v (I (W ((W ((W (g*64))+((at' (bJ b (W (a+1)) (W (a+c))) d).toNat:Int))) - 128))))] _ ⟨ev5,⟨V,aD7 _⟩,ev5,ev5,ev2,E⟩ E E (aV (cS aA 2 [(W (d+1))] [] [(57,.v (I (W (d+1))))] _ ev4 E E (bZ (o,(W ((W ((W (g*64))+((at' (bJ b (W (a+1)) (W (a+c))) d).toNat:Int))) - 128)),(W (d+1))) h (Nat.lt_succ_self _) (Es E) V [0,1] E [] E)))))))
  refine JS.exit E (aO g h (Es E) V [0] E [] E)
 rintro l h
 subst F
 refine JS.seq (JS.seq ?_)
 obtain ⟨H,J,h⟩:=aD h
 obtain ⟨i,h⟩:=aH h
 refine xQ 0 E a (W (a+c)) fun N O K=>iK 1 E fun L=>?_
 refine bE E .nil [0] [10] V E (fun P=>?_)
 refine cD aA aI true 5 [0,3,4,5,6,7] E (by kernel_rfl) [(W (a+c))] [(68,.v (I l)),(71,.v (sL e b f)),(72,.v (I a)),(75,.v (I (W (a+c))))] V [0] E E ⟨ev5,(Es E)⟩ (pZ aA aI 8 E (by kernel_rfl) E E E E E E a (W (a+c)) E E ⟨i.1,i.2.1,i.2.2,L.cap,K i⟩ E (aQn aA aI 9 E (by kernel_rfl) E E E E E E E 0 E E V [0] E (JA.one 1 (by kernel_rfl) (JK.call E E E E (wM l _ J) E [] E E ?_))))
 rintro ⟨Q,R⟩ -
 refine aQ V [0] E (JA.one 2 (by kernel_rfl) (aQm aA E E E E E E E E 2 E E (aQ V [0] E (aW aA aI 0 [10] E (by kernel_rfl) [] [(78,.v (.bool (!(decide (H=(bJ b a (W (a+c))))))))] E ev2 (bI (by kernel_rfl) (bC (B':=.nil) V ?_))))))
 refine aJ E h (fun h=>?_) (fun h=>?_)
 ·
  refine aE aA 2 [(4,.v (I 0)),(5,.v (I 0))] ⟨(Es E),E⟩ E E ?_
  cases h
  exact JS.ret aA () V E E [] E
 refine JS.skip (aE aA 4 [(4,.v (I l)),(5,.v (I c))] ⟨(Es E),E⟩ E E ?_)
 cases h
 exact JS.ret aA () V E E [] E

def jE (c:List UInt8) (f:(List Int)→Option (List Int×Bool)) (g:(List Int×Int)→Option (List Int×Bool)):(List Int×Int)→Option (List Int×Bool):=fun (a,b)=>(bif decide (b<(c.length:Int)) then (aF (pF c b) fun (d,e)=>(bif decide (e=0) then some ([],false) else (aN (a.length+([d]:List Int).length≤536870912) <|g ((a ++ ([d]:List Int)),(W (b+e)))))) else f a)

def oH (a:List UInt8):Option (List Int×Bool):= (bif decide (65536<(a.length:Int)) then some ([],false) else (aT (fun (b:List Int)=> some (b,true)) fun c=>(aZ (jE a c) bO (([]:List Int),0))))

theorem aAb (a:List UInt8) (r:List Int×Bool) (h:oH a=some r) :
 FC Tryz.prog 62 [.string (bs a)] [] (fun _:Option Addr×Nat=>True) (fun q=>.tuple #[sL q.1 r.1 q.2,.bool r.2]) (fun q=>[fI q.1 q.2 r.1]):= by
 refine FC.of (T:=TTx) Tryz.call62 Tryz.func62 E E fun x=>?_
 unfold oH at h
 refine aE aA 2 [] ev5 E E (JS.seq (aE aA 3 [(11,.v (.bool (decide (65536<(a.length:Int)))))] ev1 E E ?_))
 refine aJ E h (fun h=>?_) (fun h=>?_)
 ·
  refine aE aA 2 [(2,.v (.slice none 0 0)),(3,.v (.bool false))] ⟨(Es E),E⟩ E E ?_
  cases h
  refine aX iT Sl.nil E E (JS.ret aA (none,0) V E E [0] E)
 refine JS.skip (aE aA 1 [(4,.v (.slice none 0 0))] ev1 E E (JS.seq (JS.region (aB aA 1 [] [] [(12,.v (.string (bs a)))] _ E ev1 (aLl aA E E E E E E E E E fun c d=>aB aA 1 [] [] [(5,.v (sL c a d))] _ E ev1 (aC E (JS.seq (aE aA 1 [(6,.v (I 0))] ev1 E E ?_))))))))
 obtain ⟨i,s,h⟩:=aM h
 refine bA (ι:=List Int×Option Addr×Nat) ⟨fun z=>i z.1=some r,fun z=>[(4,.v (sL z.2.1 z.1 z.2.2))],fun z=>.nil,fun z=>[],fun z=>[fI z.2.1 z.2.2 z.1],fun z=>0⟩ ?_ ?_
 ·
  refine aX iT Sl.nil E E (JS.loop (ι:=Nat×List Int×Int×Option Addr×Nat) ⟨fun z=>aZ (jE a i) z.1 (z.2.1,z.2.2.1)=some r,fun z=>[(4,.v (sL z.2.2.2.1 z.2.1 (Q4 z))),(5,.v (sL c a d)),(6,.v (I z.2.2.1))],fun z=>.nil,fun z=>[],fun z=>[fI z.2.2.2.1 (Q4 z) z.2.1,⟨.byte,⟨c,a.length,d⟩,a⟩],fun z=>z.1⟩ (bO,([]:List Int),0,none,0) h (Es E) V [] E [0,0] E ?_)
  rintro ⟨j,g,b,k,l⟩ h
  obtain ⟨j,rfl,h⟩:=bK h
  rw [jE] at h
  refine JS.seq (aE aA 4 [(17,.v (.bool (decide (b<(a.length:Int)))))] ev1 E E ?_)
  refine aJ E h (fun h=>?_) (fun h=>?_)
  ·
   refine JS.skip (JS.block (JS.seq (JS.region (aB aA 2 [] [] [(19,.v (sL c a d)),(20,.v (I b))] _ E ⟨(Es E),E⟩ ?_))))
   obtain ⟨⟨e,f⟩,t,h⟩:=aD h
   refine JO.call E E E E (aEs a b c d _ t) E [1] E E fun _ _=>aB aA 5 [] [] [(7,.v (I e)),(8,.v (I f))] _ E ⟨(Es E),E⟩ (aC E (JS.seq (aE aA 2 [(25,.v (.bool (decide (f=0))))] ev1 E E ?_)))
   refine aJ E h (fun h=>?_) (fun h=>?_)
   ·
    refine aE aA 2 [(2,.v (.slice none 0 0)),(3,.v (.bool false))] ⟨(Es E),E⟩ E E ?_
    cases h
    refine aX iT Sl.nil E E (JS.ret aA (none,0) V E E [0] E)
   refine JS.skip (JS.seq (JS.region (aB aA 2 [] [] [(26,.v (sL k g l)),(27,.v (I e))] _ E ⟨(Es E),E⟩ ?_)))
   refine kU E (JK.buildSlice aA E E E E E E E E E E E [] E iT [e] ⟨E,E⟩ E E fun y=>kT ?_)
   obtain ⟨u,h⟩:=aH h
   refine jK aA E E E E ⟨E,E,E,E,V,E,E,E,E⟩ E E E [1] E 0 E u E fun m n=>aB aA 1 [] [] [(4,.v (sL m (g ++ ([e]:List Int)) n))] _ E ev1 (aC E (cS aA 4 [(W (b+f))] [] [(6,.v (I (W (b+f))))] _ ev4 E E (aV (bZ (j,(g ++ ([e]:List Int)),(W (b+f)),m,n) h (Nat.lt_succ_self _) (Es E) V [] E [0,1] E))))
  refine JS.exit E (aO (g,k,l) h ev2 V [] E [0] E)
 rintro ⟨w,o,p⟩ h
 subst s
 refine aE aA 3 [(2,.v (sL o w p)),(3,.v (.bool true))] ⟨(Es E),E⟩ E E ?_
 cases h
 exact JS.ret aA (o,p) V E E [0] E

def pU (c:List UInt8):Option ((List Int×Int)×Bool):= (aF (oH c) fun (a,b)=>(cA ((!b)=false) (eJ (a,(a.length:Int))) false fun d=>(bif (bif (!b) then true else (!d)) then some (([],0),false) else some ((a,(a.length:Int)),true))))

theorem aBw (d:List UInt8) (r:(List Int×Int)×Bool) (h:pU d=some r) :
 FC Tryz.prog 59 [.string (bs d)] [] (fun _:Option Addr×Nat=>True) (fun q=>.tuple #[.agg #[sL q.1 r.1.1 q.2,I r.1.2],.bool r.2]) (fun q=>[fI q.1 q.2 r.1.1]):= by
 refine FC.of (T:=TTx) Tryz.call59 Tryz.func59 E E fun k=>?_
 unfold pU at h
 refine aS aA 2 [] [1] [(2,.bp 1 0)] (.new 1 38 [.slice none 0 0,I 0] .nil) ⟨ev2,(Bs E E)⟩ E E (JS.seq (JS.region (aB aA 1 [] [] [(8,.v (.string (bs d)))] _ E ev1 ?_)))
 obtain ⟨⟨a,e⟩,f,h⟩:=aD h
 refine JO.call E E E E (aAb d _ f) E [] E E ?_
 rintro ⟨b,c⟩ -
 refine aB aA 5 [] [] [(4,.v (sL b a c)),(5,.v (.bool e))] _ E ⟨(Es E),E⟩ (aC E (aS aA 6 [] [8] [(6,.bp 8 0)] (.new 1 38 [.slice none 0 0,I 0] (.new 8 38 [sL b a c,I (a.length:Int)] .nil)) ⟨ev2,(Bs E E)⟩ E E (JS.seq (JS.seq (JS.region (aB aA 4 [] [] [(18,.v (.bool (!e))),(19,.cd [(18,false)] (.v (.agg #[sL b a c,I (a.length:Int)])))] _ E ⟨(Es E),E⟩ ?_))))))
 obtain ⟨g,i,-,h⟩:=bB h
 refine bR E E E E (fun j=>gE (a,(a.length:Int)) b c _ (i j)) E [0] E E (aB aA 2 [] [] [(22,.v (.bool (bif (!e) then true else (!g))))] _ E ev1 (aC E ?_))
 refine aJ E h (fun h=>?_) (fun h=>?_)
 ·
  refine aS aA 3 [] [] [(3,.v (.bool false))] (.new 1 38 [.slice none 0 0,I 0] .nil) ⟨ev2,(Bs E E)⟩ E E ?_
  cases h
  refine aX iT Sl.nil E E (JS.ret aA (none,0) V E E [0] E)
 refine JS.skip (aS aA 3 [] [] [(3,.v (.bool true))] (.new 1 38 [sL b a c,I (a.length:Int)] .nil) ⟨ev2,(Bs E E)⟩ E E ?_)
 cases h
 exact JS.ret aA (b,c) V E E [0] E

def lN (b:List Int) (c:Unit→Option (EdQ×Bool)) (d:Int→Option (EdQ×Bool)):Int→Option (EdQ×Bool):=fun a=>(bif decide (a<(b.length:Int)) then (aN (0≤a∧a<(b.length:Int)) <|(aF (eF (at' b a)) fun e=>(bif (!e) then some ((false,0,([],0),0,0,0,0,0,0,0,[],[],0,([],0),[],0,([],0)),false) else d (W (a+1))))) else c ())

def jH (b:EdQ) (i:Int×List (List UInt8)) (f:Int) (c:List Int):Option (EdQ×Bool):= (aF (lS b) fun j=>(bif (bif (bif (!j) then true else (!(decide (b.2.1=3)))) then true else (decide (40<(c.length:Int)))) then some ((false,0,([],0),0,0,0,0,0,0,0,[],[],0,([],0),[],0,([],0)),false) else (aT (fun (_:Unit)=>(aF (jJ i f) fun (d,k)=>(aF (pU d) fun (l,m)=>(aF (jR c) fun n=>(aF (gA d n) fun e=>(bif (bif (bif (!k) then true else (!m)) then true else (decide (e<0))) then some ((false,0,([],0),0,0,0,0,0,0,0,[],[],0,([],0),[],0,([],0)),false) else (aN (0≤(0:Int)∧(0:Int)≤e∧e≤(d.length:Int)) <|(aF (oH (bJ d 0 e)) fun (o,t)=>(aF (cK b) fun a=>(aT (fun ((p,q):List Int×Int)=>(aF (cL c) fun r=> some ((a.1,a.2.1,(l.1,(o.length:Int)),a.2.2.2.1,a.2.2.2.2.1,a.2.2.2.2.2.1,a.2.2.2.2.2.2.1,a.2.2.2.2.2.2.2.1,a.2.2.2.2.2.2.2.2.1,a.2.2.2.2.2.2.2.2.2.1,a.2.2.2.2.2.2.2.2.2.2.1,[],f,(p,q),r,f,a.2.2.2.2.2.2.2.2.2.2.2.2.2.2.2.2),true))) fun g=>(bif decide (b.2.2.2.2.2.2.2.2.2.2.2.2.1=0) then (aF (dA b.2.2.2.2.2.2.2.2.2.2.2.2.2.2.2.2) fun h=> g (h.1,h.2)) else g (a.2.2.2.2.2.2.2.2.2.2.2.2.2.1.1,a.2.2.2.2.2.2.2.2.2.2.2.2.2.1.2)))))))))))) fun s=>(aZ (lN c s) bO 0))))

theorem aGi (d:EdQ) (e:Int×List (List UInt8)) (j:Int) (c:List Int) (f:P6) (o:Option Addr) (p:Nat) (g:Option Addr) (i:Nat) (u:Int) (r:EdQ×Bool) (h:jH d e j c=some r):
 FC Tryz.prog 16 [.agg (aG d f).toArray,.agg #[I e.1,sL o e.2 p],I j,sL g c i] (cH d f [⟨.str,⟨o,e.2.length,p⟩,e.2⟩,fI g i c,⟨iT,⟨(some ⟨0,0,none⟩),1,1⟩,[u]⟩]) (fun _:Option Addr×Nat×Option Addr×Nat×Option Addr×Nat×Option Addr×Nat×Option Addr×Nat=>True) (fun q=>.tuple #[.agg (aG (U11 r.1 []) (q.1,q.2.1,q.2.2.1,q.2.2.2.1,none,0,(Q4 q))).toArray,.bool r.2]) (fun q=>[fI q.1 q.2.1 r.1.2.2.1.1,⟨(.sl iT),⟨q.2.2.1,r.1.2.2.2.2.2.2.2.2.2.2.1.length,q.2.2.2.1⟩,r.1.2.2.2.2.2.2.2.2.2.2.1⟩,fI (Q4 q).1 (Q4 q).2.1 r.1.2.2.2.2.2.2.2.2.2.2.2.2.2.1.1,fI (Q4 q).2.2.1 (Q4 q).2.2.2.1 r.1.2.2.2.2.2.2.2.2.2.2.2.2.2.2.1,fI (Q8 q).1 (Q8 q).2 r.1.2.2.2.2.2.2.2.2.2.2.2.2.2.2.2.2.1]):= by
 refine FC.of (T:=TTx) Tryz.call16 Tryz.func16 E E fun w0=>?_
 unfold jH at h
 refine aS aA 4 [] [10,11,12] [(4,.bp 10 0),(5,.bp 11 0),(8,.bp 12 0)] (.new 10 46 (aG d f) (.new 11 50 [I e.1,sL o e.2 p] (.new 12 46 bG .nil))) ⟨(Es E),(Bs E E)⟩ E E (JS.seq (JS.seq (JS.region (aB aA 1 [] [] [(20,.v (.agg (aG d f).toArray))] _ E ev1 ?_))))
 refine bnw h fun P Q h=>JO.call E E E E (tX d f _ Q) E [0,1,2,3,4,5] E E fun _ _=>aB aA 11 [] [] [(32,.v (.bool (bif (bif (!P) then true else (!(decide (d.2.1=3)))) then true else (decide (40<(c.length:Int))))))] _ E ev1 (aC E ?_)
 refine aJ E h (fun h=>?_) (fun h=>?_)
 ·
  refine aS aA 3 [] [] [(9,.v (.bool false))] (.new 12 46 bG .nil) ⟨ev2,(Bs E E)⟩ E E ?_
  cases h
  refine aX iT Sl.nil E E (aX (.sl iT) Sl.nil E E (aX iT Sl.nil E E (aX iT Sl.nil E E (aX iT Sl.nil E E (JS.ret aA (none,0,none,0,none,0,none,0,none,0) V E E [4,3,2,1,0] E)))))
 refine JS.skip (JS.seq (aE aA 3 [(34,.v (sL g c i)),(35,.v (I (c.length:Int))),(36,.v (I 0))] ⟨(Es E),E⟩ E E ?_))
 obtain ⟨D,R,h⟩:=aM h
 refine bA (ι:=Unit) ⟨fun _=>D ()=some r,fun _=>[(2,.v (I j)),(3,.v (sL g c i)),(4,.bp 10 0),(5,.bp 11 0),(8,.bp 12 0)],fun _=>(.new 10 46 (aG d f) (.new 11 50 [I e.1,sL o e.2 p] (.new 12 46 bG .nil))),fun _=>(fI g i c :: (cH d f [⟨.str,⟨o,e.2.length,p⟩,e.2⟩,⟨iT,⟨(some ⟨0,0,none⟩),1,1⟩,[u]⟩])),fun _=>[],fun _=>0⟩ ?_ ?_
 ·
  refine JS.loop (ι:=Nat×Int) ⟨fun z=>aZ (lN c D) z.1 z.2=some r,fun z=>[(2,.v (I j)),(3,.v (sL g c i)),(4,.bp 10 0),(5,.bp 11 0),(8,.bp 12 0),(34,.v (sL g c i)),(35,.v (I (c.length:Int))),(36,.v (I z.2))],fun z=>(.new 10 46 (aG d f) (.new 11 50 [I e.1,sL o e.2 p] (.new 12 46 bG .nil))),fun z=>(fI g i c :: (cH d f [⟨.str,⟨o,e.2.length,p⟩,e.2⟩,⟨iT,⟨(some ⟨0,0,none⟩),1,1⟩,[u]⟩])),fun z=>[],fun z=>z.1⟩ (bO,0) h (Es E) (Bs E E) [7,0,1,2,3,4,5,6,8] E [] E ?_
  rintro ⟨F,n⟩ h
  obtain ⟨F,rfl,h⟩:=bK h
  rw [lN] at h
  refine aE aA 1 [(37,.v (.bool (decide (n<(c.length:Int)))))] ev1 E E (JS.seq ?_)
  refine aJ E h (fun h=>?_) (fun h=>?_)
  ·
   refine JS.skip (JS.seq (JS.block (JS.seq (JS.region (cC 0 E fun S=>?_)))))
   obtain ⟨G,h⟩:=aH h
   refine aB aA 1 [] [] [(38,.ep ⟨g,c.length,i⟩ (Int.toNat n*1))] _ E ⟨S.ix G,ev2,E⟩ (JO.load aA E E E E E E E 0 E E (Int.toNat n) 0 (at' c n) ⟨bH G,E⟩ E E (aB aA 1 [] [] [(11,.v (I (at' c n)))] _ E ev1 (aC E (JS.seq (JS.region (aB aA 1 [] [] [(40,.v (I (at' c n)))] _ E ev1 ?_))))))
   refine bnw h fun U X h=>JO.call E E E E (iW (at' c n) _ X) E [] E E fun _ _=>aB aA 1 [] [] [(42,.v (.bool (!U)))] _ E ev1 (aC E ?_)
   refine aJ E h (fun h=>?_) (fun h=>?_)
   ·
    refine aS aA 3 [] [] [(9,.v (.bool false))] (.new 12 46 bG .nil) ⟨ev2,(Bs E E)⟩ E E ?_
    cases h
    refine aX iT Sl.nil E E (aX (.sl iT) Sl.nil E E (aX iT Sl.nil E E (aX iT Sl.nil E E (aX iT Sl.nil E E (JS.ret aA (none,0,none,0,none,0,none,0,none,0) V E E [4,3,2,1,0] E)))))
   refine JS.skip (aV (cS aA 2 [(W (n+1))] [] [(36,.v (I (W (n+1))))] _ ev4 E E (bZ (F,(W (n+1))) h (Nat.lt_succ_self _) (Es E) (Bs E E) [0,1,2,3,4,5,6,7,8] E [] E)))
  refine JS.exit E (aO () h (Es E) (Bs E E) [0,1,2,3,4,5,6,7,8] E [] E)
 rintro _ h
 subst R
 refine JS.seq (JS.region (aB aA 2 [] [] [(46,.v (.agg #[I e.1,sL o e.2 p])),(47,.v (I j))] _ E ⟨(Es E),E⟩ ?_))
 obtain ⟨⟨t,H⟩,Y,h⟩:=aD h
 refine JO.call E E E E (aAd e j o p _ Y) E [7] E E fun _ _=>aB aA 5 [] [] [(12,.v (.string (bs t))),(13,.v (.bool H))] _ E ⟨(Es E),E⟩ (aC E (JS.seq (JS.region (aB aA 1 [] [] [(52,.v (.string (bs t)))] _ E ev1 ?_))))
 obtain ⟨⟨k,J⟩,Z,h⟩:=aD h
 refine JO.call E E E E (aBw t _ Z) E [] E E ?_
 rintro ⟨l,m⟩ -
 refine aL aA 6 [] [112] [(14,.bp 112 0),(15,.v (.bool J))] (.new 10 46 (aG d f) (.new 12 46 bG (.new 112 38 [sL l k.1 m,I k.2] .nil))) E ⟨(Es E),(Bs E E)⟩ (aC E (JS.seq (JS.region (aB aA 2 [] [] [(56,.v (.string (bs t))),(57,.v (sL g c i))] _ E ⟨(Es E),E⟩ ?_))))
 refine bnw h fun a0 a1 h=>JO.call E E E E (aBu c g i _ a1) E [0] E E fun _ _=>?_
 refine bnw h fun w a2 h=>JO.call E E E E (tQ t a0 u _ a2) E [8] E E fun _ _=>aB aA 1 [] [] [(16,.v (I w))] _ E ev1 (aC E (JS.seq (aE aA 10 [(69,.v (.bool (bif (bif (!H) then true else (!J)) then true else (decide (w<0)))))] ev1 E E ?_)))
 refine aJ E h (fun h=>?_) (fun h=>?_)
 ·
  refine aS aA 3 [] [] [(9,.v (.bool false))] (.new 12 46 bG .nil) ⟨ev2,(Bs E E)⟩ E E ?_
  cases h
  refine aX iT Sl.nil E E (aX (.sl iT) Sl.nil E E (aX iT Sl.nil E E (aX iT Sl.nil E E (aX iT Sl.nil E E (JS.ret aA (none,0,none,0,none,0,none,0,none,0) V E E [4,3,2,1,0] E)))))
 refine JS.skip (JS.seq (JS.region ?_))
 obtain ⟨a3,h⟩:=aH h
 refine aB aA 3 [] [] [(74,.v (.string (bs (bJ t 0 w))))] _ E ⟨a3,ev2,E⟩ ?_
 obtain ⟨⟨s,b3⟩,a4,h⟩:=aD h
 refine JO.call E E E E (aAb (bJ t 0 w) _ a4) E [] E E ?_
 rintro ⟨a5,a6⟩ -
 refine aB aA 5 [] [] [(17,.v (sL a5 s a6))] _ E ev1 (aC E (aS aA 4 [] [] [] (.new 10 46 (aG d f) (.new 12 46 bG (.new 112 38 [sL l k.1 m,I (s.length:Int)] .nil))) ⟨V,(Bs E E)⟩ E E (JS.seq (JS.region (aB aA 1 [] [] [(81,.v (.agg (aG d f).toArray))] _ E ev1 ?_)))))
 refine bnw h fun b a7 h=>JO.call E E E E (dK d f _ a7) E [1,2,3,4,5,6] E E fun a _=>aL aA 2 [] [144] [(19,.bp 144 0)] (.new 10 46 (aG d f) (.new 12 46 bG (.new 112 38 [sL l k.1 m,I (s.length:Int)] (.new 144 46 (aG b a) .nil)))) E ⟨ev2,(Bs E E)⟩ (aC E ?_)
 obtain ⟨a8,a9,h⟩:=aM h
 refine cJ (ι:=List Int×Int×Option Addr×Nat) ⟨fun z=>a8 (z.1,z.2.1)=some r,fun z=>[(2,.v (I j)),(3,.v (sL g c i)),(8,.bp 12 0),(14,.bp 112 0),(19,.bp 144 0)],fun z=>(.new 12 46 bG (.new 112 38 [sL l k.1 m,I (s.length:Int)] (.new 144 46 (aG (U13 b (z.1,z.2.1)) (a.1,a.2.1,a.2.2.1,a.2.2.2.1,(Q4 a).1,(Q4 a).2.1,z.2.2.1,z.2.2.2,(Q8 a))) .nil))),fun z=>[fI g i c,⟨iT,⟨(some ⟨0,0,none⟩),1,1⟩,[u]⟩],fun z=>[fI z.2.2.1 z.2.2.2 z.1,fI l m k.1,fI a.1 a.2.1 b.2.2.1.1,⟨(.sl iT),⟨a.2.2.1,(Q8 b).2.2.1.length,a.2.2.2.1⟩,(Q8 b).2.2.1⟩,⟨(.pair (.sl iT) iT),⟨(Q4 a).1,(Q8 b).2.2.2.1.length,(Q4 a).2.1⟩,(Q8 b).2.2.2.1⟩,fI (Q8 a).1 (Q8 a).2.1 (Q12 b).2.2.1,fI (Q8 a).2.2.1 (Q8 a).2.2.2 (Q16 b).1],fun z=>0⟩ ?_ ?_
 ·
  refine aE aA 3 [(85,.v (.bool (decide ((Q12 d).1=0))))] ev1 E E ?_
  refine aJ E h (fun h=>?_) (fun h=>?_)
  ·
   refine JS.region (aB aA 2 [] [] [(87,.v (.agg #[sL (Q8 f).2.2.1 (Q16 d).1 (Q8 f).2.2.2,I (Q16 d).2]))] _ E ev1 ?_)
   refine bnw h fun x b0 h=>JO.call E E E E (dW (Q16 d) (Q8 f).2.2.1 (Q8 f).2.2.2 _ b0) E [6] E E ?_
   rintro ⟨K,L⟩ -
   refine aL aA 2 [] [] [] (.new 12 46 bG (.new 112 38 [sL l k.1 m,I (s.length:Int)] (.new 144 46 (aG (U13 b x) (a.1,a.2.1,a.2.2.1,a.2.2.2.1,(Q4 a).1,(Q4 a).2.1,K,L,(Q8 a))) .nil))) E ⟨V,(Bs E E)⟩ (aC E (bT (x.1,x.2,K,L) h (Es E) (Bs E E) [0,8] E [0,8,1,2,3,5,6] E E))
  refine JS.skip (bT ((Q12 b).2.1.1,(Q12 b).2.1.2,(Q4 a).2.2.1,(Q4 a).2.2.2.1) h (Es E) (Bs E E) [0,8] E [3,7,0,1,2,4,5] E E)
 rintro ⟨M,N,y,A⟩ h
 subst a9
 refine JS.seq ?_
 refine bnw h fun O b1 h=>bE E (.new 112 38 [sL l k.1 m,I (s.length:Int)] .nil) [] [6,7,8,9,10,11,12,13,14,15] ev3 E (fun b4=>?_)
 refine cD aA aI true 15 [0] E (by kernel_rfl) [] [(90,.v (.agg #[sL l k.1 m,I (s.length:Int)]))] ev3 [] E E ev2 (aW aA aI 10 [1,3,4,5,6] E (by kernel_rfl) [] [(91,.v (sL g c i)),(93,.v (I j)),(94,.v (I j)),(95,.v (.agg #[.slice none 0 0])),(96,.bp 144 2)] E (Es E) (JA.one 2 (by kernel_rfl) (JK.call E E E E (dC c g i _ b1) E [0] E E ?_)))
 rintro ⟨B,C⟩ -
 refine aQ ev3 [] E (JA.one 7 (by kernel_rfl) (aY aA E E E E E E E E (aR E (aW aA aI 7 [8] E (by kernel_rfl) [] [(97,.bp 144 16)] E ev2 (JA.one 9 (by kernel_rfl) (aY aA E E E E E E E E (aR E (aW aA aI 5 [10] E (by kernel_rfl) [] [(98,.bp 144 17)] E ev2 (JA.one 11 (by kernel_rfl) (aY aA E E E E E E E E (aR E (aW aA aI 3 [12] E (by kernel_rfl) [] [(99,.bp 144 13)] E ev2 (JA.one 13 (by kernel_rfl) (aY aA E E E E E E E E (aR E (aW aA aI 1 [14] E (by kernel_rfl) [] [(100,.bp 144 12)] E ev2 (JA.one 15 (by kernel_rfl) (aY aA E E E E E E E E (aR E (bI (by kernel_rfl) (bC (B':=(.new 12 46 bG (.new 144 46 (aG (b.1,b.2.1,(k.1,(s.length:Int)),b.2.2.2.1,(Q4 b).1,(Q4 b).2.1,(Q4 b).2.2.1,(Q4 b).2.2.2.1,(Q8 b).1,(Q8 b).2.1,(Q8 b).2.2.1,[],j,(M,N),O,j,(Q16 b)) (l,m,a.2.2.1,a.2.2.2.1,none,0,y,A,B,C,(Q8 a).2.2)) .nil))) (Bs E E) (aS aA 3 [] [] [(9,.v (.bool true))] (.new 12 46 (aG (b.1,b.2.1,(k.1,(s.length:Int)),b.2.2.2.1,(Q4 b).1,(Q4 b).2.1,(Q4 b).2.2.1,(Q4 b).2.2.2.1,(Q8 b).1,(Q8 b).2.1,(Q8 b).2.2.1,[],j,(M,N),O,j,(Q16 b)) (l,m,a.2.2.1,a.2.2.2.1,none,0,y,A,B,C,(Q8 a).2.2)) .nil) ⟨ev2,(Bs E E)⟩ E E ?_))))))))))))))))))))))
 cases h
 exact JS.ret aA (l,m,a.2.2.1,a.2.2.2.1,y,A,B,C,(Q8 a).2.2) V E E [2,3,1,0,3] E

def uL (b:EdQ) (c:Int×List (List UInt8)) (d:List Int) (f:Int):Option (EdQ×Int):= (aT (fun (g:Int)=>(aF (jR d) fun h=>(aF (iJ c h g (-1) false) fun i=>(aF (jH b c i d) fun (a,j)=>(bif (!j) then (aF (cK b) fun k=> some (k,1)) else some ((a.1,a.2.1,a.2.2.1,a.2.2.2.1,a.2.2.2.2.1,a.2.2.2.2.2.1,a.2.2.2.2.2.2.1,a.2.2.2.2.2.2.2.1,a.2.2.2.2.2.2.2.2.1,a.2.2.2.2.2.2.2.2.2.1,a.2.2.2.2.2.2.2.2.2.2.1,[],a.2.2.2.2.2.2.2.2.2.2.2.2.1,a.2.2.2.2.2.2.2.2.2.2.2.2.2.1,a.2.2.2.2.2.2.2.2.2.2.2.2.2.2.1,a.2.2.2.2.2.2.2.2.2.2.2.2.2.2.2.1,a.2.2.2.2.2.2.2.2.2.2.2.2.2.2.2.2),0)))))) fun e=>(bif decide (b.2.2.2.2.2.2.2.2.2.2.2.2.2.2.2.1=0) then (aF (jT c) fun l=> e l) else e f))

theorem aA5 (b:EdQ) (a:Int×List (List UInt8)) (f:List Int) (k:Int) (e:P6) (c:Option Addr) (d:Nat) (g:Option Addr) (i:Nat) (j:Int) (r:EdQ×Int) (h:uL b a f k=some r):
 FC Tryz.prog 85 [.agg (aG b e).toArray,.agg #[I a.1,sL c a.2 d],sL g f i,I k] (cH b e [⟨.str,⟨c,a.2.length,d⟩,a.2⟩,fI g i f,⟨iT,⟨(some ⟨0,0,none⟩),1,1⟩,[j]⟩]) (fun _:P6=>True) (fun q=>.tuple #[.agg (aG r.1 q).toArray,I r.2]) (fun q=>(cH r.1 q [])):= by
 refine FC.of (T:=TTx) Tryz.call85 Tryz.func85 E E fun Q=>?_
 unfold uL at h
 refine aS aA 4 [] [10,11,12] [(4,.bp 10 0),(5,.bp 11 0),(8,.bp 12 0)] (.new 10 46 (aG b e) (.new 11 50 [I a.1,sL c a.2 d] (.new 12 46 bG .nil))) ⟨(Es E),(Bs E E)⟩ E E ?_
 obtain ⟨G,H,h⟩:=aM h
 refine cJ (ι:=Int) ⟨fun z=>G z=some r,fun z=>[(2,.v (sL g f i)),(3,.v (I z)),(4,.bp 10 0),(5,.bp 11 0),(8,.bp 12 0)],fun z=>(.new 10 46 (aG b e) (.new 11 50 [I a.1,sL c a.2 d] (.new 12 46 bG .nil))),fun z=>(fI g i f :: (cH b e [⟨.str,⟨c,a.2.length,d⟩,a.2⟩,⟨iT,⟨(some ⟨0,0,none⟩),1,1⟩,[j]⟩])),fun z=>[],fun z=>0⟩ ?_ ?_
 ·
  refine aE aA 3 [(15,.v (.bool (decide ((Q12 b).2.2.2.1=0))))] ev1 E E ?_
  refine aJ E h (fun h=>?_) (fun h=>?_)
  ·
   refine JS.region (aB aA 1 [] [] [(16,.v (.agg #[I a.1,sL c a.2 d]))] _ E ev1 ?_)
   obtain ⟨A,J,h⟩:=aD h
   refine JO.call E E E E (yA a c d _ J) E [6] E E fun _ _=>aB aA 1 [] [] [(3,.v (I A))] _ E ev1 (aC E (aO A h (Es E) (Bs E E) [7,0,1,2,3,4,5,6,8] E [] E))
  refine JS.skip (aO k h (Es E) (Bs E E) [7,0,1,2,3,4,5,6,8] E [] E)
 rintro B h
 subst H
 refine JS.seq ?_
 obtain ⟨K,L,h⟩:=aD h
 refine bnw h fun l M h=>eZ E (by kernel_rfl) (eC aA 2 [] [(18,.v (.agg #[I a.1,sL c a.2 d])),(19,.v (sL g f i))] E (Es E) (JQ.call E E E E (aBu f g i _ L) E [0] E E (eC aA 1 [] [(21,.v (I B))] E ev2 (JQ.call E E E E (aEv a K B (-1) false c d j _ M) E [7,8] E E (eC aA 1 [] [(10,.v (I l))] E ev2 (kW E (JS.seq (JS.region (aB aA 4 [] [] [(24,.v (.agg (aG b e).toArray)),(25,.v (.agg #[I a.1,sL c a.2 d])),(26,.v (I l)),(27,.v (sL g f i))] _ E ⟨(Es E),E⟩ ?_)))))))))
 obtain ⟨⟨C,D⟩,N,h⟩:=aD h
 refine JO.call E E E E (aGi b a l f e c d g i j _ N) E [1,2,3,4,5,6,7,0,8] E E ?_
 rintro ⟨m,n,o,p,s,t,u,w,x,y⟩ -
 refine aL aA 6 [] [39] [(11,.bp 39 0),(12,.v (.bool D))] (.new 10 46 (aG b e) (.new 12 46 bG (.new 39 46 (aG (U11 C []) (m,n,o,p,none,0,s,t,u,w,x,y)) .nil))) E ⟨(Es E),(Bs E E)⟩ (aC E (JS.seq (aE aA 2 [(32,.v (.bool (!D)))] ev1 E E ?_)))
 refine aJ E h (fun h=>?_) (fun h=>?_)
 ·
  refine JS.seq (JS.region (aB aA 1 [] [] [(33,.v (.agg (aG b e).toArray))] _ E ev1 ?_))
  refine bnw h fun O P h=>JO.call E E E E (dK b e _ P) E [1,2,3,4,5,6] E E fun F _=>aL aA 2 [] [] [(9,.v (I 1))] (.new 12 46 (aG O F) .nil) E ⟨ev2,(Bs E E)⟩ (aC E ?_)
  cases h
  exact JS.ret aA F V E E [0,0,0,0,0,0] E
 refine JS.skip (aS aA 3 [] [] [(9,.v (I 0))] (.new 12 46 (aG (U11 C []) (m,n,o,p,none,0,s,t,u,w,x,y)) .nil) ⟨ev2,(Bs E E)⟩ E E ?_)
 cases h
 refine aX (.pair (.sl iT) iT) Sl.nil E E (JS.ret aA (m,n,o,p,none,0,s,t,u,w,x,y) V E E [1,1,0,0,0,0] E)

def nD (a:EdQ) (h:Int×List (List UInt8)) (g:Int×Int):Option (EdQ×Int):= (aF (nW a h g) fun j=>(bif (bif (!j) then true else (!(decide (a.2.1=3)))) then some ((false,0,([],0),0,0,0,0,0,0,0,[],[],0,([],0),[],0,([],0)),0) else (bif decide (g.1=1) then (aT (fun ((k,l):Int×EdQ)=> some (l,k)) fun m=>(aF (cL a.2.2.2.2.2.2.2.2.2.2.2.2.2.2.1) fun i=>(aN (i.length+([g.2]:List Int).length≤536870912) <|(aF (uL a h (i ++ ([g.2]:List Int)) a.2.2.2.2.2.2.2.2.2.2.2.2.2.2.2.1) fun (n,o)=> m (o,n))))) else (bif (bif (false ^^ (eqK g (2,114))) then (decide (0<(a.2.2.2.2.2.2.2.2.2.2.2.2.2.2.1.length:Int))) else false) then (aF (uL a h a.2.2.2.2.2.2.2.2.2.2.2.2.2.2.1 (W (a.2.2.2.2.2.2.2.2.2.2.2.2.2.2.2.1 - 1))) fun (p,q)=> some (p,q)) else (bif (bif (false ^^ (eqK g (2,114))) then true else (bif decide (g.1=5) then (decide ((a.2.2.2.2.2.2.2.2.2.2.2.2.2.2.1.length:Int)=0)) else false)) then (aF (cK a) fun r=> some (r,1)) else (bif decide (g.1=5) then (aF (cK a) fun b=>(aN (0≤(0:Int)∧(0:Int)≤(W ((a.2.2.2.2.2.2.2.2.2.2.2.2.2.2.1.length:Int) - 1))∧(W ((a.2.2.2.2.2.2.2.2.2.2.2.2.2.2.1.length:Int) - 1))≤(b.2.2.2.2.2.2.2.2.2.2.2.2.2.2.1.length:Int)) <|some ((b.1,b.2.1,b.2.2.1,b.2.2.2.1,b.2.2.2.2.1,b.2.2.2.2.2.1,b.2.2.2.2.2.2.1,b.2.2.2.2.2.2.2.1,b.2.2.2.2.2.2.2.2.1,b.2.2.2.2.2.2.2.2.2.1,b.2.2.2.2.2.2.2.2.2.2.1,b.2.2.2.2.2.2.2.2.2.2.2.1,b.2.2.2.2.2.2.2.2.2.2.2.2.1,b.2.2.2.2.2.2.2.2.2.2.2.2.2.1,(bJ b.2.2.2.2.2.2.2.2.2.2.2.2.2.2.1 0 (W ((a.2.2.2.2.2.2.2.2.2.2.2.2.2.2.1.length:Int) - 1))),b.2.2.2.2.2.2.2.2.2.2.2.2.2.2.2.1,b.2.2.2.2.2.2.2.2.2.2.2.2.2.2.2.2),0))) else (bif decide (g.1=4) then (aF (sS a) fun c=> some ((c.1,c.2.1,c.2.2.1,c.2.2.2.1,c.2.2.2.2.1,c.2.2.2.2.2.1,c.2.2.2.2.2.2.1,c.2.2.2.2.2.2.2.1,c.2.2.2.2.2.2.2.2.1,c.2.2.2.2.2.2.2.2.2.1,c.2.2.2.2.2.2.2.2.2.2.1,c.2.2.2.2.2.2.2.2.2.2.2.1,c.2.2.2.2.2.2.2.2.2.2.2.2.1,c.2.2.2.2.2.2.2.2.2.2.2.2.2.1,[],c.2.2.2.2.2.2.2.2.2.2.2.2.2.2.2.1,([],c.2.2.2.2.2.2.2.2.2.2.2.2.2.2.2.2.2)),2)) else (bif (bif (false ^^ (eqK g (2,103))) then true else (false ^^ (eqK g (2,99)))) then (aF (cK a) fun f=>(aF (dA a.2.2.2.2.2.2.2.2.2.2.2.2.2.2.2.2) fun s=>(aF (sS (f.1,f.2.1,s,f.2.2.2.1,f.2.2.2.2.1,f.2.2.2.2.2.1,f.2.2.2.2.2.2.1,f.2.2.2.2.2.2.2.1,f.2.2.2.2.2.2.2.2.1,f.2.2.2.2.2.2.2.2.2.1,f.2.2.2.2.2.2.2.2.2.2.1,f.2.2.2.2.2.2.2.2.2.2.2.1,0,(([]:List Int),0),f.2.2.2.2.2.2.2.2.2.2.2.2.2.2.1,f.2.2.2.2.2.2.2.2.2.2.2.2.2.2.2.1,f.2.2.2.2.2.2.2.2.2.2.2.2.2.2.2.2)) fun d=> some ((d.1,d.2.1,d.2.2.1,d.2.2.2.1,d.2.2.2.2.1,d.2.2.2.2.2.1,d.2.2.2.2.2.2.1,d.2.2.2.2.2.2.2.1,d.2.2.2.2.2.2.2.2.1,d.2.2.2.2.2.2.2.2.2.1,d.2.2.2.2.2.2.2.2.2.2.1,d.2.2.2.2.2.2.2.2.2.2.2.1,d.2.2.2.2.2.2.2.2.2.2.2.2.1,d.2.2.2.2.2.2.2.2.2.2.2.2.2.1,[],d.2.2.2.2.2.2.2.2.2.2.2.2.2.2.2.1,([],d.2.2.2.2.2.2.2.2.2.2.2.2.2.2.2.2.2)),1)))) else (aF (sS a) fun e=> some ((e.1,e.2.1,e.2.2.1,e.2.2.2.1,e.2.2.2.2.1,e.2.2.2.2.2.1,e.2.2.2.2.2.2.1,e.2.2.2.2.2.2.2.1,e.2.2.2.2.2.2.2.2.1,e.2.2.2.2.2.2.2.2.2.1,e.2.2.2.2.2.2.2.2.2.2.1,e.2.2.2.2.2.2.2.2.2.2.2.1,e.2.2.2.2.2.2.2.2.2.2.2.2.1,e.2.2.2.2.2.2.2.2.2.2.2.2.2.1,[],e.2.2.2.2.2.2.2.2.2.2.2.2.2.2.2.1,([],e.2.2.2.2.2.2.2.2.2.2.2.2.2.2.2.2.2)),0))))))))))

theorem aDi (a:EdQ) (e:Int×List (List UInt8)) (c:Int×Int) (b:P6) (k:Option Addr) (l:Nat) (s:Int) (r:EdQ×Int) (h:nD a e c=some r):
 FC Tryz.prog 26 [.agg (aG a b).toArray,.agg #[I e.1,sL k e.2 l],.agg #[I c.1,I c.2]] (cH a b [⟨.str,⟨k,e.2.length,l⟩,e.2⟩,⟨iT,⟨(some ⟨0,0,none⟩),1,1⟩,[s]⟩]) (fun _:P6=>True) (fun q=>.tuple #[.agg (aG r.1 q).toArray,I r.2]) (fun q=>(cH r.1 q [])):= by
 refine FC.of (T:=TTx) Tryz.call26 Tryz.func26 E E fun w0=>?_
 unfold nD at h
 refine aS aA 5 [] [9,10,11,12] [(3,.bp 9 0),(4,.bp 10 0),(5,.bp 11 0),(6,.bp 12 0)] (.new 9 46 (aG a b) (.new 10 50 [I e.1,sL k e.2 l] (.new 11 64 [I c.1,I c.2] (.new 12 46 bG .nil)))) ⟨(Es E),(Bs E E)⟩ E E (JS.seq (JS.seq (JS.region (aB aA 3 [] [] [(11,.v (.agg (aG a b).toArray)),(12,.v (.agg #[I e.1,sL k e.2 l])),(13,.v (.agg #[I c.1,I c.2]))] _ E ⟨(Es E),E⟩ ?_))))
 refine bnw h fun b2 b3 h=>JO.call E E E E (wJ a e c b k l _ b3) E [0,1,2,3,4,5,6] E E fun _ _=>aB aA 6 [] [] [(20,.v (.bool (bif (!b2) then true else (!(decide (a.2.1=3))))))] _ E ev1 (aC E ?_)
 refine aJ E h (fun h=>?_) (fun h=>?_)
 ·
  refine aS aA 3 [] [] [(7,.v (I 0))] (.new 12 46 bG .nil) ⟨ev2,(Bs E E)⟩ E E ?_
  cases h
  refine aX iT Sl.nil E E (aX (.sl iT) Sl.nil E E (aX (.pair (.sl iT) iT) Sl.nil E E (aX iT Sl.nil E E (aX iT Sl.nil E E (aX iT Sl.nil E E (JS.ret aA (none,0,none,0,none,0,none,0,none,0,none,0) V E E [5,4,3,2,1,0] E))))))
 refine JS.skip (aE aA 4 [(8,.v (I ((Q12 a).2.2.1.length:Int)))] ev1 E E (JS.seq (JS.block (aE aA 4 [(25,.v (.bool (decide (c.1=1))))] ev1 E E ?_))))
 refine aJ E h (fun h=>?_) (fun h=>?_)
 ·
  refine JS.seq ?_
  obtain ⟨b4,b5,h⟩:=aM h
  refine vK (ι:=Int×EdQ×P6) ⟨fun z=>b4 (z.1,z.2.1)=some r,fun z=>[(6,.bp 12 0),(7,.v (I z.1))],fun z=>(.new 12 46 (aG z.2.1 z.2.2) .nil),fun z=>[⟨iT,⟨(some ⟨0,0,none⟩),1,1⟩,[s]⟩],fun z=>(cH z.2.1 z.2.2 []),fun z=>0⟩ ?_ ?_
  ·
   obtain ⟨D,F,h⟩:=aD h
   obtain ⟨G,h⟩:=aH h
   obtain ⟨⟨n,o⟩,H,h⟩:=aD h
   refine bE E (.new 9 46 (aG a b) (.new 10 50 [I e.1,sL k e.2 l] (.new 11 64 [I c.1,I c.2] .nil))) [] [11,12,13,14,15] ev8 E (fun e4=>?_)
   refine cD aA aI true 8 [0,1,2,3,5,6,9,10] E (by kernel_rfl) [] [(29,.v (.agg (aG a b).toArray)),(30,.v (.agg #[I e.1,sL k e.2 l])),(32,.v (sL (Q8 b).1 (Q12 a).2.2.1 (Q8 b).2.1)),(35,.v (I c.2)),(39,.v (I (Q12 a).2.2.2.1))] ev8 [] E E (Es E) ?_
   refine JA.all (rs:=[4,7]) (by kernel_rfl) E (List.forall_mem_cons.2 ⟨?_,List.forall_mem_cons.2 ⟨?_,(fun _ hx=>absurd hx List.not_mem_nil)⟩⟩)
   ·
    refine JK.call E E E E (dC (Q12 a).2.2.1 (Q8 b).1 (Q8 b).2.1 _ F) E [4] E E ?_
    rintro ⟨b6,b7⟩ -
    refine aQ ⟨E,E,E,E,E,E,E,E,E,E,E,E,V⟩ [] E (JA.one 7 (by kernel_rfl) (JK.buildSlice aA E E E E E E E E E E E [] E iT [c.2] ⟨E,E⟩ E E fun b8=>aQ ⟨E,E,E,E,E,E,E,E,E,E,E,E,V⟩ [] E (JA.one 8 (by kernel_rfl) (bN aA E E E E ⟨E,E,E,E,V,E,E,E,E⟩ E E E [1] E 8 E G E fun u w=>aQ ⟨E,E,E,E,E,E,E,E,E,E,E,E,V⟩ [] E (JA.one 11 (by kernel_rfl) (JK.call E E E E (aA5 a e (D ++ ([c.2]:List Int)) (Q12 a).2.2.2.1 b k l u w s _ H) E [0,1,2,3,4,5,6,8,7] E E ?_))))))
    rintro m -
    refine aR E (aW aA aI 2 [12,13] E (by kernel_rfl) [] [(41,.v (.agg (aG n m).toArray)),(42,.v (I o))] E (Es E) (JA.one 14 (by kernel_rfl) (aY aA E E E E E E E E (aR E (aW aA aI 0 [15] E (by kernel_rfl) [] [(7,.v (I o))] E ev2 (bI (by kernel_rfl) (bC (B':=(.new 12 46 (aG n m) .nil)) (Bs E E) (bT (o,n,m) h (Es E) (Bs E E) [7] E [0,1,2,3,4,5] E E))))))))
   refine JK.buildSlice aA E E E E E E E E E E E [] E iT [c.2] ⟨E,E⟩ E E fun b8=>aQ ⟨E,E,E,E,E,E,E,E,E,E,E,E,V⟩ [] E (JA.one 4 (by kernel_rfl) (JK.call E E E E (dC (Q12 a).2.2.1 (Q8 b).1 (Q8 b).2.1 _ F) E [4] E E ?_))
   rintro ⟨b6,b7⟩ -
   refine aQ ev8 [] E (JA.one 8 (by kernel_rfl) (bN aA E E E E ⟨E,E,E,E,V,E,E,E,E⟩ E E E [0] E 9 E G E fun u w=>aQ ev8 [] E (JA.one 11 (by kernel_rfl) (JK.call E E E E (aA5 a e (D ++ ([c.2]:List Int)) (Q12 a).2.2.2.1 b k l u w s _ H) E [0,1,2,3,4,5,6,8,7] E E ?_))))
   rintro m -
   refine aR E (aW aA aI 2 [12,13] E (by kernel_rfl) [] [(41,.v (.agg (aG n m).toArray)),(42,.v (I o))] E (Es E) (JA.one 14 (by kernel_rfl) (aY aA E E E E E E E E (aR E (aW aA aI 0 [15] E (by kernel_rfl) [] [(7,.v (I o))] E ev2 (bI (by kernel_rfl) (bC (B':=(.new 12 46 (aG n m) .nil)) (Bs E E) (bT (o,n,m) h (Es E) (Bs E E) [7] E [0,1,2,3,4,5] E E))))))))
  rintro ⟨e5,e6,b9,c0,c1,c2,c3,c4,c5,c6,c7,c8,c9,d0⟩ h
  subst b5
  cases h
  exact JS.ret aA (b9,c0,c1,c2,c3,c4,c5,c6,c7,c8,c9,d0) V E E [0,0,0,0,0,0] E
 refine JS.seq (JS.region (aB aA 2 [] [] [(44,.v (.agg #[I c.1,I c.2])),(45,.v (.agg #[I 2,I 114]))] _ E ⟨(Es E),E⟩ (aG9 aA E E (by kernel_rfl) E E E E E (aB aA 5 [] [] [(43,.v (.bool (bif (false ^^ (eqK c (2,114))) then (decide (0<((Q12 a).2.2.1.length:Int))) else false)))] _ E ev1 (aC E ?_)))))
 refine aJ E h (fun h=>?_) (fun h=>?_)
 ·
  refine JS.seq (JS.region (aB aA 7 [(W ((Q12 a).2.2.2.1 - 1))] [] [(51,.v (.agg (aG a b).toArray)),(52,.v (.agg #[I e.1,sL k e.2 l])),(54,.v (sL (Q8 b).1 (Q12 a).2.2.1 (Q8 b).2.1)),(57,.v (I (W ((Q12 a).2.2.2.1 - 1))))] _ E ⟨ev5,(Es E),E⟩ ?_))
  obtain ⟨⟨d1,d2⟩,d3,h⟩:=aD h
  refine JO.call E E E E (aA5 a e (Q12 a).2.2.1 (W ((Q12 a).2.2.2.1 - 1)) b k l (Q8 b).1 (Q8 b).2.1 s _ d3) E [0,1,2,3,4,5,6,4,7] E E fun J _=>aL aA 4 [] [] [(7,.v (I d2))] (.new 12 46 (aG d1 J) .nil) E ⟨ev2,(Bs E E)⟩ (aC E ?_)
  cases h
  exact JS.ret aA J V E E [0,0,0,0,0,0] E
 refine JS.seq (JS.region (aB aA 2 [] [] [(62,.v (.agg #[I c.1,I c.2])),(63,.v (.agg #[I 2,I 114]))] _ E ⟨(Es E),E⟩ (aG9 aA E E (by kernel_rfl) E E E E E (aB aA 10 [] [] [(61,.v (.bool (bif (false ^^ (eqK c (2,114))) then true else (bif (decide (c.1=5)) then (decide (((Q12 a).2.2.1.length:Int)=0)) else false))))] _ E ev1 (aC E ?_)))))
 refine aJ E h (fun h=>?_) (fun h=>?_)
 ·
  refine JS.seq (JS.region (aB aA 1 [] [] [(74,.v (.agg (aG a b).toArray))] _ E ev1 ?_))
  refine bnw h fun d4 d5 h=>JO.call E E E E (dK a b _ d5) E [0,1,2,3,4,5] E E fun K _=>aL aA 2 [] [] [(7,.v (I 1))] (.new 12 46 (aG d4 K) .nil) E ⟨ev2,(Bs E E)⟩ (aC E ?_)
  cases h
  exact JS.ret aA K V E E [0,0,0,0,0,0] E
 refine aE aA 4 [(76,.v (.bool (decide (c.1=5))))] ev1 E E ?_
 refine aJ E h (fun h=>?_) (fun h=>?_)
 ·
  refine JS.seq (JS.region (aB aA 1 [] [] [(80,.v (.agg (aG a b).toArray))] _ E ev1 ?_))
  refine bnw h fun p d6 h=>JO.call E E E E (dK a b _ d6) E [0,1,2,3,4,5] E E fun d _=>aL aA 2 [] [130] [(9,.bp 130 0)] (.new 12 46 bG (.new 130 46 (aG p d) .nil)) E ⟨ev2,(Bs E E)⟩ (aC E (JS.seq (JS.region (aB aA 4 [(W (((Q12 a).2.2.1.length:Int) - 1))] [] [(83,.v (sL (Q8 d).1 (Q12 p).2.2.1 (Q8 d).2.1)),(85,.v (I (W (((Q12 a).2.2.1.length:Int) - 1))))] _ E ⟨ev5,(Es E),E⟩ ?_))))
  obtain ⟨d7,h⟩:=aH h
  refine pX aA E E E E E E E E [4] E (0:Int) (W (((Q12 a).2.2.1.length:Int) - 1)) E E d7 E fun x y=>aL aA 2 [] [] [] (.new 12 46 bG (.new 130 46 (aG (U14 p (bJ (Q12 p).2.2.1 0 (W (((Q12 a).2.2.1.length:Int) - 1)))) (d.1,d.2.1,d.2.2.1,d.2.2.2.1,(Q4 d).1,(Q4 d).2.1,(Q4 d).2.2.1,(Q4 d).2.2.2.1,x,y,(Q8 d).2.2)) .nil)) E ⟨V,(Bs E E)⟩ (aC E (aS aA 3 [] [] [(7,.v (I 0))] (.new 12 46 (aG (U14 p (bJ (Q12 p).2.2.1 0 (W (((Q12 a).2.2.1.length:Int) - 1)))) (d.1,d.2.1,d.2.2.1,d.2.2.2.1,(Q4 d).1,(Q4 d).2.1,(Q4 d).2.2.1,(Q4 d).2.2.2.1,x,y,(Q8 d).2.2)) .nil) ⟨ev2,(Bs E E)⟩ E E ?_))
  cases h
  exact JS.ret aA (U9 (U8 d x) y) V E E [1,1,1,1,0,0] E
 refine aE aA 4 [(89,.v (.bool (decide (c.1=4))))] ev1 E E ?_
 refine aJ E h (fun h=>?_) (fun h=>?_)
 ·
  refine JS.seq (JS.region (aB aA 1 [] [] [(93,.v (.agg (aG a b).toArray))] _ E ev1 ?_))
  refine bnw h fun f d8 h=>JO.call E E E E (aA4 a b _ d8) E [0,1,2,3,4,5] E E ?_
  rintro ⟨L,M,N,O,P,Q,R,S⟩ -
  refine aL aA 2 [] [] [(7,.v (I 2))] (.new 12 46 (aG (f.1,f.2.1,f.2.2.1,f.2.2.2.1,(Q4 f).1,(Q4 f).2.1,(Q4 f).2.2.1,(Q4 f).2.2.2.1,(Q8 f).1,(Q8 f).2.1,(Q8 f).2.2.1,(Q8 f).2.2.2.1,(Q12 f).1,(Q12 f).2.1,[],(Q12 f).2.2.2.1,([],(Q16 f).2)) (L,M,N,O,P,Q,R,S,none,0,none,0)) .nil) E ⟨ev2,(Bs E E)⟩ (aC E ?_)
  cases h
  refine aX iT Sl.nil E E (aX iT Sl.nil E E (JS.ret aA (L,M,N,O,P,Q,R,S,none,0,none,0) V E E [2,2,2,2,1,0] E))
 refine JS.seq (JS.region (aB aA 2 [] [] [(96,.v (.agg #[I c.1,I c.2])),(97,.v (.agg #[I 2,I 103]))] _ E ⟨(Es E),E⟩ (aG9 aA E E (by kernel_rfl) E E E E E (aB aA 3 [] [] [(99,.v (.bool (false ^^ (eqK c (2,103))))),(100,.cd [(99,false)] (.v (.agg #[I c.1,I c.2]))),(101,.cd [(99,false)] (.v (.agg #[I 2,I 99])))] _ E ⟨(Es E),E⟩ (aG9 aA E E (by kernel_rfl) E E E E E (aB aA 2 [] [] [(95,.v (.bool (bif (false ^^ (eqK c (2,103))) then true else (false ^^ (eqK c (2,99))))))] _ E ev1 (aC E ?_)))))))
 refine aJ E h (fun h=>?_) (fun h=>?_)
 ·
  refine JS.seq (JS.region (aB aA 1 [] [] [(104,.v (.agg (aG a b).toArray))] _ E ev1 ?_))
  refine bnw h fun t d9 h=>JO.call E E E E (dK a b _ d9) E [0,1,2,3,4,5] E E fun g _=>aL aA 2 [] [169] [(10,.bp 169 0)] (.new 9 46 (aG a b) (.new 12 46 bG (.new 169 46 (aG t g) .nil))) E ⟨ev2,(Bs E E)⟩ (aC E (JS.seq (JS.region (aB aA 2 [] [] [(107,.v (.agg #[sL (Q8 b).2.2.1 (Q16 a).1 (Q8 b).2.2.2,I (Q16 a).2]))] _ E ev1 ?_))))
  refine bnw h fun A e0 h=>JO.call E E E E (dW (Q16 a) (Q8 b).2.2.1 (Q8 b).2.2.2 _ e0) E [5] E E ?_
  rintro ⟨B,C⟩ -
  refine aL aA 7 [] [] [] (.new 12 46 bG (.new 169 46 (aG (U13 (U12 (U2 t A) 0) ([],0)) (B,C,g.2.2.1,g.2.2.2.1,(Q4 g).1,(Q4 g).2.1,none,0,(Q8 g))) .nil)) E ⟨V,(Bs E E)⟩ (aC E (JS.seq (JS.region (aB aA 1 [] [] [(113,.v (.agg (aG (U13 (U12 (U2 t A) 0) ([],0)) (B,C,g.2.2.1,g.2.2.2.1,(Q4 g).1,(Q4 g).2.1,none,0,(Q8 g))).toArray))] _ E ev1 ?_))))
  refine bnw h fun i e1 h=>aAq iT Sl.nil E E (JO.call E E E E (aA4 (U13 (U12 (U2 t A) 0) (([]:List Int),0)) (B,C,g.2.2.1,g.2.2.2.1,(Q4 g).1,(Q4 g).2.1,none,0,(Q8 g)) _ e1) E [9,11,12,0,14,15] E E ?_)
  rintro ⟨U,X,Y,Z,a0,a1,a2,a3⟩ -
  refine aL aA 2 [] [] [(7,.v (I 1))] (.new 12 46 (aG (i.1,i.2.1,i.2.2.1,i.2.2.2.1,(Q4 i).1,(Q4 i).2.1,(Q4 i).2.2.1,(Q4 i).2.2.2.1,(Q8 i).1,(Q8 i).2.1,(Q8 i).2.2.1,(Q8 i).2.2.2.1,(Q12 i).1,(Q12 i).2.1,[],(Q12 i).2.2.2.1,([],(Q16 i).2)) (U,X,Y,Z,a0,a1,a2,a3,none,0,none,0)) .nil) E ⟨ev2,(Bs E E)⟩ (aC E ?_)
  cases h
  refine aX iT Sl.nil E E (aX iT Sl.nil E E (JS.ret aA (U,X,Y,Z,a0,a1,a2,a3,none,0,none,0) V E E [2,2,2,2,1,0] E))
 refine JS.skip (aV (JS.seq (JS.region (aB aA 1 [] [] [(115,.v (.agg (aG a b).toArray))] _ E ev1 ?_))))
 refine bnw h fun j e2 h=>JO.call E E E E (aA4 a b _ e2) E [0,1,2,3,4,5] E E ?_
 rintro ⟨a4,a5,a6,a7,a8,a9,b0,b1⟩ -
 refine aL aA 2 [] [] [(7,.v (I 0))] (.new 12 46 (aG (j.1,j.2.1,j.2.2.1,j.2.2.2.1,(Q4 j).1,(Q4 j).2.1,(Q4 j).2.2.1,(Q4 j).2.2.2.1,(Q8 j).1,(Q8 j).2.1,(Q8 j).2.2.1,(Q8 j).2.2.2.1,(Q12 j).1,(Q12 j).2.1,[],(Q12 j).2.2.2.1,([],(Q16 j).2)) (a4,a5,a6,a7,a8,a9,b0,b1,none,0,none,0)) .nil) E ⟨ev2,(Bs E E)⟩ (aC E ?_)
 cases h
 refine aX iT Sl.nil E E (aX iT Sl.nil E E (JS.ret aA (a4,a5,a6,a7,a8,a9,b0,b1,none,0,none,0) V E E [2,2,2,2,1,0] E))

def eE (b:EdQ) (c:Int):Option EdQ:= (aF (cK b) fun a=> some (a.1,a.2.1,a.2.2.1,0,0,0,0,a.2.2.2.2.2.2.2.1,a.2.2.2.2.2.2.2.2.1,c,a.2.2.2.2.2.2.2.2.2.2.1,a.2.2.2.2.2.2.2.2.2.2.2.1,a.2.2.2.2.2.2.2.2.2.2.2.2.1,a.2.2.2.2.2.2.2.2.2.2.2.2.2.1,a.2.2.2.2.2.2.2.2.2.2.2.2.2.2.1,a.2.2.2.2.2.2.2.2.2.2.2.2.2.2.2.1,a.2.2.2.2.2.2.2.2.2.2.2.2.2.2.2.2))

theorem lW (b:EdQ) (d:Int) (c:P6) (r:EdQ) (h:eE b d=some r):
 FC Tryz.prog 209 [.agg (aG b c).toArray,I d] (cH b c []) (fun _:P6=>True) (fun q=>.agg (aG r q).toArray) (fun q=>(cH r q [])):= by
 refine FC.of (T:=TTx) Tryz.call209 Tryz.func209 E E fun g=>?_
 unfold eE at h
 refine aS aA 2 [] [7,8] [(2,.bp 7 0),(4,.bp 8 0)] (.new 7 46 (aG b c) (.new 8 46 bG .nil)) ⟨(Es E),(Bs E E)⟩ E E (JS.seq (JS.region (aB aA 1 [] [] [(6,.v (.agg (aG b c).toArray))] _ E ev1 ?_)))
 refine bnw h fun a f h=>JO.call E E E E (dK b c _ f) E [0,1,2,3,4,5] E E fun e _=>aL aA 2 [] [29] [(5,.bp 29 0)] (.new 8 46 bG (.new 29 46 (aG a e) .nil)) E ⟨ev2,(Bs E E)⟩ (aC E (aS aA 11 [] [] [] (.new 8 46 bG (.new 29 46 (aG (a.1,a.2.1,a.2.2.1,0,0,0,0,(Q4 a).2.2.2.1,(Q8 a).1,d,(Q8 a).2.2) e) .nil)) ⟨V,(Bs E E)⟩ E E (aS aA 2 [] [] [] (.new 8 46 (aG (a.1,a.2.1,a.2.2.1,0,0,0,0,(Q4 a).2.2.2.1,(Q8 a).1,d,(Q8 a).2.2) e) .nil) ⟨V,(Bs E E)⟩ E E ?_)))
 cases h
 exact JS.ret aA e V E E [0,0,0,0,0,0] E

def pV (b:EdQ) (e:Int×List (List UInt8)) (c:Int):Option (EdQ×Bool):= (aF (lS b) fun m=>(bif (bif (!m) then true else (bif (!(decide (c=1))) then (!(decide (c=(-1)))) else false)) then some ((false,0,([],0),0,0,0,0,0,0,0,[],[],0,([],0),[],0,([],0)),false) else (aF (eE b 0) fun a=>(aF (jT e) fun f=>(aT (fun (d:Int)=>(bif (bif (bif decide (c=1) then (!(decide (b.2.2.2.2.2.2.2.2.2.2.2.2.1=0))) else false) then (decide ((W (d+1))=(W (f+1)))) else false) then (aF (dA b.2.2.2.2.2.2.2.2.2.2.2.2.2.1) fun g=>(aF (gF g b.2.1) fun n=> some ((a.1,a.2.1,(g.1,n.2),a.2.2.2.1,a.2.2.2.2.1,a.2.2.2.2.2.1,a.2.2.2.2.2.2.1,a.2.2.2.2.2.2.2.1,a.2.2.2.2.2.2.2.2.1,a.2.2.2.2.2.2.2.2.2.1,a.2.2.2.2.2.2.2.2.2.2.1,[],0,([],0),a.2.2.2.2.2.2.2.2.2.2.2.2.2.2.1,a.2.2.2.2.2.2.2.2.2.2.2.2.2.2.2.1,a.2.2.2.2.2.2.2.2.2.2.2.2.2.2.2.2),true))) else (aF (jJ e (W (d+c))) fun (o,p)=>(aF (pU o) fun (h,q)=>(bif (bif (!p) then true else (!q)) then some ((false,0,([],0),0,0,0,0,0,0,0,[],[],0,([],0),[],0,([],0)),false) else (aT (fun (r:Int)=>(aT (fun ((s,t):List Int×Int)=> some ((a.1,a.2.1,(h.1,r),a.2.2.2.1,a.2.2.2.2.1,a.2.2.2.2.2.1,a.2.2.2.2.2.2.1,a.2.2.2.2.2.2.2.1,a.2.2.2.2.2.2.2.2.1,a.2.2.2.2.2.2.2.2.2.1,a.2.2.2.2.2.2.2.2.2.2.1,[],(W (d+c)),(s,t),a.2.2.2.2.2.2.2.2.2.2.2.2.2.2.1,a.2.2.2.2.2.2.2.2.2.2.2.2.2.2.2.1,a.2.2.2.2.2.2.2.2.2.2.2.2.2.2.2.2),true)) fun i=>(bif decide (b.2.2.2.2.2.2.2.2.2.2.2.2.1=0) then (aF (dA b.2.2.1) fun j=> i (j.1,j.2)) else i (a.2.2.2.2.2.2.2.2.2.2.2.2.2.1.1,a.2.2.2.2.2.2.2.2.2.2.2.2.2.1.2)))) fun k=>(bif decide (b.2.1=2) then k 0 else k h.2))))))) fun l=>(bif decide (b.2.2.2.2.2.2.2.2.2.2.2.2.1=0) then l (W (f+1)) else l b.2.2.2.2.2.2.2.2.2.2.2.2.1))))))

theorem aIe (c:EdQ) (e:Int×List (List UInt8)) (f:Int) (d:P6) (g:Option Addr) (i:Nat) (r:EdQ×Bool) (h:pV c e f=some r):
 FC Tryz.prog 247 [.agg (aG c d).toArray,.agg #[I e.1,sL g e.2 i],I f] (cH c d [⟨.str,⟨g,e.2.length,i⟩,e.2⟩]) (fun _:Option Addr×Nat×Option Addr×Nat×Option Addr×Nat×Option Addr×Nat×Option Addr×Nat=>True) (fun q=>.tuple #[.agg (aG (U11 r.1 []) (q.1,q.2.1,q.2.2.1,q.2.2.2.1,none,0,(Q4 q))).toArray,.bool r.2]) (fun q=>[fI q.1 q.2.1 r.1.2.2.1.1,⟨(.sl iT),⟨q.2.2.1,r.1.2.2.2.2.2.2.2.2.2.2.1.length,q.2.2.2.1⟩,r.1.2.2.2.2.2.2.2.2.2.2.1⟩,fI (Q4 q).1 (Q4 q).2.1 r.1.2.2.2.2.2.2.2.2.2.2.2.2.2.1.1,fI (Q4 q).2.2.1 (Q4 q).2.2.2.1 r.1.2.2.2.2.2.2.2.2.2.2.2.2.2.2.1,fI (Q8 q).1 (Q8 q).2 r.1.2.2.2.2.2.2.2.2.2.2.2.2.2.2.2.2.1]):= by
 refine FC.of (T:=TTx) Tryz.call247 Tryz.func247 E E fun w0=>?_
 unfold pV at h
 refine aS aA 4 [] [8,9,10] [(3,.bp 8 0),(4,.bp 9 0),(6,.bp 10 0)] (.new 8 46 (aG c d) (.new 9 50 [I e.1,sL g e.2 i] (.new 10 46 bG .nil))) ⟨(Es E),(Bs E E)⟩ E E (JS.seq (JS.seq (JS.region (aB aA 1 [] [] [(15,.v (.agg (aG c d).toArray))] _ E ev1 ?_))))
 refine bnw h fun J K h=>JO.call E E E E (tX c d _ K) E [0,1,2,3,4,5] E E fun _ _=>aB aA 9 [] [] [(25,.v (.bool (bif (!J) then true else (bif (!(decide (f=1))) then (!(decide (f=(-1)))) else false))))] _ E ev1 (aC E ?_)
 refine aJ E h (fun h=>?_) (fun h=>?_)
 ·
  refine aS aA 3 [] [] [(7,.v (.bool false))] (.new 10 46 bG .nil) ⟨ev2,(Bs E E)⟩ E E ?_
  cases h
  refine aX iT Sl.nil E E (aX (.sl iT) Sl.nil E E (aX iT Sl.nil E E (aX iT Sl.nil E E (aX iT Sl.nil E E (JS.ret aA (none,0,none,0,none,0,none,0,none,0) V E E [4,3,2,1,0] E)))))
 refine JS.skip (JS.seq (JS.region (aB aA 1 [] [] [(27,.v (.agg (aG c d).toArray))] _ E ev1 ?_)))
 refine bnw h fun b L h=>JO.call E E E E (lW c 0 d _ L) E [0,1,2,3,4,5] E E fun a _=>aL aA 2 [] [33] [(8,.bp 33 0)] (.new 8 46 (aG c d) (.new 9 50 [I e.1,sL g e.2 i] (.new 10 46 bG (.new 33 46 (aG b a) .nil)))) E ⟨ev2,(Bs E E)⟩ (aC E (aS aA 3 [] [] [] (.new 8 46 (aG c d) (.new 9 50 [I e.1,sL g e.2 i] (.new 10 46 bG (.new 33 46 (aG (U11 b []) (a.1,a.2.1,a.2.2.1,a.2.2.2.1,none,0,(Q4 a).2.2)) .nil)))) ⟨V,(Bs E E)⟩ E E (JS.seq (JS.region (aB aA 1 [] [] [(31,.v (.agg #[I e.1,sL g e.2 i]))] _ E ev1 ?_)))))
 refine bnw h fun n M h=>JO.call E E E E (yA e g i _ M) E [6] E E fun _ _=>aB aA 1 [] [] [(9,.v (I n))] _ E ev1 (aC E (aE aA 3 [(10,.v (I (Q12 c).1))] ev1 E E ?_))
 obtain ⟨N,O,h⟩:=aM h
 refine cJ (ι:=Int) ⟨fun z=>N z=some r,fun z=>[(2,.v (I f)),(3,.bp 8 0),(4,.bp 9 0),(6,.bp 10 0),(8,.bp 33 0),(9,.v (I n)),(10,.v (I z))],fun z=>(.new 8 46 (aG c d) (.new 9 50 [I e.1,sL g e.2 i] (.new 10 46 bG (.new 33 46 (aG (U11 b []) (a.1,a.2.1,a.2.2.1,a.2.2.2.1,none,0,(Q4 a).2.2)) .nil)))),fun z=>(cH c d [⟨.str,⟨g,e.2.length,i⟩,e.2⟩]),fun z=>[fI a.1 a.2.1 b.2.2.1.1,⟨(.sl iT),⟨a.2.2.1,(Q8 b).2.2.1.length,a.2.2.2.1⟩,(Q8 b).2.2.1⟩,fI (Q4 a).2.2.1 (Q4 a).2.2.2.1 (Q12 b).2.1.1,fI (Q8 a).1 (Q8 a).2.1 (Q12 b).2.2.1,fI (Q8 a).2.2.1 (Q8 a).2.2.2 (Q16 b).1],fun z=>0⟩ ?_ ?_
 ·
  refine aE aA 2 [(36,.v (.bool (decide ((Q12 c).1=0))))] ev1 E E ?_
  refine aJ E h (fun h=>?_) (fun h=>?_)
  ·
   refine cS aA 3 [(W (n+1))] [] [(10,.v (I (W (n+1))))] _ ev4 E E (bT (W (n+1)) h (Es E) (Bs E E) [0,1,2,3,4,5,6] E [0,1,3,4,5] E E)
  refine JS.skip (bT (Q12 c).1 h (Es E) (Bs E E) [0,1,2,3,4,5,6] E [0,1,3,4,5] E E)
 rintro k h
 subst O
 refine JS.seq (gI aA 14 [(W (k+1)),(W (n+1))] [] [(52,.v (.bool (bif (bif (decide (f=1)) then (!(decide ((Q12 c).1=0))) else false) then (decide ((W (k+1))=(W (n+1)))) else false)))] _ ⟨(fun a2=>ev5),(fun a3=>ev5),ev2,E⟩ E E ?_)
 refine aJ E h (fun h=>?_) (fun h=>?_)
 ·
  refine JS.seq ?_
  obtain ⟨s,P,h⟩:=aD h
  refine bnw h fun u Q h=>bE E (.new 8 46 (aG c d) .nil) [] [5,6,7] ev3 E (fun a4=>?_)
  refine cD aA aI true 4 [0,1,3,4] E (by kernel_rfl) [] [(54,.v (.agg #[sL (Q4 d).2.2.1 (Q12 c).2.1.1 (Q4 d).2.2.2.1,I (Q12 c).2.1.2])),(57,.v (I c.2.1))] ev3 [] E E (Es E) (JA.one 2 (by kernel_rfl) (JK.call E E E E (dW (Q12 c).2.1 (Q4 d).2.2.1 (Q4 d).2.2.2.1 _ P) E [3] E E ?_))
  rintro ⟨o,p⟩ -
  refine aQ ev3 [] E (JA.one 5 (by kernel_rfl) (JK.call E E E E (oO s c.2.1 o p _ Q) E [7] E E fun _ _=>aR E (aW aA aI 1 [6] E (by kernel_rfl) [] [(59,.bp 33 2)] E ev2 (JA.one 7 (by kernel_rfl) (aY aA E E E E E E E E (aR E (bI (by kernel_rfl) (bC (B':=(.new 10 46 bG (.new 33 46 (aG (U11 (U2 b (s.1,u.2)) []) (o,p,a.2.2.1,a.2.2.2.1,none,0,(Q4 a).2.2)) .nil))) (Bs E E) (aS aA 5 [] [] [] (.new 10 46 bG (.new 33 46 (aG (U13 (U12 (U11 (U2 b (s.1,u.2)) []) 0) ([],0)) (o,p,a.2.2.1,a.2.2.2.1,none,0,none,0,(Q8 a))) .nil)) ⟨V,(Bs E E)⟩ E E (aS aA 3 [] [] [(7,.v (.bool true))] (.new 10 46 (aG (U13 (U12 (U11 (U2 b (s.1,u.2)) []) 0) ([],0)) (o,p,a.2.2.1,a.2.2.2.1,none,0,none,0,(Q8 a))) .nil) ⟨ev2,(Bs E E)⟩ E E ?_))))))))))
  cases h
  refine aX iT Sl.nil E E (JS.ret aA (o,p,a.2.2.1,a.2.2.2.1,none,0,(Q8 a)) V E E [1,2,0,2,2] E)
 refine JS.skip (JS.seq (JS.region (aB aA 4 [(W (k+f))] [] [(65,.v (.agg #[I e.1,sL g e.2 i])),(68,.v (I (W (k+f))))] _ E ⟨ev5,(Es E),E⟩ ?_)))
 obtain ⟨⟨w,B⟩,R,h⟩:=aD h
 refine JO.call E E E E (aAd e (W (k+f)) g i _ R) E [6] E E fun _ _=>aB aA 5 [] [] [(11,.v (.string (bs w))),(12,.v (.bool B))] _ E ⟨(Es E),E⟩ (aC E (JS.seq (JS.region (aB aA 1 [] [] [(73,.v (.string (bs w)))] _ E ev1 ?_))))
 obtain ⟨⟨j,C⟩,S,h⟩:=aD h
 refine JO.call E E E E (aBw w _ S) E [] E E ?_
 rintro ⟨l,m⟩ -
 refine aL aA 6 [] [55] [(13,.bp 55 0),(14,.v (.bool C))] (.new 8 46 (aG c d) (.new 10 46 bG (.new 33 46 (aG (U11 b []) (a.1,a.2.1,a.2.2.1,a.2.2.2.1,none,0,(Q4 a).2.2)) (.new 55 38 [sL l j.1 m,I j.2] .nil)))) E ⟨(Es E),(Bs E E)⟩ (aC E (JS.seq (aE aA 6 [(82,.v (.bool (bif (!B) then true else (!C))))] ev1 E E ?_)))
 refine aJ E h (fun h=>?_) (fun h=>?_)
 ·
  refine aS aA 3 [] [] [(7,.v (.bool false))] (.new 10 46 bG .nil) ⟨ev2,(Bs E E)⟩ E E ?_
  cases h
  refine aX iT Sl.nil E E (aX (.sl iT) Sl.nil E E (aX iT Sl.nil E E (aX iT Sl.nil E E (aX iT Sl.nil E E (JS.ret aA (none,0,none,0,none,0,none,0,none,0) V E E [4,3,2,1,0] E)))))
 refine JS.skip ?_
 obtain ⟨U,X,h⟩:=aM h
 refine cJ (ι:=Int) ⟨fun z=>U z=some r,fun z=>[(2,.v (I f)),(3,.bp 8 0),(6,.bp 10 0),(8,.bp 33 0),(10,.v (I k)),(13,.bp 55 0)],fun z=>(.new 8 46 (aG c d) (.new 10 46 bG (.new 33 46 (aG (U11 b []) (a.1,a.2.1,a.2.2.1,a.2.2.2.1,none,0,(Q4 a).2.2)) (.new 55 38 [sL l j.1 m,I z] .nil)))),fun z=>(cH c d []),fun z=>[fI a.1 a.2.1 b.2.2.1.1,⟨(.sl iT),⟨a.2.2.1,(Q8 b).2.2.1.length,a.2.2.2.1⟩,(Q8 b).2.2.1⟩,fI (Q4 a).2.2.1 (Q4 a).2.2.2.1 (Q12 b).2.1.1,fI (Q8 a).1 (Q8 a).2.1 (Q12 b).2.2.1,fI (Q8 a).2.2.1 (Q8 a).2.2.2 (Q16 b).1,fI l m j.1],fun z=>0⟩ ?_ ?_
 ·
  refine aE aA 3 [(86,.v (.bool (decide (c.2.1=2))))] ev1 E E ?_
  refine aJ E h (fun h=>?_) (fun h=>?_)
  ·
   refine tK aA 2 [] [] [] (.new 8 46 (aG c d) (.new 10 46 bG (.new 33 46 (aG (U11 b []) (a.1,a.2.1,a.2.2.1,a.2.2.2.1,none,0,(Q4 a).2.2)) (.new 55 38 [sL l j.1 m,I 0] .nil)))) ⟨V,(Bs E E)⟩ E E (bT 0 h (Es E) (Bs E E) [0,1,2,3,4,5] E [1,2,3,4,5,0] E E)
  refine JS.skip (bT j.2 h (Es E) (Bs E E) [0,1,2,3,4,5] E [1,2,3,4,5,0] E E)
 rintro t h
 subst X
 obtain ⟨Y,Z,h⟩:=aM h
 refine cJ (ι:=List Int×Int×Option Addr×Nat) ⟨fun z=>Y (z.1,z.2.1)=some r,fun z=>[(2,.v (I f)),(6,.bp 10 0),(8,.bp 33 0),(10,.v (I k)),(13,.bp 55 0)],fun z=>(.new 10 46 bG (.new 33 46 (aG (U13 (U11 b []) (z.1,z.2.1)) (a.1,a.2.1,a.2.2.1,a.2.2.2.1,none,0,z.2.2.1,z.2.2.2,(Q8 a))) (.new 55 38 [sL l j.1 m,I t] .nil))),fun z=>[],fun z=>[fI z.2.2.1 z.2.2.2 z.1,fI a.1 a.2.1 b.2.2.1.1,⟨(.sl iT),⟨a.2.2.1,(Q8 b).2.2.1.length,a.2.2.2.1⟩,(Q8 b).2.2.1⟩,fI (Q8 a).1 (Q8 a).2.1 (Q12 b).2.2.1,fI (Q8 a).2.2.1 (Q8 a).2.2.2 (Q16 b).1,fI l m j.1],fun z=>0⟩ ?_ ?_
 ·
  refine aE aA 3 [(90,.v (.bool (decide ((Q12 c).1=0))))] ev1 E E ?_
  refine aJ E h (fun h=>?_) (fun h=>?_)
  ·
   refine JS.region (aB aA 2 [] [] [(92,.v (.agg #[sL d.1 c.2.2.1.1 d.2.1,I c.2.2.1.2]))] _ E ev1 ?_)
   refine bnw h fun x a0 h=>JO.call E E E E (dW c.2.2.1 d.1 d.2.1 _ a0) E [0] E E ?_
   rintro ⟨D,F⟩ -
   refine aL aA 2 [] [] [] (.new 10 46 bG (.new 33 46 (aG (U13 (U11 b []) x) (a.1,a.2.1,a.2.2.1,a.2.2.2.1,none,0,D,F,(Q8 a))) (.new 55 38 [sL l j.1 m,I t] .nil))) E ⟨V,(Bs E E)⟩ (aC E (bT (x.1,x.2,D,F) h (Es E) (Bs E E) [] E [0,1,2,4,5,6] E E))
  refine JS.skip (bT ((Q12 b).2.1.1,(Q12 b).2.1.2,(Q4 a).2.2.1,(Q4 a).2.2.2.1) h (Es E) (Bs E E) [] E [2,0,1,3,4,5] E E)
 rintro ⟨G,H,y,A⟩ h
 subst Z
 refine aS aA 8 [(W (k+f))] [] [] (.new 10 46 bG (.new 33 46 (aG (U13 (U12 (U11 (U2 b (j.1,t)) []) (W (k+f))) (G,H)) (l,m,a.2.2.1,a.2.2.2.1,none,0,y,A,(Q8 a))) .nil)) ⟨ev5,V,(Bs E E)⟩ E E (aS aA 3 [] [] [(7,.v (.bool true))] (.new 10 46 (aG (U13 (U12 (U11 (U2 b (j.1,t)) []) (W (k+f))) (G,H)) (l,m,a.2.2.1,a.2.2.2.1,none,0,y,A,(Q8 a))) .nil) ⟨ev2,(Bs E E)⟩ E E ?_)
 cases h
 exact JS.ret aA (l,m,a.2.2.1,a.2.2.2.1,y,A,(Q8 a)) V E E [5,2,0,1,1] E

def cR (a:EdQ):Option (EdQ×Int):= (aF (eE a 0) fun b=> some (b,1))

theorem cX (a:EdQ) (b:P6) (r:EdQ×Int) (h:cR a=some r):
 FC Tryz.prog 119 [.agg (aG a b).toArray] (cH a b []) (fun _:P6=>True) (fun q=>.tuple #[.agg (aG r.1 q).toArray,I r.2]) (fun q=>(cH r.1 q [])):= by
 refine FC.of (T:=TTx) Tryz.call119 Tryz.func119 E E fun f=>?_
 unfold cR at h
 refine aS aA 3 [] [7,8] [(1,.bp 7 0),(2,.bp 8 0)] (.new 7 46 (aG a b) (.new 8 46 bG .nil)) ⟨(Es E),(Bs E E)⟩ E E (JS.seq (JS.region (aB aA 1 [] [] [(4,.v (.agg (aG a b).toArray))] _ E ev1 ?_)))
 refine bnw h fun d e h=>JO.call E E E E (lW a 0 b _ e) E [0,1,2,3,4,5] E E fun c _=>aL aA 2 [] [] [(3,.v (I 1))] (.new 8 46 (aG d c) .nil) E ⟨ev2,(Bs E E)⟩ (aC E ?_)
 cases h
 exact JS.ret aA c V E E [0,0,0,0,0,0] E

def mU (b:EdQ) (c:Int×List (List UInt8)) (d:Int):Option (EdQ×Int):= (aF (pV b c d) fun (a,e)=>(bif (!e) then (aF (cR b) fun (f,g)=> some (f,g)) else some ((a.1,a.2.1,a.2.2.1,a.2.2.2.1,a.2.2.2.2.1,a.2.2.2.2.2.1,a.2.2.2.2.2.2.1,a.2.2.2.2.2.2.2.1,a.2.2.2.2.2.2.2.2.1,a.2.2.2.2.2.2.2.2.2.1,a.2.2.2.2.2.2.2.2.2.2.1,[],a.2.2.2.2.2.2.2.2.2.2.2.2.1,a.2.2.2.2.2.2.2.2.2.2.2.2.2.1,a.2.2.2.2.2.2.2.2.2.2.2.2.2.2.1,a.2.2.2.2.2.2.2.2.2.2.2.2.2.2.2.1,a.2.2.2.2.2.2.2.2.2.2.2.2.2.2.2.2),0)))

theorem rR (b:EdQ) (a:Int×List (List UInt8)) (f:Int) (c:P6) (d:Option Addr) (e:Nat) (r:EdQ×Int) (h:mU b a f=some r):
 FC Tryz.prog 171 [.agg (aG b c).toArray,.agg #[I a.1,sL d a.2 e],I f] (cH b c [⟨.str,⟨d,a.2.length,e⟩,a.2⟩]) (fun _:P6=>True) (fun q=>.tuple #[.agg (aG r.1 q).toArray,I r.2]) (fun q=>(cH r.1 q [])):= by
 refine FC.of (T:=TTx) Tryz.call171 Tryz.func171 E E fun B=>?_
 unfold mU at h
 refine aS aA 4 [] [8,9,10] [(3,.bp 8 0),(4,.bp 9 0),(6,.bp 10 0)] (.new 8 46 (aG b c) (.new 9 50 [I a.1,sL d a.2 e] (.new 10 46 bG .nil))) ⟨(Es E),(Bs E E)⟩ E E (JS.seq (JS.region (aB aA 3 [] [] [(11,.v (.agg (aG b c).toArray)),(12,.v (.agg #[I a.1,sL d a.2 e])),(13,.v (I f))] _ E ⟨(Es E),E⟩ ?_)))
 obtain ⟨⟨t,u⟩,x,h⟩:=aD h
 refine JO.call E E E E (aIe b a f c d e _ x) E [0,1,2,3,4,5,6] E E ?_
 rintro ⟨g,i,j,k,l,m,n,o,p,s⟩ -
 refine aL aA 6 [] [29] [(8,.bp 29 0),(9,.v (.bool u))] (.new 8 46 (aG b c) (.new 10 46 bG (.new 29 46 (aG (U11 t []) (g,i,j,k,none,0,l,m,n,o,p,s)) .nil))) E ⟨(Es E),(Bs E E)⟩ (aC E (JS.seq (aE aA 2 [(18,.v (.bool (!u)))] ev1 E E ?_)))
 refine aJ E h (fun h=>?_) (fun h=>?_)
 ·
  refine JS.seq (JS.region (aB aA 1 [] [] [(19,.v (.agg (aG b c).toArray))] _ E ev1 ?_))
  obtain ⟨⟨y,z⟩,A,h⟩:=aD h
  refine JO.call E E E E (cX b c _ A) E [0,1,2,3,4,5] E E fun w _=>aL aA 4 [] [] [(7,.v (I z))] (.new 10 46 (aG y w) .nil) E ⟨ev2,(Bs E E)⟩ (aC E ?_)
  cases h
  exact JS.ret aA w V E E [0,0,0,0,0,0] E
 refine JS.skip (aS aA 3 [] [] [(7,.v (I 0))] (.new 10 46 (aG (U11 t []) (g,i,j,k,none,0,l,m,n,o,p,s)) .nil) ⟨ev2,(Bs E E)⟩ E E ?_)
 cases h
 refine aX (.pair (.sl iT) iT) Sl.nil E E (JS.ret aA (g,i,j,k,none,0,l,m,n,o,p,s) V E E [1,1,0,0,0,0] E)

def dP (a:List Int×Int) (b:Int):Option (List Int×Int):= (aF (cL a.1) fun c=> some (c,(max (0:Int) (min b (a.1.length:Int)))))

theorem eK (a:List Int×Int) (d:Int) (b:Option Addr) (c:Nat) (r:List Int×Int) (h:dP a d=some r):
 FC Tryz.prog 170 [.agg #[sL b a.1 c,I a.2],I d] [fI b c a.1] (fun _:Option Addr×Nat=>True) (fun q=>.agg #[sL q.1 r.1 q.2,I r.2]) (fun q=>[fI q.1 q.2 r.1]):= by
 refine FC.of (T:=TTx) Tryz.call170 Tryz.func170 E E fun j=>?_
 unfold dP at h
 refine aS aA 2 [] [2,3] [(2,.bp 2 0),(4,.bp 3 0)] (.new 2 38 [sL b a.1 c,I a.2] (.new 3 38 [.slice none 0 0,I 0] .nil)) ⟨(Es E),(Bs E E)⟩ E E (JS.seq ?_)
 refine bnw h fun g i h=>bE E (.new 2 38 [sL b a.1 c,I a.2] .nil) [] [9,10] ev3 E (fun k=>?_)
 refine cD aA aI true 3 [0,1,3,4,5,6,7,8] E (by kernel_rfl) [] [(6,.v (sL b a.1 c)),(13,.v (I (max (0:Int) (min d (a.1.length:Int)))))] ev3 [] E E (Es E) (JA.one 2 (by kernel_rfl) (JK.call E E E E (dC a.1 b c _ i) E [0] E E ?_))
 rintro ⟨e,f⟩ -
 refine aQ ev3 [] E (aW aA aI 1 [9] E (by kernel_rfl) [] [(14,.v (.agg #[sL e g f,I (max (0:Int) (min d (a.1.length:Int)))]))] E ev2 (JA.one 10 (by kernel_rfl) (aY aA E E E E E E E E (aR E (bI (by kernel_rfl) (bC (B':=(.new 3 38 [sL e g f,I (max (0:Int) (min d (a.1.length:Int)))] .nil)) (Bs E E) ?_))))))
 cases h
 exact JS.ret aA (e,f) V E E [0] E

def kB (b:List Int) (c:List Int) (d:Unit→Option Bool) (e:Int→Option Bool):Int→Option Bool:=fun a=>(bif decide (a<(b.length:Int)) then (aN (0≤a∧a<(b.length:Int)) <|(aN (0≤a∧a<(c.length:Int)) <|(bif (!(decide ((at' b a)=(at' c a)))) then some false else e (W (a+1))))) else d ())

def jO (a:List Int) (b:List Int):Option Bool:= (bif (!(decide ((a.length:Int)=(b.length:Int)))) then some false else (aT (fun (_:Unit)=> some true) fun c=>(aZ (kB a b c) bO 0)))

theorem tC (a:List Int) (c:List Int) (d:Option Addr) (e:Nat) (f:Option Addr) (g:Nat) (r:Bool) (h:jO a c=some r):
 FC Tryz.prog 258 [sL d a e,sL f c g] [fI d e a,fI f g c] (fun _:Unit=>True) (fun _=>.bool r) (fun _=>[]):= by
 refine FC.of (T:=TTx) Tryz.call258 Tryz.func258 E E fun p=>?_
 unfold jO at h
 refine aE aA 1 [] ev5 E E (JS.seq (aE aA 5 [(10,.v (.bool (!(decide ((a.length:Int)=(c.length:Int))))))] ev1 E E ?_))
 refine aJ E h (fun h=>?_) (fun h=>?_)
 ·
  refine aE aA 1 [(4,.v (.bool false))] ev1 E E ?_
  cases h
  exact JS.ret aA () V E E [] E
 refine JS.skip (JS.seq (aE aA 3 [(12,.v (I (a.length:Int))),(13,.v (I 0))] ⟨(Es E),E⟩ E E ?_))
 obtain ⟨i,m,h⟩:=aM h
 refine bA (ι:=Unit) ⟨fun _=>i ()=some r,fun _=>[],fun _=>.nil,fun _=>[],fun _=>[],fun _=>0⟩ ?_ ?_
 ·
  refine JS.loop (ι:=Nat×Int) ⟨fun z=>aZ (kB a c i) z.1 z.2=some r,fun z=>[(0,.v (sL d a e)),(1,.v (sL f c g)),(12,.v (I (a.length:Int))),(13,.v (I z.2))],fun z=>.nil,fun z=>[fI d e a,fI f g c],fun z=>[],fun z=>z.1⟩ (bO,0) h (Es E) V [0,1] E [] E ?_
  rintro ⟨j,b⟩ h
  obtain ⟨j,rfl,h⟩:=bK h
  rw [kB] at h
  refine aE aA 1 [(14,.v (.bool (decide (b<(a.length:Int)))))] ev1 E E (JS.seq ?_)
  refine aJ E h (fun h=>?_) (fun h=>?_)
  ·
   refine JS.skip (JS.seq (JS.block (aE aA 2 [(5,.v (I b))] ev1 E E (JS.seq ?_))))
   obtain ⟨k,h⟩:=aH h
   obtain ⟨l,h⟩:=aH h
   refine iK 0 E fun n=>iK 1 E fun o=>eZ E (by kernel_rfl) (eC aA 3 [] [(18,.ep ⟨d,a.length,e⟩ (Int.toNat b*1))] E ⟨n.ix k,ev2⟩ (JQ.load aA E E E E E E E 0 E E (Int.toNat b) 0 (at' a b) ⟨bH k,E⟩ E E (eC aA 3 [] [(22,.ep ⟨f,c.length,g⟩ (Int.toNat b*1))] E ⟨o.ix l,ev2⟩ (JQ.load aA E E E E E E E 1 E E (Int.toNat b) 0 (at' c b) ⟨bH l,E⟩ E E (eC aA 1 [] [(24,.v (.bool (!(decide ((at' a b)=(at' c b))))))] E ev2 (kW E ?_))))))
   refine aJ E h (fun h=>?_) (fun h=>?_)
   ·
    refine aE aA 1 [(4,.v (.bool false))] ev1 E E ?_
    cases h
    exact JS.ret aA () V E E [] E
   refine JS.skip (aV (cS aA 2 [(W (b+1))] [] [(13,.v (I (W (b+1))))] _ ev4 E E (bZ (j,(W (b+1))) h (Nat.lt_succ_self _) (Es E) V [0,1] E [] E)))
  refine JS.exit E (aO () h V V [] E [] E)
 rintro _ h
 subst m
 refine aE aA 1 [(4,.v (.bool true))] ev1 E E ?_
 cases h
 exact JS.ret aA () V E E [] E

def qX (d:List (List Int×Int)) (c:List Int×Int):Option ((List (List Int×Int))×Bool):= (aF (nY d) fun e=>(cA ((!e)=false) (eJ c) false fun g=>(bif (bif (!e) then true else (!g)) then some ([],false) else (aF (jP d) fun a=>(aN (((decide (0<(a.length:Int)))=true)→0≤(W ((a.length:Int) - 1))∧(W ((a.length:Int) - 1))<(a.length:Int)) <|(cA ((decide (0<(a.length:Int)))=true) (jO ((at' a (W ((a.length:Int) - 1))).1) c.1) false fun h=>(bif (bif decide (0<(a.length:Int)) then h else false) then some (a,true) else (aF (dA c) fun b=>(aN (a.length+([b]:List (List Int×Int)).length≤536870912) <|(aT (fun (i:List (List Int×Int))=> some (i,true)) fun f=>(bif (decide (20<((a ++ ([b]:List (List Int×Int))).length:Int))) then (aN (0≤(1:Int)∧(1:Int)≤((a ++ ([b]:List (List Int×Int))).length:Int)∧((a ++ ([b]:List (List Int×Int))).length:Int)≤((a ++ ([b]:List (List Int×Int))).length:Int)) <|f (bJ (a ++ ([b]:List (List Int×Int))) 1 ((a ++ ([b]:List (List Int×Int))).length:Int))) else f (a ++ ([b]:List (List Int×Int))))))))))))))

theorem aGh (f:List (List Int×Int)) (b:List Int×Int) (g:Option Addr) (i:Nat) (c:Option Addr) (d:Nat) (r:(List (List Int×Int))×Bool) (h:qX f b=some r):
 FC Tryz.prog 264 [.agg #[sL g f i],.agg #[sL c b.1 d,I b.2]] [⟨(.pair (.sl iT) iT),⟨g,f.length,i⟩,f⟩,fI c d b.1] (fun _:Option Addr×Nat=>True) (fun q=>.tuple #[.agg #[sL q.1 r.1 q.2],.bool r.2]) (fun q=>[⟨(.pair (.sl iT) iT),⟨q.1,r.1.length,q.2⟩,r.1⟩]):= by
 refine FC.of (T:=TTx) Tryz.call264 Tryz.func264 E E fun Y=>?_
 unfold qX at h
 refine aS aA 4 [] [3,4,5] [(2,.bp 3 0),(3,.bp 4 0),(4,.bp 5 0)] (.new 3 44 [sL g f i] (.new 4 38 [sL c b.1 d,I b.2] (.new 5 44 [.slice none 0 0] .nil))) ⟨(Es E),(Bs E E)⟩ E E (JS.seq (JS.seq (JS.region (aB aA 1 [] [] [(8,.v (.agg #[sL g f i]))] _ E ev1 ?_))))
 refine bnw h fun s A h=>JO.call E E E E (wL f g i _ A) E [0] E E fun _ _=>aB aA 3 [] [] [(11,.v (.bool (!s))),(12,.cd [(11,false)] (.v (.agg #[sL c b.1 d,I b.2])))] _ E ⟨(Es E),E⟩ ?_
 obtain ⟨B,C,-,h⟩:=bB h
 refine bR E E E E (fun D=>gE b c d _ (C D)) E [1] E E (aB aA 2 [] [] [(15,.v (.bool (bif (!s) then true else (!B))))] _ E ev1 (aC E ?_))
 refine aJ E h (fun h=>?_) (fun h=>?_)
 ·
  refine aS aA 3 [] [] [(5,.v (.bool false))] (.new 5 44 [.slice none 0 0] .nil) ⟨ev2,(Bs E E)⟩ E E ?_
  cases h
  refine aX (.pair (.sl iT) iT) Sl.nil E E (JS.ret aA (none,0) V E E [0] E)
 refine JS.skip (JS.seq (JS.region (aB aA 1 [] [] [(17,.v (.agg #[sL g f i]))] _ E ev1 ?_)))
 refine bnw h fun a F h=>JO.call E E E E (tE f g i _ F) E [0] E E ?_
 rintro ⟨j,k⟩ -
 refine aL aA 2 [] [15] [(6,.bp 15 0)] (.new 4 38 [sL c b.1 d,I b.2] (.new 5 44 [.slice none 0 0] (.new 15 44 [sL j a k] .nil))) E ⟨ev2,(Bs E E)⟩ (aC E (JS.seq (aE aA 4 [(7,.v (I (a.length:Int)))] ev1 E E (JS.seq ?_))))
 obtain ⟨l,h⟩:=aH h
 obtain ⟨G,H,-,h⟩:=bB h
 refine vJ (id:=0) (aAr [0] E (Int.toNat (W ((a.length:Int) - 1))) (at' a (W ((a.length:Int) - 1))) E ?_)
 intro m n J K
 obtain rfl:([sL m ((at' a (W ((a.length:Int) - 1))).1) n,I (at' a (W ((a.length:Int) - 1))).2]:List Value)=J:=Option.some.inj K
 refine vL (iK 2 E fun t=>eZ E (by kernel_rfl) (eC aA 9 [(W ((a.length:Int) - 1))] [(24,.v (.bool (decide (0<(a.length:Int))))),(30,.cd [(24,true)] (.ep ⟨j,a.length,k⟩ (Int.toNat (W ((a.length:Int) - 1))*2)))] E ⟨(fun Z=>ev5),(fun L=>(t.cast (kN _ _ _)).ix (l L)),(fun M=>(t.cast (kN _ _ _)).fa (l M)),(Es E)⟩ (qZ aA E E E E E E 2 E E (Int.toNat (W ((a.length:Int) - 1))) 0 (Sum.inr [sL m ((at' a (W ((a.length:Int) - 1))).1) n,I (at' a (W ((a.length:Int) - 1))).2]) (fun N=>⟨sE (bH (l N)),E⟩) E E E (eC aA 2 [] [(33,.cd [(24,true)] (.v (sL c b.1 d)))] E ev2 (JQ.call E E E E (fun O=>tC ((at' a (W ((a.length:Int) - 1))).1) b.1 m n c d _ (H O)) E [3,1] E E (eC aA 1 [] [(35,.v (.bool (bif (decide (0<(a.length:Int))) then G else false)))] E ev2 (kW E ?_)))))))
 refine vJ (id:=0) (zF [0,0] E (at' a (W ((a.length:Int) - 1))) E ev9 (vL ?_))
 refine aJ E h (fun h=>?_) (fun h=>?_)
 ·
  refine aS aA 3 [] [] [(5,.v (.bool true))] (.new 5 44 [sL j a k] .nil) ⟨ev2,(Bs E E)⟩ E E ?_
  cases h
  exact JS.ret aA (j,k) V E E [0] E
 refine JS.skip (JS.seq ?_)
 obtain ⟨e,P,h⟩:=aD h
 obtain ⟨Q,h⟩:=aH h
 refine bE E (.new 4 38 [sL c b.1 d,I b.2] (.new 15 44 [sL j a k] .nil)) [] [5,6,7] ev6 E (fun a0=>?_)
 refine cD aA aI true 5 [0,1,2] E (by kernel_rfl) [] [(38,.v (sL j a k)),(39,.v (.agg #[sL c b.1 d,I b.2]))] ev6 [] E E (Es E) (JA.one 3 (by kernel_rfl) (JK.call E E E E (dW b c d _ P) E [1] E E ?_))
 rintro ⟨a1,a2⟩ -
 refine aQ ⟨E,E,E,E,E,E,E,E,V⟩ [] E (JA.one 4 (by kernel_rfl) (JK.buildSlice aA E E E E E E E E E E E [0] E (.pair (.sl iT) iT) [e] ⟨E,E,E⟩ E E fun a4=>aQ ⟨E,E,E,E,E,E,E,E,V⟩ [] E (JA.one 5 (by kernel_rfl) (iL aA E E E E ⟨E,E,E,E,V,E,E,E,E⟩ E E [1,0] E Q E fun o p=>aR E (aW aA aI 1 [6] E (by kernel_rfl) [] [(43,.bp 15 0)] E ⟨E,V⟩ (JA.one 7 (by kernel_rfl) (aY aA E E E E E E E E (aR E (bI (by kernel_rfl) (bC (B':=(.new 5 44 [.slice none 0 0] (.new 15 44 [sL o (a ++ ([e]:List (List Int×Int))) p] .nil))) (Bs E E) ?_))))))))))
 obtain ⟨R,S,h⟩:=aM h
 refine cJ (ι:=(List (List Int×Int))×Option Addr×Nat) ⟨fun z=>R z.1=some r,fun z=>[(4,.bp 5 0),(6,.bp 15 0)],fun z=>(.new 5 44 [.slice none 0 0] (.new 15 44 [sL z.2.1 z.1 z.2.2] .nil)),fun z=>[],fun z=>[⟨(.pair (.sl iT) iT),⟨z.2.1,z.1.length,z.2.2⟩,z.1⟩],fun z=>0⟩ ?_ ?_
 ·
  refine aE aA 4 [(47,.v (.bool (decide (20<((a ++ ([e]:List (List Int×Int))).length:Int)))))] ev1 E E ?_
  refine aJ E h (fun h=>?_) (fun h=>?_)
  ·
   refine JS.region (aB aA 2 [] [] [(49,.v (sL o (a ++ ([e]:List (List Int×Int))) p))] _ E ev1 ?_)
   obtain ⟨U,h⟩:=aH h
   refine pX aA E E E E E E E E [0] E (1:Int) ((a ++ ([e]:List (List Int×Int))).length:Int) E E U E fun u w=>aL aA 2 [] [] [] (.new 5 44 [.slice none 0 0] (.new 15 44 [sL u (bJ (a ++ ([e]:List (List Int×Int))) 1 ((a ++ ([e]:List (List Int×Int))).length:Int)) w] .nil)) E ⟨V,(Bs E E)⟩ (aC E (aO ((bJ (a ++ ([e]:List (List Int×Int))) 1 ((a ++ ([e]:List (List Int×Int))).length:Int)),u,w) h (Es E) (Bs E E) [] E [0] E))
  refine JS.skip (aO ((a ++ ([e]:List (List Int×Int))),o,p) h (Es E) (Bs E E) [] E [0] E)
 rintro ⟨X,x,y⟩ h
 subst S
 refine aS aA 3 [] [] [(5,.v (.bool true))] (.new 5 44 [sL x X y] .nil) ⟨ev2,(Bs E E)⟩ E E ?_
 cases h
 exact JS.ret aA (x,y) V E E [0] E

def mB (b:EdQ) (c:List Int×Int) (d:Int):Option EdQ:= (aF (eE b d) fun a=>(aT (fun (g:List (List Int×Int))=>(aF (dA c) fun e=>(aF (gF e b.2.1) fun h=> some (a.1,a.2.1,(e.1,h.2),a.2.2.2.1,a.2.2.2.2.1,a.2.2.2.2.2.1,a.2.2.2.2.2.2.1,a.2.2.2.2.2.2.2.1,a.2.2.2.2.2.2.2.2.1,a.2.2.2.2.2.2.2.2.2.1,a.2.2.2.2.2.2.2.2.2.2.1,g,a.2.2.2.2.2.2.2.2.2.2.2.2.1,a.2.2.2.2.2.2.2.2.2.2.2.2.2.1,a.2.2.2.2.2.2.2.2.2.2.2.2.2.2.1,a.2.2.2.2.2.2.2.2.2.2.2.2.2.2.2.1,a.2.2.2.2.2.2.2.2.2.2.2.2.2.2.2.2)))) fun f=>(aF (jO c.1 b.2.2.1.1) fun i=>(bif (bif (!i) then (!(bif decide (d=1) then (decide (b.2.2.2.2.2.2.2.2.2.1=1)) else false)) else false) then (aF (qX b.2.2.2.2.2.2.2.2.2.2.2.1 b.2.2.1) fun (j,k)=> f j) else f a.2.2.2.2.2.2.2.2.2.2.2.1))))

theorem sD (c:EdQ) (d:List Int×Int) (i:Int) (b:P6) (e:Option Addr) (f:Nat) (r:EdQ) (h:mB c d i=some r):
 FC Tryz.prog 203 [.agg (aG c b).toArray,.agg #[sL e d.1 f,I d.2],I i] (cH c b [fI e f d.1]) (fun _:P6=>True) (fun q=>.agg (aG r q).toArray) (fun q=>(cH r q [])):= by
 refine FC.of (T:=TTx) Tryz.call203 Tryz.func203 E E fun G=>?_
 unfold mB at h
 refine aS aA 3 [] [8,9,10] [(3,.bp 8 0),(4,.bp 9 0),(6,.bp 10 0)] (.new 8 46 (aG c b) (.new 9 38 [sL e d.1 f,I d.2] (.new 10 46 bG .nil))) ⟨(Es E),(Bs E E)⟩ E E (JS.seq (JS.region (aB aA 2 [] [] [(8,.v (.agg (aG c b).toArray)),(9,.v (I i))] _ E ⟨(Es E),E⟩ ?_)))
 refine bnw h fun g w h=>JO.call E E E E (lW c i b _ w) E [0,1,2,3,4,5] E E fun a _=>aL aA 2 [] [31] [(7,.bp 31 0)] (.new 8 46 (aG c b) (.new 9 38 [sL e d.1 f,I d.2] (.new 10 46 bG (.new 31 46 (aG g a) .nil)))) E ⟨ev2,(Bs E E)⟩ (aC E ?_)
 obtain ⟨x,y,h⟩:=aM h
 refine cJ (ι:=(List (List Int×Int))×Option Addr×Nat) ⟨fun z=>x z.1=some r,fun z=>[(3,.bp 8 0),(4,.bp 9 0),(6,.bp 10 0),(7,.bp 31 0)],fun z=>(.new 8 46 (aG c b) (.new 9 38 [sL e d.1 f,I d.2] (.new 10 46 bG (.new 31 46 (aG (U11 g z.1) (a.1,a.2.1,a.2.2.1,a.2.2.2.1,z.2.1,z.2.2,(Q4 a).2.2)) .nil)))),fun z=>(cH c b [fI e f d.1]),fun z=>[⟨(.pair (.sl iT) iT),⟨z.2.1,z.1.length,z.2.2⟩,z.1⟩,fI a.1 a.2.1 g.2.2.1.1,⟨(.sl iT),⟨a.2.2.1,(Q8 g).2.2.1.length,a.2.2.2.1⟩,(Q8 g).2.2.1⟩,fI (Q4 a).2.2.1 (Q4 a).2.2.2.1 (Q12 g).2.1.1,fI (Q8 a).1 (Q8 a).2.1 (Q12 g).2.2.1,fI (Q8 a).2.2.1 (Q8 a).2.2.2 (Q16 g).1],fun z=>0⟩ ?_ ?_
 ·
  refine JS.seq (JS.region (aB aA 5 [] [] [(12,.v (sL e d.1 f)),(15,.v (sL b.1 c.2.2.1.1 b.2.1))] _ E ⟨(Es E),E⟩ ?_))
  refine bnw h fun A B h=>JO.call E E E E (tC d.1 c.2.2.1.1 e f b.1 b.2.1 _ B) E [6,0] E E fun _ _=>aB aA 11 [] [] [(27,.v (.bool (bif (!A) then (!(bif (decide (i=1)) then (decide ((Q8 c).2.1=1)) else false)) else false)))] _ E ev1 (aC E ?_)
  refine aJ E h (fun h=>?_) (fun h=>?_)
  ·
   refine JS.region (aB aA 4 [] [] [(30,.v (.agg #[sL (Q4 b).1 (Q8 c).2.2.2.1 (Q4 b).2.1])),(32,.v (.agg #[sL b.1 c.2.2.1.1 b.2.1,I c.2.2.1.2]))] _ E ⟨(Es E),E⟩ ?_)
   obtain ⟨⟨o,H⟩,C,h⟩:=aD h
   refine JO.call E E E E (aGh (Q8 c).2.2.2.1 c.2.2.1 (Q4 b).1 (Q4 b).2.1 b.1 b.2.1 _ C) E [2,0] E E ?_
   rintro ⟨p,s⟩ -
   refine aL aA 5 [] [] [] (.new 8 46 (aG c b) (.new 9 38 [sL e d.1 f,I d.2] (.new 10 46 bG (.new 31 46 (aG (U11 g o) (a.1,a.2.1,a.2.2.1,a.2.2.2.1,p,s,(Q4 a).2.2)) .nil)))) E ⟨V,(Bs E E)⟩ (aC E (bT (o,p,s) h (Es E) (Bs E E) [0,1,2,3,4,5,6] E [0,1,2,4,5,6] E E))
  refine JS.skip (bT ((Q8 g).2.2.2.1,(Q4 a).1,(Q4 a).2.1) h (Es E) (Bs E E) [0,1,2,3,4,5,6] E [2,0,1,3,4,5] E E)
 rintro ⟨t,l,m⟩ h
 subst y
 refine JS.seq ?_
 obtain ⟨n,D,h⟩:=aD h
 refine bnw h fun u F h=>bE E (.new 8 46 (aG c b) (.new 9 38 [sL e d.1 f,I d.2] .nil)) [] [4,5,6] ev6 E (fun J=>?_)
 refine cD aA aI true 4 [0,2,3] E (by kernel_rfl) [] [(37,.v (.agg #[sL e d.1 f,I d.2])),(40,.v (I c.2.1))] ev6 [] E E (Es E) (JA.one 1 (by kernel_rfl) (JK.call E E E E (dW d e f _ D) E [6] E E ?_))
 rintro ⟨j,k⟩ -
 refine aQ ev6 [] E (JA.one 4 (by kernel_rfl) (JK.call E E E E (oO n c.2.1 j k _ F) E [7] E E fun _ _=>aR E (aW aA aI 1 [5] E (by kernel_rfl) [] [(42,.bp 31 2)] E ev2 (JA.one 6 (by kernel_rfl) (aY aA E E E E E E E E (aR E (bI (by kernel_rfl) (bC (B':=(.new 10 46 bG (.new 31 46 (aG (U11 (U2 g (n.1,u.2)) t) (j,k,a.2.2.1,a.2.2.2.1,l,m,(Q4 a).2.2)) .nil))) (Bs E E) (aS aA 2 [] [] [] (.new 10 46 (aG (U11 (U2 g (n.1,u.2)) t) (j,k,a.2.2.1,a.2.2.2.1,l,m,(Q4 a).2.2)) .nil) ⟨V,(Bs E E)⟩ E E ?_)))))))))
 cases h
 exact JS.ret aA (j,k,a.2.2.1,a.2.2.2.1,l,m,(Q4 a).2.2) V E E [0,2,0,1,1,1] E

def eX (a:EdQ) (b:List Int×Int):Option (EdQ×Int):= (aF (mB a b 0) fun c=> some (c,0))

theorem gY (b:EdQ) (a:List Int×Int) (c:P6) (d:Option Addr) (e:Nat) (r:EdQ×Int) (h:eX b a=some r):
 FC Tryz.prog 169 [.agg (aG b c).toArray,.agg #[sL d a.1 e,I a.2]] (cH b c [fI d e a.1]) (fun _:P6=>True) (fun q=>.tuple #[.agg (aG r.1 q).toArray,I r.2]) (fun q=>(cH r.1 q [])):= by
 refine FC.of (T:=TTx) Tryz.call169 Tryz.func169 E E fun j=>?_
 unfold eX at h
 refine aS aA 4 [] [8,9,10] [(2,.bp 8 0),(3,.bp 9 0),(4,.bp 10 0)] (.new 8 46 (aG b c) (.new 9 38 [sL d a.1 e,I a.2] (.new 10 46 bG .nil))) ⟨(Es E),(Bs E E)⟩ E E (JS.seq (JS.region (aB aA 2 [] [] [(6,.v (.agg (aG b c).toArray)),(7,.v (.agg #[sL d a.1 e,I a.2]))] _ E ⟨(Es E),E⟩ ?_)))
 refine bnw h fun g i h=>JO.call E E E E (sD b a 0 c d e _ i) E [0,1,2,3,4,5,6] E E fun f _=>aL aA 2 [] [] [(5,.v (I 0))] (.new 10 46 (aG g f) .nil) E ⟨ev2,(Bs E E)⟩ (aC E ?_)
 cases h
 exact JS.ret aA f V E E [0,0,0,0,0,0] E

def pT (a:List Int×Int) (b:Int) (c:Int):Option Bool:= (aF (eJ a) fun d=> some (bif (bif (bif d then (decide (0≤b)) else false) then (decide (b≤c)) else false) then (decide (c≤(a.1.length:Int))) else false))

theorem aBs (a:List Int×Int) (d:Int) (e:Int) (b:Option Addr) (c:Nat) (r:Bool) (h:pT a d e=some r):
 FC Tryz.prog 260 [.agg #[sL b a.1 c,I a.2],I d,I e] [fI b c a.1] (fun _:Unit=>True) (fun _=>.bool r) (fun _=>[]):= by
 refine FC.of (T:=TTx) Tryz.call260 Tryz.func260 E E fun i=>?_
 unfold pT at h
 refine aS aA 2 [] [2] [(3,.bp 2 0)] (.new 2 38 [sL b a.1 c,I a.2] .nil) ⟨ev2,(Bs E E)⟩ E E (JS.seq (JS.region (aB aA 1 [] [] [(7,.v (.agg #[sL b a.1 c,I a.2]))] _ E ev1 ?_)))
 refine bnw h fun f g h=>JO.call E E E E (gE a b c _ g) E [0] E E fun _ _=>aB aA 17 [] [] [(6,.v (.bool (bif (bif (bif f then (decide (0≤d)) else false) then (decide (d≤e)) else false) then (decide (e≤(a.1.length:Int))) else false)))] _ E ev1 (aC E ?_)
 cases h
 exact JS.ret aA () V E E [] E

def iI (a:List Int×Int) (b:Int) (c:Int):Option ((List Int×Int)×List Int×Bool):= (aF (pT a b c) fun f=>(bif (!f) then some (([],0),[],false) else (aT (fun (g:List Int)=>(aT (fun (h:Int)=>(aN (0≤b∧b≤c∧c≤(a.1.length:Int)) <|(aF (cL (bJ a.1 b c)) fun i=> some ((g,h),i,true)))) fun d=>(bif decide (c≤a.2) then d (W (a.2 - (W (c - b)))) else (bif decide (b<a.2) then d b else d a.2)))) fun j=>(aN (0≤(0:Int)∧(0:Int)≤b∧b≤(a.1.length:Int)) <|(aF (cL (bJ a.1 (0:Int) b)) fun e=>(aN (0≤c∧c≤(a.1.length:Int)∧(a.1.length:Int)≤(a.1.length:Int)) <|(aN (e.length+(bJ a.1 c (a.1.length:Int)).length≤536870912) <|j (e ++ (bJ a.1 c (a.1.length:Int))))))))))

theorem rO (a:List Int×Int) (c:Int) (b:Int) (d:Option Addr) (e:Nat) (r:(List Int×Int)×List Int×Bool) (h:iI a c b=some r):
 FC Tryz.prog 202 [.agg #[sL d a.1 e,I a.2],I c,I b] [fI d e a.1] (fun _:Option Addr×Nat×Option Addr×Nat=>True) (fun q=>.tuple #[.agg #[sL q.1 r.1.1 q.2.1,I r.1.2],sL q.2.2.1 r.2.1 q.2.2.2,.bool r.2.2]) (fun q=>[fI q.1 q.2.1 r.1.1,fI q.2.2.1 q.2.2.2 r.2.1]):= by
 refine FC.of (T:=TTx) Tryz.call202 Tryz.func202 E E fun U=>?_
 unfold iI at h
 refine aS aA 4 [] [2,3] [(3,.bp 2 0),(6,.bp 3 0)] (.new 2 38 [sL d a.1 e,I a.2] (.new 3 38 [.slice none 0 0,I 0] .nil)) ⟨(Es E),(Bs E E)⟩ E E (JS.seq (JS.seq (JS.region (aB aA 3 [] [] [(10,.v (.agg #[sL d a.1 e,I a.2])),(11,.v (I c)),(12,.v (I b))] _ E ⟨(Es E),E⟩ ?_))))
 refine bnw h fun B C h=>JO.call E E E E (aBs a c b d e _ C) E [0] E E fun _ _=>aB aA 1 [] [] [(14,.v (.bool (!B)))] _ E ev1 (aC E ?_)
 refine aJ E h (fun h=>?_) (fun h=>?_)
 ·
  refine aS aA 4 [] [] [(7,.v (.slice none 0 0)),(8,.v (.bool false))] (.new 3 38 [.slice none 0 0,I 0] .nil) ⟨(Es E),(Bs E E)⟩ E E ?_
  cases h
  refine aX iT Sl.nil E E (aX iT Sl.nil E E (JS.ret aA (none,0,none,0) V E E [1,0] E))
 refine JS.skip (JS.seq ?_)
 obtain ⟨D,F,h⟩:=aM h
 refine vK (ι:=List Int×Option Addr×Nat) ⟨fun z=>D z.1=some r,fun z=>[(1,.v (I c)),(2,.v (I b)),(3,.bp 2 0),(6,.bp 3 0),(9,.bp 25 0)],fun z=>(.new 2 38 [sL d a.1 e,I a.2] (.new 3 38 [.slice none 0 0,I 0] (.new 25 38 [sL z.2.1 z.1 z.2.2,I a.2] .nil))),fun z=>[fI d e a.1],fun z=>[fI z.2.1 z.2.2 z.1],fun z=>0⟩ ?_ ?_
 ·
  obtain ⟨m,h⟩:=aH h
  obtain ⟨i,t,h⟩:=aD h
  obtain ⟨n,h⟩:=aH h
  obtain ⟨p,h⟩:=aH h
  refine xQ 0 E (0:Int) c fun u w G=>xQ 1 E b (a.1.length:Int) fun X Y H=>iK 2 E fun x=>?_
  refine bE E (.new 2 38 [sL d a.1 e,I a.2] .nil) [] [12,14] ev3 E (fun Z=>?_)
  refine cD aA aI true 7 [0,1,2,5,6,7,10,11] E (by kernel_rfl) [] [(17,.v (sL d a.1 e)),(18,.v (I c)),(22,.v (sL d a.1 e)),(23,.v (I b)),(27,.v (I a.2))] ev3 [] E E (Es E) (pZ aA aI 3 E (by kernel_rfl) E E E E E E (0:Int) c E E ⟨m.1,m.2.1,m.2.2,x.cap,G m⟩ E (pZ aA aI 8 E (by kernel_rfl) E E E E E E b (a.1.length:Int) E E ⟨n.1,n.2.1,n.2.2,x.cap,H n⟩ E ?_))
  refine JA.all (rs:=[4,13]) (by kernel_rfl) E (List.forall_mem_cons.2 ⟨?_,List.forall_mem_cons.2 ⟨?_,(fun _ hx=>absurd hx List.not_mem_nil)⟩⟩)
  ·
   refine JK.call E E E E (dC (bJ a.1 (0:Int) c) u w _ t) E [1] E E ?_
   rintro ⟨J,K⟩ -
   refine aQ ev3 [] E ?_
   refine JA.all (rs:=[9,13]) (by kernel_rfl) E (List.forall_mem_cons.2 ⟨?_,List.forall_mem_cons.2 ⟨?_,(fun _ hx=>absurd hx List.not_mem_nil)⟩⟩)
   ·
    refine bN aA E E E E ⟨E,E,E,E,V,E,E,E,E⟩ E E E [0] E 0 E p E fun f g=>aQ ev3 [] E (aW aA aI 2 [12] E (by kernel_rfl) [] [(28,.v (.agg #[sL f (i ++ (bJ a.1 b (a.1.length:Int))) g,I a.2]))] E ev2 (JA.one 13 (by kernel_rfl) (JK.alloc aA E E E E E 25 E (fO _ E) (aQ ev3 [] E (JA.one 14 (by kernel_rfl) (aY aA E E E E E E E E (aR E (bI (by kernel_rfl) (bC (B':=(.new 2 38 [sL d a.1 e,I a.2] (.new 3 38 [.slice none 0 0,I 0] (.new 25 38 [sL f (i ++ (bJ a.1 b (a.1.length:Int))) g,I a.2] .nil)))) (Bs E E) (aO ((i ++ (bJ a.1 b (a.1.length:Int))),f,g) h (Es E) (Bs E E) [2] E [0] E))))))))))
   refine JK.alloc aA E E E E E 25 E (fO _ E) (aQ ev3 [] E (JA.one 9 (by kernel_rfl) (bN aA E E E E ⟨E,E,E,E,V,E,E,E,E⟩ E E E [0] E 0 E p E fun f g=>aQ ev3 [] E (aW aA aI 1 [12] E (by kernel_rfl) [] [(28,.v (.agg #[sL f (i ++ (bJ a.1 b (a.1.length:Int))) g,I a.2]))] E ev2 (JA.one 14 (by kernel_rfl) (aY aA E E E E E E E E (aR E (bI (by kernel_rfl) (bC (B':=(.new 2 38 [sL d a.1 e,I a.2] (.new 3 38 [.slice none 0 0,I 0] (.new 25 38 [sL f (i ++ (bJ a.1 b (a.1.length:Int))) g,I a.2] .nil)))) (Bs E E) (aO ((i ++ (bJ a.1 b (a.1.length:Int))),f,g) h (Es E) (Bs E E) [2] E [0] E))))))))))
  refine JK.alloc aA E E E E E 25 E (fO _ E) (aQ ev3 [] E (JA.one 4 (by kernel_rfl) (JK.call E E E E (dC (bJ a.1 (0:Int) c) u w _ t) E [1] E E ?_)))
  rintro ⟨J,K⟩ -
  refine aQ ev3 [] E (JA.one 9 (by kernel_rfl) (bN aA E E E E ⟨E,E,E,E,V,E,E,E,E⟩ E E E [0] E 0 E p E fun f g=>aQ ev3 [] E (aW aA aI 1 [12] E (by kernel_rfl) [] [(28,.v (.agg #[sL f (i ++ (bJ a.1 b (a.1.length:Int))) g,I a.2]))] E ev2 (JA.one 14 (by kernel_rfl) (aY aA E E E E E E E E (aR E (bI (by kernel_rfl) (bC (B':=(.new 2 38 [sL d a.1 e,I a.2] (.new 3 38 [.slice none 0 0,I 0] (.new 25 38 [sL f (i ++ (bJ a.1 b (a.1.length:Int))) g,I a.2] .nil)))) (Bs E E) (aO ((i ++ (bJ a.1 b (a.1.length:Int))),f,g) h (Es E) (Bs E E) [2] E [0] E)))))))))
 rintro ⟨l,j,k⟩ h
 subst F
 refine JS.seq ?_
 obtain ⟨L,M,h⟩:=aM h
 refine bA (ι:=Int) ⟨fun z=>L z=some r,fun z=>[(1,.v (I c)),(2,.v (I b)),(3,.bp 2 0),(6,.bp 3 0),(9,.bp 25 0)],fun z=>(.new 2 38 [sL d a.1 e,I a.2] (.new 3 38 [.slice none 0 0,I 0] (.new 25 38 [sL j l k,I z] .nil))),fun z=>[fI d e a.1],fun z=>[fI j k l],fun z=>0⟩ ?_ ?_
 ·
  refine aE aA 5 [(29,.v (.bool (decide (b≤a.2))))] ev1 E E ?_
  refine aJ E h (fun h=>?_) (fun h=>?_)
  ·
   refine tK aA 8 [(W (b - c)),(W (a.2 - (W (b - c))))] [] [] (.new 2 38 [sL d a.1 e,I a.2] (.new 3 38 [.slice none 0 0,I 0] (.new 25 38 [sL j l k,I (W (a.2 - (W (b - c))))] .nil))) ⟨ev5,ev5,V,(Bs E E)⟩ E E (aV (aO (W (a.2 - (W (b - c)))) h (Es E) (Bs E E) [0] E [0] E))
  refine aE aA 5 [(41,.v (.bool (decide (c<a.2))))] ev1 E E ?_
  refine aJ E h (fun h=>?_) (fun h=>?_)
  ·
   refine tK aA 3 [] [] [] (.new 2 38 [sL d a.1 e,I a.2] (.new 3 38 [.slice none 0 0,I 0] (.new 25 38 [sL j l k,I c] .nil))) ⟨V,(Bs E E)⟩ E E (aV (aO c h (Es E) (Bs E E) [0] E [0] E))
  refine JS.skip (aV (aO a.2 h (Es E) (Bs E E) [0] E [0] E))
 rintro s h
 subst M
 refine JS.seq ?_
 obtain ⟨o,h⟩:=aH h
 refine bnw h fun N O h=>xQ 0 E c b fun P Q R=>iK 1 E fun S=>?_
 refine bE E (.new 2 38 [sL d a.1 e,I a.2] (.new 25 38 [sL j l k,I s] .nil)) [] [7,8,9] ev6 E (fun a0=>?_)
 refine cD aA aI true 5 [0,1,2,3,4] E (by kernel_rfl) [] [(48,.v (.agg #[sL j l k,I s])),(50,.v (sL d a.1 e)),(51,.v (I c)),(52,.v (I b))] ev6 [] E E (Es E) (pZ aA aI 5 E (by kernel_rfl) E E E E E E c b E E ⟨o.1,o.2.1,o.2.2,S.cap,R o⟩ E (JA.one 6 (by kernel_rfl) (JK.call E E E E (dC (bJ a.1 c b) P Q _ O) E [0] E E ?_)))
 rintro ⟨y,A⟩ -
 refine aQ ev6 [] E (JA.one 7 (by kernel_rfl) (aY aA E E E E E E E E (aR E (aW aA aI 0 [8,9] E (by kernel_rfl) [] [(7,.v (sL y N A)),(8,.v (.bool true))] E (Es E) (bI (by kernel_rfl) (bC (B':=(.new 3 38 [sL j l k,I s] .nil)) (Bs E E) ?_))))))
 cases h
 exact JS.ret aA (j,k,y,A) V E E [1,0] E

def vI (a:EdQ) (b:Int) (c:Int):Option (EdQ×Int):= (aF (iI a.2.2.1 b c) fun (d,e,f)=>(bif (bif (!f) then true else (decide ((e.length:Int)=0))) then (aF (cR a) fun (g,h)=> some (g,h)) else (aF (eX a d) fun (i,j)=> some (i,j))))

theorem aDg (a:EdQ) (d:Int) (e:Int) (b:P6) (r:EdQ×Int) (h:vI a d e=some r):
 FC Tryz.prog 168 [.agg (aG a b).toArray,I d,I e] (cH a b []) (fun _:P6=>True) (fun q=>.tuple #[.agg (aG r.1 q).toArray,I r.2]) (fun q=>(cH r.1 q [])):= by
 refine FC.of (T:=TTx) Tryz.call168 Tryz.func168 E E fun y=>?_
 unfold vI at h
 refine aS aA 3 [] [7,8] [(3,.bp 7 0),(6,.bp 8 0)] (.new 7 46 (aG a b) (.new 8 46 bG .nil)) ⟨(Es E),(Bs E E)⟩ E E (JS.seq (JS.region (aB aA 4 [] [] [(13,.v (.agg #[sL b.1 a.2.2.1.1 b.2.1,I a.2.2.1.2])),(14,.v (I d)),(15,.v (I e))] _ E ⟨(Es E),E⟩ ?_)))
 obtain ⟨⟨c,i,j⟩,m,h⟩:=aD h
 refine JO.call E E E E (rO a.2.2.1 d e b.1 b.2.1 _ m) E [0] E E ?_
 rintro ⟨f,g,n,o⟩ -
 refine aL aA 8 [] [19] [(8,.bp 19 0),(9,.v (sL n i o)),(10,.v (.bool j))] (.new 7 46 (aG a b) (.new 8 46 bG (.new 19 38 [sL f c.1 g,I c.2] .nil))) E ⟨(Es E),(Bs E E)⟩ (aC E (JS.seq (aE aA 7 [(26,.v (.bool (bif (!j) then true else (decide ((i.length:Int)=0)))))] ev1 E E ?_)))
 refine aJ E h (fun h=>?_) (fun h=>?_)
 ·
  refine JS.seq (JS.region (aB aA 1 [] [] [(27,.v (.agg (aG a b).toArray))] _ E ev1 ?_))
  obtain ⟨⟨p,s⟩,t,h⟩:=aD h
  refine JO.call E E E E (cX a b _ t) E [0,1,2,3,4,5] E E fun k _=>aL aA 4 [] [] [(7,.v (I s))] (.new 8 46 (aG p k) .nil) E ⟨ev2,(Bs E E)⟩ (aC E ?_)
  cases h
  exact JS.ret aA k V E E [0,0,0,0,0,0] E
 refine JS.skip (JS.seq (JS.region (aB aA 2 [] [] [(31,.v (.agg (aG a b).toArray)),(32,.v (.agg #[sL f c.1 g,I c.2]))] _ E ⟨(Es E),E⟩ ?_)))
 obtain ⟨⟨u,w⟩,x,h⟩:=aD h
 refine JO.call E E E E (gY a c b f g _ x) E [0,1,2,3,4,5,6] E E fun l _=>aL aA 4 [] [] [(7,.v (I w))] (.new 8 46 (aG u l) .nil) E ⟨ev2,(Bs E E)⟩ (aC E ?_)
 cases h
 exact JS.ret aA l V E E [0,0,0,0,0,0] E

def dE (a:Int) (b:Int):Option Int:= some (max (0:Int) (min a b))

theorem gD (a:Int) (b:Int) (r:Int) (h:dE a b=some r) :
 FC Tryz.prog 200 [I a,I b] [] (fun _:Unit=>True) (fun _=>I r) (fun _=>[]):= by
 refine FC.of (T:=TTx) Tryz.call200 Tryz.func200 E E fun c=>?_
 unfold dE at h
 refine aE aA 1 [] ev5 E E (aE aA 5 [(4,.v (I (max (0:Int) (min a b))))] ev1 E E ?_)
 cases h
 exact JS.ret aA () V E E [] E

def fR (a:Int):Option Bool:= (aF (dH a 65 90) fun b=> some b)

theorem rN (a:Int) (r:Bool) (h:fR a=some r) :
 FC Tryz.prog 261 [I a] [] (fun _:Unit=>True) (fun _=>.bool r) (fun _=>[]):= by
 refine FC.of (T:=TTx) Tryz.call261 Tryz.func261 E E fun d=>?_
 unfold fR at h
 refine aE aA 1 [] ev5 E E (JS.seq (JS.region (aB aA 1 [] [] [(3,.v (I a))] _ E ev1 ?_)))
 refine bnw h fun b c h=>JO.call E E E E (eG a 65 90 _ c) E [] E E fun _ _=>aB aA 1 [] [] [(2,.v (.bool b))] _ E ev1 (aC E ?_)
 cases h
 exact JS.ret aA () V E E [] E

def lK (a:Int):Option Bool:= (aF (dH a 48 57) fun b=> some b)

theorem zZ (a:Int) (r:Bool) (h:lK a=some r) :
 FC Tryz.prog 197 [I a] [] (fun _:Unit=>True) (fun _=>.bool r) (fun _=>[]):= by
 refine FC.of (T:=TTx) Tryz.call197 Tryz.func197 E E fun d=>?_
 unfold lK at h
 refine aE aA 1 [] ev5 E E (JS.seq (JS.region (aB aA 1 [] [] [(3,.v (I a))] _ E ev1 ?_)))
 refine bnw h fun b c h=>JO.call E E E E (eG a 48 57 _ c) E [] E E fun _ _=>aB aA 1 [] [] [(2,.v (.bool b))] _ E ev1 (aC E ?_)
 cases h
 exact JS.ret aA () V E E [] E

def gH (a:Int):Option Int:= (bif (bif (bif decide (a=9) then true else (decide (a=10))) then true else (decide (a=32))) then some 0 else (aF (eN a) fun b=>(cA (b=false) (fR a) false fun c=>(cA ((bif b then true else c)=false) (lK a) false fun d=>(cA ((decide (159<a))=true∧(bif (bif (bif b then true else c) then true else d) then true else (decide (a=95)))=false) (eF a) false fun e=>(bif (bif (bif (bif (bif b then true else c) then true else d) then true else (decide (a=95))) then true else (bif decide (159<a) then e else false)) then some 1 else some 2))))))

theorem lX (a:Int) (r:Int) (h:gH a=some r) :
 FC Tryz.prog 201 [I a] [] (fun _:Unit=>True) (fun _=>I r) (fun _=>[]):= by
 refine FC.of (T:=TTx) Tryz.call201 Tryz.func201 E E fun o=>?_
 unfold gH at h
 refine aE aA 1 [] ev5 E E (JS.seq (JS.block (aE aA 11 [(3,.v (.bool (bif (bif (decide (a=9)) then true else (decide (a=10))) then true else (decide (a=32)))))] ev1 E E ?_)))
 refine aJ E h (fun h=>?_) (fun h=>?_)
 ·
  refine aE aA 1 [(2,.v (I 0))] ev1 E E ?_
  cases h
  exact JS.ret aA () V E E [] E
 refine JS.seq (JS.region (aB aA 1 [] [] [(15,.v (I a))] _ E ev1 ?_))
 refine bnw h fun b e h=>JO.call E E E E (oN a _ e) E [] E E fun _ _=>aB aA 2 [] [] [(17,.v (.bool b)),(18,.cd [(17,false)] (.v (I a)))] _ E ⟨(Es E),E⟩ ?_
 obtain ⟨c,f,-,h⟩:=bB h
 refine bR E E E E (fun g=>rN a _ (f g)) E [] E E (aB aA 3 [] [] [(21,.v (.bool (bif b then true else c))),(22,.cd [(21,false)] (.v (I a)))] _ E ⟨(Es E),E⟩ ?_)
 obtain ⟨d,i,-,h⟩:=bB h
 refine bR E E E E (fun j=>zZ a _ (i j)) E [] E E (aB aA 10 [] [] [(29,.v (.bool (bif (bif (bif b then true else c) then true else d) then true else (decide (a=95))))),(32,.cd [(29,false)] (.v (.bool (decide (159<a))))),(33,.cd [(32,true),(29,false)] (.v (I a)))] _ E ⟨(Es E),E⟩ ?_)
 obtain ⟨k,l,-,h⟩:=bB h
 refine bR E E E E (fun m n=>iW a _ (l ⟨m,n⟩)) E [] E E (aB aA 3 [] [] [(14,.v (.bool (bif (bif (bif (bif b then true else c) then true else d) then true else (decide (a=95))) then true else (bif (decide (159<a)) then k else false))))] _ E ev1 (aC E ?_))
 refine aJ E h (fun h=>?_) (fun h=>?_)
 ·
  refine aE aA 1 [(2,.v (I 1))] ev1 E E ?_
  cases h
  exact JS.ret aA () V E E [] E
 refine JS.skip (aV (aE aA 1 [(2,.v (I 2))] ev1 E E ?_))
 cases h
 exact JS.ret aA () V E E [] E

def fB (b:List Int) (a:Int) (d:Bool):Option Int:= (aN (0≤a∧a<(b.length:Int)) <|(aF (gH (at' b a)) fun c=>(bif (bif d then (decide (c=2)) else false) then some 1 else some c)))

theorem gZ (a:List Int) (b:Int) (c:Bool) (d:Option Addr) (e:Nat) (r:Int) (h:fB a b c=some r):
 FC Tryz.prog 288 [sL d a e,I b,.bool c] [fI d e a] (fun _:Unit=>True) (fun _=>I r) (fun _=>[]):= by
 refine FC.of (T:=TTx) Tryz.call288 Tryz.func288 E E fun k=>?_
 unfold fB at h
 refine aE aA 1 [] ev5 E E (JS.seq (JS.region (cC 0 E fun i=>?_)))
 obtain ⟨g,h⟩:=aH h
 refine aB aA 3 [] [] [(10,.ep ⟨d,a.length,e⟩ (Int.toNat b*1))] _ E ⟨i.ix g,ev2,E⟩ (JO.load aA E E E E E E E 0 E E (Int.toNat b) 0 (at' a b) ⟨bH g,E⟩ E E ?_)
 refine bnw h fun f j h=>JO.call E E E E (lX (at' a b) _ j) E [] E E fun _ _=>aB aA 1 [] [] [(7,.v (I f))] _ E ev1 (aC E (JS.seq (aE aA 5 [(17,.v (.bool (bif c then (decide (f=2)) else false)))] ev1 E E ?_)))
 refine aJ E h (fun h=>?_) (fun h=>?_)
 ·
  refine aE aA 1 [(6,.v (I 1))] ev1 E E ?_
  cases h
  exact JS.ret aA () V E E [] E
 refine JS.skip (aE aA 2 [(6,.v (I f))] ev1 E E ?_)
 cases h
 exact JS.ret aA () V E E [] E

def iH (b:List Int) (c:Bool) (d:Int→Option Int) (e:Int→Option Int):Int→Option Int:=fun a=>(cA ((decide (0<a))=true) (fB b (W (a - 1)) c) (0:Int) fun f=>(bif (bif decide (0<a) then (decide (f=0)) else false) then e (W (a - 1)) else d a))

def iG (b:List Int) (c:Bool) (d:Int) (e:Int→Option Int) (f:Int→Option Int):Int→Option Int:=fun a=>(cA ((decide (0<a))=true) (fB b (W (a - 1)) c) (0:Int) fun g=>(bif (bif decide (0<a) then (decide (g=d)) else false) then f (W (a - 1)) else e a))

def jD (a:List Int) (d:Int) (b:Bool):Option Int:= (aF (dE d (a.length:Int)) fun e=>(aT (fun (c:Int)=>(bif decide (c=0) then some 0 else (aF (fB a (W (c - 1)) b) fun f=>(aT (fun (g:Int)=> some g) fun h=>(aZ (iG a b f h) bO c))))) fun i=>(aZ (iH a b i) bO e)))

theorem vQ (a:List Int) (i:Int) (d:Bool) (b:Option Addr) (c:Nat) (r:Int) (h:jD a i d=some r):
 FC Tryz.prog 246 [sL b a c,I i,.bool d] [fI b c a] (fun _:Unit=>True) (fun _=>I r) (fun _=>[]):= by
 refine FC.of (T:=TTx) Tryz.call246 Tryz.func246 E E fun D=>?_
 unfold jD at h
 refine aE aA 1 [] ev5 E E (JS.seq (JS.region (aB aA 3 [] [] [(8,.v (I i)),(10,.v (I (a.length:Int)))] _ E ⟨(Es E),E⟩ ?_)))
 refine bnw h fun k p h=>JO.call E E E E (gD i (a.length:Int) _ p) E [] E E fun _ _=>aB aA 1 [] [] [(1,.v (I k))] _ E ev1 (aC E (JS.seq ?_))
 obtain ⟨l,q,h⟩:=aM h
 refine bA (ι:=Int) ⟨fun z=>l z=some r,fun z=>[(0,.v (sL b a c)),(1,.v (I z)),(2,.v (.bool d))],fun z=>.nil,fun z=>[fI b c a],fun z=>[],fun z=>0⟩ ?_ ?_
 ·
  refine JS.loop (ι:=Nat×Int) ⟨fun z=>aZ (iH a d l) z.1 z.2=some r,fun z=>[(0,.v (sL b a c)),(1,.v (I z.2)),(2,.v (.bool d))],fun z=>.nil,fun z=>[fI b c a],fun z=>[],fun z=>z.1⟩ (bO,k) h (Es E) V [0] E [] E ?_
  rintro ⟨m,e⟩ h
  obtain ⟨m,rfl,h⟩:=bK h
  rw [iH] at h
  refine JS.seq (JS.seq (JS.region (aB aA 7 [(W (e - 1))] [] [(14,.v (.bool (decide (0<e)))),(15,.cd [(14,true)] (.v (sL b a c))),(17,.cd [(14,true)] (.v (I (W (e - 1))))),(18,.cd [(14,true)] (.v (.bool d)))] _ E ⟨(fun F=>ev5),(Es E),E⟩ ?_)))
  obtain ⟨s,t,-,h⟩:=bB h
  refine bR E E E E (fun u=>gZ a (W (e - 1)) d b c _ (t u)) E [0] E E (aB aA 2 [] [] [(21,.v (.bool (bif (decide (0<e)) then (decide (s=0)) else false)))] _ E ev1 (aC E ?_))
  refine aJ E h (fun h=>?_) (fun h=>?_)
  ·
   refine JS.skip (JS.block (cS aA 3 [(W (e - 1))] [] [(1,.v (I (W (e - 1))))] _ ev4 E E (aV (bZ (m,(W (e - 1))) h (Nat.lt_succ_self _) (Es E) V [0] E [] E))))
  refine JS.exit E (aO e h (Es E) V [0] E [] E)
 rintro g h
 subst q
 refine JS.seq (aE aA 2 [(25,.v (.bool (decide (g=0))))] ev1 E E ?_)
 refine aJ E h (fun h=>?_) (fun h=>?_)
 ·
  refine aE aA 1 [(6,.v (I 0))] ev1 E E ?_
  cases h
  exact JS.ret aA () V E E [] E
 refine JS.skip (JS.seq (JS.region (aB aA 4 [(W (g - 1))] [] [(26,.v (sL b a c)),(28,.v (I (W (g - 1)))),(29,.v (.bool d))] _ E ⟨ev5,(Es E),E⟩ ?_)))
 refine bnw h fun j w h=>JO.call E E E E (gZ a (W (g - 1)) d b c _ w) E [0] E E fun _ _=>aB aA 1 [] [] [(7,.v (I j))] _ E ev1 (aC E (JS.seq ?_))
 obtain ⟨n,x,h⟩:=aM h
 refine bA (ι:=Int) ⟨fun z=>n z=some r,fun z=>[(1,.v (I z))],fun z=>.nil,fun z=>[],fun z=>[],fun z=>0⟩ ?_ ?_
 ·
  refine JS.loop (ι:=Nat×Int) ⟨fun z=>aZ (iG a d j n) z.1 z.2=some r,fun z=>[(0,.v (sL b a c)),(1,.v (I z.2)),(2,.v (.bool d)),(7,.v (I j))],fun z=>.nil,fun z=>[fI b c a],fun z=>[],fun z=>z.1⟩ (bO,g) h (Es E) V [0] E [] E ?_
  rintro ⟨o,f⟩ h
  obtain ⟨o,rfl,h⟩:=bK h
  rw [iG] at h
  refine JS.seq (JS.seq (JS.region (aB aA 7 [(W (f - 1))] [] [(33,.v (.bool (decide (0<f)))),(34,.cd [(33,true)] (.v (sL b a c))),(36,.cd [(33,true)] (.v (I (W (f - 1))))),(37,.cd [(33,true)] (.v (.bool d)))] _ E ⟨(fun G=>ev5),(Es E),E⟩ ?_)))
  obtain ⟨y,A,-,h⟩:=bB h
  refine bR E E E E (fun B=>gZ a (W (f - 1)) d b c _ (A B)) E [0] E E (aB aA 3 [] [] [(41,.v (.bool (bif (decide (0<f)) then (decide (y=j)) else false)))] _ E ev1 (aC E ?_))
  refine aJ E h (fun h=>?_) (fun h=>?_)
  ·
   refine JS.skip (JS.block (cS aA 3 [(W (f - 1))] [] [(1,.v (I (W (f - 1))))] _ ev4 E E (aV (bZ (o,(W (f - 1))) h (Nat.lt_succ_self _) (Es E) V [0] E [] E))))
  refine JS.exit E (aO f h ev2 V [] E [] E)
 rintro C h
 subst x
 refine aE aA 2 [(6,.v (I C))] ev1 E E ?_
 cases h
 exact JS.ret aA () V E E [] E

def oI (g:List (List Int)) (b:List Int) (d:Int):Option (List (List Int)×Bool):= (aF (lP g) fun f=>(cA ((!f)=false) (dH d 0 2) false fun h=>(cA ((bif (!f) then true else (!h))=false) (eY b) false fun j=>(bif (bif (bif (!f) then true else (!h)) then true else (!j)) then some ([],false) else (aF (jQ g) fun a=>(aT (fun (k:List (List Int))=> some (k,true)) fun e=>(bif decide ((b.length:Int)=0) then e a else (aN (((bif decide (d=0) then true else (decide ((a.length:Int)=0)))=false)→0≤(0:Int)∧0<(a.length:Int)) <|(bif (bif (bif decide (d=0) then true else (decide ((a.length:Int)=0))) then true else (decide (400<(W (((at' a 0).length:Int)+(b.length:Int)))))) then (aF (cL b) fun c=>(aN (([c]:List (List Int)).length+a.length≤536870912) <|(aN (0≤(0:Int)∧(0:Int)≤(min ((([c]:List (List Int)) ++ a).length:Int) 6)∧(min ((([c]:List (List Int)) ++ a).length:Int) 6)≤((([c]:List (List Int)) ++ a).length:Int)) <|e (bJ (([c]:List (List Int)) ++ a) 0 (min ((([c]:List (List Int)) ++ a).length:Int) 6))))) else (bif decide (d=1) then (aN (0≤(0:Int)∧0<(a.length:Int)) <|(aN ((at' a 0).length+b.length≤536870912) <|(aN (0≤(0:Int)∧0<(a.length:Int)) <|e (List.set a (Int.toNat 0) ((at' a 0) ++ b))))) else (aF (cL b) fun i=>(aN (0≤(0:Int)∧0<(a.length:Int)) <|(aN (i.length+(at' a 0).length≤536870912) <|(aN (0≤(0:Int)∧0<(a.length:Int)) <|e (List.set a (Int.toNat 0) (i ++ (at' a 0)))))))))))))))))

theorem aAc (g:List (List Int)) (d:List Int) (k:Int) (l:Option Addr) (m:Nat) (i:Option Addr) (j:Nat) (r:List (List Int)×Bool) (h:oI g d k=some r):
 FC Tryz.prog 204 [.agg #[sL l g m],sL i d j,I k] [⟨(.sl iT),⟨l,g.length,m⟩,g⟩,fI i j d] (fun _:Option Addr×Nat=>True) (fun q=>.tuple #[.agg #[sL q.1 r.1 q.2],.bool r.2]) (fun q=>[⟨(.sl iT),⟨q.1,r.1.length,q.2⟩,r.1⟩]):= by
 refine FC.of (T:=TTx) Tryz.call204 Tryz.func204 E E fun w0=>?_
 unfold oI at h
 refine aS aA 3 [] [3,4] [(3,.bp 3 0),(6,.bp 4 0)] (.new 3 41 [sL l g m] (.new 4 41 [.slice none 0 0] .nil)) ⟨(Es E),(Bs E E)⟩ E E (JS.seq (JS.seq (JS.region (aB aA 1 [] [] [(9,.v (.agg #[sL l g m]))] _ E ev1 ?_))))
 refine bnw h fun o O h=>JO.call E E E E (sW g l m _ O) E [0] E E fun _ _=>aB aA 3 [] [] [(12,.v (.bool (!o))),(13,.cd [(12,false)] (.v (I k)))] _ E ⟨(Es E),E⟩ ?_
 obtain ⟨y,P,-,h⟩:=bB h
 refine bR E E E E (fun Q=>eG k 0 2 _ (P Q)) E [] E E (aB aA 4 [] [] [(17,.v (.bool (bif (!o) then true else (!y)))),(18,.cd [(17,false)] (.v (sL i d j)))] _ E ⟨(Es E),E⟩ ?_)
 obtain ⟨R,S,-,h⟩:=bB h
 refine bR E E E E (fun U=>nM d i j _ (S U)) E [1] E E (aB aA 2 [] [] [(21,.v (.bool (bif (bif (!o) then true else (!y)) then true else (!R))))] _ E ev1 (aC E ?_))
 refine aJ E h (fun h=>?_) (fun h=>?_)
 ·
  refine aS aA 3 [] [] [(7,.v (.bool false))] (.new 4 41 [.slice none 0 0] .nil) ⟨ev2,(Bs E E)⟩ E E ?_
  cases h
  refine aX (.sl iT) Sl.nil E E (JS.ret aA (none,0) V E E [0] E)
 refine JS.skip (JS.seq (JS.region (aB aA 1 [] [] [(23,.v (.agg #[sL l g m]))] _ E ev1 ?_)))
 refine bnw h fun a X h=>JO.call E E E E (tF g l m _ X) E [0] E E ?_
 rintro ⟨b,c⟩ -
 refine aL aA 2 [] [16] [(8,.bp 16 0)] (.new 4 41 [.slice none 0 0] (.new 16 41 [sL b a c] .nil)) E ⟨ev2,(Bs E E)⟩ (aC E (JS.seq ?_))
 obtain ⟨Y,Z,h⟩:=aM h
 refine bA (ι:=List (List Int)×Option Addr×Nat) ⟨fun z=>Y z.1=some r,fun z=>[(6,.bp 4 0),(8,.bp 16 0)],fun z=>(.new 4 41 [.slice none 0 0] (.new 16 41 [sL z.2.1 z.1 z.2.2] .nil)),fun z=>[],fun z=>[⟨(.sl iT),⟨z.2.1,z.1.length,z.2.2⟩,z.1⟩],fun z=>0⟩ ?_ ?_
 ·
  refine aE aA 4 [(37,.v (.bool (decide ((d.length:Int)=0))))] ev1 E E ?_
  refine aJ E h (fun h=>?_) (fun h=>?_)
  ·
   refine JS.skip (aV (aO (a,b,c) h (Es E) (Bs E E) [] E [0] E))
  refine JS.seq (JS.region (cC 2 E fun e=>?_))
  obtain ⟨p,h⟩:=aH h
  refine aB aA 13 [] [] [(50,.v (.bool (bif (decide (k=0)) then true else (decide ((a.length:Int)=0))))),(54,.cd [(50,false)] (.ep ⟨b,a.length,c⟩ (Int.toNat 0*1)))] _ E ⟨(fun a0=>e.ix (p a0)),(fun a1=>e.fa (p a1)),(Es E),E⟩ (aAr [0] E (Int.toNat 0) (at' a 0) E fun A B a2 a3=>?_)
  obtain rfl:([sL A (at' a 0) B]:List Value)=a2:=Option.some.inj a3
  refine dI aA E E E E E E 2 E E (Int.toNat 0) 0 (Sum.inr [sL A (at' a 0) B]) (fun a5=>⟨sE (bH (p a5)),E⟩) E E E (aB aA 7 [(W (((at' a 0).length:Int)+(d.length:Int)))] [] [(41,.v (.bool (bif (bif (decide (k=0)) then true else (decide ((a.length:Int)=0))) then true else (decide (400<(W (((at' a 0).length:Int)+(d.length:Int))))))))] _ E ⟨(fun c6=>ev5),ev2,E⟩ (zF [0,0] E (at' a 0) E ev9 (aC E ?_)))
  refine aJ E h (fun h=>?_) (fun h=>?_)
  ·
   refine JS.seq ?_
   obtain ⟨f,a6,h⟩:=aD h
   obtain ⟨a7,h⟩:=aH h
   refine bE E (.new 16 41 [sL b a c] .nil) [] [6,7,8] ev3 E (fun c7=>?_)
   refine cD aA aI true 6 [0,4,5] E (by kernel_rfl) [] [(62,.v (sL i d j)),(67,.v (sL b a c))] ev3 [] E E (Es E) (JA.one 1 (by kernel_rfl) (JK.call E E E E (dC d i j _ a6) E [1] E E ?_))
   rintro ⟨a9,b0⟩ -
   refine aQ ⟨E,E,E,E,V⟩ [] E (cD aA aI true 4 [2] E (by kernel_rfl) [] [(64,.v (.agg #[sL a9 f b0]))] ⟨E,E,E,E,V⟩ [] E E ⟨E,V⟩ (JA.one 3 (by kernel_rfl) (JK.buildSlice aA E E E E E E E E E E E [0] E (.sl iT) [f] ⟨E,E,E⟩ E E fun c8=>aQ ⟨E,E,E,E,V⟩ [] E (JA.one 6 (by kernel_rfl) (iL aA E E E E ⟨E,E,E,E,V,E,E,E,E⟩ E E [0,0] E a7 E fun C D=>aR E (aW aA aI 1 [7] E (by kernel_rfl) [] [(69,.bp 16 0)] E ⟨E,V⟩ (JA.one 8 (by kernel_rfl) (aY aA E E E E E E E E (aR E (bI (by kernel_rfl) (bC (B':=(.new 4 41 [.slice none 0 0] (.new 16 41 [sL C (([f]:List (List Int)) ++ a) D] .nil))) (Bs E E) (JS.region (aB aA 6 [] [] [(71,.v (sL C (([f]:List (List Int)) ++ a) D)),(75,.v (I (min ((([f]:List (List Int)) ++ a).length:Int) 6)))] _ E ⟨(Es E),E⟩ ?_)))))))))))))
   obtain ⟨b1,h⟩:=aH h
   refine pX aA E E E E E E E E [0] E (0:Int) (min ((([f]:List (List Int)) ++ a).length:Int) 6) E E b1 E fun F G=>aL aA 2 [] [] [] (.new 4 41 [.slice none 0 0] (.new 16 41 [sL F (bJ (([f]:List (List Int)) ++ a) 0 (min ((([f]:List (List Int)) ++ a).length:Int) 6)) G] .nil)) E ⟨V,(Bs E E)⟩ (aC E (aV (aO ((bJ (([f]:List (List Int)) ++ a) 0 (min ((([f]:List (List Int)) ++ a).length:Int) 6)),F,G) h (Es E) (Bs E E) [] E [0] E)))
  refine aE aA 3 [(78,.v (.bool (decide (k=1))))] ev1 E E ?_
  refine aJ E h (fun h=>?_) (fun h=>?_)
  ·
   obtain ⟨s,h⟩:=aH h
   obtain ⟨b2,h⟩:=aH h
   obtain ⟨t,h⟩:=aH h
   refine vJ (id:=0) (aAr [0] E (Int.toNat 0) (at' a 0) E ?_)
   intro H J b3 b4
   obtain rfl:([sL H (at' a 0) J]:List Value)=b3:=Option.some.inj b4
   refine vL ?_
   refine bE E (.new 16 41 [sL b a c] .nil) [2] [9,10,11] ev3 E (fun d0=>?_)
   refine cD aA aI true 5 [0,1,2,3,4,5,7] E (by kernel_rfl) [] [(82,.v (sL b a c)),(86,.ep ⟨b,a.length,c⟩ (Int.toNat 0*1)),(88,.v (sL i d j))] ev3 [2] E E ⟨e.ix s,e.fa s,(Es E)⟩ (xE aA aI 6 E (by kernel_rfl) E E E E E 0 E E (Int.toNat 0) 0 (Sum.inr [sL H (at' a 0) J]) ⟨sE (bH s),E⟩ E E E ev3 [2] E (JA.one 8 (by kernel_rfl) (bN aA E E E E ⟨E,E,E,E,V,E,E,E,E⟩ E E E [1] E 1 E b2 E fun b5 b6=>aQ ev3 [3] E (aW aA aI 1 [9,10] E (by kernel_rfl) [] [(91,.ep ⟨b,a.length,c⟩ (Int.toNat 0*1))] E ⟨e.ix t,e.fa t,ev2⟩ (JA.one 11 (by kernel_rfl) (aFq aA E E E E E E E E E [1] E 0 [sL b5 ((at' a 0) ++ d) b6] (sE (bH t)) E ev9 (aR E (bI (by kernel_rfl) (bC (B':=(.new 4 41 [.slice none 0 0] (.new 16 41 [sL b a c] .nil))) (Bs E E) ?_)))))))))
   refine vJ (id:=0) (aBd [0,0] E ((at' a 0) ++ d) ev9 (vL ?_))
   refine aV (aO ((List.set a (Int.toNat 0) ((at' a 0) ++ d)),b,c) h (Es E) ⟨E,E,E,E,E,(congrArg (fun n=>([.slice b n c]:List Value)) (List.length_set.trans E)),E,E,V⟩ [] E [0] (by simp only [List.length_set,List.length_replicate,cV,fU,sL,fI,vD];rfl))
  obtain ⟨u,b7,h⟩:=aD h
  obtain ⟨w,h⟩:=aH h
  obtain ⟨b8,h⟩:=aH h
  obtain ⟨x,h⟩:=aH h
  refine vJ (id:=0) (aAr [0] E (Int.toNat 0) (at' a 0) E ?_)
  intro K L b9 c0
  obtain rfl:([sL K (at' a 0) L]:List Value)=b9:=Option.some.inj c0
  refine vL ?_
  refine bE E (.new 16 41 [sL b a c] .nil) [2] [10,11,12] ev3 E (fun d1=>?_)
  refine cD aA aI true 6 [0,1,2,4,5,6,7] E (by kernel_rfl) [] [(26,.v (sL b a c)),(27,.v (sL i d j)),(32,.ep ⟨b,a.length,c⟩ (Int.toNat 0*1))] ev3 [2] E E ⟨e.ix w,e.fa w,(Es E)⟩ (xE aA aI 8 E (by kernel_rfl) E E E E E 0 E E (Int.toNat 0) 0 (Sum.inr [sL K (at' a 0) L]) ⟨sE (bH w),E⟩ E E E ev3 [2] E (JA.one 3 (by kernel_rfl) (JK.call E E E E (dC d i j _ b7) E [1] E E ?_)))
  rintro ⟨d2,d3⟩ -
  refine aQ ev3 [3] E (JA.one 9 (by kernel_rfl) (bN aA E E E E ⟨E,E,E,E,V,E,E,E,E⟩ E E E [0] E 4 E b8 E fun c1 c2=>aQ ev3 [3] E (aW aA aI 1 [10,11] E (by kernel_rfl) [] [(36,.ep ⟨b,a.length,c⟩ (Int.toNat 0*1))] E ⟨e.ix x,e.fa x,ev2⟩ (JA.one 12 (by kernel_rfl) (aFq aA E E E E E E E E E [1] E 0 [sL c1 (u ++ (at' a 0)) c2] (sE (bH x)) E ev9 (aR E (bI (by kernel_rfl) (bC (B':=(.new 4 41 [.slice none 0 0] (.new 16 41 [sL b a c] .nil))) (Bs E E) ?_))))))))
  refine vJ (id:=0) (aBd [0,0] E (u ++ (at' a 0)) ev9 (vL ?_))
  refine aV (aO ((List.set a (Int.toNat 0) (u ++ (at' a 0))),b,c) h (Es E) ⟨E,E,E,E,E,(congrArg (fun n=>([.slice b n c]:List Value)) (List.length_set.trans E)),E,E,V⟩ [] E [0] (by simp only [List.length_set,List.length_replicate,cV,fU,sL,fI,vD];rfl))
 rintro ⟨c3,M,N⟩ h
 subst Z
 refine aS aA 3 [] [] [(7,.v (.bool true))] (.new 4 41 [sL M c3 N] .nil) ⟨ev2,(Bs E E)⟩ E E ?_
 cases h
 exact JS.ret aA (M,N) V E E [0] E

def mX (b:EdQ) (e:Int) (f:Int) (g:Int):Option (EdQ×Int):= (aF (iI b.2.2.1 e f) fun (h,c,i)=>(bif (bif (!i) then true else (decide ((c.length:Int)=0))) then (aF (cR b) fun (j,k)=> some (j,k)) else (aT (fun (l:Int)=>(aF (mB b h 2) fun a=>(aF (oI b.2.2.2.2.2.2.2.2.2.2.1 c l) fun (m,n)=> some ((a.1,a.2.1,a.2.2.1,a.2.2.2.1,a.2.2.2.2.1,a.2.2.2.2.2.1,a.2.2.2.2.2.2.1,a.2.2.2.2.2.2.2.1,a.2.2.2.2.2.2.2.2.1,a.2.2.2.2.2.2.2.2.2.1,m,a.2.2.2.2.2.2.2.2.2.2.2.1,a.2.2.2.2.2.2.2.2.2.2.2.2.1,a.2.2.2.2.2.2.2.2.2.2.2.2.2.1,a.2.2.2.2.2.2.2.2.2.2.2.2.2.2.1,a.2.2.2.2.2.2.2.2.2.2.2.2.2.2.2.1,a.2.2.2.2.2.2.2.2.2.2.2.2.2.2.2.2),0)))) fun d=>(bif (!(decide (b.2.2.2.2.2.2.2.2.2.1=2))) then d 0 else d g))))

theorem tW (b:EdQ) (k:Int) (l:Int) (m:Int) (a:P6) (r:EdQ×Int) (h:mX b k l m=some r):
 FC Tryz.prog 117 [.agg (aG b a).toArray,I k,I l,I m] (cH b a []) (fun _:P6=>True) (fun q=>.tuple #[.agg (aG r.1 q).toArray,I r.2]) (fun q=>(cH r.1 q [])):= by
 refine FC.of (T:=TTx) Tryz.call117 Tryz.func117 E E fun H=>?_
 unfold mX at h
 refine aS aA 3 [] [7,8] [(4,.bp 7 0),(8,.bp 8 0)] (.new 7 46 (aG b a) (.new 8 46 bG .nil)) ⟨(Es E),(Bs E E)⟩ E E (JS.seq (JS.region (aB aA 4 [] [] [(16,.v (.agg #[sL a.1 b.2.2.1.1 a.2.1,I b.2.2.1.2])),(17,.v (I k)),(18,.v (I l))] _ E ⟨(Es E),E⟩ ?_)))
 obtain ⟨⟨c,e,s⟩,x,h⟩:=aD h
 refine JO.call E E E E (rO b.2.2.1 k l a.1 a.2.1 _ x) E [0] E E ?_
 rintro ⟨f,g,i,j⟩ -
 refine aL aA 8 [] [19] [(10,.bp 19 0),(11,.v (sL i e j)),(12,.v (.bool s))] (.new 7 46 (aG b a) (.new 8 46 bG (.new 19 38 [sL f c.1 g,I c.2] .nil))) E ⟨(Es E),(Bs E E)⟩ (aC E (JS.seq (aE aA 7 [(29,.v (.bool (bif (!s) then true else (decide ((e.length:Int)=0)))))] ev1 E E ?_)))
 refine aJ E h (fun h=>?_) (fun h=>?_)
 ·
  refine JS.seq (JS.region (aB aA 1 [] [] [(30,.v (.agg (aG b a).toArray))] _ E ev1 ?_))
  obtain ⟨⟨y,A⟩,B,h⟩:=aD h
  refine JO.call E E E E (cX b a _ B) E [0,1,2,3,4,5] E E fun t _=>aL aA 4 [] [] [(9,.v (I A))] (.new 8 46 (aG y t) .nil) E ⟨ev2,(Bs E E)⟩ (aC E ?_)
  cases h
  exact JS.ret aA t V E E [0,0,0,0,0,0] E
 refine JS.skip ?_
 obtain ⟨C,D,h⟩:=aM h
 refine cJ (ι:=Int) ⟨fun z=>C z=some r,fun z=>[(3,.v (I z)),(4,.bp 7 0),(8,.bp 8 0),(10,.bp 19 0),(11,.v (sL i e j))],fun z=>(.new 7 46 (aG b a) (.new 8 46 bG (.new 19 38 [sL f c.1 g,I c.2] .nil))),fun z=>(cH b a []),fun z=>[fI i j e,fI f g c.1],fun z=>0⟩ ?_ ?_
 ·
  refine aE aA 3 [(36,.v (.bool (!(decide ((Q8 b).2.1=2)))))] ev1 E E ?_
  refine aJ E h (fun h=>?_) (fun h=>?_)
  ·
   refine lT aA 1 [(3,.v (I 0))] ev1 E E (aO 0 h (Es E) (Bs E E) [0,1,2,3,4,5] E [1,0] E)
  refine JS.skip (aO m h (Es E) (Bs E E) [0,1,2,3,4,5] E [1,0] E)
 rintro u h
 subst D
 refine JS.seq (JS.region (aB aA 2 [] [] [(37,.v (.agg (aG b a).toArray)),(38,.v (.agg #[sL f c.1 g,I c.2]))] _ E ⟨(Es E),E⟩ ?_))
 refine bnw h fun n F h=>JO.call E E E E (sD b c 2 a f g _ F) E [0,1,2,3,4,5,7] E E fun d _=>aL aA 2 [] [63] [(13,.bp 63 0)] (.new 7 46 (aG b a) (.new 8 46 bG (.new 63 46 (aG n d) .nil))) E ⟨ev2,(Bs E E)⟩ (aC E (JS.seq (JS.region (aB aA 4 [] [] [(42,.v (.agg #[sL a.2.2.1 (Q8 b).2.2.1 a.2.2.2.1])),(43,.v (sL i e j)),(44,.v (I u))] _ E ⟨(Es E),E⟩ ?_))))
 obtain ⟨⟨w,J⟩,G,h⟩:=aD h
 refine JO.call E E E E (aAc (Q8 b).2.2.1 e u a.2.2.1 a.2.2.2.1 i j _ G) E [1,12] E E ?_
 rintro ⟨o,p⟩ -
 refine aL aA 5 [] [] [] (.new 8 46 bG (.new 63 46 (aG (U10 n w) (d.1,d.2.1,o,p,(Q4 d))) .nil)) E ⟨V,(Bs E E)⟩ (aC E (aS aA 3 [] [] [(9,.v (I 0))] (.new 8 46 (aG (U10 n w) (d.1,d.2.1,o,p,(Q4 d))) .nil) ⟨ev2,(Bs E E)⟩ E E ?_))
 cases h
 exact JS.ret aA (U3 (U2 d o) p) V E E [1,0,1,1,1,1] E

def mW (a:EdQ) (c:Int):Option (EdQ×Int×Bool):= (aF (cK a) fun d=>(aT (fun ((e,f):Int×EdQ)=> some (f,e,true)) fun b=>(bif decide (c=99) then b (3,d) else (bif decide (c=108) then b (5,d) else (bif decide (c=100) then (bif decide (0<(a.2.2.1.1.length:Int)) then (aF (vI a a.2.2.1.2 (min (W (a.2.2.1.2+(max a.2.2.2.1 1))) (a.2.2.1.1.length:Int))) fun (g,h)=> b (h,g)) else b (4,d)) else (bif decide (c=117) then (aF (mX a 0 a.2.2.1.2 2) fun (i,j)=> b (j,i)) else (bif decide (c=119) then (aF (jD a.2.2.1.1 a.2.2.1.2 true) fun k=>(aF (mX a k a.2.2.1.2 2) fun (l,m)=> b (m,l))) else some ((false,0,([],0),0,0,0,0,0,0,0,[],[],0,([],0),[],0,([],0)),0,false))))))))

theorem aDb (a:EdQ) (c:Int) (b:P6) (r:EdQ×Int×Bool) (h:mW a c=some r):
 FC Tryz.prog 167 [.agg (aG a b).toArray,I c] (cH a b []) (fun _:P6=>True) (fun q=>.tuple #[.agg (aG r.1 q).toArray,I r.2.1,.bool r.2.2]) (fun q=>(cH r.1 q [])):= by
 refine FC.of (T:=TTx) Tryz.call167 Tryz.func167 E E fun F=>?_
 unfold mW at h
 refine aS aA 4 [] [7,8] [(2,.bp 7 0),(4,.bp 8 0)] (.new 7 46 (aG a b) (.new 8 46 bG .nil)) ⟨(Es E),(Bs E E)⟩ E E (JS.seq (eZ E (by kernel_rfl) (eC aA 8 [] [(7,.v (I a.2.2.1.2)),(8,.v (I (max a.2.2.2.1 1)))] E (Es E) (kW E (JS.seq (JS.region (aB aA 1 [] [] [(17,.v (.agg (aG a b).toArray))] _ E ev1 ?_)))))))
 refine bnw h fun d s h=>JO.call E E E E (dK a b _ s) E [0,1,2,3,4,5] E E fun e _=>aL aA 3 [] [29] [(9,.bp 29 0)] (.new 7 46 (aG a b) (.new 8 46 bG (.new 29 46 (aG d e) .nil))) E ⟨ev2,(Bs E E)⟩ (aC E (JS.seq (aE aA 1 [(19,.v (I c))] ev1 E E ?_)))
 obtain ⟨t,u,h⟩:=aM h
 refine bA (ι:=Int×EdQ×P6) ⟨fun z=>t (z.1,z.2.1)=some r,fun z=>[(4,.bp 8 0),(9,.bp 29 0),(10,.v (I z.1))],fun z=>(.new 8 46 bG (.new 29 46 (aG z.2.1 z.2.2) .nil)),fun z=>[],fun z=>(cH z.2.1 z.2.2 []),fun z=>0⟩ ?_ ?_
 ·
  refine aE aA 2 [(21,.v (.bool (decide (c=99))))] ev1 E E ?_
  refine aJ E h (fun h=>?_) (fun h=>?_)
  ·
   refine lT aA 1 [(10,.v (I 3))] ev1 E E (aV (bT (3,d,e) h (Es E) (Bs E E) [] E [0,1,2,3,4,5] E E))
  refine aE aA 2 [(23,.v (.bool (decide (c=108))))] ev1 E E ?_
  refine aJ E h (fun h=>?_) (fun h=>?_)
  ·
   refine lT aA 1 [(10,.v (I 5))] ev1 E E (aV (bT (5,d,e) h (Es E) (Bs E E) [] E [0,1,2,3,4,5] E E))
  refine aE aA 2 [(25,.v (.bool (decide (c=100))))] ev1 E E ?_
  refine aJ E h (fun h=>?_) (fun h=>?_)
  ·
   refine aE aA 1 [(10,.v (I 4))] ev1 E E (aE aA 5 [(31,.v (.bool (decide (0<(a.2.2.1.1.length:Int)))))] ev1 E E ?_)
   refine aJ E h (fun h=>?_) (fun h=>?_)
   ·
    refine JS.region (aB aA 10 [(W (a.2.2.1.2+(max a.2.2.2.1 1)))] [] [(33,.v (.agg (aG a b).toArray)),(34,.v (I a.2.2.1.2)),(42,.v (I (min (W (a.2.2.1.2+(max a.2.2.2.1 1))) (a.2.2.1.1.length:Int))))] _ E ⟨ev5,(Es E),E⟩ ?_)
    obtain ⟨⟨j,k⟩,w,h⟩:=aD h
    refine JO.call E E E E (aDg a a.2.2.1.2 (min (W (a.2.2.1.2+(max a.2.2.2.1 1))) (a.2.2.1.1.length:Int)) b _ w) E [0,1,2,3,4,5] E E fun l _=>aL aA 5 [] [] [(10,.v (I k))] (.new 8 46 bG (.new 29 46 (aG j l) .nil)) E ⟨ev2,(Bs E E)⟩ (aC E (aV (bT (k,j,l) h (Es E) (Bs E E) [] E [0,1,2,3,4,5] E E)))
   refine JS.skip (aV (bT (4,d,e) h (Es E) (Bs E E) [] E [0,1,2,3,4,5] E E))
  refine aE aA 2 [(46,.v (.bool (decide (c=117))))] ev1 E E ?_
  refine aJ E h (fun h=>?_) (fun h=>?_)
  ·
   refine JS.region (aB aA 2 [] [] [(49,.v (.agg (aG a b).toArray)),(50,.v (I a.2.2.1.2))] _ E ⟨(Es E),E⟩ ?_)
   obtain ⟨⟨m,n⟩,x,h⟩:=aD h
   refine JO.call E E E E (tW a 0 a.2.2.1.2 2 b _ x) E [0,1,2,3,4,5] E E fun o _=>aL aA 5 [] [] [(10,.v (I n))] (.new 8 46 bG (.new 29 46 (aG m o) .nil)) E ⟨ev2,(Bs E E)⟩ (aC E (aV (bT (n,m,o) h (Es E) (Bs E E) [] E [0,1,2,3,4,5] E E)))
  refine aE aA 2 [(54,.v (.bool (decide (c=119))))] ev1 E E ?_
  refine aJ E h (fun h=>?_) (fun h=>?_)
  ·
   obtain ⟨y,A,h⟩:=aD h
   obtain ⟨⟨f,g⟩,B,h⟩:=aD h
   refine bE E (.new 7 46 (aG a b) .nil) [] [7,8,9,10,11,12] ev3 E (fun G=>?_)
   refine cD aA aI true 10 [0,4,6] E (by kernel_rfl) [] [(57,.v (.agg (aG a b).toArray)),(61,.v (I a.2.2.1.2)),(63,.v (I a.2.2.1.2))] ev3 [] E E (Es E) (aW aA aI 9 [1] E (by kernel_rfl) [] [(58,.bp 7 2)] E ev2 (cD aA aI true 7 [2,3] E (by kernel_rfl) [] [(60,.v (sL b.1 a.2.2.1.1 b.2.1))] ev3 [] E E ev2 (JA.one 5 (by kernel_rfl) (JK.call E E E E (vQ a.2.2.1.1 a.2.2.1.2 true b.1 b.2.1 _ A) E [0] E E fun _ _=>aQ ev3 [] E (JA.one 7 (by kernel_rfl) (JK.call E E E E (tW a y a.2.2.1.2 2 b _ B) E [0,1,2,3,4,5] E E ?_))))))
   rintro i -
   refine aR E (aW aA aI 2 [8,9,10] E (by kernel_rfl) [] [(65,.v (.agg (aG f i).toArray)),(66,.v (I g))] E (Es E) (JA.one 11 (by kernel_rfl) (aY aA E E E E E E E E (aR E (aW aA aI 0 [12] E (by kernel_rfl) [] [(10,.v (I g))] E ev2 (bI (by kernel_rfl) (bC (B':=(.new 8 46 bG (.new 29 46 (aG f i) .nil))) (Bs E E) (aV (bT (g,f,i) h (Es E) (Bs E E) [] E [0,1,2,3,4,5] E E)))))))))
  refine aS aA 4 [] [] [(5,.v (I 0)),(6,.v (.bool false))] (.new 8 46 bG .nil) ⟨(Es E),(Bs E E)⟩ E E ?_
  cases h
  refine aX iT Sl.nil E E (aX (.sl iT) Sl.nil E E (aX (.pair (.sl iT) iT) Sl.nil E E (aX iT Sl.nil E E (aX iT Sl.nil E E (aX iT Sl.nil E E (JS.ret aA (none,0,none,0,none,0,none,0,none,0,none,0) V E E [5,4,3,2,1,0] E))))))
 rintro ⟨C,D,p⟩ h
 subst u
 refine aS aA 5 [] [] [(5,.v (I C)),(6,.v (.bool true))] (.new 8 46 (aG D p) .nil) ⟨(Es E),(Bs E E)⟩ E E ?_
 cases h
 exact JS.ret aA p V E E [0,0,0,0,0,0] E

def jN (b:List Int) (d:Int) (e:(List Int)→Option (List Int)) (f:(List Int×Int)→Option (List Int)):(List Int×Int)→Option (List Int):=fun (a,c)=>(bif (bif decide (c<d) then (decide ((a.length:Int)≤400)) else false) then (aN (a.length+b.length≤536870912) <|f ((a ++ b),(W (c+1)))) else e a)

def mA (a:List Int) (b:Int):Option (List Int):= (aT (fun (c:List Int)=> some c) fun d=>(aZ (jN a b d) bO (([]:List Int),0)))

theorem yR (a:List Int) (b:Int) (c:Option Addr) (d:Nat) (r:List Int) (h:mA a b=some r):
 FC Tryz.prog 166 [sL c a d,I b] [fI c d a] (fun _:Option Addr×Nat=>True) (fun q=>sL q.1 r q.2) (fun q=>[fI q.1 q.2 r]):= by
 refine FC.of (T:=TTx) Tryz.call166 Tryz.func166 E E fun u=>?_
 unfold mA at h
 refine aE aA 1 [] ev5 E E (aE aA 1 [(5,.v (.slice none 0 0))] ev1 E E (JS.seq (aE aA 1 [(6,.v (I 0))] ev1 E E ?_)))
 obtain ⟨g,p,h⟩:=aM h
 refine bA (ι:=List Int×Option Addr×Nat) ⟨fun z=>g z.1=some r,fun z=>[(5,.v (sL z.2.1 z.1 z.2.2))],fun z=>.nil,fun z=>[],fun z=>[fI z.2.1 z.2.2 z.1],fun z=>0⟩ ?_ ?_
 ·
  refine aX iT Sl.nil E E (JS.loop (ι:=Nat×List Int×Int×Option Addr×Nat) ⟨fun z=>aZ (jN a b g) z.1 (z.2.1,z.2.2.1)=some r,fun z=>[(0,.v (sL c a d)),(1,.v (I b)),(5,.v (sL z.2.2.2.1 z.2.1 (Q4 z))),(6,.v (I z.2.2.1))],fun z=>.nil,fun z=>[fI c d a],fun z=>[fI z.2.2.2.1 (Q4 z) z.2.1],fun z=>z.1⟩ (bO,([]:List Int),0,none,0) h (Es E) V [0] E [0] E ?_)
  rintro ⟨i,e,f,j,k⟩ h
  obtain ⟨i,rfl,h⟩:=bK h
  rw [jN] at h
  refine JS.seq (aE aA 8 [(14,.v (.bool (bif (decide (f<b)) then (decide ((e.length:Int)≤400)) else false)))] ev1 E E ?_)
  refine aJ E h (fun h=>?_) (fun h=>?_)
  ·
   refine JS.skip (JS.seq (JS.block (JS.region (aB aA 2 [] [] [(17,.v (sL j e k)),(18,.v (sL c a d))] _ E ⟨(Es E),E⟩ ?_))))
   obtain ⟨s,h⟩:=aH h
   refine jK aA E E E E ⟨E,E,E,E,V,E,E,E,E⟩ E E E [0] E 0 E s E fun l m=>aB aA 1 [] [] [(5,.v (sL l (e ++ a) m))] _ E ev1 (aC E (aV (cS aA 3 [(W (f+1))] [] [(6,.v (I (W (f+1))))] _ ev4 E E (bZ (i,(e ++ a),(W (f+1)),l,m) h (Nat.lt_succ_self _) (Es E) V [0] E [0] E))))
  refine JS.exit E (aO (e,j,k) h ev2 V [] E [0] E)
 rintro ⟨t,n,o⟩ h
 subst p
 refine aE aA 2 [(4,.v (sL n t o))] ev1 E E ?_
 cases h
 exact JS.ret aA (n,o) V E E [0] E

def jI (a:List Int×Int) (b:List Int):Option ((List Int×Int)×Bool):= (aF (eJ a) fun e=>(bif (bif (!e) then true else (decide (400<(b.length:Int)))) then some (([],0),false) else (aT (fun (d:List Int)=>(aF (eJ (d,(W (a.2+(b.length:Int))))) fun f=>(bif (!f) then some (([],0),false) else some ((d,(W (a.2+(b.length:Int)))),true)))) fun g=>(aN (0≤(0:Int)∧(0:Int)≤a.2∧a.2≤(a.1.length:Int)) <|(aF (cL (bJ a.1 (0:Int) a.2)) fun c=>(aN (c.length+b.length≤536870912) <|(aN (0≤a.2∧a.2≤(a.1.length:Int)∧(a.1.length:Int)≤(a.1.length:Int)) <|(aN ((c ++ b).length+(bJ a.1 a.2 (a.1.length:Int)).length≤536870912) <|g ((c ++ b) ++ (bJ a.1 a.2 (a.1.length:Int)))))))))))

theorem oQ (a:List Int×Int) (b:List Int) (f:Option Addr) (g:Nat) (n:Option Addr) (o:Nat) (r:(List Int×Int)×Bool) (h:jI a b=some r):
 FC Tryz.prog 245 [.agg #[sL f a.1 g,I a.2],sL n b o] [fI f g a.1,fI n o b] (fun _:Option Addr×Nat=>True) (fun q=>.tuple #[.agg #[sL q.1 r.1.1 q.2,I r.1.2],.bool r.2]) (fun q=>[fI q.1 q.2 r.1.1]):= by
 refine FC.of (T:=TTx) Tryz.call245 Tryz.func245 E E fun N=>?_
 unfold jI at h
 refine aS aA 3 [] [3,4] [(2,.bp 3 0),(4,.bp 4 0)] (.new 3 38 [sL f a.1 g,I a.2] (.new 4 38 [.slice none 0 0,I 0] .nil)) ⟨(Es E),(Bs E E)⟩ E E (JS.seq (JS.seq (JS.region (aB aA 1 [] [] [(7,.v (.agg #[sL f a.1 g,I a.2]))] _ E ev1 ?_))))
 refine bnw h fun B C h=>JO.call E E E E (gE a f g _ C) E [0] E E fun _ _=>aB aA 6 [] [] [(14,.v (.bool (bif (!B) then true else (decide (400<(b.length:Int))))))] _ E ev1 (aC E ?_)
 refine aJ E h (fun h=>?_) (fun h=>?_)
 ·
  refine aS aA 3 [] [] [(5,.v (.bool false))] (.new 4 38 [.slice none 0 0,I 0] .nil) ⟨ev2,(Bs E E)⟩ E E ?_
  cases h
  refine aX iT Sl.nil E E (JS.ret aA (none,0) V E E [0] E)
 refine JS.skip (JS.seq ?_)
 obtain ⟨D,F,h⟩:=aM h
 refine vK (ι:=List Int×Option Addr×Nat) ⟨fun z=>D z.1=some r,fun z=>[(4,.bp 4 0),(6,.bp 30 0)],fun z=>(.new 4 38 [.slice none 0 0,I 0] (.new 30 38 [sL z.2.1 z.1 z.2.2,I (W (a.2+(b.length:Int)))] .nil)),fun z=>[],fun z=>[fI z.2.1 z.2.2 z.1],fun z=>0⟩ ?_ ?_
 ·
  obtain ⟨i,h⟩:=aH h
  obtain ⟨e,t,h⟩:=aD h
  obtain ⟨p,h⟩:=aH h
  obtain ⟨j,h⟩:=aH h
  obtain ⟨k,h⟩:=aH h
  refine xQ 0 E (0:Int) a.2 fun u w G=>xQ 1 E a.2 (a.1.length:Int) fun O P H=>iK 2 E fun x=>?_
  refine bE E (.new 3 38 [sL f a.1 g,I a.2] .nil) [] [19,21] ev3 E (fun Q=>?_)
  refine aW aA aI 20 [0,2] E (by kernel_rfl) [] [(16,.bp 3 0),(18,.bp 3 1)] E (Es E) (cD aA aI true 8 [1,3,6,8,9,10,11,14,15,16,17,18] E (by kernel_rfl) [(W (a.2+(b.length:Int)))] [(17,.v (sL f a.1 g)),(19,.v (I a.2)),(22,.v (sL n b o)),(25,.v (sL f a.1 g)),(27,.v (I a.2)),(34,.v (I (W (a.2+(b.length:Int)))))] ev3 [] E E ⟨ev5,(Es E)⟩ (pZ aA aI 4 E (by kernel_rfl) E E E E E E (0:Int) a.2 E E ⟨i.1,i.2.1,i.2.2,x.cap,G i⟩ E (pZ aA aI 12 E (by kernel_rfl) E E E E E E a.2 (a.1.length:Int) E E ⟨j.1,j.2.1,j.2.2,x.cap,H j⟩ E ?_)))
  refine JA.all (rs:=[5,20]) (by kernel_rfl) E (List.forall_mem_cons.2 ⟨?_,List.forall_mem_cons.2 ⟨?_,(fun _ hx=>absurd hx List.not_mem_nil)⟩⟩)
  ·
   refine JK.call E E E E (dC (bJ a.1 (0:Int) a.2) u w _ t) E [1] E E ?_
   rintro ⟨J,K⟩ -
   refine aQ ev3 [] E ?_
   refine JA.all (rs:=[7,20]) (by kernel_rfl) E (List.forall_mem_cons.2 ⟨?_,List.forall_mem_cons.2 ⟨?_,(fun _ hx=>absurd hx List.not_mem_nil)⟩⟩)
   ·
    refine bN aA E E E E ⟨E,E,E,E,V,E,E,E,E⟩ E E E [0] E 3 E p E fun y A=>aQ ev3 [] E ?_
    refine JA.all (rs:=[13,20]) (by kernel_rfl) E (List.forall_mem_cons.2 ⟨?_,List.forall_mem_cons.2 ⟨?_,(fun _ hx=>absurd hx List.not_mem_nil)⟩⟩)
    ·
     refine bN aA E E E E ⟨E,E,E,E,V,E,E,E,E⟩ E E E [0] E 0 E k E fun c d=>aQ ev3 [] E (aW aA aI 2 [19] E (by kernel_rfl) [] [(35,.v (.agg #[sL c ((e ++ b) ++ (bJ a.1 a.2 (a.1.length:Int))) d,I (W (a.2+(b.length:Int)))]))] E ev2 (JA.one 20 (by kernel_rfl) (JK.alloc aA E E E E E 30 E (fO _ E) (aQ ev3 [] E (JA.one 21 (by kernel_rfl) (aY aA E E E E E E E E (aR E (bI (by kernel_rfl) (bC (B':=(.new 4 38 [.slice none 0 0,I 0] (.new 30 38 [sL c ((e ++ b) ++ (bJ a.1 a.2 (a.1.length:Int))) d,I (W (a.2+(b.length:Int)))] .nil))) (Bs E E) (aO (((e ++ b) ++ (bJ a.1 a.2 (a.1.length:Int))),c,d) h (Es E) (Bs E E) [] E [0] E))))))))))
    refine JK.alloc aA E E E E E 30 E (fO _ E) (aQ ev3 [] E (JA.one 13 (by kernel_rfl) (bN aA E E E E ⟨E,E,E,E,V,E,E,E,E⟩ E E E [0] E 0 E k E fun c d=>aQ ev3 [] E (aW aA aI 1 [19] E (by kernel_rfl) [] [(35,.v (.agg #[sL c ((e ++ b) ++ (bJ a.1 a.2 (a.1.length:Int))) d,I (W (a.2+(b.length:Int)))]))] E ev2 (JA.one 21 (by kernel_rfl) (aY aA E E E E E E E E (aR E (bI (by kernel_rfl) (bC (B':=(.new 4 38 [.slice none 0 0,I 0] (.new 30 38 [sL c ((e ++ b) ++ (bJ a.1 a.2 (a.1.length:Int))) d,I (W (a.2+(b.length:Int)))] .nil))) (Bs E E) (aO (((e ++ b) ++ (bJ a.1 a.2 (a.1.length:Int))),c,d) h (Es E) (Bs E E) [] E [0] E))))))))))
   refine JK.alloc aA E E E E E 30 E (fO _ E) (aQ ev3 [] E (JA.one 7 (by kernel_rfl) (bN aA E E E E ⟨E,E,E,E,V,E,E,E,E⟩ E E E [0] E 3 E p E fun y A=>aQ ev3 [] E (JA.one 13 (by kernel_rfl) (bN aA E E E E ⟨E,E,E,E,V,E,E,E,E⟩ E E E [0] E 0 E k E fun c d=>aQ ev3 [] E (aW aA aI 1 [19] E (by kernel_rfl) [] [(35,.v (.agg #[sL c ((e ++ b) ++ (bJ a.1 a.2 (a.1.length:Int))) d,I (W (a.2+(b.length:Int)))]))] E ev2 (JA.one 21 (by kernel_rfl) (aY aA E E E E E E E E (aR E (bI (by kernel_rfl) (bC (B':=(.new 4 38 [.slice none 0 0,I 0] (.new 30 38 [sL c ((e ++ b) ++ (bJ a.1 a.2 (a.1.length:Int))) d,I (W (a.2+(b.length:Int)))] .nil))) (Bs E E) (aO (((e ++ b) ++ (bJ a.1 a.2 (a.1.length:Int))),c,d) h (Es E) (Bs E E) [] E [0] E))))))))))))
  refine JK.alloc aA E E E E E 30 E (fO _ E) (aQ ev3 [] E (JA.one 5 (by kernel_rfl) (JK.call E E E E (dC (bJ a.1 (0:Int) a.2) u w _ t) E [1] E E ?_)))
  rintro ⟨J,K⟩ -
  refine aQ ev3 [] E (JA.one 7 (by kernel_rfl) (bN aA E E E E ⟨E,E,E,E,V,E,E,E,E⟩ E E E [0] E 3 E p E fun y A=>aQ ev3 [] E (JA.one 13 (by kernel_rfl) (bN aA E E E E ⟨E,E,E,E,V,E,E,E,E⟩ E E E [0] E 0 E k E fun c d=>aQ ev3 [] E (aW aA aI 1 [19] E (by kernel_rfl) [] [(35,.v (.agg #[sL c ((e ++ b) ++ (bJ a.1 a.2 (a.1.length:Int))) d,I (W (a.2+(b.length:Int)))]))] E ev2 (JA.one 21 (by kernel_rfl) (aY aA E E E E E E E E (aR E (bI (by kernel_rfl) (bC (B':=(.new 4 38 [.slice none 0 0,I 0] (.new 30 38 [sL c ((e ++ b) ++ (bJ a.1 a.2 (a.1.length:Int))) d,I (W (a.2+(b.length:Int)))] .nil))) (Bs E E) (aO (((e ++ b) ++ (bJ a.1 a.2 (a.1.length:Int))),c,d) h (Es E) (Bs E E) [] E [0] E)))))))))))
 rintro ⟨s,l,m⟩ h
 subst F
 refine JS.seq (JS.seq (JS.region (aB aA 1 [] [] [(36,.v (.agg #[sL l s m,I (W (a.2+(b.length:Int)))]))] _ E ev1 ?_)))
 refine bnw h fun L M h=>JO.call E E E E (gE (s,(W (a.2+(b.length:Int)))) l m _ M) E [0] E E fun _ _=>aB aA 1 [] [] [(38,.v (.bool (!L)))] _ E ev1 (aC E ?_)
 refine aJ E h (fun h=>?_) (fun h=>?_)
 ·
  refine aS aA 3 [] [] [(5,.v (.bool false))] (.new 4 38 [.slice none 0 0,I 0] .nil) ⟨ev2,(Bs E E)⟩ E E ?_
  cases h
  refine aX iT Sl.nil E E (JS.ret aA (none,0) V E E [0] E)
 refine JS.skip (aS aA 3 [] [] [(5,.v (.bool true))] (.new 4 38 [sL l s m,I (W (a.2+(b.length:Int)))] .nil) ⟨ev2,(Bs E E)⟩ E E ?_)
 cases h
 exact JS.ret aA (l,m) V E E [0] E

def nT (a:EdQ) (b:List Int) (c:Int):Option (EdQ×Int):= (aF (jI a.2.2.1 b) fun (d,e)=>(bif (!e) then (aF (cR a) fun (f,g)=> some (f,g)) else (aF (mB a d c) fun h=> some (h,0))))

theorem wH (a:EdQ) (c:List Int) (e:Int) (b:P6) (f:Option Addr) (g:Nat) (r:EdQ×Int) (h:nT a c e=some r):
 FC Tryz.prog 165 [.agg (aG a b).toArray,sL f c g,I e] (cH a b [fI f g c]) (fun _:P6=>True) (fun q=>.tuple #[.agg (aG r.1 q).toArray,I r.2]) (fun q=>(cH r.1 q [])):= by
 refine FC.of (T:=TTx) Tryz.call165 Tryz.func165 E E fun w=>?_
 unfold nT at h
 refine aS aA 3 [] [8,9] [(3,.bp 8 0),(6,.bp 9 0)] (.new 8 46 (aG a b) (.new 9 46 bG .nil)) ⟨(Es E),(Bs E E)⟩ E E (JS.seq (JS.region (aB aA 3 [] [] [(12,.v (.agg #[sL b.1 a.2.2.1.1 b.2.1,I a.2.2.1.2])),(13,.v (sL f c g))] _ E ⟨(Es E),E⟩ ?_)))
 obtain ⟨⟨d,k⟩,n,h⟩:=aD h
 refine JO.call E E E E (oQ a.2.2.1 c b.1 b.2.1 f g _ n) E [0,6] E E ?_
 rintro ⟨i,j⟩ -
 refine aL aA 6 [] [16] [(8,.bp 16 0),(9,.v (.bool k))] (.new 8 46 (aG a b) (.new 9 46 bG (.new 16 38 [sL i d.1 j,I d.2] .nil))) E ⟨(Es E),(Bs E E)⟩ (aC E (JS.seq (aE aA 2 [(18,.v (.bool (!k)))] ev1 E E ?_)))
 refine aJ E h (fun h=>?_) (fun h=>?_)
 ·
  refine JS.seq (JS.region (aB aA 1 [] [] [(19,.v (.agg (aG a b).toArray))] _ E ev1 ?_))
  obtain ⟨⟨o,p⟩,s,h⟩:=aD h
  refine JO.call E E E E (cX a b _ s) E [0,1,2,3,4,5] E E fun l _=>aL aA 4 [] [] [(7,.v (I p))] (.new 9 46 (aG o l) .nil) E ⟨ev2,(Bs E E)⟩ (aC E ?_)
  cases h
  exact JS.ret aA l V E E [0,0,0,0,0,0] E
 refine JS.skip (JS.seq (JS.region (aB aA 3 [] [] [(23,.v (.agg (aG a b).toArray)),(24,.v (.agg #[sL i d.1 j,I d.2])),(25,.v (I e))] _ E ⟨(Es E),E⟩ ?_)))
 refine bnw h fun t u h=>JO.call E E E E (sD a d e b i j _ u) E [0,1,2,3,4,5,7] E E fun m _=>aL aA 2 [] [] [(7,.v (I 0))] (.new 9 46 (aG t m) .nil) E ⟨ev2,(Bs E E)⟩ (aC E ?_)
 cases h
 exact JS.ret aA m V E E [0,0,0,0,0,0] E

end
end Go.Eng
