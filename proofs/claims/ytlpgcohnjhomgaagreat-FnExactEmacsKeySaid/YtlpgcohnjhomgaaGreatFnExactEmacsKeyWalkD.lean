/- The walks of the functions that FnExactEmacsKey reaches: what each computes, as a plain function (M_..), and that the model computes it (ok_..). Condition of each: that the plain function answers. -/
import Derived.Test.YtlpgcohnjhomgaaGreatFnExactEmacsKeyWalkC
set_option linter.unusedVariables false
set_option linter.unusedSimpArgs false
namespace Go.Eng
open Go Go.Proofs
noncomputable section

def eX (x0:List (List Int)) (j27:(List (List Int)×Int)→Option (Int×List (List Int))) (k21:(List (List Int)×Int×Int)→Option (Int×List (List Int))):(List (List Int)×Int×Int)→Option (Int×List (List Int)):=fun (x7,x8,x9)=>
  (bif (decide (x9<(x0.length:Int))) then
  (aN (0≤x9∧x9<(x0.length:Int)) <|
  (aG (gK (at' x7 x9) x8) fun (y16,y17)=>
  k21 ((List.set x7 (Int.toNat x9) y17),y16,(W (x9+1)))))
  else
  j27 (x7,x8))

def pS (x0:List (List Int)) (x1:Int):Option (Int×List (List Int)):=
  (aU (fun ((x25,x26):List (List Int)×Int)=>
  some (x26,x25)) fun j27=>
  (bC (eX x0 j27) bM (x0,x1,0)))

theorem aDr (x0:List (List Int)) (x1:Int) (a3:Option Addr) (c4:Nat) (r:Int×List (List Int)) (h:pS x0 x1=some r):
  FX Tryz.prog 149 [.slice a3 x0.length c4,.int .i64 x1] [] [⟨(.sl (.int .i64)),⟨a3,x0.length,c4⟩,x0⟩] (fun _:Unit=>True) (fun _=>.int .i64 r.1) (fun _=>[⟨(.sl (.int .i64)),⟨a3,x0.length,c4⟩,r.2⟩]):=
 by
  refine FX.of (T:=TTx) Tryz.call149 Tryz.func149 E E fun w0 L0=>?_
  unfold pS at h
  refine aC aA 1 [] ⟨V,E⟩ E E (JS.seq (aC aA 1 [(5,.v (I 0))] ⟨⟨E,V⟩,E⟩ E E ?_))
  obtain ⟨j27,hj35,h⟩:=aQ h
  refine bA (ι:=List (List Int)×Int) ⟨fun z=>j27 z=some r,fun z=>[(1,.v (I z.2))],fun z=>.nil,fun z=>[],fun z=>[⟨(.sl (.int .i64)),⟨a3,x0.length,c4⟩,z.1⟩],fun z=>0⟩ ?_ ?_
  ·
   refine JS.loop (ι:=Nat×List (List Int)×Int×Int) ⟨fun z=>bC (eX x0 j27) z.1 z.2=some r,fun z=>[(0,.v (.slice a3 x0.length c4)),(1,.v (I z.2.2.1)),(5,.v (I z.2.2.2))],fun z=>.nil,fun z=>[],fun z=>[⟨(.sl (.int .i64)),⟨a3,x0.length,c4⟩,z.2.1⟩],fun z=>z.1⟩ (bM,x0,x1,0) h (Es E) V [] E [0] E ?_
   rintro ⟨n22,x7,x8,x9⟩ h
   obtain ⟨n22,rfl,h⟩:=bH h
   rw [eX] at h
   refine cD 0 E fun hs32=>JS.seq (aC aA 4 [(9,.v (.bool (decide (x9<(x0.length:Int)))))] ⟨⟨E,V⟩,E⟩ E E ?_)
   refine aK E h (fun h=>?_) (fun h=>?_)
   ·
    refine JS.skip (JS.seq (JS.block (JS.region ?_)))
    obtain ⟨g11,h⟩:=aH h
    refine aB aA 4 [] [] [(15,.ep ⟨a3,x0.length,c4⟩ (Int.toNat x9*1))] _ E ⟨(hs32.cast hs32.len.symm).ix g11,(hs32.cast hs32.len.symm).fa g11,⟨E,V⟩,E⟩ (uW [0] E (Int.toNat x9) (at' x7 x9) E fun a12 c13 l14 hl15=>?_)
    obtain rfl:([.slice a12 (at' x7 x9).length c13]:List Value)=l14:=Option.some.inj hl15
    refine cP aA E E E E E E 0 E E (Int.toNat x9) 0 (Sum.inr [.slice a12 (at' x7 x9).length c13]) ⟨mQ (vZ hs32.len.symm g11),E⟩ E E E (aB aA 1 [] [] [(17,.v (I x8))] _ E ⟨⟨E,V⟩,E⟩ ?_)
    obtain ⟨⟨y16,y17⟩,hy18,h⟩:=aE h
    refine eV E E E E (qT (at' x7 x9) x8 a12 c13 _ hy18) E [1] E [] E E fun _ _=>bJ 0 E fun hs19=>aB aA 1 [] [] [(1,.v (I y16))] _ E ⟨⟨E,V⟩,E⟩ (wJ [1,0] E y17 ⟨E,E,E⟩ (aD E (aZ (bZ aA 3 [(W (x9+1))] [] [(5,.v (I (W (x9+1))))] _ ⟨⟨V,E⟩,⟨E,V⟩,E⟩ E E (bQ (n22,(List.set x7 (Int.toNat x9) y17),y16,(W (x9+1))) h (Nat.lt_succ_self _) (Es E) V [] E [0] E)))))
   refine JS.exit E (aT (x7,x8) h ⟨E,V⟩ V [] E [0] E)
  rintro ⟨x25,x26⟩ h
  subst hj35
  refine cD 0 E fun hs34=>aC aA 2 [(4,.v (I x26))] ⟨⟨E,V⟩,E⟩ E E ?_
  cases h
  exact gR aA () V E E [0] E

def pQ (x0:List (List Int)) (x1:Int):Option (Int×List (List Int)):=
  (aG (pS x0 x1) fun (y7,y8)=>
  some (y7,y8))

theorem aGp (x0:List (List Int)) (x1:Int) (a3:Option Addr) (c4:Nat) (r:Int×List (List Int)) (h:pQ x0 x1=some r):
  FX Tryz.prog 71 [.agg #[.slice a3 x0.length c4],.int .i64 x1] [] [⟨(.sl (.int .i64)),⟨a3,x0.length,c4⟩,x0⟩] (fun _:Unit=>True) (fun _=>.int .i64 r.1) (fun _=>[⟨(.sl (.int .i64)),⟨a3,x0.length,c4⟩,r.2⟩]):=
 by
  refine FX.of (T:=TTx) Tryz.call71 Tryz.func71 E E fun w0 L0=>?_
  unfold pQ at h
  refine aL aA 2 [] [2] [(2,.bp 2 0)] (.new 2 41 [.slice a3 x0.length c4] .nil) ⟨⟨E,V⟩,(Bs E E)⟩ E E (JS.seq (JS.region (aB aA 3 [] [] [(6,.v (.slice a3 x0.length c4)),(7,.v (I x1))] _ E ⟨(Es E),E⟩ ?_)))
  obtain ⟨⟨y7,y8⟩,hy9,h⟩:=aE h
  refine eV E E E E (aDr x0 x1 a3 c4 _ hy9) E [0] E [] E E fun _ _=>bJ 0 E fun hs10=>aB aA 1 [] [] [(1,.v (I y7))] _ E ⟨⟨E,V⟩,E⟩ (aD E (aC aA 2 [(4,.v (I y7))] ⟨⟨E,V⟩,E⟩ E E ?_))
  cases h
  exact gR aA () V E E [0] E

def fR (x0:List (List Int×Int)) (j28:((List (List Int×Int))×Int)→Option (Int×List (List Int×Int))) (k22:((List (List Int×Int))×Int×Int)→Option (Int×List (List Int×Int))):((List (List Int×Int))×Int×Int)→Option (Int×List (List Int×Int)):=fun (x7,x8,x9)=>
  (bif (decide (x9<(x0.length:Int))) then
  (aN (0≤x9∧x9<(x0.length:Int)) <|
  (aG (gK ((at' x7 x9).1) x8) fun (y16,y17)=>
  (aN (0≤x9∧x9<(x0.length:Int)) <|
  k22 ((List.set (List.set x7 (Int.toNat x9) (y17,(at' x7 x9).2)) (Int.toNat x9) ((at' (List.set x7 (Int.toNat x9) (y17,(at' x7 x9).2)) x9).1,y16)),(W (y16+1)),(W (x9+1))))))
  else
  j28 (x7,x8))

def qY (x0:List (List Int×Int)) (x1:Int):Option (Int×List (List Int×Int)):=
  (aU (fun ((x26,x27):(List (List Int×Int))×Int)=>
  some (x27,x26)) fun j28=>
  (bC (fR x0 j28) bM (x0,x1,0)))

theorem aEx (x0:List (List Int×Int)) (x1:Int) (a3:Option Addr) (c4:Nat) (r:Int×List (List Int×Int)) (h:qY x0 x1=some r):
  FX Tryz.prog 150 [.slice a3 x0.length c4,.int .i64 x1] [] [⟨(.pair (.sl (.int .i64)) (.int .i64)),⟨a3,x0.length,c4⟩,x0⟩] (fun _:Unit=>True) (fun _=>.int .i64 r.1) (fun _=>[⟨(.pair (.sl (.int .i64)) (.int .i64)),⟨a3,x0.length,c4⟩,r.2⟩]):=
 by
  refine FX.of (T:=TTx) Tryz.call150 Tryz.func150 E E fun w0 L0=>?_
  unfold qY at h
  refine aC aA 1 [] ⟨V,E⟩ E E (JS.seq (aC aA 1 [(5,.v (I 0))] ⟨⟨E,V⟩,E⟩ E E ?_))
  obtain ⟨j28,hj36,h⟩:=aQ h
  refine bA (ι:=(List (List Int×Int))×Int) ⟨fun z=>j28 z=some r,fun z=>[(1,.v (I z.2))],fun z=>.nil,fun z=>[],fun z=>[⟨(.pair (.sl (.int .i64)) (.int .i64)),⟨a3,x0.length,c4⟩,z.1⟩],fun z=>0⟩ ?_ ?_
  ·
   refine JS.loop (ι:=Nat×(List (List Int×Int))×Int×Int) ⟨fun z=>bC (fR x0 j28) z.1 z.2=some r,fun z=>[(0,.v (.slice a3 x0.length c4)),(1,.v (I z.2.2.1)),(5,.v (I z.2.2.2))],fun z=>.nil,fun z=>[],fun z=>[⟨(.pair (.sl (.int .i64)) (.int .i64)),⟨a3,x0.length,c4⟩,z.2.1⟩],fun z=>z.1⟩ (bM,x0,x1,0) h (Es E) V [] E [0] E ?_
   rintro ⟨n23,x7,x8,x9⟩ h
   obtain ⟨n23,rfl,h⟩:=bH h
   rw [fR] at h
   refine cD 0 E fun hs33=>JS.seq (aC aA 4 [(9,.v (.bool (decide (x9<(x0.length:Int)))))] ⟨⟨E,V⟩,E⟩ E E ?_)
   refine aK E h (fun h=>?_) (fun h=>?_)
   ·
    refine JS.skip (JS.seq (JS.block (JS.seq (JS.region ?_))))
    obtain ⟨g11,h⟩:=aH h
    refine aB aA 4 [] [] [(15,.ep ⟨a3,x0.length,c4⟩ (Int.toNat x9*2))] _ E ⟨(hs33.cast hs33.len.symm).ix g11,(hs33.cast hs33.len.symm).fa g11,⟨E,V⟩,E⟩ (uW [0] E (Int.toNat x9) (at' x7 x9) E fun a12 c13 l14 hl15=>?_)
    obtain rfl:([.slice a12 ((at' x7 x9).1).length c13,.int .i64 (at' x7 x9).2]:List Value)=l14:=Option.some.inj hl15
    refine cP aA E E E E E E 0 E E (Int.toNat x9) 0 (Sum.inr [.slice a12 ((at' x7 x9).1).length c13,.int .i64 (at' x7 x9).2]) ⟨mQ (vZ hs33.len.symm g11),E⟩ E E E (aB aA 1 [] [] [(17,.v (I x8))] _ E ⟨⟨E,V⟩,E⟩ ?_)
    obtain ⟨⟨y16,y17⟩,hy18,h⟩:=aE h
    refine eV E E E E (qT ((at' x7 x9).1) x8 a12 c13 _ hy18) E [1] E [] E E fun _ _=>bJ 0 E fun hs19=>aB aA 1 [] [] [(1,.v (I y16))] _ E ⟨⟨E,V⟩,E⟩ (wJ [1,0] E (y17,(at' x7 x9).2) ⟨E,E,E⟩ (aD E (JS.seq (JS.region ?_))))
    obtain ⟨g20,h⟩:=aH h
    refine aB aA 5 [] [] [(21,.v (I y16)),(23,.ep ⟨a3,x0.length,c4⟩ (Int.toNat x9*2+1))] _ E ⟨(hs33.cast hs33.len.symm).ix g20,(hs33.cast hs33.len.symm).fa g20,(Es E),E⟩ (kD aA E E E E E E E E E [0] (fs:=[]) E (Int.toNat x9) 1 (at' (List.set x7 (Int.toNat x9) (y17,(at' x7 x9).2)) x9) ((at' (List.set x7 (Int.toNat x9) (y17,(at' x7 x9).2)) x9).1,y16) ⟨vZ (List.length_set.trans hs33.len.symm) g20,E⟩ ⟨⟨E,E,E⟩,E⟩ (aD E (bZ aA 3 [(W (y16+1))] [] [(1,.v (I (W (y16+1))))] _ ⟨⟨V,E⟩,⟨E,V⟩,E⟩ E E (aZ (bZ aA 3 [(W (x9+1))] [] [(5,.v (I (W (x9+1))))] _ ⟨⟨V,E⟩,⟨E,V⟩,E⟩ E E (bQ (n23,(List.set (List.set x7 (Int.toNat x9) (y17,(at' x7 x9).2)) (Int.toNat x9) ((at' (List.set x7 (Int.toNat x9) (y17,(at' x7 x9).2)) x9).1,y16)),(W (y16+1)),(W (x9+1))) h (Nat.lt_succ_self _) (Es E) V [] E [0] E))))))
   refine JS.exit E (aT (x7,x8) h ⟨E,V⟩ V [] E [0] E)
  rintro ⟨x26,x27⟩ h
  subst hj36
  refine cD 0 E fun hs35=>aC aA 2 [(4,.v (I x27))] ⟨⟨E,V⟩,E⟩ E E ?_
  cases h
  exact gR aA () V E E [0] E

def pM (x0:List (List Int×Int)) (x1:Int):Option (Int×List (List Int×Int)):=
  (aG (qY x0 x1) fun (y7,y8)=>
  some (y7,y8))

theorem aGn (x0:List (List Int×Int)) (x1:Int) (a3:Option Addr) (c4:Nat) (r:Int×List (List Int×Int)) (h:pM x0 x1=some r):
  FX Tryz.prog 72 [.agg #[.slice a3 x0.length c4],.int .i64 x1] [] [⟨(.pair (.sl (.int .i64)) (.int .i64)),⟨a3,x0.length,c4⟩,x0⟩] (fun _:Unit=>True) (fun _=>.int .i64 r.1) (fun _=>[⟨(.pair (.sl (.int .i64)) (.int .i64)),⟨a3,x0.length,c4⟩,r.2⟩]):=
 by
  refine FX.of (T:=TTx) Tryz.call72 Tryz.func72 E E fun w0 L0=>?_
  unfold pM at h
  refine aL aA 2 [] [2] [(2,.bp 2 0)] (.new 2 44 [.slice a3 x0.length c4] .nil) ⟨⟨E,V⟩,(Bs E E)⟩ E E (JS.seq (JS.region (aB aA 3 [] [] [(6,.v (.slice a3 x0.length c4)),(7,.v (I x1))] _ E ⟨(Es E),E⟩ ?_)))
  obtain ⟨⟨y7,y8⟩,hy9,h⟩:=aE h
  refine eV E E E E (aEx x0 x1 a3 c4 _ hy9) E [0] E [] E E fun _ _=>bJ 0 E fun hs10=>aB aA 1 [] [] [(1,.v (I y7))] _ E ⟨⟨E,V⟩,E⟩ (aD E (aC aA 2 [(4,.v (I y7))] ⟨⟨E,V⟩,E⟩ E E ?_))
  cases h
  exact gR aA () V E E [0] E

def lI (x0:EdQ) (x1:Int):Option (Int×List Int×List (List Int)×(List (List Int×Int))×List Int×List Int×List Int):=
  (aG (jA x0.2.2.1 x1) fun (y27,y28)=>
  (aG (pQ x0.2.2.2.2.2.2.2.2.2.2.1 y27) fun (y31,y32)=>
  (aG (pM x0.2.2.2.2.2.2.2.2.2.2.2.1 y31) fun (y35,y36)=>
  (aG (jA x0.2.2.2.2.2.2.2.2.2.2.2.2.2.1 y35) fun (y39,y40)=>
  (aG (gK x0.2.2.2.2.2.2.2.2.2.2.2.2.2.2.1 y39) fun (y43,y44)=>
  (aG (jA x0.2.2.2.2.2.2.2.2.2.2.2.2.2.2.2.2 y43) fun (y47,y48)=>
  some (y47,y28,y32,y36,y40,y44,y48)))))))

theorem aDa (x0:EdQ) (x1:Int) (q3:P6) (r:Int×List Int×List (List Int)×(List (List Int×Int))×List Int×List Int×List Int) (h:lI x0 x1=some r):
  FX Tryz.prog 20 [.agg (cC x0 q3).toArray,.int .i64 x1] [] (bW x0 q3 []) (fun _:Unit=>True) (fun _=>.int .i64 r.1) (fun _=>[⟨(.int .i64),⟨q3.1,x0.2.2.1.1.length,q3.2.1⟩,r.2.1⟩,⟨(.sl (.int .i64)),⟨q3.2.2.1,(Q8 x0).2.2.1.length,q3.2.2.2.1⟩,r.2.2.1⟩,⟨(.pair (.sl (.int .i64)) (.int .i64)),⟨(Q4 q3).1,(Q8 x0).2.2.2.1.length,(Q4 q3).2.1⟩,r.2.2.2.1⟩,⟨(.int .i64),⟨(Q4 q3).2.2.1,(Q12 x0).2.1.1.length,(Q4 q3).2.2.2.1⟩,(Q4 r).1⟩,⟨(.int .i64),⟨(Q8 q3).1,(Q12 x0).2.2.1.length,(Q8 q3).2.1⟩,(Q4 r).2.1⟩,⟨(.int .i64),⟨(Q8 q3).2.2.1,(Q16 x0).1.length,(Q8 q3).2.2.2⟩,(Q4 r).2.2⟩]):=
 by
  refine FX.of (T:=TTx) Tryz.call20 Tryz.func20 E E fun w0 L0=>?_
  unfold lI at h
  refine aL aA 2 [] [7] [(2,.bp 7 0)] (.new 7 46 (aI x0 q3) .nil) ⟨⟨E,V⟩,(Bs E E)⟩ E E (JS.seq (JS.region (aB aA 3 [] [] [(6,.v (.agg #[.slice q3.1 x0.2.2.1.1.length q3.2.1,.int .i64 x0.2.2.1.2])),(7,.v (I x1))] _ E ⟨(Es E),E⟩ ?_)))
  obtain ⟨⟨y27,y28⟩,hy29,h⟩:=aE h
  refine eV E E E E (vA x0.2.2.1 x1 q3.1 q3.2.1 _ hy29) E [0] E [] E E fun _ _=>bJ 0 E fun hs30=>aB aA 1 [] [] [(1,.v (I y27))] _ E ⟨⟨E,V⟩,E⟩ (aD E (JS.seq (JS.region (aB aA 3 [] [] [(10,.v (.agg #[.slice q3.2.2.1 (Q8 x0).2.2.1.length q3.2.2.2.1])),(11,.v (I y27))] _ E ⟨(Es E),E⟩ ?_))))
  obtain ⟨⟨y31,y32⟩,hy33,h⟩:=aE h
  refine eV E E E E (aGp (Q8 x0).2.2.1 y27 q3.2.2.1 q3.2.2.2.1 _ hy33) E [1] E [] E E fun _ _=>bJ 0 E fun hs34=>aB aA 1 [] [] [(1,.v (I y31))] _ E ⟨⟨E,V⟩,E⟩ (aD E (JS.seq (JS.region (aB aA 3 [] [] [(14,.v (.agg #[.slice (Q4 q3).1 (Q8 x0).2.2.2.1.length (Q4 q3).2.1])),(15,.v (I y31))] _ E ⟨(Es E),E⟩ ?_))))
  obtain ⟨⟨y35,y36⟩,hy37,h⟩:=aE h
  refine eV E E E E (aGn (Q8 x0).2.2.2.1 y31 (Q4 q3).1 (Q4 q3).2.1 _ hy37) E [2] E [] E E fun _ _=>bJ 0 E fun hs38=>aB aA 1 [] [] [(1,.v (I y35))] _ E ⟨⟨E,V⟩,E⟩ (aD E (JS.seq (JS.region (aB aA 3 [] [] [(18,.v (.agg #[.slice (Q4 q3).2.2.1 (Q12 x0).2.1.1.length (Q4 q3).2.2.2.1,.int .i64 (Q12 x0).2.1.2])),(19,.v (I y35))] _ E ⟨(Es E),E⟩ ?_))))
  obtain ⟨⟨y39,y40⟩,hy41,h⟩:=aE h
  refine eV E E E E (vA (Q12 x0).2.1 y35 (Q4 q3).2.2.1 (Q4 q3).2.2.2.1 _ hy41) E [3] E [] E E fun _ _=>bJ 0 E fun hs42=>aB aA 1 [] [] [(1,.v (I y39))] _ E ⟨⟨E,V⟩,E⟩ (aD E (JS.seq (JS.region (aB aA 3 [] [] [(22,.v (.slice (Q8 q3).1 (Q12 x0).2.2.1.length (Q8 q3).2.1)),(23,.v (I y39))] _ E ⟨(Es E),E⟩ ?_))))
  obtain ⟨⟨y43,y44⟩,hy45,h⟩:=aE h
  refine eV E E E E (qT (Q12 x0).2.2.1 y39 (Q8 q3).1 (Q8 q3).2.1 _ hy45) E [4] E [] E E fun _ _=>bJ 0 E fun hs46=>aB aA 1 [] [] [(1,.v (I y43))] _ E ⟨⟨E,V⟩,E⟩ (aD E (JS.seq (JS.region (aB aA 3 [] [] [(26,.v (.agg #[.slice (Q8 q3).2.2.1 (Q16 x0).1.length (Q8 q3).2.2.2,.int .i64 (Q16 x0).2])),(27,.v (I y43))] _ E ⟨(Es E),E⟩ ?_))))
  obtain ⟨⟨y47,y48⟩,hy49,h⟩:=aE h
  refine eV E E E E (vA (Q16 x0) y43 (Q8 q3).2.2.1 (Q8 q3).2.2.2 _ hy49) E [5] E [] E E fun _ _=>bJ 0 E fun hs50=>aB aA 1 [] [] [(1,.v (I y47))] _ E ⟨⟨E,V⟩,E⟩ (aD E (aC aA 2 [(4,.v (I y47))] ⟨⟨E,V⟩,E⟩ E E ?_))
  cases h
  exact gR aA () V E E [5,4,3,2,1,0] E

def jQ (j13:(List UInt8)→Option (List UInt8)) (k9:(Int×List UInt8)→Option (List UInt8)):(Int×List UInt8)→Option (List UInt8):=fun (x2,x3)=>
  (bif (decide (0<x2)) then
  (aN (((([(u8 ((W (48+(Int.tmod x2 10)))))]:List UInt8).length+x3.length:Nat):Int)≤9223372036854775807) <|
  k9 ((W (Int.tdiv x2 10)),(([(u8 ((W (48+(Int.tmod x2 10)))))]:List UInt8) ++ x3)))
  else
  j13 x3)

def pP (x0:Int):Option (List UInt8):=
  (bif (decide (x0≤0)) then
  some ([109,48]:List UInt8)
  else
  (aU (fun (x12:List UInt8)=>
  (aN (((([109]:List UInt8).length+x12.length:Nat):Int)≤9223372036854775807) <|
  some (([109]:List UInt8) ++ x12))) fun j13=>
  (bC (jQ j13) bM (x0,[]))))

theorem aGo (x0:Int) (r:List UInt8) (h:pP x0=some r) :
  FC Tryz.prog 151 [.int .i64 x0] [] (fun _:Unit=>True) (fun _=>.string (bs r)) (fun _=>[]):=
 by
  refine FC.of (T:=TTx) Tryz.call151 Tryz.func151 E E fun w0=>?_
  unfold pP at h
  refine aC aA 1 [] ⟨V,E⟩ E E (JS.seq (aC aA 2 [(5,.v (.bool (decide (x0≤0))))] ⟨⟨E,V⟩,E⟩ E E ?_))
  refine aK E h (fun h=>?_) (fun h=>?_)
  ·
   refine aC aA 1 [(2,.v (.string (bs ([109,48]:List UInt8))))] ⟨⟨E,V⟩,E⟩ E E ?_
   cases h
   exact JS.ret aA () V E E [] E
  refine JS.skip (aC aA 1 [(3,.v (.string (bs [])))] ⟨⟨E,V⟩,E⟩ E E (JS.seq ?_))
  obtain ⟨j13,hj19,h⟩:=aQ h
  refine bA (ι:=List UInt8) ⟨fun z=>j13 z=some r,fun z=>[(3,.v (.string (bs z)))],fun z=>.nil,fun z=>[],fun z=>[],fun z=>0⟩ ?_ ?_
  ·
   refine JS.loop (ι:=Nat×Int×List UInt8) ⟨fun z=>bC (jQ j13) z.1 z.2=some r,fun z=>[(0,.v (I z.2.1)),(3,.v (.string (bs z.2.2)))],fun z=>.nil,fun z=>[],fun z=>[],fun z=>z.1⟩ (bM,x0,[]) h (Es E) V [] E [] E ?_
   rintro ⟨n10,x2,x3⟩ h
   obtain ⟨n10,rfl,h⟩:=bH h
   rw [jQ] at h
   refine JS.seq (aC aA 2 [(7,.v (.bool (decide (0<x2))))] ⟨⟨E,V⟩,E⟩ E E ?_)
   refine aK E h (fun h=>?_) (fun h=>?_)
   ·
    refine JS.skip (JS.block (JS.seq (JS.region ?_)))
    have g4:(10:Int)≠0:=by decide
    refine aB aA 4 [(W (48+(Int.tmod x2 10))),((u8 ((W (48+(Int.tmod x2 10))))).toNat:Int)] [] [(11,.v (.int .u8 ((u8 ((W (48+(Int.tmod x2 10))))).toNat:Int)))] _ E ⟨g4,⟨V,E⟩,⟨V,eK _⟩,⟨E,V⟩,E⟩ ?_
    refine jH E (JK.buildSlice aA E E E E E E E E E E E [] E .byte [(u8 ((W (48+(Int.tmod x2 10)))))] ⟨E,E⟩ E E fun a5=>jG ?_)
    refine aR2 aA E E E E E E E E 0 E E ?_
    obtain ⟨g6,h⟩:=aH h
    refine aB aA 3 [] [] [(3,.v (.string (bs (([(u8 ((W (48+(Int.tmod x2 10)))))]:List UInt8) ++ x3))))] _ E ⟨g6,⟨E,V⟩,E⟩ (aD E (JS.region ?_))
    have g7:(10:Int)≠0:=by decide
    refine aB aA 3 [(W (Int.tdiv x2 10))] [] [(0,.v (I (W (Int.tdiv x2 10))))] _ E ⟨⟨g7,E⟩,⟨E,V⟩,E⟩ (aD E (aZ (bQ (n10,(W (Int.tdiv x2 10)),(([(u8 ((W (48+(Int.tmod x2 10)))))]:List UInt8) ++ x3)) h (Nat.lt_succ_self _) (Es E) V [] E [] E)))
   refine JS.exit E (aT x3 h ⟨E,V⟩ V [] E [] E)
  rintro x12 h
  subst hj19
  refine JS.seq (JS.region ?_)
  obtain ⟨g15,h⟩:=aH h
  refine aB aA 3 [] [] [(2,.v (.string (bs (([109]:List UInt8) ++ x12))))] _ E ⟨g15,⟨E,V⟩,E⟩ (aD E ?_)
  cases h
  exact JS.ret aA () V E E [] E

def fV (x0:List (List UInt8)) (j21:(List (List UInt8)×Int)→Option (Int×List (List UInt8))) (k15:(List (List UInt8)×Int×Int)→Option (Int×List (List UInt8))):(List (List UInt8)×Int×Int)→Option (Int×List (List UInt8)):=fun (x7,x8,x9)=>
  (bif (decide (x9<(x0.length:Int))) then
  (aG (pP x8) fun (y11:List UInt8)=>
  (aN (0≤x9∧x9<(x0.length:Int)) <|
  k15 ((List.set x7 (Int.toNat x9) y11),(W (x8+1)),(W (x9+1)))))
  else
  j21 (x7,x8))

def jR (x0:List (List UInt8)) (x1:Int):Option (Int×List (List UInt8)):=
  (aU (fun ((x19,x20):List (List UInt8)×Int)=>
  some (x20,x19)) fun j21=>
  (bC (fV x0 j21) bM (x0,x1,0)))

theorem aCm (x0:List (List UInt8)) (x1:Int) (a3:Option Addr) (c4:Nat) (r:Int×List (List UInt8)) (h:jR x0 x1=some r):
  FX Tryz.prog 73 [.slice a3 x0.length c4,.int .i64 x1] [] [⟨.str,⟨a3,x0.length,c4⟩,x0⟩] (fun _:Unit=>True) (fun _=>.int .i64 r.1) (fun _=>[⟨.str,⟨a3,x0.length,c4⟩,r.2⟩]):=
 by
  refine FX.of (T:=TTx) Tryz.call73 Tryz.func73 E E fun w0 L0=>?_
  unfold jR at h
  refine aC aA 1 [] ⟨V,E⟩ E E (JS.seq (aC aA 1 [(5,.v (I 0))] ⟨⟨E,V⟩,E⟩ E E ?_))
  obtain ⟨j21,hj29,h⟩:=aQ h
  refine bA (ι:=List (List UInt8)×Int) ⟨fun z=>j21 z=some r,fun z=>[(1,.v (I z.2))],fun z=>.nil,fun z=>[],fun z=>[⟨.str,⟨a3,x0.length,c4⟩,z.1⟩],fun z=>0⟩ ?_ ?_
  ·
   refine JS.loop (ι:=Nat×List (List UInt8)×Int×Int) ⟨fun z=>bC (fV x0 j21) z.1 z.2=some r,fun z=>[(0,.v (.slice a3 x0.length c4)),(1,.v (I z.2.2.1)),(5,.v (I z.2.2.2))],fun z=>.nil,fun z=>[],fun z=>[⟨.str,⟨a3,x0.length,c4⟩,z.2.1⟩],fun z=>z.1⟩ (bM,x0,x1,0) h (Es E) V [] E [0] E ?_
   rintro ⟨n16,x7,x8,x9⟩ h
   obtain ⟨n16,rfl,h⟩:=bH h
   rw [fV] at h
   refine cD 0 E fun hs26=>JS.seq (aC aA 4 [(9,.v (.bool (decide (x9<(x0.length:Int)))))] ⟨⟨E,V⟩,E⟩ E E ?_)
   refine aK E h (fun h=>?_) (fun h=>?_)
   ·
    refine JS.skip (JS.seq (JS.block (JS.seq (JS.region (aB aA 3 [] [] [(12,.v (.slice a3 x0.length c4)),(13,.v (I x9)),(14,.v (I x8))] _ E ⟨(Es E),E⟩ ?_)))))
    refine bnw h fun y11 hy12 h=>JO.call E E E E (aGo x8 _ hy12) E [] E E fun _ _=>?_
    obtain ⟨g13,h⟩:=aH h
    refine aB aA 1 [] [] [(16,.ep ⟨a3,x0.length,c4⟩ (Int.toNat x9*1))] _ E ⟨(hs26.cast hs26.len.symm).ix g13,⟨E,V⟩,E⟩ (kD aA E E E E E E E E E [0] (fs:=[]) E (Int.toNat x9) 0 (at' x7 x9) y11 ⟨vZ hs26.len.symm g13,E⟩ ⟨E,E,E⟩ (aD E (bZ aA 3 [(W (x8+1))] [] [(1,.v (I (W (x8+1))))] _ ⟨⟨V,E⟩,⟨E,V⟩,E⟩ E E (aZ (bZ aA 3 [(W (x9+1))] [] [(5,.v (I (W (x9+1))))] _ ⟨⟨V,E⟩,⟨E,V⟩,E⟩ E E (bQ (n16,(List.set x7 (Int.toNat x9) y11),(W (x8+1)),(W (x9+1))) h (Nat.lt_succ_self _) (Es E) V [] E [0] E))))))
   refine JS.exit E (aT (x7,x8) h ⟨E,V⟩ V [] E [0] E)
  rintro ⟨x19,x20⟩ h
  subst hj29
  refine cD 0 E fun hs28=>aC aA 2 [(4,.v (I x20))] ⟨⟨E,V⟩,E⟩ E E ?_
  cases h
  exact gR aA () V E E [0] E

def pT (x0:Int×List (List UInt8)) (x1:Int):Option (Int×List (List UInt8)):=
  (aG (jR x0.2 x1) fun (y7,y8)=>
  some (y7,y8))

theorem aGq (x0:Int×List (List UInt8)) (x1:Int) (a3:Option Addr) (c4:Nat) (r:Int×List (List UInt8)) (h:pT x0 x1=some r):
  FX Tryz.prog 21 [.agg #[.int .i64 x0.1,.slice a3 x0.2.length c4],.int .i64 x1] [] [⟨.str,⟨a3,x0.2.length,c4⟩,x0.2⟩] (fun _:Unit=>True) (fun _=>.int .i64 r.1) (fun _=>[⟨.str,⟨a3,x0.2.length,c4⟩,r.2⟩]):=
 by
  refine FX.of (T:=TTx) Tryz.call21 Tryz.func21 E E fun w0 L0=>?_
  unfold pT at h
  refine aL aA 2 [] [2] [(2,.bp 2 0)] (.new 2 50 [.int .i64 x0.1,.slice a3 x0.2.length c4] .nil) ⟨⟨E,V⟩,(Bs E E)⟩ E E (JS.seq (JS.region (aB aA 3 [] [] [(6,.v (.slice a3 x0.2.length c4)),(7,.v (I x1))] _ E ⟨(Es E),E⟩ ?_)))
  obtain ⟨⟨y7,y8⟩,hy9,h⟩:=aE h
  refine eV E E E E (aCm x0.2 x1 a3 c4 _ hy9) E [0] E [] E E fun _ _=>bJ 0 E fun hs10=>aB aA 1 [] [] [(1,.v (I y7))] _ E ⟨⟨E,V⟩,E⟩ (aD E (aC aA 2 [(4,.v (I y7))] ⟨⟨E,V⟩,E⟩ E E ?_))
  cases h
  exact gR aA () V E E [0] E

def jT (x0:List Int) (j19:Int→Option Int) (k13:(Int×Int)→Option Int):(Int×Int)→Option Int:=fun (x7,x8)=>
  (bif (decide (x8<(x0.length:Int))) then
  (aN (0≤x8∧x8<(x0.length:Int)) <|
  (bif (!(decide ((at' x0 x8)=x7))) then
  some (-1)
  else
  k13 ((W (x7+1)),(W (x8+1)))))
  else
  j19 x7)

def gM (x0:List Int) (x1:Int):Option Int:=
  (aU (fun (x18:Int)=>
  some x18) fun j19=>
  (bC (jT x0 j19) bM (x1,0)))

theorem qU (x0:List Int) (x1:Int) (a3:Option Addr) (c4:Nat) (r:Int) (h:gM x0 x1=some r):
  FC Tryz.prog 77 [.slice a3 x0.length c4,.int .i64 x1] [⟨(.int .i64),⟨a3,x0.length,c4⟩,x0⟩] (fun _:Unit=>True) (fun _=>.int .i64 r) (fun _=>[]):=
 by
  refine FC.of (T:=TTx) Tryz.call77 Tryz.func77 E E fun w0=>?_
  unfold gM at h
  refine aC aA 1 [] ⟨V,E⟩ E E (JS.seq (aC aA 1 [(5,.v (I 0))] ⟨⟨E,V⟩,E⟩ E E ?_))
  obtain ⟨j19,hj27,h⟩:=aQ h
  refine bA (ι:=Int) ⟨fun z=>j19 z=some r,fun z=>[(1,.v (I z))],fun z=>.nil,fun z=>[],fun z=>[],fun z=>0⟩ ?_ ?_
  ·
   refine JS.loop (ι:=Nat×Int×Int) ⟨fun z=>bC (jT x0 j19) z.1 z.2=some r,fun z=>[(0,.v (.slice a3 x0.length c4)),(1,.v (I z.2.1)),(5,.v (I z.2.2))],fun z=>.nil,fun z=>[⟨(.int .i64),⟨a3,x0.length,c4⟩,x0⟩],fun z=>[],fun z=>z.1⟩ (bM,x1,0) h (Es E) V [0] E [] E ?_
   rintro ⟨n14,x7,x8⟩ h
   obtain ⟨n14,rfl,h⟩:=bH h
   rw [jT] at h
   refine JS.seq (aC aA 4 [(9,.v (.bool (decide (x8<(x0.length:Int)))))] ⟨⟨E,V⟩,E⟩ E E ?_)
   refine aK E h (fun h=>?_) (fun h=>?_)
   ·
    refine JS.skip (JS.seq (JS.block (JS.seq (JS.seq (JS.region (bJ 0 E fun hs24=>?_))))))
    obtain ⟨g10,h⟩:=aH h
    refine aB aA 3 [] [] [(14,.ep ⟨a3,x0.length,c4⟩ (Int.toNat x8*1))] _ E ⟨hs24.ix g10,⟨E,V⟩,E⟩ (JO.load aA E E E E E E E 0 E E (Int.toNat x8) 0 (at' x0 x8) ⟨bD g10,E⟩ E E (aB aA 2 [] [] [(17,.v (.bool (!(decide ((at' x0 x8)=x7)))))] _ E ⟨⟨E,V⟩,E⟩ (aD E ?_)))
    refine aK E h (fun h=>?_) (fun h=>?_)
    ·
     refine aC aA 1 [(4,.v (I (-1)))] ⟨⟨E,V⟩,E⟩ E E ?_
     cases h
     exact JS.ret aA () V E E [] E
    refine JS.skip (bZ aA 3 [(W (x7+1))] [] [(1,.v (I (W (x7+1))))] _ ⟨⟨V,E⟩,⟨E,V⟩,E⟩ E E (aZ (bZ aA 3 [(W (x8+1))] [] [(5,.v (I (W (x8+1))))] _ ⟨⟨V,E⟩,⟨E,V⟩,E⟩ E E (bQ (n14,(W (x7+1)),(W (x8+1))) h (Nat.lt_succ_self _) (Es E) V [0] E [] E))))
   refine JS.exit E (aT x7 h ⟨E,V⟩ V [] E [] E)
  rintro x18 h
  subst hj27
  refine aC aA 2 [(4,.v (I x18))] ⟨⟨E,V⟩,E⟩ E E ?_
  cases h
  exact JS.ret aA () V E E [] E

def jB (x0:List Int×Int) (x1:Int):Option Int:=
  (aG (gM x0.1 x1) fun (y7:Int)=>
  (bif (decide (y7<0)) then
  some (-1)
  else
  some y7))

theorem vB (x0:List Int×Int) (x1:Int) (a3:Option Addr) (c4:Nat) (r:Int) (h:jB x0 x1=some r):
  FC Tryz.prog 74 [.agg #[.slice a3 x0.1.length c4,.int .i64 x0.2],.int .i64 x1] [⟨(.int .i64),⟨a3,x0.1.length,c4⟩,x0.1⟩] (fun _:Unit=>True) (fun _=>.int .i64 r) (fun _=>[]):=
 by
  refine FC.of (T:=TTx) Tryz.call74 Tryz.func74 E E fun w0=>?_
  unfold jB at h
  refine aL aA 2 [] [2] [(2,.bp 2 0)] (.new 2 38 [.slice a3 x0.1.length c4,.int .i64 x0.2] .nil) ⟨⟨E,V⟩,(Bs E E)⟩ E E (JS.seq (JS.region (aB aA 3 [] [] [(6,.v (.slice a3 x0.1.length c4)),(7,.v (I x1))] _ E ⟨(Es E),E⟩ ?_)))
  refine bnw h fun y7 hy8 h=>JO.call E E E E (qU x0.1 x1 a3 c4 _ hy8) E [0] E E fun _ _=>aB aA 1 [] [] [(1,.v (I y7))] _ E ⟨⟨E,V⟩,E⟩ (aD E (JS.seq (aC aA 2 [(10,.v (.bool (decide (y7<0))))] ⟨⟨E,V⟩,E⟩ E E ?_)))
  refine aK E h (fun h=>?_) (fun h=>?_)
  ·
   refine aC aA 1 [(4,.v (I (-1)))] ⟨⟨E,V⟩,E⟩ E E ?_
   cases h
   exact JS.ret aA () V E E [] E
  refine JS.skip (aC aA 2 [(4,.v (I y7))] ⟨⟨E,V⟩,E⟩ E E ?_)
  cases h
  exact JS.ret aA () V E E [] E

def gL (x0:List (List Int)) (j26:Int→Option Int) (k20:(Int×Int)→Option Int):(Int×Int)→Option Int:=fun (x7,x8)=>
  (bif (decide (x8<(x0.length:Int))) then
  (aN (0≤x8∧x8<(x0.length:Int)) <|
  (aG (gM (at' x0 x8) x7) fun (y16:Int)=>
  (bif (decide (y16<0)) then
  some (-1)
  else
  k20 (y16,(W (x8+1))))))
  else
  j26 x7)

def pW (x0:List (List Int)) (x1:Int):Option Int:=
  (aU (fun (x25:Int)=>
  some x25) fun j26=>
  (bC (gL x0 j26) bM (x1,0)))

theorem aDs (x0:List (List Int)) (x1:Int) (a3:Option Addr) (c4:Nat) (r:Int) (h:pW x0 x1=some r):
  FC Tryz.prog 152 [.slice a3 x0.length c4,.int .i64 x1] [⟨(.sl (.int .i64)),⟨a3,x0.length,c4⟩,x0⟩] (fun _:Unit=>True) (fun _=>.int .i64 r) (fun _=>[]):=
 by
  refine FC.of (T:=TTx) Tryz.call152 Tryz.func152 E E fun w0=>?_
  unfold pW at h
  refine aC aA 1 [] ⟨V,E⟩ E E (JS.seq (aC aA 1 [(5,.v (I 0))] ⟨⟨E,V⟩,E⟩ E E ?_))
  obtain ⟨j26,hj34,h⟩:=aQ h
  refine bA (ι:=Int) ⟨fun z=>j26 z=some r,fun z=>[(1,.v (I z))],fun z=>.nil,fun z=>[],fun z=>[],fun z=>0⟩ ?_ ?_
  ·
   refine JS.loop (ι:=Nat×Int×Int) ⟨fun z=>bC (gL x0 j26) z.1 z.2=some r,fun z=>[(0,.v (.slice a3 x0.length c4)),(1,.v (I z.2.1)),(5,.v (I z.2.2))],fun z=>.nil,fun z=>[⟨(.sl (.int .i64)),⟨a3,x0.length,c4⟩,x0⟩],fun z=>[],fun z=>z.1⟩ (bM,x1,0) h (Es E) V [0] E [] E ?_
   rintro ⟨n21,x7,x8⟩ h
   obtain ⟨n21,rfl,h⟩:=bH h
   rw [gL] at h
   refine JS.seq (aC aA 4 [(9,.v (.bool (decide (x8<(x0.length:Int)))))] ⟨⟨E,V⟩,E⟩ E E ?_)
   refine aK E h (fun h=>?_) (fun h=>?_)
   ·
    refine JS.skip (JS.seq (JS.block (JS.seq (JS.region (bJ 0 E fun hs31=>?_)))))
    obtain ⟨g10,h⟩:=aH h
    refine aB aA 4 [] [] [(15,.ep ⟨a3,x0.length,c4⟩ (Int.toNat x8*1))] _ E ⟨hs31.ix g10,hs31.fa g10,⟨E,V⟩,E⟩ (eU 0 E (Int.toNat x8) (at' x0 x8) E fun a11 c12 ys13 hl14 hy15=>cP aA E E E E E E 0 E E (Int.toNat x8) 0 (Sl.v ⟨a11,(at' x0 x8).length,c12⟩) ⟨hy15 (kG g10),E⟩ E E E (aB aA 1 [] [] [(17,.v (I x7))] _ E ⟨⟨E,V⟩,E⟩ ?_))
    refine bnw h fun y16 hy17 h=>JO.call E E E E (qU (at' x0 x8) x7 a11 c12 _ hy17) E [1] E E fun _ _=>aB aA 1 [] [] [(1,.v (I y16))] _ E ⟨⟨E,V⟩,E⟩ (aD E (aC aA 2 [(20,.v (.bool (decide (y16<0))))] ⟨⟨E,V⟩,E⟩ E E ?_))
    refine aK E h (fun h=>?_) (fun h=>?_)
    ·
     refine aC aA 1 [(4,.v (I (-1)))] ⟨⟨E,V⟩,E⟩ E E ?_
     cases h
     exact JS.ret aA () V E E [] E
    refine JS.skip (aZ (bZ aA 3 [(W (x8+1))] [] [(5,.v (I (W (x8+1))))] _ ⟨⟨V,E⟩,⟨E,V⟩,E⟩ E E (bQ (n21,y16,(W (x8+1))) h (Nat.lt_succ_self _) (Es E) V [2] E [] E)))
   refine JS.exit E (aT x7 h ⟨E,V⟩ V [] E [] E)
  rintro x25 h
  subst hj34
  refine aC aA 2 [(4,.v (I x25))] ⟨⟨E,V⟩,E⟩ E E ?_
  cases h
  exact JS.ret aA () V E E [] E

def pV (x0:List (List Int)) (x1:Int):Option Int:=
  (aG (pW x0 x1) fun (y7:Int)=>
  (bif (decide (y7<0)) then
  some (-1)
  else
  some y7))

theorem aGs (x0:List (List Int)) (x1:Int) (a3:Option Addr) (c4:Nat) (r:Int) (h:pV x0 x1=some r):
  FC Tryz.prog 75 [.agg #[.slice a3 x0.length c4],.int .i64 x1] [⟨(.sl (.int .i64)),⟨a3,x0.length,c4⟩,x0⟩] (fun _:Unit=>True) (fun _=>.int .i64 r) (fun _=>[]):=
 by
  refine FC.of (T:=TTx) Tryz.call75 Tryz.func75 E E fun w0=>?_
  unfold pV at h
  refine aL aA 2 [] [2] [(2,.bp 2 0)] (.new 2 41 [.slice a3 x0.length c4] .nil) ⟨⟨E,V⟩,(Bs E E)⟩ E E (JS.seq (JS.region (aB aA 3 [] [] [(6,.v (.slice a3 x0.length c4)),(7,.v (I x1))] _ E ⟨(Es E),E⟩ ?_)))
  refine bnw h fun y7 hy8 h=>JO.call E E E E (aDs x0 x1 a3 c4 _ hy8) E [0] E E fun _ _=>aB aA 1 [] [] [(1,.v (I y7))] _ E ⟨⟨E,V⟩,E⟩ (aD E (JS.seq (aC aA 2 [(10,.v (.bool (decide (y7<0))))] ⟨⟨E,V⟩,E⟩ E E ?_)))
  refine aK E h (fun h=>?_) (fun h=>?_)
  ·
   refine aC aA 1 [(4,.v (I (-1)))] ⟨⟨E,V⟩,E⟩ E E ?_
   cases h
   exact JS.ret aA () V E E [] E
  refine JS.skip (aC aA 2 [(4,.v (I y7))] ⟨⟨E,V⟩,E⟩ E E ?_)
  cases h
  exact JS.ret aA () V E E [] E

def iN (x0:List (List Int×Int)) (j29:Int→Option Int) (k22:(Int×Int)→Option Int):(Int×Int)→Option Int:=fun (x7,x8)=>
  (bif (decide (x8<(x0.length:Int))) then
  (aN (0≤x8∧x8<(x0.length:Int)) <|
  (aG (gM ((at' x0 x8).1) x7) fun (y16:Int)=>
  (bif (decide (y16<0)) then
  some (-1)
  else
  (aN (0≤x8∧x8<(x0.length:Int)) <|
  (bif (!(decide ((at' x0 x8).2=y16))) then
  some (-1)
  else
  k22 ((W (y16+1)),(W (x8+1))))))))
  else
  j29 x7)

def qZ (x0:List (List Int×Int)) (x1:Int):Option Int:=
  (aU (fun (x28:Int)=>
  some x28) fun j29=>
  (bC (iN x0 j29) bM (x1,0)))

theorem aEy (x0:List (List Int×Int)) (x1:Int) (a3:Option Addr) (c4:Nat) (r:Int) (h:qZ x0 x1=some r):
  FC Tryz.prog 153 [.slice a3 x0.length c4,.int .i64 x1] [⟨(.pair (.sl (.int .i64)) (.int .i64)),⟨a3,x0.length,c4⟩,x0⟩] (fun _:Unit=>True) (fun _=>.int .i64 r) (fun _=>[]):=
 by
  refine FC.of (T:=TTx) Tryz.call153 Tryz.func153 E E fun w0=>?_
  unfold qZ at h
  refine aC aA 1 [] ⟨V,E⟩ E E (JS.seq (aC aA 1 [(5,.v (I 0))] ⟨⟨E,V⟩,E⟩ E E ?_))
  obtain ⟨j29,hj39,h⟩:=aQ h
  refine bA (ι:=Int) ⟨fun z=>j29 z=some r,fun z=>[(1,.v (I z))],fun z=>.nil,fun z=>[],fun z=>[],fun z=>0⟩ ?_ ?_
  ·
   refine JS.loop (ι:=Nat×Int×Int) ⟨fun z=>bC (iN x0 j29) z.1 z.2=some r,fun z=>[(0,.v (.slice a3 x0.length c4)),(1,.v (I z.2.1)),(5,.v (I z.2.2))],fun z=>.nil,fun z=>[⟨(.pair (.sl (.int .i64)) (.int .i64)),⟨a3,x0.length,c4⟩,x0⟩],fun z=>[],fun z=>z.1⟩ (bM,x1,0) h (Es E) V [0] E [] E ?_
   rintro ⟨n23,x7,x8⟩ h
   obtain ⟨n23,rfl,h⟩:=bH h
   rw [iN] at h
   refine JS.seq (aC aA 4 [(9,.v (.bool (decide (x8<(x0.length:Int)))))] ⟨⟨E,V⟩,E⟩ E E ?_)
   refine aK E h (fun h=>?_) (fun h=>?_)
   ·
    refine JS.skip (JS.seq (JS.block (JS.seq (JS.region (bJ 0 E fun hs35=>?_)))))
    obtain ⟨g10,h⟩:=aH h
    refine aB aA 4 [] [] [(15,.ep ⟨a3,x0.length,c4⟩ (Int.toNat x8*2))] _ E ⟨hs35.ix g10,hs35.fa g10,⟨E,V⟩,E⟩ (eU 0 E (Int.toNat x8) (at' x0 x8) E fun a11 c12 ys13 hl14 hy15=>cP aA E E E E E E 0 E E (Int.toNat x8) 0 ((Sl.v ⟨a11,((at' x0 x8).1).length,c12⟩),(at' x0 x8).2) ⟨hy15 (kG g10),E⟩ E E E (aB aA 1 [] [] [(17,.v (I x7))] _ E ⟨⟨E,V⟩,E⟩ ?_))
    refine bnw h fun y16 hy17 h=>JO.call E E E E (qU ((at' x0 x8).1) x7 a11 c12 _ hy17) E [1] E E fun _ _=>aB aA 1 [] [] [(1,.v (I y16))] _ E ⟨⟨E,V⟩,E⟩ (aD E (JS.seq (aC aA 2 [(20,.v (.bool (decide (y16<0))))] ⟨⟨E,V⟩,E⟩ E E ?_)))
    refine aK E h (fun h=>?_) (fun h=>?_)
    ·
     refine aC aA 1 [(4,.v (I (-1)))] ⟨⟨E,V⟩,E⟩ E E ?_
     cases h
     exact JS.ret aA () V E E [] E
    refine JS.skip (JS.seq (JS.seq (JS.region ?_)))
    obtain ⟨g18,h⟩:=aH h
    refine aB aA 4 [] [] [(24,.ep ⟨a3,x0.length,c4⟩ (Int.toNat x8*2+1))] _ E ⟨hs35.ix g18,hs35.fa g18,⟨E,V⟩,E⟩ (JO.load aA E E E E E E E 2 E E (Int.toNat x8) 1 (at' x0 x8) ⟨bD g18,E⟩ E E (aB aA 2 [] [] [(27,.v (.bool (!(decide ((at' x0 x8).2=y16)))))] _ E ⟨⟨E,V⟩,E⟩ (aD E ?_)))
    refine aK E h (fun h=>?_) (fun h=>?_)
    ·
     refine aC aA 1 [(4,.v (I (-1)))] ⟨⟨E,V⟩,E⟩ E E ?_
     cases h
     exact JS.ret aA () V E E [] E
    refine JS.skip (bZ aA 3 [(W (y16+1))] [] [(1,.v (I (W (y16+1))))] _ ⟨⟨V,E⟩,⟨E,V⟩,E⟩ E E (aZ (bZ aA 3 [(W (x8+1))] [] [(5,.v (I (W (x8+1))))] _ ⟨⟨V,E⟩,⟨E,V⟩,E⟩ E E (bQ (n23,(W (y16+1)),(W (x8+1))) h (Nat.lt_succ_self _) (Es E) V [2] E [] E))))
   refine JS.exit E (aT x7 h ⟨E,V⟩ V [] E [] E)
  rintro x28 h
  subst hj39
  refine aC aA 2 [(4,.v (I x28))] ⟨⟨E,V⟩,E⟩ E E ?_
  cases h
  exact JS.ret aA () V E E [] E

def pU (x0:List (List Int×Int)) (x1:Int):Option Int:=
  (aG (qZ x0 x1) fun (y7:Int)=>
  (bif (decide (y7<0)) then
  some (-1)
  else
  some y7))

theorem aGr (x0:List (List Int×Int)) (x1:Int) (a3:Option Addr) (c4:Nat) (r:Int) (h:pU x0 x1=some r):
  FC Tryz.prog 76 [.agg #[.slice a3 x0.length c4],.int .i64 x1] [⟨(.pair (.sl (.int .i64)) (.int .i64)),⟨a3,x0.length,c4⟩,x0⟩] (fun _:Unit=>True) (fun _=>.int .i64 r) (fun _=>[]):=
 by
  refine FC.of (T:=TTx) Tryz.call76 Tryz.func76 E E fun w0=>?_
  unfold pU at h
  refine aL aA 2 [] [2] [(2,.bp 2 0)] (.new 2 44 [.slice a3 x0.length c4] .nil) ⟨⟨E,V⟩,(Bs E E)⟩ E E (JS.seq (JS.region (aB aA 3 [] [] [(6,.v (.slice a3 x0.length c4)),(7,.v (I x1))] _ E ⟨(Es E),E⟩ ?_)))
  refine bnw h fun y7 hy8 h=>JO.call E E E E (aEy x0 x1 a3 c4 _ hy8) E [0] E E fun _ _=>aB aA 1 [] [] [(1,.v (I y7))] _ E ⟨⟨E,V⟩,E⟩ (aD E (JS.seq (aC aA 2 [(10,.v (.bool (decide (y7<0))))] ⟨⟨E,V⟩,E⟩ E E ?_)))
  refine aK E h (fun h=>?_) (fun h=>?_)
  ·
   refine aC aA 1 [(4,.v (I (-1)))] ⟨⟨E,V⟩,E⟩ E E ?_
   cases h
   exact JS.ret aA () V E E [] E
  refine JS.skip (aC aA 2 [(4,.v (I y7))] ⟨⟨E,V⟩,E⟩ E E ?_)
  cases h
  exact JS.ret aA () V E E [] E

def nZ (x0:EdQ) (x1:Int):Option Int:=
  (aG (jB x0.2.2.1 x1) fun (y27:Int)=>
  (bif (decide (y27<0)) then
  some (-1)
  else
  (aG (pV x0.2.2.2.2.2.2.2.2.2.2.1 y27) fun (y29:Int)=>
  (bif (decide (y29<0)) then
  some (-1)
  else
  (aG (pU x0.2.2.2.2.2.2.2.2.2.2.2.1 y29) fun (y31:Int)=>
  (bif (decide (y31<0)) then
  some (-1)
  else
  (aG (jB x0.2.2.2.2.2.2.2.2.2.2.2.2.2.1 y31) fun (y33:Int)=>
  (bif (decide (y33<0)) then
  some (-1)
  else
  (aG (gM x0.2.2.2.2.2.2.2.2.2.2.2.2.2.2.1 y33) fun (y35:Int)=>
  (bif (decide (y35<0)) then
  some (-1)
  else
  (aG (jB x0.2.2.2.2.2.2.2.2.2.2.2.2.2.2.2.2 y35) fun (y37:Int)=>
  (bif (decide (y37<0)) then
  some (-1)
  else
  some y37))))))))))))

theorem aDb (x0:EdQ) (x1:Int) (a3:Option Addr) (c4:Nat) (l5:Nat) (hl6:x0.2.2.1.1.length=l5) (a7:Option Addr) (c8:Nat) (l9:Nat) (hl10:(Q8 x0).2.2.1.length=l9) (a11:Option Addr) (c12:Nat) (l13:Nat) (hl14:(Q8 x0).2.2.2.1.length=l13) (a15:Option Addr) (c16:Nat) (l17:Nat) (hl18:(Q12 x0).2.1.1.length=l17) (a19:Option Addr) (c20:Nat) (l21:Nat) (hl22:(Q12 x0).2.2.1.length=l21) (a23:Option Addr) (c24:Nat) (l25:Nat) (hl26:(Q16 x0).1.length=l25) (r:Int) (h:nZ x0 x1=some r) :
  FC Tryz.prog 23 [.agg #[.bool x0.1,.int .i64 x0.2.1,.slice a3 l5 c4,.int .i64 x0.2.2.1.2,.int .i64 x0.2.2.2.1,.int .i64 (Q4 x0).1,.int .i64 (Q4 x0).2.1,.int .i64 (Q4 x0).2.2.1,.int .i64 (Q4 x0).2.2.2.1,.int .i64 (Q8 x0).1,.int .i64 (Q8 x0).2.1,.slice a7 l9 c8,.slice a11 l13 c12,.int .i64 (Q12 x0).1,.slice a15 l17 c16,.int .i64 (Q12 x0).2.1.2,.slice a19 l21 c20,.int .i64 (Q12 x0).2.2.2.1,.slice a23 l25 c24,.int .i64 (Q16 x0).2],.int .i64 x1] [⟨(.int .i64),⟨a3,l5,c4⟩,x0.2.2.1.1⟩,⟨(.sl (.int .i64)),⟨a7,l9,c8⟩,(Q8 x0).2.2.1⟩,⟨(.pair (.sl (.int .i64)) (.int .i64)),⟨a11,l13,c12⟩,(Q8 x0).2.2.2.1⟩,⟨(.int .i64),⟨a15,l17,c16⟩,(Q12 x0).2.1.1⟩,⟨(.int .i64),⟨a19,l21,c20⟩,(Q12 x0).2.2.1⟩,⟨(.int .i64),⟨a23,l25,c24⟩,(Q16 x0).1⟩] (fun _:Unit=>True) (fun _=>.int .i64 r) (fun _=>[]):=
 by
  subst hl6
  subst hl10
  subst hl14
  subst hl18
  subst hl22
  subst hl26
  refine FC.of (T:=TTx) Tryz.call23 Tryz.func23 E E fun w0=>?_
  unfold nZ at h
  refine aL aA 2 [] [7] [(2,.bp 7 0)] (.new 7 46 (aI x0 (a3,c4,a7,c8,a11,c12,a15,c16,a19,c20,a23,c24)) .nil) ⟨⟨E,V⟩,(Bs E E)⟩ E E (JS.seq (JS.region (aB aA 3 [] [] [(6,.v (.agg #[.slice a3 x0.2.2.1.1.length c4,.int .i64 x0.2.2.1.2])),(7,.v (I x1))] _ E ⟨(Es E),E⟩ ?_)))
  refine bnw h fun y27 hy28 h=>JO.call E E E E (vB x0.2.2.1 x1 a3 c4 _ hy28) E [0] E E fun _ _=>aB aA 1 [] [] [(1,.v (I y27))] _ E ⟨⟨E,V⟩,E⟩ (aD E (JS.seq (aC aA 2 [(10,.v (.bool (decide (y27<0))))] ⟨⟨E,V⟩,E⟩ E E ?_)))
  refine aK E h (fun h=>?_) (fun h=>?_)
  ·
   refine aC aA 1 [(4,.v (I (-1)))] ⟨⟨E,V⟩,E⟩ E E ?_
   cases h
   exact JS.ret aA () V E E [] E
  refine JS.skip (JS.seq (JS.region (aB aA 3 [] [] [(12,.v (.agg #[.slice a7 (Q8 x0).2.2.1.length c8])),(13,.v (I y27))] _ E ⟨(Es E),E⟩ ?_)))
  refine bnw h fun y29 hy30 h=>JO.call E E E E (aGs (Q8 x0).2.2.1 y27 a7 c8 _ hy30) E [1] E E fun _ _=>aB aA 1 [] [] [(1,.v (I y29))] _ E ⟨⟨E,V⟩,E⟩ (aD E (JS.seq (aC aA 2 [(16,.v (.bool (decide (y29<0))))] ⟨⟨E,V⟩,E⟩ E E ?_)))
  refine aK E h (fun h=>?_) (fun h=>?_)
  ·
   refine aC aA 1 [(4,.v (I (-1)))] ⟨⟨E,V⟩,E⟩ E E ?_
   cases h
   exact JS.ret aA () V E E [] E
  refine JS.skip (JS.seq (JS.region (aB aA 3 [] [] [(18,.v (.agg #[.slice a11 (Q8 x0).2.2.2.1.length c12])),(19,.v (I y29))] _ E ⟨(Es E),E⟩ ?_)))
  refine bnw h fun y31 hy32 h=>JO.call E E E E (aGr (Q8 x0).2.2.2.1 y29 a11 c12 _ hy32) E [2] E E fun _ _=>aB aA 1 [] [] [(1,.v (I y31))] _ E ⟨⟨E,V⟩,E⟩ (aD E (JS.seq (aC aA 2 [(22,.v (.bool (decide (y31<0))))] ⟨⟨E,V⟩,E⟩ E E ?_)))
  refine aK E h (fun h=>?_) (fun h=>?_)
  ·
   refine aC aA 1 [(4,.v (I (-1)))] ⟨⟨E,V⟩,E⟩ E E ?_
   cases h
   exact JS.ret aA () V E E [] E
  refine JS.skip (JS.seq (JS.region (aB aA 3 [] [] [(24,.v (.agg #[.slice a15 (Q12 x0).2.1.1.length c16,.int .i64 (Q12 x0).2.1.2])),(25,.v (I y31))] _ E ⟨(Es E),E⟩ ?_)))
  refine bnw h fun y33 hy34 h=>JO.call E E E E (vB (Q12 x0).2.1 y31 a15 c16 _ hy34) E [3] E E fun _ _=>aB aA 1 [] [] [(1,.v (I y33))] _ E ⟨⟨E,V⟩,E⟩ (aD E (JS.seq (aC aA 2 [(28,.v (.bool (decide (y33<0))))] ⟨⟨E,V⟩,E⟩ E E ?_)))
  refine aK E h (fun h=>?_) (fun h=>?_)
  ·
   refine aC aA 1 [(4,.v (I (-1)))] ⟨⟨E,V⟩,E⟩ E E ?_
   cases h
   exact JS.ret aA () V E E [] E
  refine JS.skip (JS.seq (JS.region (aB aA 3 [] [] [(30,.v (.slice a19 (Q12 x0).2.2.1.length c20)),(31,.v (I y33))] _ E ⟨(Es E),E⟩ ?_)))
  refine bnw h fun y35 hy36 h=>JO.call E E E E (qU (Q12 x0).2.2.1 y33 a19 c20 _ hy36) E [4] E E fun _ _=>aB aA 1 [] [] [(1,.v (I y35))] _ E ⟨⟨E,V⟩,E⟩ (aD E (JS.seq (aC aA 2 [(34,.v (.bool (decide (y35<0))))] ⟨⟨E,V⟩,E⟩ E E ?_)))
  refine aK E h (fun h=>?_) (fun h=>?_)
  ·
   refine aC aA 1 [(4,.v (I (-1)))] ⟨⟨E,V⟩,E⟩ E E ?_
   cases h
   exact JS.ret aA () V E E [] E
  refine JS.skip (JS.seq (JS.region (aB aA 3 [] [] [(36,.v (.agg #[.slice a23 (Q16 x0).1.length c24,.int .i64 (Q16 x0).2])),(37,.v (I y35))] _ E ⟨(Es E),E⟩ ?_)))
  refine bnw h fun y37 hy38 h=>JO.call E E E E (vB (Q16 x0) y35 a23 c24 _ hy38) E [5] E E fun _ _=>aB aA 1 [] [] [(1,.v (I y37))] _ E ⟨⟨E,V⟩,E⟩ (aD E (JS.seq (aC aA 2 [(40,.v (.bool (decide (y37<0))))] ⟨⟨E,V⟩,E⟩ E E ?_)))
  refine aK E h (fun h=>?_) (fun h=>?_)
  ·
   refine aC aA 1 [(4,.v (I (-1)))] ⟨⟨E,V⟩,E⟩ E E ?_
   cases h
   exact JS.ret aA () V E E [] E
  refine JS.skip (aC aA 2 [(4,.v (I y37))] ⟨⟨E,V⟩,E⟩ E E ?_)
  cases h
  exact JS.ret aA () V E E [] E

def iB (x0:EdQ) (x1:Int×List (List UInt8)) (x2:Int×Int):Option Bool:=
  (aG (wC x0 1048576) fun (y32:Int)=>
  (bif (decide (y32<0)) then
  some true
  else
  (aG (tW x1 y32) fun (y34:Int)=>
  (bif (decide (y34<0)) then
  some true
  else
  (aU (fun ((x72,x73):Int×EdQ)=>
  (aG (pK x0) fun (y87:EdQ)=>
  (aG (lF x1) fun (y101:Int×List (List UInt8))=>
  (aU (fun ((x123,x124):Int×EdQ)=>
  (aG (nG x124 x73) fun (y138:Bool)=>
  (bif (bif (!y138) then true else (!(decide (x123=x72)))) then
  some false
  else
  (aG (pK x0) fun (y140:EdQ)=>
  (aG (nG y87 y140) fun (y154:Bool)=>
  (bif (!y154) then
  some false
  else
  (aG (lF x1) fun (y157:Int×List (List UInt8))=>
  (aG (tZ y101 y157) fun (y161:Bool)=>
  (bif (!y161) then
  some false
  else
  (aG (lI y87 1) fun (y164,y165,y166,y167,y168,y169,y170)=>
  (aG (pT y101 y164) fun (y178,y179)=>
  (bU ((decide (y178<0))=false) (nG x124 x73) false fun (y182:Bool)=>
  (bif (bif (bif (decide (y178<0)) then true else (!y182)) then true else (!(decide (x123=x72)))) then
  some false
  else
  (aG (lI x124 1) fun (y185,y186,y187,y188,y189,y190,y191)=>
  (aG (nZ (x124.1,x124.2.1,(y186,x124.2.2.1.2),x124.2.2.2.1,x124.2.2.2.2.1,x124.2.2.2.2.2.1,x124.2.2.2.2.2.2.1,x124.2.2.2.2.2.2.2.1,x124.2.2.2.2.2.2.2.2.1,x124.2.2.2.2.2.2.2.2.2.1,y187,y188,x124.2.2.2.2.2.2.2.2.2.2.2.2.1,(y189,x124.2.2.2.2.2.2.2.2.2.2.2.2.2.1.2),y190,x124.2.2.2.2.2.2.2.2.2.2.2.2.2.2.2.1,(y191,x124.2.2.2.2.2.2.2.2.2.2.2.2.2.2.2.2.2)) 1) fun (y199:Int)=>
  (bif (decide (y199<0)) then
  some false
  else
  (bif (!(decide (y199=y185))) then
  some false
  else
  (aU (fun ((x237,x238):Int×EdQ)=>
  (aG (nG x238 x73) fun (y252:Bool)=>
  (bif (bif (!y252) then true else (!(decide (x237=x72)))) then
  some false
  else
  (aG (nZ (x124.1,x124.2.1,(y186,x124.2.2.1.2),x124.2.2.2.1,x124.2.2.2.2.1,x124.2.2.2.2.2.1,x124.2.2.2.2.2.2.1,x124.2.2.2.2.2.2.2.1,x124.2.2.2.2.2.2.2.2.1,x124.2.2.2.2.2.2.2.2.2.1,y187,y188,x124.2.2.2.2.2.2.2.2.2.2.2.2.1,(y189,x124.2.2.2.2.2.2.2.2.2.2.2.2.2.1.2),y190,x124.2.2.2.2.2.2.2.2.2.2.2.2.2.2.2.1,(y191,x124.2.2.2.2.2.2.2.2.2.2.2.2.2.2.2.2.2)) 1) fun (y254:Int)=>
  (bif (decide (y254<0)) then
  some false
  else
  (bif (!(decide (y254=y185))) then
  some false
  else
  some true)))))) fun j251=>
  (aG (pK x0) fun (y201:EdQ)=>
  (aG (lF x1) fun (y215:Int×List (List UInt8))=>
  (aG (wB x2) fun (y219:Int×Int)=>
  (aG (mJ y201 y215 y219) fun (y221,y222)=>
  j251 (y222,y221))))))))))))))))))))))) fun j137=>
  (aG (wB x2) fun (y105:Int×Int)=>
  (aG (mJ y87 y101 y105) fun (y107,y108)=>
  j137 (y108,y107))))))) fun j86=>
  (aG (pK x0) fun (y36:EdQ)=>
  (aG (lF x1) fun (y50:Int×List (List UInt8))=>
  (aG (wB x2) fun (y54:Int×Int)=>
  (aG (pI y36 y50 y54) fun (y56,y57)=>
  j86 (y57,y56))))))))))

set_option maxHeartbeats 4000000 in
theorem ok_l_FnExactEmacsKey (x0:EdQ) (x1:Int×List (List UInt8)) (x2:Int×Int) (a4:Option Addr) (c5:Nat) (l6:Nat) (hl7:x0.2.2.1.1.length=l6) (a8:Option Addr) (c9:Nat) (l10:Nat) (hl11:(Q8 x0).2.2.1.length=l10) (a12:Option Addr) (c13:Nat) (l14:Nat) (hl15:(Q8 x0).2.2.2.1.length=l14) (a16:Option Addr) (c17:Nat) (l18:Nat) (hl19:(Q12 x0).2.1.1.length=l18) (a20:Option Addr) (c21:Nat) (l22:Nat) (hl23:(Q12 x0).2.2.1.length=l22) (a24:Option Addr) (c25:Nat) (l26:Nat) (hl27:(Q16 x0).1.length=l26) (a28:Option Addr) (c29:Nat) (l30:Nat) (hl31:x1.2.length=l30) (r:Bool) (h:iB x0 x1 x2=some r) :
  FC Tryz.prog 8 [.agg #[.bool x0.1,.int .i64 x0.2.1,.slice a4 l6 c5,.int .i64 x0.2.2.1.2,.int .i64 x0.2.2.2.1,.int .i64 (Q4 x0).1,.int .i64 (Q4 x0).2.1,.int .i64 (Q4 x0).2.2.1,.int .i64 (Q4 x0).2.2.2.1,.int .i64 (Q8 x0).1,.int .i64 (Q8 x0).2.1,.slice a8 l10 c9,.slice a12 l14 c13,.int .i64 (Q12 x0).1,.slice a16 l18 c17,.int .i64 (Q12 x0).2.1.2,.slice a20 l22 c21,.int .i64 (Q12 x0).2.2.2.1,.slice a24 l26 c25,.int .i64 (Q16 x0).2],.agg #[.int .i64 x1.1,.slice a28 l30 c29],.agg #[.int .i64 x2.1,.int .i64 x2.2]] [⟨(.int .i64),⟨a4,l6,c5⟩,x0.2.2.1.1⟩,⟨(.sl (.int .i64)),⟨a8,l10,c9⟩,(Q8 x0).2.2.1⟩,⟨(.pair (.sl (.int .i64)) (.int .i64)),⟨a12,l14,c13⟩,(Q8 x0).2.2.2.1⟩,⟨(.int .i64),⟨a16,l18,c17⟩,(Q12 x0).2.1.1⟩,⟨(.int .i64),⟨a20,l22,c21⟩,(Q12 x0).2.2.1⟩,⟨(.int .i64),⟨a24,l26,c25⟩,(Q16 x0).1⟩,⟨.str,⟨a28,l30,c29⟩,x1.2⟩] (fun _:Unit=>True) (fun _=>.bool r) (fun _=>[]):=
 by
  subst hl7
  subst hl11
  subst hl15
  subst hl19
  subst hl23
  subst hl27
  subst hl31
  refine FC.of (T:=TTx) Tryz.call8 Tryz.func8 E E fun w0=>?_
  unfold iB at h
  refine aL aA 4 [] [8,9,10] [(3,.bp 8 0),(4,.bp 9 0),(5,.bp 10 0)] (.new 8 32 (cC x0 (a4,c5,a8,c9,a12,c13,a16,c17,a20,c21,a24,c25)) (.new 9 35 [.int .i64 x1.1,.slice a28 x1.2.length c29] (.new 10 61 [.int .i64 x2.1,.int .i64 x2.2] .nil))) ⟨(Es E),(Bs E E)⟩ E E (aC aA 1 [(7,.v (I 1048576))] ⟨⟨E,V⟩,E⟩ E E (JS.seq (JS.region (aB aA 2 [] [] [(19,.v (.agg (cC x0 (a4,c5,a8,c9,a12,c13,a16,c17,a20,c21,a24,c25)).toArray)),(20,.v (I 1048576))] _ E ⟨(Es E),E⟩ ?_))))
  refine bnw h fun y32 hy33 h=>JO.call E E E E (aPt x0 1048576 (a4,c5,a8,c9,a12,c13,a16,c17,a20,c21,a24,c25) _ hy33) E [0,1,2,3,4,5] E E fun _ _=>aB aA 1 [] [] [(7,.v (I y32))] _ E ⟨⟨E,V⟩,E⟩ (aD E (JS.seq (aC aA 2 [(23,.v (.bool (decide (y32<0))))] ⟨⟨E,V⟩,E⟩ E E ?_)))
  refine aK E h (fun h=>?_) (fun h=>?_)
  ·
   refine aC aA 1 [(6,.v (.bool true))] ⟨⟨E,V⟩,E⟩ E E ?_
   cases h
   exact JS.ret aA () V E E [] E
  refine JS.skip (JS.seq (JS.region (aB aA 2 [] [] [(24,.v (.agg #[.int .i64 x1.1,.slice a28 x1.2.length c29])),(25,.v (I y32))] _ E ⟨(Es E),E⟩ ?_)))
  refine bnw h fun y34 hy35 h=>JO.call E E E E (aKn x1 y32 a28 c29 _ hy35) E [6] E E fun _ _=>aB aA 1 [] [] [(7,.v (I y34))] _ E ⟨⟨E,V⟩,E⟩ (aD E (JS.seq (aC aA 2 [(28,.v (.bool (decide (y34<0))))] ⟨⟨E,V⟩,E⟩ E E ?_)))
  refine aK E h (fun h=>?_) (fun h=>?_)
  ·
   refine aC aA 1 [(6,.v (.bool true))] ⟨⟨E,V⟩,E⟩ E E ?_
   cases h
   exact JS.ret aA () V E E [] E
  refine JS.skip (JS.seq ?_)
  obtain ⟨j86,hj282,h⟩:=aQ h
  refine mK (ι:=Int×EdQ×P6) ⟨fun z=>j86 (z.1,z.2.1)=some r,fun z=>[(3,.bp 8 0),(4,.bp 9 0),(5,.bp 10 0),(8,.bp 63 0),(9,.v (I z.1))],fun z=>(.new 8 32 (cC x0 (a4,c5,a8,c9,a12,c13,a16,c17,a20,c21,a24,c25)) (.new 9 35 [.int .i64 x1.1,.slice a28 x1.2.length c29] (.new 10 61 [.int .i64 x2.1,.int .i64 x2.2] (.new 63 46 (aI z.2.1 z.2.2) .nil)))),fun z=>(bW x0 (a4,c5,a8,c9,a12,c13,a16,c17,a20,c21,a24,c25) [⟨.str,⟨a28,x1.2.length,c29⟩,x1.2⟩]),fun z=>(bW z.2.1 z.2.2 []),fun z=>0⟩ ?_ ?_
  ·
   obtain ⟨y36,hy37,h⟩:=aE h
   obtain ⟨y50,hy51,h⟩:=aE h
   obtain ⟨y54,hy55,h⟩:=aE h
   obtain ⟨⟨y56,y57⟩,hy58,h⟩:=aE h
   refine bB E (.new 8 32 (cC x0 (a4,c5,a8,c9,a12,c13,a16,c17,a20,c21,a24,c25)) (.new 9 35 [.int .i64 x1.1,.slice a28 x1.2.length c29] (.new 10 61 [.int .i64 x2.1,.int .i64 x2.2] .nil))) [] [5,6,7,8,9,11,12] ⟨E,E,E,E,E,E,E,E,E,E,E,E,V⟩ E (fun be71=>?_)
   refine bR aA aF true 10 [0,2,4] E (by kernel_rfl) [] [(30,.v (.agg (cC x0 (a4,c5,a8,c9,a12,c13,a16,c17,a20,c21,a24,c25)).toArray)),(32,.v (.agg #[.int .i64 x1.1,.slice a28 x1.2.length c29])),(34,.v (.agg #[.int .i64 x2.1,.int .i64 x2.2]))] ⟨E,E,E,E,E,E,E,E,E,E,E,E,V⟩ [] E E (Es E) ?_
   refine JA.all (rs:=[1,10]) (by kernel_rfl) E (List.forall_mem_cons.2 ⟨?_,List.forall_mem_cons.2 ⟨?_,(fun _ hx=>absurd hx List.not_mem_nil)⟩⟩)
   ·
    refine JK.call E E E E (sS x0 (a4,c5,a8,c9,a12,c13,a16,c17,a20,c21,a24,c25) _ hy37) E [0,1,2,3,4,5] E E fun q38 _=>aR ⟨E,E,E,E,E,E,E,E,E,E,E,E,V⟩ [] E ?_
    refine JA.all (rs:=[3,10]) (by kernel_rfl) E (List.forall_mem_cons.2 ⟨?_,List.forall_mem_cons.2 ⟨?_,(fun _ hx=>absurd hx List.not_mem_nil)⟩⟩)
    ·
     refine JK.call E E E E (iR x1 a28 c29 _ hy51) E [6] E E ?_
     rintro ⟨a52,c53⟩ -
     refine aR ⟨E,E,E,E,E,E,E,E,E,E,E,E,V⟩ [] E ?_
     refine JA.all (rs:=[5,10]) (by kernel_rfl) E (List.forall_mem_cons.2 ⟨?_,List.forall_mem_cons.2 ⟨?_,(fun _ hx=>absurd hx List.not_mem_nil)⟩⟩)
     ·
      refine JK.call E E E E (gX x2 _ hy55) E [] E E fun _ _=>aM E ?_
      refine JA.all (rs:=[6,10]) (by kernel_rfl) E (List.forall_mem_cons.2 ⟨?_,List.forall_mem_cons.2 ⟨?_,(fun _ hx=>absurd hx List.not_mem_nil)⟩⟩)
      ·
       refine JK.call E E E E (mO y36 y50 y54 q38 a52 c53 _ hy58) E [8,9,10,11,12,13,7] E E fun q59 _=>aM E (aS aA aF 3 [7,8,9] E (by kernel_rfl) [] [(37,.v (.agg (aI y56 q59).toArray)),(38,.v (I y57))] E (Es E) (JA.one 10 (by kernel_rfl) (JK.alloc aA E E E E E 63 E (cK _ E) (aR ⟨E,E,E,E,E,E,E,E,E,E,E,E,V⟩ [] E (JA.one 11 (by kernel_rfl) (aY aA E E E E E E E E (aM E (aS aA aF 0 [12] E (by kernel_rfl) [] [(9,.v (I y57))] E ⟨E,V⟩ (bE (by kernel_rfl) (aW (B':=(.new 8 32 (cC x0 (a4,c5,a8,c9,a12,c13,a16,c17,a20,c21,a24,c25)) (.new 9 35 [.int .i64 x1.1,.slice a28 x1.2.length c29] (.new 10 61 [.int .i64 x2.1,.int .i64 x2.2] (.new 63 46 (aI y56 q59) .nil))))) (Bs E E) (bV (y57,y56,q59) h (Es E) (Bs E E) [0,1,2,3,4,5,6] E [0,1,2,3,4,5] E E)))))))))))
      refine JK.alloc aA E E E E E 63 E (cK _ E) (aR ⟨E,E,E,E,E,E,E,E,E,E,E,E,V⟩ [] E (JA.one 6 (by kernel_rfl) (JK.call E E E E (mO y36 y50 y54 q38 a52 c53 _ hy58) E [8,9,10,11,12,13,7] E E ?_)))
      rintro q59 -
      refine aM E (aS aA aF 2 [7,8,9] E (by kernel_rfl) [] [(37,.v (.agg (aI y56 q59).toArray)),(38,.v (I y57))] E (Es E) (JA.one 11 (by kernel_rfl) (aY aA E E E E E E E E (aM E (aS aA aF 0 [12] E (by kernel_rfl) [] [(9,.v (I y57))] E ⟨E,V⟩ (bE (by kernel_rfl) (aW (B':=(.new 8 32 (cC x0 (a4,c5,a8,c9,a12,c13,a16,c17,a20,c21,a24,c25)) (.new 9 35 [.int .i64 x1.1,.slice a28 x1.2.length c29] (.new 10 61 [.int .i64 x2.1,.int .i64 x2.2] (.new 63 46 (aI y56 q59) .nil))))) (Bs E E) (bV (y57,y56,q59) h (Es E) (Bs E E) [0,1,2,3,4,5,6] E [0,1,2,3,4,5] E E))))))))
     refine JK.alloc aA E E E E E 63 E (cK _ E) (aR ⟨E,E,E,E,E,E,E,E,E,E,E,E,V⟩ [] E (JA.one 5 (by kernel_rfl) (JK.call E E E E (gX x2 _ hy55) E [] E E fun _ _=>aM E (JA.one 6 (by kernel_rfl) (JK.call E E E E (mO y36 y50 y54 q38 a52 c53 _ hy58) E [8,9,10,11,12,13,7] E E ?_)))))
     rintro q59 -
     refine aM E (aS aA aF 2 [7,8,9] E (by kernel_rfl) [] [(37,.v (.agg (aI y56 q59).toArray)),(38,.v (I y57))] E (Es E) (JA.one 11 (by kernel_rfl) (aY aA E E E E E E E E (aM E (aS aA aF 0 [12] E (by kernel_rfl) [] [(9,.v (I y57))] E ⟨E,V⟩ (bE (by kernel_rfl) (aW (B':=(.new 8 32 (cC x0 (a4,c5,a8,c9,a12,c13,a16,c17,a20,c21,a24,c25)) (.new 9 35 [.int .i64 x1.1,.slice a28 x1.2.length c29] (.new 10 61 [.int .i64 x2.1,.int .i64 x2.2] (.new 63 46 (aI y56 q59) .nil))))) (Bs E E) (bV (y57,y56,q59) h (Es E) (Bs E E) [0,1,2,3,4,5,6] E [0,1,2,3,4,5] E E))))))))
    refine JK.alloc aA E E E E E 63 E (cK _ E) (aR ⟨E,E,E,E,E,E,E,E,E,E,E,E,V⟩ [] E (JA.one 3 (by kernel_rfl) (JK.call E E E E (iR x1 a28 c29 _ hy51) E [6] E E ?_)))
    rintro ⟨a52,c53⟩ -
    refine aR ⟨E,E,E,E,E,E,E,E,E,E,E,E,V⟩ [] E (JA.one 5 (by kernel_rfl) (JK.call E E E E (gX x2 _ hy55) E [] E E fun _ _=>aM E (JA.one 6 (by kernel_rfl) (JK.call E E E E (mO y36 y50 y54 q38 a52 c53 _ hy58) E [8,9,10,11,12,13,7] E E ?_))))
    rintro q59 -
    refine aM E (aS aA aF 2 [7,8,9] E (by kernel_rfl) [] [(37,.v (.agg (aI y56 q59).toArray)),(38,.v (I y57))] E (Es E) (JA.one 11 (by kernel_rfl) (aY aA E E E E E E E E (aM E (aS aA aF 0 [12] E (by kernel_rfl) [] [(9,.v (I y57))] E ⟨E,V⟩ (bE (by kernel_rfl) (aW (B':=(.new 8 32 (cC x0 (a4,c5,a8,c9,a12,c13,a16,c17,a20,c21,a24,c25)) (.new 9 35 [.int .i64 x1.1,.slice a28 x1.2.length c29] (.new 10 61 [.int .i64 x2.1,.int .i64 x2.2] (.new 63 46 (aI y56 q59) .nil))))) (Bs E E) (bV (y57,y56,q59) h (Es E) (Bs E E) [0,1,2,3,4,5,6] E [0,1,2,3,4,5] E E))))))))
   refine JK.alloc aA E E E E E 63 E (cK _ E) (aR ⟨E,E,E,E,E,E,E,E,E,E,E,E,V⟩ [] E (JA.one 1 (by kernel_rfl) (JK.call E E E E (sS x0 (a4,c5,a8,c9,a12,c13,a16,c17,a20,c21,a24,c25) _ hy37) E [0,1,2,3,4,5] E E ?_)))
   rintro q38 -
   refine aR ⟨E,E,E,E,E,E,E,E,E,E,E,E,V⟩ [] E (JA.one 3 (by kernel_rfl) (JK.call E E E E (iR x1 a28 c29 _ hy51) E [6] E E ?_))
   rintro ⟨a52,c53⟩ -
   refine aR ⟨E,E,E,E,E,E,E,E,E,E,E,E,V⟩ [] E (JA.one 5 (by kernel_rfl) (JK.call E E E E (gX x2 _ hy55) E [] E E fun _ _=>aM E (JA.one 6 (by kernel_rfl) (JK.call E E E E (mO y36 y50 y54 q38 a52 c53 _ hy58) E [8,9,10,11,12,13,7] E E ?_))))
   rintro q59 -
   refine aM E (aS aA aF 2 [7,8,9] E (by kernel_rfl) [] [(37,.v (.agg (aI y56 q59).toArray)),(38,.v (I y57))] E (Es E) (JA.one 11 (by kernel_rfl) (aY aA E E E E E E E E (aM E (aS aA aF 0 [12] E (by kernel_rfl) [] [(9,.v (I y57))] E ⟨E,V⟩ (bE (by kernel_rfl) (aW (B':=(.new 8 32 (cC x0 (a4,c5,a8,c9,a12,c13,a16,c17,a20,c21,a24,c25)) (.new 9 35 [.int .i64 x1.1,.slice a28 x1.2.length c29] (.new 10 61 [.int .i64 x2.1,.int .i64 x2.2] (.new 63 46 (aI y56 q59) .nil))))) (Bs E E) (bV (y57,y56,q59) h (Es E) (Bs E E) [0,1,2,3,4,5,6] E [0,1,2,3,4,5] E E))))))))
  rintro ⟨x72,x73,q74⟩ h
  subst hj282
  refine JS.seq (JS.region (aB aA 1 [] [] [(39,.v (.agg (cC x0 (a4,c5,a8,c9,a12,c13,a16,c17,a20,c21,a24,c25)).toArray))] _ E ⟨⟨E,V⟩,E⟩ ?_))
  refine bnw h fun y87 hy88 h=>JO.call E E E E (sS x0 (a4,c5,a8,c9,a12,c13,a16,c17,a20,c21,a24,c25) _ hy88) E [0,1,2,3,4,5] E E fun q89 _=>aP aA 2 [] [106] [(10,.bp 106 0)] (.new 8 32 (cC x0 (a4,c5,a8,c9,a12,c13,a16,c17,a20,c21,a24,c25)) (.new 9 35 [.int .i64 x1.1,.slice a28 x1.2.length c29] (.new 10 61 [.int .i64 x2.1,.int .i64 x2.2] (.new 63 46 (aI x73 q74) (.new 106 46 (aI y87 q89) .nil))))) E ⟨⟨E,V⟩,(Bs E E)⟩ (aD E (JS.seq (JS.region (aB aA 1 [] [] [(41,.v (.agg #[.int .i64 x1.1,.slice a28 x1.2.length c29]))] _ E ⟨⟨E,V⟩,E⟩ ?_))))
  refine bnw h fun y101 hy102 h=>JO.call E E E E (iR x1 a28 c29 _ hy102) E [6] E E ?_
  rintro ⟨a103,c104⟩ -
  refine aP aA 2 [] [112] [(11,.bp 112 0)] (.new 8 32 (cC x0 (a4,c5,a8,c9,a12,c13,a16,c17,a20,c21,a24,c25)) (.new 9 35 [.int .i64 x1.1,.slice a28 x1.2.length c29] (.new 10 61 [.int .i64 x2.1,.int .i64 x2.2] (.new 63 46 (aI x73 q74) (.new 106 46 (aI y87 q89) (.new 112 50 [.int .i64 y101.1,.slice a103 y101.2.length c104] .nil)))))) E ⟨⟨E,V⟩,(Bs E E)⟩ (aD E (JS.seq ?_))
  obtain ⟨j137,hj281,h⟩:=aQ h
  refine mK (ι:=Int×EdQ×P6) ⟨fun z=>j137 (z.1,z.2.1)=some r,fun z=>[(3,.bp 8 0),(4,.bp 9 0),(5,.bp 10 0),(8,.bp 63 0),(9,.v (I x72)),(10,.bp 106 0),(11,.bp 112 0),(12,.bp 136 0),(13,.v (I z.1))],fun z=>(.new 8 32 (cC x0 (a4,c5,a8,c9,a12,c13,a16,c17,a20,c21,a24,c25)) (.new 9 35 [.int .i64 x1.1,.slice a28 x1.2.length c29] (.new 10 61 [.int .i64 x2.1,.int .i64 x2.2] (.new 63 46 (aI x73 q74) (.new 106 46 (aI y87 q89) (.new 112 50 [.int .i64 y101.1,.slice a103 y101.2.length c104] (.new 136 46 (aI z.2.1 z.2.2) .nil))))))),fun z=>(bW x0 (a4,c5,a8,c9,a12,c13,a16,c17,a20,c21,a24,c25) [⟨.str,⟨a28,x1.2.length,c29⟩,x1.2⟩]),fun z=>(bW z.2.1 z.2.2 (bW x73 q74 (bW y87 q89 [⟨.str,⟨a103,y101.2.length,c104⟩,y101.2⟩]))),fun z=>0⟩ ?_ ?_
  ·
   obtain ⟨y105,hy106,h⟩:=aE h
   obtain ⟨⟨y107,y108⟩,hy109,h⟩:=aE h
   refine bB E (.new 10 61 [.int .i64 x2.1,.int .i64 x2.2] (.new 106 46 (aI y87 q89) (.new 112 50 [.int .i64 y101.1,.slice a103 y101.2.length c104] .nil))) [] [4,5,6,7,9,10] ⟨E,E,E,E,E,E,E,E,E,E,E,E,V⟩ E (fun be122=>?_)
   refine bR aA aF true 8 [0,1,2] E (by kernel_rfl) [] [(44,.v (.agg (aI y87 q89).toArray)),(45,.v (.agg #[.int .i64 y101.1,.slice a103 y101.2.length c104])),(46,.v (.agg #[.int .i64 x2.1,.int .i64 x2.2]))] ⟨E,E,E,E,E,E,E,E,E,E,E,E,V⟩ [] E E (Es E) ?_
   refine JA.all (rs:=[3,8]) (by kernel_rfl) E (List.forall_mem_cons.2 ⟨?_,List.forall_mem_cons.2 ⟨?_,(fun _ hx=>absurd hx List.not_mem_nil)⟩⟩)
   ·
    refine JK.call E E E E (gX x2 _ hy106) E [] E E fun _ _=>aR ⟨E,E,E,E,E,E,E,E,E,E,E,E,V⟩ [] E ?_
    refine JA.all (rs:=[4,8]) (by kernel_rfl) E (List.forall_mem_cons.2 ⟨?_,List.forall_mem_cons.2 ⟨?_,(fun _ hx=>absurd hx List.not_mem_nil)⟩⟩)
    ·
     refine JK.call E E E E (fL y87 y101 y105 q89 a103 c104 _ hy109) E [8,9,10,11,12,13,7] E E fun q110 _=>aM E (aS aA aF 3 [5,6,7] E (by kernel_rfl) [] [(49,.v (.agg (aI y107 q110).toArray)),(50,.v (I y108))] E (Es E) (JA.one 8 (by kernel_rfl) (JK.alloc aA E E E E E 136 E (cK _ E) (aR ⟨E,E,E,E,E,E,E,E,E,E,E,E,V⟩ [] E (JA.one 9 (by kernel_rfl) (aY aA E E E E E E E E (aM E (aS aA aF 0 [10] E (by kernel_rfl) [] [(13,.v (I y108))] E ⟨E,V⟩ (bE (by kernel_rfl) (aW (B':=(.new 8 32 (cC x0 (a4,c5,a8,c9,a12,c13,a16,c17,a20,c21,a24,c25)) (.new 9 35 [.int .i64 x1.1,.slice a28 x1.2.length c29] (.new 10 61 [.int .i64 x2.1,.int .i64 x2.2] (.new 63 46 (aI x73 q74) (.new 106 46 (aI y87 q89) (.new 112 50 [.int .i64 y101.1,.slice a103 y101.2.length c104] (.new 136 46 (aI y107 q110) .nil)))))))) (Bs E E) (bV (y108,y107,q110) h (Es E) (Bs E E) [0,1,2,3,4,5,6] E [0,1,2,3,4,5,13,14,15,16,17,18,7,8,9,10,11,12,6] E E)))))))))))
    refine JK.alloc aA E E E E E 136 E (cK _ E) (aR ⟨E,E,E,E,E,E,E,E,E,E,E,E,V⟩ [] E (JA.one 4 (by kernel_rfl) (JK.call E E E E (fL y87 y101 y105 q89 a103 c104 _ hy109) E [8,9,10,11,12,13,7] E E ?_)))
    rintro q110 -
    refine aM E (aS aA aF 2 [5,6,7] E (by kernel_rfl) [] [(49,.v (.agg (aI y107 q110).toArray)),(50,.v (I y108))] E (Es E) (JA.one 9 (by kernel_rfl) (aY aA E E E E E E E E (aM E (aS aA aF 0 [10] E (by kernel_rfl) [] [(13,.v (I y108))] E ⟨E,V⟩ (bE (by kernel_rfl) (aW (B':=(.new 8 32 (cC x0 (a4,c5,a8,c9,a12,c13,a16,c17,a20,c21,a24,c25)) (.new 9 35 [.int .i64 x1.1,.slice a28 x1.2.length c29] (.new 10 61 [.int .i64 x2.1,.int .i64 x2.2] (.new 63 46 (aI x73 q74) (.new 106 46 (aI y87 q89) (.new 112 50 [.int .i64 y101.1,.slice a103 y101.2.length c104] (.new 136 46 (aI y107 q110) .nil)))))))) (Bs E E) (bV (y108,y107,q110) h (Es E) (Bs E E) [0,1,2,3,4,5,6] E [0,1,2,3,4,5,13,14,15,16,17,18,7,8,9,10,11,12,6] E E))))))))
   refine JK.alloc aA E E E E E 136 E (cK _ E) (aR ⟨E,E,E,E,E,E,E,E,E,E,E,E,V⟩ [] E (JA.one 3 (by kernel_rfl) (JK.call E E E E (gX x2 _ hy106) E [] E E fun _ _=>aR ⟨E,E,E,E,E,E,E,E,E,E,E,E,V⟩ [] E (JA.one 4 (by kernel_rfl) (JK.call E E E E (fL y87 y101 y105 q89 a103 c104 _ hy109) E [8,9,10,11,12,13,7] E E ?_)))))
   rintro q110 -
   refine aM E (aS aA aF 2 [5,6,7] E (by kernel_rfl) [] [(49,.v (.agg (aI y107 q110).toArray)),(50,.v (I y108))] E (Es E) (JA.one 9 (by kernel_rfl) (aY aA E E E E E E E E (aM E (aS aA aF 0 [10] E (by kernel_rfl) [] [(13,.v (I y108))] E ⟨E,V⟩ (bE (by kernel_rfl) (aW (B':=(.new 8 32 (cC x0 (a4,c5,a8,c9,a12,c13,a16,c17,a20,c21,a24,c25)) (.new 9 35 [.int .i64 x1.1,.slice a28 x1.2.length c29] (.new 10 61 [.int .i64 x2.1,.int .i64 x2.2] (.new 63 46 (aI x73 q74) (.new 106 46 (aI y87 q89) (.new 112 50 [.int .i64 y101.1,.slice a103 y101.2.length c104] (.new 136 46 (aI y107 q110) .nil)))))))) (Bs E E) (bV (y108,y107,q110) h (Es E) (Bs E E) [0,1,2,3,4,5,6] E [0,1,2,3,4,5,13,14,15,16,17,18,7,8,9,10,11,12,6] E E))))))))
  rintro ⟨x123,x124,q125⟩ h
  subst hj281
  refine JS.seq (JS.seq (JS.region (aB aA 2 [] [] [(51,.v (.agg (aI x124 q125).toArray)),(52,.v (.agg (aI x73 q74).toArray))] _ E ⟨(Es E),E⟩ ?_)))
  refine bnw h fun y138 hy139 h=>JO.call E E E E (zQ x124 x73 q125 q74 _ hy139) E [7,8,9,10,11,12,13,14,15,16,17,18] E E fun _ _=>aB aA 6 [] [] [(59,.v (.bool (bif (!y138) then true else (!(decide (x123=x72))))))] _ E ⟨⟨E,V⟩,E⟩ (aD E ?_)
  refine aK E h (fun h=>?_) (fun h=>?_)
  ·
   refine aC aA 1 [(6,.v (.bool false))] ⟨⟨E,V⟩,E⟩ E E ?_
   cases h
   exact JS.ret aA () V E E [] E
  refine JS.skip (JS.seq (JS.seq ?_))
  obtain ⟨y140,hy141,h⟩:=aE h
  refine bnw h fun y154 hy155 h=>bB E (.new 8 32 (cC x0 (a4,c5,a8,c9,a12,c13,a16,c17,a20,c21,a24,c25)) (.new 106 46 (aI y87 q89) .nil)) [] [3,4] ⟨E,E,E,E,E,E,E,E,V⟩ E (fun be156=>?_)
  refine bR aA aF true 3 [0,1] E (by kernel_rfl) [] [(60,.v (.agg (aI y87 q89).toArray)),(61,.v (.agg (cC x0 (a4,c5,a8,c9,a12,c13,a16,c17,a20,c21,a24,c25)).toArray))] ⟨E,E,E,E,E,E,E,E,V⟩ [] E E (Es E) (JA.one 2 (by kernel_rfl) (JK.call E E E E (sS x0 (a4,c5,a8,c9,a12,c13,a16,c17,a20,c21,a24,c25) _ hy141) E [0,1,2,3,4,5] E E ?_))
  rintro q142 -
  refine aR ⟨E,E,E,E,E,E,E,E,V⟩ [] E (JA.one 3 (by kernel_rfl) (JK.call E E E E (zQ y87 y140 q89 q142 _ hy155) E [25,26,27,28,29,30,7,8,9,10,11,12] E E fun _ _=>aM E (aS aA aF 0 [4] E (by kernel_rfl) [] [(64,.v (.bool (!y154)))] E ⟨E,V⟩ (bE (by kernel_rfl) (aW (B':=(.new 8 32 (cC x0 (a4,c5,a8,c9,a12,c13,a16,c17,a20,c21,a24,c25)) (.new 9 35 [.int .i64 x1.1,.slice a28 x1.2.length c29] (.new 10 61 [.int .i64 x2.1,.int .i64 x2.2] (.new 63 46 (aI x73 q74) (.new 106 46 (aI y87 q89) (.new 112 50 [.int .i64 y101.1,.slice a103 y101.2.length c104] (.new 136 46 (aI x124 q125) .nil)))))))) (Bs E E) ?_)))))
  refine aK E h (fun h=>?_) (fun h=>?_)
  ·
   refine JS.seq (aJd [false,false,false,false,false,false,true,true,true,true,true,true,true,true,true,true,true,true,true,true,true,true,true,true,true] (bW x0 (a4,c5,a8,c9,a12,c13,a16,c17,a20,c21,a24,c25) [⟨.str,⟨a28,x1.2.length,c29⟩,x1.2⟩]) (bW x124 q125 (bW x73 q74 (bW y87 q89 [⟨.str,⟨a103,y101.2.length,c104⟩,y101.2⟩]))) E E (vL aA 1 [(6,.v (.bool false))] ⟨⟨E,V⟩,E⟩ E E ?_))
   cases h
   exact JS.ret aA () V E E [] E
  refine JS.skip (JS.seq (JS.seq ?_))
  obtain ⟨y157,hy158,h⟩:=aE h
  refine bnw h fun y161 hy162 h=>bB E (.new 9 35 [.int .i64 x1.1,.slice a28 x1.2.length c29] (.new 112 50 [.int .i64 y101.1,.slice a103 y101.2.length c104] .nil)) [] [3,4] ⟨E,E,E,E,E,E,E,E,V⟩ E (fun be163=>?_)
  refine bR aA aF true 3 [0,1] E (by kernel_rfl) [] [(65,.v (.agg #[.int .i64 y101.1,.slice a103 y101.2.length c104])),(66,.v (.agg #[.int .i64 x1.1,.slice a28 x1.2.length c29]))] ⟨E,E,E,E,E,E,E,E,V⟩ [] E E (Es E) (JA.one 2 (by kernel_rfl) (JK.call E E E E (iR x1 a28 c29 _ hy158) E [6] E E ?_))
  rintro ⟨a159,c160⟩ -
  refine aR ⟨E,E,E,E,E,E,E,E,V⟩ [] E (JA.one 3 (by kernel_rfl) (JK.call E E E E (aKq y101 y157 a103 c104 a159 c160 _ hy162) E [32,7] E E fun _ _=>aM E (aS aA aF 0 [4] E (by kernel_rfl) [] [(69,.v (.bool (!y161)))] E ⟨E,V⟩ (bE (by kernel_rfl) (aW (B':=(.new 8 32 (cC x0 (a4,c5,a8,c9,a12,c13,a16,c17,a20,c21,a24,c25)) (.new 9 35 [.int .i64 x1.1,.slice a28 x1.2.length c29] (.new 10 61 [.int .i64 x2.1,.int .i64 x2.2] (.new 63 46 (aI x73 q74) (.new 106 46 (aI y87 q89) (.new 112 50 [.int .i64 y101.1,.slice a103 y101.2.length c104] (.new 136 46 (aI x124 q125) .nil)))))))) (Bs E E) ?_)))))
  refine aK E h (fun h=>?_) (fun h=>?_)
  ·
   refine JS.seq (aJd [false,false,false,false,false,false,false,true,true,true,true,true,true,true,true,true,true,true,true,true,true,true,true,true,true,true] (bW x0 (a4,c5,a8,c9,a12,c13,a16,c17,a20,c21,a24,c25) [⟨.str,⟨a28,x1.2.length,c29⟩,x1.2⟩]) (bW x124 q125 (bW x73 q74 (bW y87 q89 [⟨.str,⟨a103,y101.2.length,c104⟩,y101.2⟩]))) E E (vL aA 1 [(6,.v (.bool false))] ⟨⟨E,V⟩,E⟩ E E ?_))
   cases h
   exact JS.ret aA () V E E [] E
  refine JS.skip (JS.seq (aJd [false,false,false,false,false,false,false,true,true,true,true,true,true,true,true,true,true,true,true,true,true,true,true,true,true,true] (bW x0 (a4,c5,a8,c9,a12,c13,a16,c17,a20,c21,a24,c25) [⟨.str,⟨a28,x1.2.length,c29⟩,x1.2⟩]) (bW x124 q125 (bW x73 q74 (bW y87 q89 [⟨.str,⟨a103,y101.2.length,c104⟩,y101.2⟩]))) E E (vL aA 1 [(14,.v (I 1))] ⟨⟨E,V⟩,E⟩ E E (JS.seq (JS.region (aB aA 2 [] [] [(70,.v (.agg (aI y87 q89).toArray)),(71,.v (I 1))] _ E ⟨(Es E),E⟩ ?_))))))
  obtain ⟨⟨y164,y165,y166,y167,y168,y169,y170⟩,hy171,h⟩:=aE h
  refine eV E E E E (aDa y87 1 q89 _ hy171) E [12,12,12,12,12,12] E [] E E fun _ _=>bJ 7 E fun hs172=>bJ 8 E fun hs173=>bJ 9 E fun hs174=>bJ 10 E fun hs175=>bJ 11 E fun hs176=>bJ 12 E fun hs177=>aB aA 1 [] [] [(14,.v (I y164))] _ E ⟨⟨E,V⟩,E⟩ (aD E (JS.seq (JS.region (aB aA 2 [] [] [(73,.v (.agg #[.int .i64 y101.1,.slice a103 y101.2.length c104])),(74,.v (I y164))] _ E ⟨(Es E),E⟩ ?_))))
  obtain ⟨⟨y178,y179⟩,hy180,h⟩:=aE h
  refine eV E E E E (aGq y101 y164 a103 c104 _ hy180) E [18] E [] E E fun _ _=>bJ 7 E fun hs181=>aB aA 1 [] [] [(14,.v (I y178))] _ E ⟨⟨E,V⟩,E⟩ (aD E (JS.seq (JS.seq (JS.region (aB aA 5 [] [] [(78,.v (.bool (decide (y178<0)))),(79,.cd [(78,false)] (.v (.agg (aI x124 q125).toArray))),(80,.cd [(78,false)] (.v (.agg (aI x73 q74).toArray)))] _ E ⟨(Es E),E⟩ ?_)))))
  obtain ⟨y182,hy183,-,h⟩:=aV h
  refine bI E E E E (fun q270=>zQ x124 x73 q125 q74 _ (hy183 q270)) E [14,15,16,17,18,19,20,21,22,23,24,25] E E (aB aA 7 [] [] [(88,.v (.bool (bif (bif (decide (y178<0)) then true else (!y182)) then true else (!(decide (x123=x72))))))] _ E ⟨⟨E,V⟩,E⟩ (aD E ?_))
  refine aK E h (fun h=>?_) (fun h=>?_)
  ·
   refine aC aA 1 [(6,.v (.bool false))] ⟨⟨E,V⟩,E⟩ E E ?_
   cases h
   exact JS.ret aA () V E E [] E
  refine JS.skip (aC aA 1 [(15,.v (I 1))] ⟨⟨E,V⟩,E⟩ E E (JS.seq (JS.region (aB aA 2 [] [] [(89,.v (.agg (aI x124 q125).toArray)),(90,.v (I 1))] _ E ⟨(Es E),E⟩ ?_))))
  obtain ⟨⟨y185,y186,y187,y188,y189,y190,y191⟩,hy192,h⟩:=aE h
  refine eV E E E E (aDa x124 1 q125 _ hy192) E [7,7,7,7,7,7] E [] E E fun _ _=>bJ 7 E fun hs193=>bJ 8 E fun hs194=>bJ 9 E fun hs195=>bJ 10 E fun hs196=>bJ 11 E fun hs197=>bJ 12 E fun hs198=>aB aA 1 [] [] [(15,.v (I y185))] _ E ⟨⟨E,V⟩,E⟩ (aD E (aC aA 1 [(16,.v (I 1))] ⟨⟨E,V⟩,E⟩ E E (JS.seq (JS.region (aB aA 2 [] [] [(92,.v (.agg (aI x124 q125).toArray)),(93,.v (I 1))] _ E ⟨(Es E),E⟩ ?_)))))
  refine bnw h fun y199 hy200 h=>JO.call E E E E (aDb (x124.1,x124.2.1,(y186,x124.2.2.1.2),x124.2.2.2.1,(Q4 x124).1,(Q4 x124).2.1,(Q4 x124).2.2.1,(Q4 x124).2.2.2.1,(Q8 x124).1,(Q8 x124).2.1,y187,y188,(Q12 x124).1,(y189,(Q12 x124).2.1.2),y190,(Q12 x124).2.2.2.1,(y191,(Q16 x124).2)) 1 q125.1 q125.2.1 x124.2.2.1.1.length hs193.len.symm q125.2.2.1 q125.2.2.2.1 (Q8 x124).2.2.1.length hs194.len.symm (Q4 q125).1 (Q4 q125).2.1 (Q8 x124).2.2.2.1.length hs195.len.symm (Q4 q125).2.2.1 (Q4 q125).2.2.2.1 (Q12 x124).2.1.1.length hs196.len.symm (Q8 q125).1 (Q8 q125).2.1 (Q12 x124).2.2.1.length hs197.len.symm (Q8 q125).2.2.1 (Q8 q125).2.2.2 (Q16 x124).1.length hs198.len.symm _ hy200) E [7,8,9,10,11,12] E E fun _ _=>aB aA 1 [] [] [(16,.v (I y199))] _ E ⟨⟨E,V⟩,E⟩ (aD E (JS.seq (aC aA 2 [(96,.v (.bool (decide (y199<0))))] ⟨⟨E,V⟩,E⟩ E E ?_)))
  refine aK E h (fun h=>?_) (fun h=>?_)
  ·
   refine aC aA 1 [(6,.v (.bool false))] ⟨⟨E,V⟩,E⟩ E E ?_
   cases h
   exact JS.ret aA () V E E [] E
  refine JS.skip (JS.seq (aC aA 3 [(99,.v (.bool (!(decide (y199=y185)))))] ⟨⟨E,V⟩,E⟩ E E ?_))
  refine aK E h (fun h=>?_) (fun h=>?_)
  ·
   refine aC aA 1 [(6,.v (.bool false))] ⟨⟨E,V⟩,E⟩ E E ?_
   cases h
   exact JS.ret aA () V E E [] E
  refine JS.skip (JS.seq ?_)
  obtain ⟨j251,hj274,h⟩:=aQ h
  refine mK (ι:=Int×EdQ×P6) ⟨fun z=>j251 (z.1,z.2.1)=some r,fun z=>[(8,.bp 63 0),(9,.v (I x72)),(12,.bp 136 0),(15,.v (I y185)),(17,.bp 276 0),(18,.v (I z.1))],fun z=>(.new 63 46 (aI x73 q74) (.new 136 46 (aI x124 q125) (.new 276 46 (aI z.2.1 z.2.2) .nil))),fun z=>[],fun z=>(bW z.2.1 z.2.2 (bW x73 q74 [⟨(.int .i64),⟨q125.1,x124.2.2.1.1.length,q125.2.1⟩,y186⟩,⟨(.sl (.int .i64)),⟨q125.2.2.1,(Q8 x124).2.2.1.length,q125.2.2.2.1⟩,y187⟩,⟨(.pair (.sl (.int .i64)) (.int .i64)),⟨(Q4 q125).1,(Q8 x124).2.2.2.1.length,(Q4 q125).2.1⟩,y188⟩,⟨(.int .i64),⟨(Q4 q125).2.2.1,(Q12 x124).2.1.1.length,(Q4 q125).2.2.2.1⟩,y189⟩,⟨(.int .i64),⟨(Q8 q125).1,(Q12 x124).2.2.1.length,(Q8 q125).2.1⟩,y190⟩,⟨(.int .i64),⟨(Q8 q125).2.2.1,(Q16 x124).1.length,(Q8 q125).2.2.2⟩,y191⟩])),fun z=>0⟩ ?_ ?_
  ·
   obtain ⟨y201,hy202,h⟩:=aE h
   obtain ⟨y215,hy216,h⟩:=aE h
   obtain ⟨y219,hy220,h⟩:=aE h
   obtain ⟨⟨y221,y222⟩,hy223,h⟩:=aE h
   refine bB E (.new 8 32 (cC x0 (a4,c5,a8,c9,a12,c13,a16,c17,a20,c21,a24,c25)) (.new 9 35 [.int .i64 x1.1,.slice a28 x1.2.length c29] (.new 10 61 [.int .i64 x2.1,.int .i64 x2.2] .nil))) [] [5,6,7,8,9,11,12] ⟨E,E,E,E,E,E,E,E,E,E,E,E,V⟩ E (fun be236=>?_)
   refine bR aA aF true 10 [0,2,4] E (by kernel_rfl) [] [(101,.v (.agg (cC x0 (a4,c5,a8,c9,a12,c13,a16,c17,a20,c21,a24,c25)).toArray)),(103,.v (.agg #[.int .i64 x1.1,.slice a28 x1.2.length c29])),(105,.v (.agg #[.int .i64 x2.1,.int .i64 x2.2]))] ⟨E,E,E,E,E,E,E,E,E,E,E,E,V⟩ [] E E (Es E) ?_
   refine JA.all (rs:=[1,10]) (by kernel_rfl) E (List.forall_mem_cons.2 ⟨?_,List.forall_mem_cons.2 ⟨?_,(fun _ hx=>absurd hx List.not_mem_nil)⟩⟩)
   ·
    refine JK.call E E E E (sS x0 (a4,c5,a8,c9,a12,c13,a16,c17,a20,c21,a24,c25) _ hy202) E [0,1,2,3,4,5] E E fun q203 _=>aR ⟨E,E,E,E,E,E,E,E,E,E,E,E,V⟩ [] E ?_
    refine JA.all (rs:=[3,10]) (by kernel_rfl) E (List.forall_mem_cons.2 ⟨?_,List.forall_mem_cons.2 ⟨?_,(fun _ hx=>absurd hx List.not_mem_nil)⟩⟩)
    ·
     refine JK.call E E E E (iR x1 a28 c29 _ hy216) E [6] E E ?_
     rintro ⟨a217,c218⟩ -
     refine aR ⟨E,E,E,E,E,E,E,E,E,E,E,E,V⟩ [] E ?_
     refine JA.all (rs:=[5,10]) (by kernel_rfl) E (List.forall_mem_cons.2 ⟨?_,List.forall_mem_cons.2 ⟨?_,(fun _ hx=>absurd hx List.not_mem_nil)⟩⟩)
     ·
      refine JK.call E E E E (gX x2 _ hy220) E [] E E fun _ _=>aM E ?_
      refine JA.all (rs:=[6,10]) (by kernel_rfl) E (List.forall_mem_cons.2 ⟨?_,List.forall_mem_cons.2 ⟨?_,(fun _ hx=>absurd hx List.not_mem_nil)⟩⟩)
      ·
       refine JK.call E E E E (fL y201 y215 y219 q203 a217 c218 _ hy223) E [8,9,10,11,12,13,7] E E fun q224 _=>aM E (aS aA aF 3 [7,8,9] E (by kernel_rfl) [] [(108,.v (.agg (aI y221 q224).toArray)),(109,.v (I y222))] E (Es E) (JA.one 10 (by kernel_rfl) (JK.alloc aA E E E E E 276 E (cK _ E) (aR ⟨E,E,E,E,E,E,E,E,E,E,E,E,V⟩ [] E (JA.one 11 (by kernel_rfl) (aY aA E E E E E E E E (aM E (aS aA aF 0 [12] E (by kernel_rfl) [] [(18,.v (I y222))] E ⟨E,V⟩ (bE (by kernel_rfl) (aW (B':=(.new 63 46 (aI x73 q74) (.new 136 46 (aI x124 q125) (.new 276 46 (aI y221 q224) .nil)))) (Bs E E) (bV (y222,y221,q224) h (Es E) (Bs E E) [] E [0,1,2,3,4,5,26,27,28,29,30,31,13,14,15,16,17,18] E E)))))))))))
      refine JK.alloc aA E E E E E 276 E (cK _ E) (aR ⟨E,E,E,E,E,E,E,E,E,E,E,E,V⟩ [] E (JA.one 6 (by kernel_rfl) (JK.call E E E E (fL y201 y215 y219 q203 a217 c218 _ hy223) E [8,9,10,11,12,13,7] E E ?_)))
      rintro q224 -
      refine aM E (aS aA aF 2 [7,8,9] E (by kernel_rfl) [] [(108,.v (.agg (aI y221 q224).toArray)),(109,.v (I y222))] E (Es E) (JA.one 11 (by kernel_rfl) (aY aA E E E E E E E E (aM E (aS aA aF 0 [12] E (by kernel_rfl) [] [(18,.v (I y222))] E ⟨E,V⟩ (bE (by kernel_rfl) (aW (B':=(.new 63 46 (aI x73 q74) (.new 136 46 (aI x124 q125) (.new 276 46 (aI y221 q224) .nil)))) (Bs E E) (bV (y222,y221,q224) h (Es E) (Bs E E) [] E [0,1,2,3,4,5,26,27,28,29,30,31,13,14,15,16,17,18] E E))))))))
     refine JK.alloc aA E E E E E 276 E (cK _ E) (aR ⟨E,E,E,E,E,E,E,E,E,E,E,E,V⟩ [] E (JA.one 5 (by kernel_rfl) (JK.call E E E E (gX x2 _ hy220) E [] E E fun _ _=>aM E (JA.one 6 (by kernel_rfl) (JK.call E E E E (fL y201 y215 y219 q203 a217 c218 _ hy223) E [8,9,10,11,12,13,7] E E ?_)))))
     rintro q224 -
     refine aM E (aS aA aF 2 [7,8,9] E (by kernel_rfl) [] [(108,.v (.agg (aI y221 q224).toArray)),(109,.v (I y222))] E (Es E) (JA.one 11 (by kernel_rfl) (aY aA E E E E E E E E (aM E (aS aA aF 0 [12] E (by kernel_rfl) [] [(18,.v (I y222))] E ⟨E,V⟩ (bE (by kernel_rfl) (aW (B':=(.new 63 46 (aI x73 q74) (.new 136 46 (aI x124 q125) (.new 276 46 (aI y221 q224) .nil)))) (Bs E E) (bV (y222,y221,q224) h (Es E) (Bs E E) [] E [0,1,2,3,4,5,26,27,28,29,30,31,13,14,15,16,17,18] E E))))))))
    refine JK.alloc aA E E E E E 276 E (cK _ E) (aR ⟨E,E,E,E,E,E,E,E,E,E,E,E,V⟩ [] E (JA.one 3 (by kernel_rfl) (JK.call E E E E (iR x1 a28 c29 _ hy216) E [6] E E ?_)))
    rintro ⟨a217,c218⟩ -
    refine aR ⟨E,E,E,E,E,E,E,E,E,E,E,E,V⟩ [] E (JA.one 5 (by kernel_rfl) (JK.call E E E E (gX x2 _ hy220) E [] E E fun _ _=>aM E (JA.one 6 (by kernel_rfl) (JK.call E E E E (fL y201 y215 y219 q203 a217 c218 _ hy223) E [8,9,10,11,12,13,7] E E ?_))))
    rintro q224 -
    refine aM E (aS aA aF 2 [7,8,9] E (by kernel_rfl) [] [(108,.v (.agg (aI y221 q224).toArray)),(109,.v (I y222))] E (Es E) (JA.one 11 (by kernel_rfl) (aY aA E E E E E E E E (aM E (aS aA aF 0 [12] E (by kernel_rfl) [] [(18,.v (I y222))] E ⟨E,V⟩ (bE (by kernel_rfl) (aW (B':=(.new 63 46 (aI x73 q74) (.new 136 46 (aI x124 q125) (.new 276 46 (aI y221 q224) .nil)))) (Bs E E) (bV (y222,y221,q224) h (Es E) (Bs E E) [] E [0,1,2,3,4,5,26,27,28,29,30,31,13,14,15,16,17,18] E E))))))))
   refine JK.alloc aA E E E E E 276 E (cK _ E) (aR ⟨E,E,E,E,E,E,E,E,E,E,E,E,V⟩ [] E (JA.one 1 (by kernel_rfl) (JK.call E E E E (sS x0 (a4,c5,a8,c9,a12,c13,a16,c17,a20,c21,a24,c25) _ hy202) E [0,1,2,3,4,5] E E ?_)))
   rintro q203 -
   refine aR ⟨E,E,E,E,E,E,E,E,E,E,E,E,V⟩ [] E (JA.one 3 (by kernel_rfl) (JK.call E E E E (iR x1 a28 c29 _ hy216) E [6] E E ?_))
   rintro ⟨a217,c218⟩ -
   refine aR ⟨E,E,E,E,E,E,E,E,E,E,E,E,V⟩ [] E (JA.one 5 (by kernel_rfl) (JK.call E E E E (gX x2 _ hy220) E [] E E fun _ _=>aM E (JA.one 6 (by kernel_rfl) (JK.call E E E E (fL y201 y215 y219 q203 a217 c218 _ hy223) E [8,9,10,11,12,13,7] E E ?_))))
   rintro q224 -
   refine aM E (aS aA aF 2 [7,8,9] E (by kernel_rfl) [] [(108,.v (.agg (aI y221 q224).toArray)),(109,.v (I y222))] E (Es E) (JA.one 11 (by kernel_rfl) (aY aA E E E E E E E E (aM E (aS aA aF 0 [12] E (by kernel_rfl) [] [(18,.v (I y222))] E ⟨E,V⟩ (bE (by kernel_rfl) (aW (B':=(.new 63 46 (aI x73 q74) (.new 136 46 (aI x124 q125) (.new 276 46 (aI y221 q224) .nil)))) (Bs E E) (bV (y222,y221,q224) h (Es E) (Bs E E) [] E [0,1,2,3,4,5,26,27,28,29,30,31,13,14,15,16,17,18] E E))))))))
  rintro ⟨x237,x238,q239⟩ h
  subst hj274
  refine JS.seq (JS.seq (JS.region (aB aA 2 [] [] [(110,.v (.agg (aI x238 q239).toArray)),(111,.v (.agg (aI x73 q74).toArray))] _ E ⟨(Es E),E⟩ ?_)))
  refine bnw h fun y252 hy253 h=>JO.call E E E E (zQ x238 x73 q239 q74 _ hy253) E [0,1,2,3,4,5,6,7,8,9,10,11] E E fun _ _=>aB aA 6 [] [] [(118,.v (.bool (bif (!y252) then true else (!(decide (x237=x72))))))] _ E ⟨⟨E,V⟩,E⟩ (aD E ?_)
  refine aK E h (fun h=>?_) (fun h=>?_)
  ·
   refine aC aA 1 [(6,.v (.bool false))] ⟨⟨E,V⟩,E⟩ E E ?_
   cases h
   exact JS.ret aA () V E E [] E
  refine JS.skip (aC aA 1 [(16,.v (I 1))] ⟨⟨E,V⟩,E⟩ E E (JS.seq (JS.region (aB aA 2 [] [] [(119,.v (.agg (aI x124 q125).toArray)),(120,.v (I 1))] _ E ⟨(Es E),E⟩ ?_))))
  refine bnw h fun y254 hy255 h=>JO.call E E E E (aDb (x124.1,x124.2.1,(y186,x124.2.2.1.2),x124.2.2.2.1,(Q4 x124).1,(Q4 x124).2.1,(Q4 x124).2.2.1,(Q4 x124).2.2.2.1,(Q8 x124).1,(Q8 x124).2.1,y187,y188,(Q12 x124).1,(y189,(Q12 x124).2.1.2),y190,(Q12 x124).2.2.2.1,(y191,(Q16 x124).2)) 1 q125.1 q125.2.1 x124.2.2.1.1.length hs193.len.symm q125.2.2.1 q125.2.2.2.1 (Q8 x124).2.2.1.length hs194.len.symm (Q4 q125).1 (Q4 q125).2.1 (Q8 x124).2.2.2.1.length hs195.len.symm (Q4 q125).2.2.1 (Q4 q125).2.2.2.1 (Q12 x124).2.1.1.length hs196.len.symm (Q8 q125).1 (Q8 q125).2.1 (Q12 x124).2.2.1.length hs197.len.symm (Q8 q125).2.2.1 (Q8 q125).2.2.2 (Q16 x124).1.length hs198.len.symm _ hy255) E [12,13,14,15,16,17] E E fun _ _=>aB aA 1 [] [] [(16,.v (I y254))] _ E ⟨⟨E,V⟩,E⟩ (aD E (JS.seq (aC aA 2 [(123,.v (.bool (decide (y254<0))))] ⟨⟨E,V⟩,E⟩ E E ?_)))
  refine aK E h (fun h=>?_) (fun h=>?_)
  ·
   refine aC aA 1 [(6,.v (.bool false))] ⟨⟨E,V⟩,E⟩ E E ?_
   cases h
   exact JS.ret aA () V E E [] E
  refine JS.skip (JS.seq (aC aA 3 [(126,.v (.bool (!(decide (y254=y185)))))] ⟨⟨E,V⟩,E⟩ E E ?_))
  refine aK E h (fun h=>?_) (fun h=>?_)
  ·
   refine aC aA 1 [(6,.v (.bool false))] ⟨⟨E,V⟩,E⟩ E E ?_
   cases h
   exact JS.ret aA () V E E [] E
  refine JS.skip (aC aA 1 [(6,.v (.bool true))] ⟨⟨E,V⟩,E⟩ E E ?_)
  cases h
  exact JS.ret aA () V E E [] E

end
end Go.Eng
