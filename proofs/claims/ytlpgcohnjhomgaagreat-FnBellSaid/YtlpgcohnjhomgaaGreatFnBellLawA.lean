/- What the plain functions compute, as plain laws, for FnBell. No condition. -/
import Derived.Test.YtlpgcohnjhomgaaGreatFnBellWalkD
set_option linter.unusedVariables false
set_option linter.unusedSimpArgs false
namespace Go.Eng
open Go Go.Proofs
theorem aP {α β:Type} {m:Option α} {k:α→Option β} {y:α} (h:m=some y):aF m k=k y:=by rw [h];rfl
theorem aN4 {α β:Type} (y:α) (k:α→Option β):aF (some y) k=k y:=rfl
theorem uE {α β:Type} {c:Prop} [Decidable c] {x d:α} {k:α→Option β} (h:c):cA c (some x) d k=k x:=by
  unfold cA;rw [if_pos h];rfl
theorem uF {α β:Type} {c:Prop} [Decidable c] {m:Option α} {d:α} {k:α→Option β} (h:¬ c):cA c m d k=k d:=by
  unfold cA;rw [if_neg h]
def pP (r:Int):Int:=
 if r=9∨r=10∨r=32 then 0
 else if (97≤r∧r≤122)∨(65≤r∧r≤90)∨(48≤r∧r≤57)∨r=95∨(159<r∧r≤1114111∧(r<55296∨57343<r)) then 1 else 2
theorem rS (r:Int):gH r=some (pP r):=by
 unfold gH eF lO eN fR lK dH pP cA
 simp only [aF,Bool.cond_decide]
 by_cases h0:r=9
 ·
  simp [h0]
 by_cases h1:r=10
 ·
  simp [h1]
 by_cases h2:r=32
 ·
  simp [h2]
 simp only [h0,h1,h2,if_false,decide_false,or_self,cond_false,Bool.false_eq_true]
 by_cases a1:97≤r∧r≤122
 ·
  have:¬ (159<r):=by omega
  simp [a1,this]
 by_cases a2:65≤r∧r≤90
 ·
  have:¬ (159<r):=by omega
  have a1':¬ (97≤r):=by omega
  simp [a2,a1',this]
 by_cases a3:48≤r∧r≤57
 ·
  have:¬ (159<r):=by omega
  have a1':¬ (97≤r):=by omega
  have a2':¬ (65≤r):=by omega
  simp [a3,a1',a2',this]
 by_cases a4:r=95
 ·
  subst a4;decide
 have e1:(if 97≤r then decide (r≤122) else false)=false:=by split <;> simp <;> omega
 have e2:(if 65≤r then decide (r≤90) else false)=false:=by split <;> simp <;> omega
 have e3:(if 48≤r then decide (r≤57) else false)=false:=by split <;> simp <;> omega
 simp only [e1,e2,e3,a1,a2,a3,a4,cond_false,decide_false,false_or,if_false,if_true,and_true,decide_eq_true_eq,Bool.false_eq_true]
 by_cases a5:159<r
 ·
  by_cases a6:r≤1114111
  ·
   by_cases a7:r<55296
   ·
    have b1:0≤r:=by omega
    have b2:32≤r:=by omega
    have b3:¬ (r≤159):=by omega
    have b4:¬ (55296≤r):=by omega
    have b5:127≤r:=by omega
    simp [a5,a6,a7,b1,b2,b3,b4,b5]
   ·
    by_cases a8:57343<r
    ·
     have b1:0≤r:=by omega
     have b2:32≤r:=by omega
     have b3:¬ (r≤159):=by omega
     have b4:55296≤r:=by omega
     have b5:127≤r:=by omega
     have b6:¬ (r≤57343):=by omega
     simp [a5,a6,a7,a8,b1,b2,b3,b4,b5,b6]
    ·
     have b1:0≤r:=by omega
     have b4:55296≤r:=by omega
     have b6:r≤57343:=by omega
     simp [a5,a6,a7,a8,b1,b4,b6]
  ·
   simp [a5,a6]
 ·
  simp [a5]
def fZ (big:Bool) (r:Int):Int:=if big=true∧pP r=2 then 1 else pP r
theorem jL (t:List Int) (i:Int) (big:Bool) (h0:0≤i) (h1:i<(t.length:Int)):fB t i big=some (fZ big (at' t i)):=by
 unfold fB fZ aN
 rw [if_pos ⟨h0,h1⟩,aP (rS _)]
 cases big
 ·
  simp
 ·
  by_cases h:pP (at' t i)=2 <;> simp [h]
def fwd (f:Int→Prop) [DecidablePred f]:Nat→Int→Int
 | 0,k=>k
 | r+1,k=>if f k then fwd f r (k+1) else k
theorem gJ (f:Int→Prop) [DecidablePred f]:∀ (r:Nat) (k:Int),k≤fwd f r k∧fwd f r k≤k+r
 | 0,k=>by simp [fwd]
 | r+1,k=>by
  have:=gJ f r (k+1)
  simp only [fwd]
  split <;> omega
def bwd (f:Int→Prop) [DecidablePred f]:Nat→Nat
 | 0=>0
 | r+1=>if f (r:Int) then bwd f r else r+1
theorem zA (f:Int→Prop) [DecidablePred f]:∀ (r:Nat),bwd f r≤r
 | 0=>Nat.le_refl _
 | r+1=>by
  have:=zA f r
  simp only [bwd]
  split <;> omega
def again (g:Int→Int):Nat→Int→Int
 | 0,k=>k
 | n+1,k=>again g n (g k)
def eOn (t:List Int) (k:Int):Int:=
 let x:=fwd (fun i=>¬ pP (at' t i)=1) ((t.length:Int) - k).toNat k
 fwd (fun i=>pP (at' t i)=1) ((t.length:Int) - x).toNat x
def yG (t:List Int) (k:Nat):Nat:=bwd (fun i=>pP (at' t i)=1) (bwd (fun i=>¬ pP (at' t i)=1) k)
theorem aBb (t:List Int) (k:Int) (h0:0≤k) (h1:k≤(t.length:Int)):k≤eOn t k∧eOn t k≤(t.length:Int):=by
 unfold eOn
 have a:=gJ (fun i=>¬ pP (at' t i)=1) ((t.length:Int) - k).toNat k
 generalize fwd (fun i=>¬ pP (at' t i)=1) ((t.length:Int) - k).toNat k=x at *
 have b:=gJ (fun i=>pP (at' t i)=1) ((t.length:Int) - x).toNat x
 simp only
 omega
theorem aJa (t:List Int) (k:Nat):yG t k≤k:=Nat.le_trans (zA _ _) (zA _ _)
section
variable (t:List Int) (hl:(t.length:Int)≤1048576)
include hl
theorem aNy (j:Int→Option Int):∀ (m r:Nat) (k:Int),0≤k→k+r=(t.length:Int)→r<m →
  aZ (mZ t j) m k=j (fwd (fun i=>¬ pP (at' t i)=1) r k):=by
 intro m
 induction m with
 | zero=>intro r k _ _ h;omega
 | succ m ih=>
  intro r k hk hr hm
  simp only [aZ,mZ,cA,aN,Bool.cond_decide]
  cases r with
  | zero=>
   have:¬ (k<(t.length:Int)):=by omega
   simp [this,fwd]
  | succ r=>
   have h1:k<(t.length:Int):=by omega
   simp only [h1,decide_true,if_true,hk,and_self,implies_true]
   rw [aP (rS _),bV (by omega) (by omega),ih r (k+1) (by omega) (by omega) (by omega)]
   simp only [fwd]
   by_cases c:pP (at' t k)=1 <;> simp [c]
theorem aNx (j:Int→Option Int):∀ (m r:Nat) (k:Int),0≤k→k+r=(t.length:Int)→r<m →
  aZ (mY t j) m k=j (fwd (fun i=>pP (at' t i)=1) r k):=by
 intro m
 induction m with
 | zero=>intro r k _ _ h;omega
 | succ m ih=>
  intro r k hk hr hm
  simp only [aZ,mY,cA,aN,Bool.cond_decide]
  cases r with
  | zero=>
   have:¬ (k<(t.length:Int)):=by omega
   simp [this,fwd]
  | succ r=>
   have h1:k<(t.length:Int):=by omega
   simp only [h1,decide_true,if_true,hk,and_self,implies_true]
   rw [aP (rS _),bV (by omega) (by omega),ih r (k+1) (by omega) (by omega) (by omega)]
   simp only [fwd]
   by_cases c:pP (at' t k)=1 <;> simp [c]
theorem aI9 (j:Int→Option Int):∀ (m k:Nat),(k:Int)≤(t.length:Int)→k<m →
  aZ (kF t j) m (k:Int)=j (bwd (fun i=>¬ pP (at' t i)=1) k:Nat):=by
 intro m
 induction m with
 | zero=>intro k _ h;omega
 | succ m ih=>
  intro k hk hm
  simp only [aZ,kF,cA,aN,Bool.cond_decide]
  cases k with
  | zero=>simp [bwd]
  | succ k=>
   have h1:(0:Int)<((k+1:Nat):Int):=by omega
   have e:((k+1:Nat):Int) - 1=(k:Int):=by omega
   rw [bV (by omega) (by omega),e,if_pos (fun _=>by omega)]
   simp only [h1,decide_true,if_true]
   rw [aP (rS _),ih k (by omega) (by omega)]
   simp only [bwd]
   by_cases c:pP (at' t (k:Int))=1 <;> simp [c]
theorem aI8 (j:Int→Option Int):∀ (m k:Nat),(k:Int)≤(t.length:Int)→k<m →
  aZ (kE t j) m (k:Int)=j (bwd (fun i=>pP (at' t i)=1) k:Nat):=by
 intro m
 induction m with
 | zero=>intro k _ h;omega
 | succ m ih=>
  intro k hk hm
  simp only [aZ,kE,cA,aN,Bool.cond_decide]
  cases k with
  | zero=>simp [bwd]
  | succ k=>
   have h1:(0:Int)<((k+1:Nat):Int):=by omega
   have e:((k+1:Nat):Int) - 1=(k:Int):=by omega
   rw [bV (by omega) (by omega),e,if_pos (fun _=>by omega)]
   simp only [h1,decide_true,if_true]
   rw [aP (rS _),ih k (by omega) (by omega)]
   simp only [bwd]
   by_cases c:pP (at' t (k:Int))=1 <;> simp [c]
theorem aSd (k:Int) (h0:0≤k) (h1:k≤(t.length:Int)):nX t k=some (eOn t k):=by
 unfold nX dE eOn
 have e:max (0:Int) (min k (t.length:Int))=k:=by omega
 simp only [aF,aT,e]
 rw [aNy t hl _ bO ((t.length:Int) - k).toNat k h0 (by omega) (by rw [bQ];omega)]
 have a:=gJ (fun i=>¬ pP (at' t i)=1) ((t.length:Int) - k).toNat k
 generalize fwd (fun i=>¬ pP (at' t i)=1) ((t.length:Int) - k).toNat k=x at *
 rw [aNx t hl _ bO ((t.length:Int) - x).toNat x (by omega) (by omega) (by rw [bQ];omega)]
theorem aRw (k:Nat) (h1:(k:Int)≤(t.length:Int)):mD t (k:Int)=some ((yG t k:Nat):Int):=by
 unfold mD dE yG
 have e:max (0:Int) (min (k:Int) (t.length:Int))=k:=by omega
 simp only [aF,aT,e]
 rw [aI9 t hl _ bO k h1 (by rw [bQ];omega)]
 have a:=zA (fun i=>¬ pP (at' t i)=1) k
 rw [aI8 t hl _ bO _ (by omega) (by rw [bQ];omega)]
omit hl in
theorem aAg:∀ (n:Nat) (k:Int),0≤k→k≤(t.length:Int)→k≤again (eOn t) n k∧again (eOn t) n k≤(t.length:Int)
 | 0,k,h0,h1=>by simp only [again];omega
 | n+1,k,h0,h1=>by
  have a:=aBb t k h0 h1
  have b:=aAg n (eOn t k) (by omega) a.2
  simp only [again]
  omega
omit hl in
theorem wO:∀ (n:Nat) (k:Int),0≤k→k≤(t.length:Int)→0≤again (fun k=>(yG t k.toNat:Int)) n k∧again (fun k=>(yG t k.toNat:Int)) n k≤k
 | 0,k,h0,h1=>by simp only [again];omega
 | n+1,k,h0,h1=>by
  have a:=aJa t k.toNat
  have b:=wO n (yG t k.toNat:Int) (by omega) (by omega)
  simp only [again]
  omega
theorem aKk (q:Int) (j:Int→Option (Int×List Int)):∀ (m r:Nat) (k i:Int),0≤k→k≤(t.length:Int)→0≤i→i≤2000→q≤2000→r=(q - i).toNat→r<m →
  aZ (dU q t j) m (k,i)=j (again (eOn t) r k):=by
 intro m
 induction m with
 | zero=>intro r k i _ _ _ _ _ _ h;omega
 | succ m ih=>
  intro r k i h0 h1 hi hi' hq hr hm
  simp only [aZ,dU,pC,Bool.cond_decide]
  cases r with
  | zero=>rw [if_neg (by omega)];rfl
  | succ r=>
   have hb:=aBb t k h0 h1
   rw [if_pos (by omega),aSd t hl k h0 h1]
   simp only [aF]
   rw [bV (by omega) (by omega)]
   exact ih r _ (i+1) (by omega) hb.2 (by omega) (by omega) hq (by omega) (by omega)
theorem zU (q:Int) (j:Int→Option (Int×List Int)):∀ (m r:Nat) (k i:Int),0≤k→k≤(t.length:Int)→0≤i→i≤2000→q≤2000→r=(q - i).toNat→r<m →
  aZ (cW q t j) m (k,i)=j (again (fun k=>(yG t k.toNat:Int)) r k):=by
 intro m
 induction m with
 | zero=>intro r k i _ _ _ _ _ _ h;omega
 | succ m ih=>
  intro r k i h0 h1 hi hi' hq hr hm
  simp only [aZ,cW,lL,Bool.cond_decide]
  cases r with
  | zero=>rw [if_neg (by omega)];rfl
  | succ r=>
   have hk:((k.toNat:Nat):Int)=k:=by omega
   have hb:=aJa t k.toNat
   have he:=aRw t hl k.toNat (by omega)
   rw [hk] at he
   rw [if_pos (by omega),he]
   simp only [aF]
   rw [bV (by omega) (by omega)]
   exact ih r _ (i+1) (by omega) (by omega) (by omega) (by omega) hq (by omega) (by omega)
omit hl in
theorem aSn:eB=cW:=by funext a b c d;unfold eB cW qG lL;rfl
theorem aQ8 (k n:Int) (h0:0≤k) (h1:k≤(t.length:Int)) (hn:n≤1000):dR k n t=some (again (eOn t) n.toNat k,t):=by
 unfold dR
 simp only [aT]
 exact aKk t hl n _ bO n.toNat k 0 h0 h1 (by omega) (by omega) (by omega) (by omega) (by rw [bQ];omega)
theorem aNb (k n:Int) (h0:0≤k) (h1:k≤(t.length:Int)) (hn:n≤1000):eM k n t=some (again (fun k=>(yG t k.toNat:Int)) n.toNat k,t):=by
 unfold eM
 simp only [aT]
 exact zU t hl n _ bO n.toNat k 0 h0 h1 (by omega) (by omega) (by omega) (by omega) (by rw [bQ];omega)
theorem aKl (k n:Int) (h0:0≤k) (h1:k≤(t.length:Int)) (hn:n≤1000):dX k n t=some (again (fun k=>(yG t k.toNat:Int)) n.toNat k,t):=by
 unfold dX
 rw [aSn]
 simp only [aT]
 exact zU t hl n _ bO n.toNat k 0 h0 h1 (by omega) (by omega) (by omega) (by omega) (by rw [bQ];omega)
end
theorem fW {α:Type} [Inhabited α] {l:List α} {k:Int} (h0:0≤k) (h:k<(l.length:Int)):l.drop k.toNat=at' l k :: l.drop (k+1).toNat:=by
 have hlt:k.toNat<l.length:=by omega
 rw [List.drop_eq_getElem_cons hlt]
 have:(k+1).toNat=k.toNat+1:=by omega
 rw [this]
 congr 1
 simp [at',List.getD_eq_getElem?_getD,hlt]
theorem aFx {α:Type} {l:List α} {k:Int} (h0:0≤k):bJ l k (l.length:Int)=l.drop k.toNat:=by
 unfold bJ
 rw [List.take_of_length_le]
 simp
theorem aKg (xs:List (List Int)) (hl:(xs.length:Int)≤1048576) (hs:∀ s ∈ xs,(s.length:Int)≤1048576) (j:List (List Int)→Option (List (List Int))):∀ (m:Nat) (i:Int) (ds:List (List Int)),0≤i→i≤(xs.length:Int)→(ds.length:Int)=i→(xs.length:Int) - i<m →
  aZ (lH xs j) m (i,ds)=j (ds ++ xs.drop i.toNat):=by
 intro m
 induction m with
 | zero=>intro i ds _ _ _ h;omega
 | succ m ih=>
  intro i ds hi hi' hd hm
  simp only [aZ,lH,aN,Bool.cond_decide,List.nil_append]
  by_cases h1:i<(xs.length:Int)
  ·
   have hb:=hs (at' xs i) (List.mem_of_getElem? (bH ⟨hi,h1⟩))
   rw [if_pos h1,if_pos ⟨hi,h1⟩,if_pos (by simp;omega),if_pos (by simp;omega),bV (by omega) (by omega),ih (i+1) _ (by omega) (by omega) (by simp;omega) (by omega),fW hi h1]
   simp
  ·
   rw [if_neg h1,List.drop_eq_nil_of_le (by omega)]
   simp
theorem aKh (xs:List (List Int)) (hl:(xs.length:Int)≤1048576) (hs:∀ s ∈ xs,(s.length:Int)≤1048576) (j:List (List Int)→Option (List (List Int))):∀ (m:Nat) (i:Int) (ds:List (List Int)),0≤i→i≤(xs.length:Int)→(ds.length:Int)=i→(xs.length:Int) - i<m →
  aZ (kD xs j) m (i,ds)=j (ds ++ xs.drop i.toNat):=by
 intro m
 induction m with
 | zero=>intro i ds _ _ _ h;omega
 | succ m ih=>
  intro i ds hi hi' hd hm
  simp only [aZ,kD,aN,Bool.cond_decide]
  by_cases h1:i<(xs.length:Int)
  ·
   have hb:=hs (at' xs i) (List.mem_of_getElem? (bH ⟨hi,h1⟩))
   have ec:cL (at' xs i)=some (at' xs i):=by
    unfold cL aN
    rw [if_pos (by simp;omega)];simp
   rw [if_pos h1,if_pos ⟨hi,h1⟩,aP ec,if_pos (by simp;omega),bV (by omega) (by omega),ih (i+1) _ (by omega) (by omega) (by simp;omega) (by omega),fW hi h1]
   simp
  ·
   rw [if_neg h1,List.drop_eq_nil_of_le (by omega)]
   simp
theorem aLh (xs:List (List Int)) (hl:(xs.length:Int)≤1048576) (hs:∀ s ∈ xs,(s.length:Int)≤1048576):qQ xs=some xs:=by
 unfold qQ
 simp only [aT]
 rw [aKg xs hl hs _ bO 0 [] (by omega) (by omega) (by simp) (by rw [bQ];omega)]
 simp
theorem yY (xs:List (List Int)) (hl:(xs.length:Int)≤1048576) (hs:∀ s ∈ xs,(s.length:Int)≤1048576):jQ xs=some xs:=by
 unfold jQ
 simp only [aT]
 rw [aKh xs hl hs _ bO 0 [] (by omega) (by omega) (by simp) (by rw [bQ];omega)]
 simp
theorem iP (x:List Int) (h:(x.length:Int)≤1048576):cL x=some x:=by
 unfold cL aN
 rw [if_pos (by simp;omega)];simp
theorem fY (x:List Int×Int) (h:(x.1.length:Int)≤1048576):dA x=some x:=by
 unfold dA
 rw [aP (iP x.1 h)]
theorem yZ (x:List Int×Int) (h:(x.1.length:Int)≤1048576):lG x=some x:=by
 unfold lG aN
 rw [if_pos (by simp;omega)];simp
theorem aJt (xs:List (List Int×Int)) (hl:(xs.length:Int)≤1048576) (hs:∀ s ∈ xs,(s.1.length:Int)≤1048576) (j:List (List Int×Int)→Option (List (List Int×Int))):∀ (m:Nat) (i:Int) (ds:List (List Int×Int)),0≤i→i≤(xs.length:Int)→(ds.length:Int)=i→(xs.length:Int) - i<m →
  aZ (jX xs j) m (i,ds)=j (ds ++ xs.drop i.toNat):=by
 intro m
 induction m with
 | zero=>intro i ds _ _ _ h;omega
 | succ m ih=>
  intro i ds hi hi' hd hm
  simp only [aZ,jX,aN,Bool.cond_decide]
  by_cases h1:i<(xs.length:Int)
  ·
   have hb:=hs (at' xs i) (List.mem_of_getElem? (bH ⟨hi,h1⟩))
   rw [if_pos h1,if_pos ⟨hi,h1⟩,aP (yZ (at' xs i) hb),if_pos (by simp;omega),bV (by omega) (by omega),ih (i+1) _ (by omega) (by omega) (by simp;omega) (by omega),fW hi h1]
   simp
  ·
   rw [if_neg h1,List.drop_eq_nil_of_le (by omega)]
   simp
theorem aJu (xs:List (List Int×Int)) (hl:(xs.length:Int)≤1048576) (hs:∀ s ∈ xs,(s.1.length:Int)≤1048576) (j:List (List Int×Int)→Option (List (List Int×Int))):∀ (m:Nat) (i:Int) (ds:List (List Int×Int)),0≤i→i≤(xs.length:Int)→(ds.length:Int)=i→(xs.length:Int) - i<m →
  aZ (kC xs j) m (i,ds)=j (ds ++ xs.drop i.toNat):=by
 intro m
 induction m with
 | zero=>intro i ds _ _ _ h;omega
 | succ m ih=>
  intro i ds hi hi' hd hm
  simp only [aZ,kC,aN,Bool.cond_decide]
  by_cases h1:i<(xs.length:Int)
  ·
   have hb:=hs (at' xs i) (List.mem_of_getElem? (bH ⟨hi,h1⟩))
   rw [if_pos h1,if_pos ⟨hi,h1⟩,aP (fY (at' xs i) hb),if_pos (by simp;omega),bV (by omega) (by omega),ih (i+1) _ (by omega) (by omega) (by simp;omega) (by omega),fW hi h1]
   simp
  ·
   rw [if_neg h1,List.drop_eq_nil_of_le (by omega)]
   simp
theorem aLg (xs:List (List Int×Int)) (hl:(xs.length:Int)≤1048576) (hs:∀ s ∈ xs,(s.1.length:Int)≤1048576):oX xs=some xs:=by
 unfold oX
 simp only [aT]
 rw [aJt xs hl hs _ bO 0 [] (by omega) (by omega) (by simp) (by rw [bQ];omega)]
 simp
theorem yX (xs:List (List Int×Int)) (hl:(xs.length:Int)≤1048576) (hs:∀ s ∈ xs,(s.1.length:Int)≤1048576):jP xs=some xs:=by
 unfold jP
 simp only [aT]
 rw [aJu xs hl hs _ bO 0 [] (by omega) (by omega) (by simp) (by rw [bQ];omega)]
 simp
section
variable (vi:Bool) (D:Int) (G:List Int×Int) (B_ op A7 A9 fr fh A5:Int) (A8:List (List Int)) (A4:List (List Int×Int)) (O:Int) (A0:List Int×Int) (Z:List Int) (A6:Int) (A_:List Int×Int)
  (h1:G.1.length≤1048576) (h2:A8.length≤1048576) (h3:∀ s ∈ A8,s.length≤1048576) (h4:A4.length≤1048576) (h5:∀ s ∈ A4,s.1.length≤1048576) (h6:A0.1.length≤1048576) (h7:Z.length≤1048576) (h8:A_.1.length≤1048576)
include h1 h2 h3 h4 h5 h6 h7 h8
theorem aJb:cK (vi,D,G,B_,op,A7,A9,fr,fh,A5,A8,A4,O,A0,Z,A6,A_)=some (vi,D,G,B_,op,A7,A9,fr,fh,A5,A8,A4,O,A0,Z,A6,A_):=by
 unfold cK
 simp only [fY G (by omega),fY A0 (by omega),fY A_ (by omega),yY A8 (by omega) (fun s h=>by have:=h3 s h;omega),yX A4 (by omega) (fun s h=>by have:=h5 s h;omega),iP Z (by omega),aF]
end
theorem yC (a b c:Int):dH a b c=some (decide (b≤a∧a≤c)):=by
 unfold dH
 congr 1
 by_cases h1:b≤a <;> by_cases h2:a≤c <;> simp [h1,h2]
def pr (r:Int):Bool:=decide ((0≤r∧r≤1114111∧(r<55296∨57343<r))∧32≤r∧(r<127∨159<r))
theorem dS {α β:Type} {c:Prop} [Decidable c] {x d:α} {k:α→Option β}:cA c (some x) d k=k (if c then x else d):=by
 unfold cA
 split <;> simp [aF, *]
theorem aBm (r:Int):kO r=some (pr r):=by
 unfold kO pr vG
 simp only [aF]
 congr 1
 by_cases h1:0≤r <;> by_cases h2:r≤1114111 <;> by_cases h3:r<55296 <;> by_cases h4:57343<r <;> by_cases h5:32≤r <;> by_cases h6:r<127 <;> simp [h1,h2,h3,h4,h5,h6]
theorem qK (r:Int):eF r=some (pr r):=by
 unfold eF pr lO
 simp only [yC,dS,aF]
 congr 1
 by_cases h1:0≤r∧r≤1114111
 ·
  by_cases h2:55296≤r∧r≤57343
  ·
   have:¬ (r<55296∨57343<r):=by omega
   simp [h1,h2,this]
  ·
   have:(r<55296∨57343<r):=by omega
   by_cases h5:32≤r
   ·
    by_cases h6:127≤r∧r≤159
    ·
     have:¬ (r<127∨159<r):=by omega
     simp [h1,h2,h5,h6,this]
    ·
     have:(r<127∨159<r):=by omega
     simp [h1,h2,h5,h6, *]
   ·
    simp [h1,h2,h5]
 ·
  have:¬ (0≤r∧r≤1114111∧(r<55296∨57343<r)):=fun h=>h1 ⟨h.1,h.2.1⟩
  simp [h1,this]
def adm (r:Int):Bool:=pr r || decide (r=9) || decide (r=10)
theorem aQv (r:Int):oY r=some (adm r):=by
 unfold oY adm
 rw [aP (aBm r)]
 cases pr r <;> by_cases h:r=9 <;> by_cases h':r=10 <;> simp [h,h']
theorem aG8 (r:Int):lM r=some (adm r):=by
 unfold lM adm
 rw [aP (qK r)]
 cases pr r <;> by_cases h:r=9 <;> by_cases h':r=10 <;> simp [h,h']
theorem aEz (t:List Int) (ht:t.length≤100000000) (j:Unit→Option Bool):∀ (m:Nat) (k:Int),0≤k→k≤(t.length:Int)→(t.length:Int) - k<m→aZ (fK t j) m k=if (t.drop k.toNat).all adm then j () else some false:=by
 intro m
 induction m with
 | zero=>intro k _ _ h;omega
 | succ m ih=>
  intro k hk hk' hm
  simp only [aZ,fK,aN,Bool.cond_decide,aQv,aF]
  by_cases h1:k<(t.length:Int)
  ·
   rw [if_pos h1,if_pos ⟨hk,h1⟩,bV (by omega) (by omega),fW hk h1]
   by_cases h2:adm (at' t k)
   ·
    rw [ih (k+1) (by omega) (by omega) (by omega)]
    simp [h2]
   ·
    simp [h2]
  ·
   rw [if_neg h1,List.drop_eq_nil_of_le (by omega)]
   simp
theorem zB (t:List Int) (ht:t.length≤100000000):gV t=some (t.all adm):=by
 unfold gV aT
 show aZ (fK t fun _=>some true) bO 0=_
 rw [aEz t ht _ bO 0 (by omega) (by omega) (by rw [bQ];omega)]
 simp only [Int.toNat_zero,List.drop_zero]
 cases t.all adm <;> simp
theorem aJk (t:List Int) (ht:t.length≤100000000) (j:Unit→Option Bool):∀ (m:Nat) (k:Int),0≤k→k≤(t.length:Int)→(k=0∨k≤400)→(t.length:Int) - k<m→aZ (eO t j) m k=if (t.drop k.toNat).all adm∧t.length≤400 then j () else some false:=by
 intro m
 induction m with
 | zero=>intro k _ _ _ h;omega
 | succ m ih=>
  intro k hk hk' h4 hm
  simp only [aZ,eO,aN,Bool.cond_decide,aG8,dS]
  by_cases h1:k<(t.length:Int)
  ·
   rw [if_pos h1,if_pos ⟨hk,h1⟩,bV (by omega) (by omega),fW hk h1]
   by_cases h3:400≤k
   ·
    have:¬ t.length≤400:=by omega
    simp [h3,this]
   ·
    by_cases h2:adm (at' t k)
    ·
     rw [ih (k+1) (by omega) (by omega) (by omega) (by omega)]
     simp [h2,h3]
    ·
     simp [h2,h3]
  ·
   rw [if_neg h1,List.drop_eq_nil_of_le (by omega)]
   have:t.length≤400:=by omega
   simp [this]
def cT (t:List Int):Bool:=t.all adm && decide (t.length≤400)
theorem aD5 (t:List Int) (ht:t.length≤100000000):eY t=some (cT t):=by
 unfold eY aT cT
 show aZ (eO t fun _=>some true) bO 0=_
 rw [aJk t ht _ bO 0 (by omega) (by omega) (.inl rfl) (by rw [bQ];omega)]
 simp only [Int.toNat_zero,List.drop_zero]
 by_cases h:t.length≤400 <;> cases t.all adm <;> simp [h]
def bP (l:List Int×Int):Bool:=cT l.1 && decide (0≤l.2∧l.2≤(l.1.length:Int))
theorem aIi (l:List Int×Int) (hl:l.1.length≤100000000):pS l=some (bP l):=by
 unfold pS bP cT
 rw [zB _ hl]
 simp only [dS]
 congr 1
 by_cases h:l.1.length≤400
 ·
  have h':(l.1.length:Int)≤400:=by omega
  by_cases h2:0≤l.2 <;> by_cases h3:l.2≤(l.1.length:Int) <;> cases l.1.all adm <;> simp [h,h',h2,h3]
 ·
  have h':¬ (l.1.length:Int)≤400:=by omega
  simp [h,h']
theorem mN (l:List Int×Int) (hl:l.1.length≤100000000):eJ l=some (bP l):=by
 unfold eJ bP
 rw [aP (aD5 _ hl)]
 simp only [yC,dS]
 congr 1
 cases cT l.1 <;> simp
def lV (p:List Int):Bool:=cT p && !(decide (p.length=0))
theorem aKe (r:List (List Int)) (hr:r.length≤100000000) (hp:∀ p ∈ r,p.length≤100000000) (j:Unit→Option Bool):∀ (m:Nat) (k:Int),0≤k→k≤(r.length:Int)→(r.length:Int) - k<m→aZ (mQ r j) m k=if (r.drop k.toNat).all lV then j () else some false:=by
 intro m
 induction m with
 | zero=>intro k _ _ h;omega
 | succ m ih=>
  intro k hk hk' hm
  simp only [aZ,mQ,aN,Bool.cond_decide]
  by_cases h1:k<(r.length:Int)
  ·
   have hq:=hp (at' r k) (List.mem_of_getElem? (bH ⟨hk,h1⟩))
   have e:hZ (at' r k)=some (cT (at' r k)):=by
    unfold hZ cT
    rw [zB _ hq,dS]
    congr 1
    by_cases h:(at' r k).length≤400
    ·
     have h':((at' r k).length:Int)≤400:=by omega
     simp [h,h']
    ·
     have h':¬ ((at' r k).length:Int)≤400:=by omega
     simp [h,h']
   rw [if_pos h1,if_pos ⟨hk,h1⟩,bV (by omega) (by omega),fW hk h1,e,dS,ih (k+1) (by omega) (by omega) (by omega)]
   have hb:(if ((at' r k).length:Int)=0 then true else !(if decide (((at' r k).length:Int)=0)=false then cT (at' r k) else false))=!(lV (at' r k)):=by
    unfold lV
    by_cases hz:(at' r k).length=0
    ·
     have hz':((at' r k).length:Int)=0:=by omega
     rw [if_pos hz',decide_eq_true hz];simp
    ·
     have hz':¬ ((at' r k).length:Int)=0:=by omega
     rw [if_neg hz',decide_eq_false hz,decide_eq_false hz'];simp
   rw [hb]
   by_cases hz:lV (at' r k)=true <;> simp [hz]
  ·
   rw [if_neg h1,List.drop_eq_nil_of_le (by omega)]
   simp
theorem aKf (r:List (List Int)) (hr:r.length≤100000000) (hp:∀ p ∈ r,p.length≤100000000) (j:Unit→Option Bool):∀ (m:Nat) (k:Int),0≤k→k≤(r.length:Int)→(r.length:Int) - k<m→aZ (nE r j) m k=if (r.drop k.toNat).all lV then j () else some false:=by
 intro m
 induction m with
 | zero=>intro k _ _ h;omega
 | succ m ih=>
  intro k hk hk' hm
  simp only [aZ,nE,aN,Bool.cond_decide]
  by_cases h1:k<(r.length:Int)
  ·
   have hq:=hp (at' r k) (List.mem_of_getElem? (bH ⟨hk,h1⟩))
   rw [if_pos h1,if_pos ⟨hk,h1⟩,bV (by omega) (by omega),fW hk h1,aD5 _ hq,dS,ih (k+1) (by omega) (by omega) (by omega)]
   have hb:(if ((at' r k).length:Int)=0 then true else !(if decide (((at' r k).length:Int)=0)=false then cT (at' r k) else false))=!(lV (at' r k)):=by
    unfold lV
    by_cases hz:(at' r k).length=0
    ·
     have hz':((at' r k).length:Int)=0:=by omega
     rw [if_pos hz',decide_eq_true hz];simp
    ·
     have hz':¬ ((at' r k).length:Int)=0:=by omega
     rw [if_neg hz',decide_eq_false hz,decide_eq_false hz'];simp
   rw [hb]
   by_cases hz:lV (at' r k)=true <;> simp [hz]
  ·
   rw [if_neg h1,List.drop_eq_nil_of_le (by omega)]
   simp
def eR (r:List (List Int)):Bool:=r.all lV && decide (r.length≤6)
theorem aCj {n m:Nat}:decide ((n:Int)≤(m:Int))=decide (n≤m):=by
 by_cases h:n≤m
 ·
  rw [decide_eq_true h,decide_eq_true (by omega)]
 ·
  rw [decide_eq_false h,decide_eq_false (by omega)]
theorem aOv (r:List (List Int)) (hr:r.length≤100000000) (hp:∀ p ∈ r,p.length≤100000000):sO r=some (eR r):=by
 unfold sO eR
 simp only [aT]
 rw [aKe r hr hp _ bO 0 (by omega) (by omega) (by rw [bQ];omega)]
 have:=aCj (n:=r.length) (m:=6)
 simp only [Int.toNat_zero,List.drop_zero] at this ⊢
 have e6:((6:Nat):Int)=6:=rfl
 rw [e6] at this
 rw [this]
 cases r.all lV <;> simp
theorem zR (r:List (List Int)) (hr:r.length≤100000000) (hp:∀ p ∈ r,p.length≤100000000):lP r=some (eR r):=by
 unfold lP eR
 simp only [aT]
 rw [aKf r hr hp _ bO 0 (by omega) (by omega) (by rw [bQ];omega)]
 have:=aCj (n:=r.length) (m:=6)
 simp only [Int.toNat_zero,List.drop_zero] at this ⊢
 have e6:((6:Nat):Int)=6:=rfl
 rw [e6] at this
 rw [this]
 cases r.all lV <;> simp
theorem aJr (r:List (List Int×Int)) (hr:r.length≤100000000) (hp:∀ p ∈ r,p.1.length≤100000000) (j:Unit→Option Bool):∀ (m:Nat) (k:Int),0≤k→k≤(r.length:Int)→(r.length:Int) - k<m→aZ (mP r j) m k=if (r.drop k.toNat).all bP then j () else some false:=by
 intro m
 induction m with
 | zero=>intro k _ _ h;omega
 | succ m ih=>
  intro k hk hk' hm
  simp only [aZ,mP,aN,Bool.cond_decide]
  by_cases h1:k<(r.length:Int)
  ·
   have hq:=hp (at' r k) (List.mem_of_getElem? (bH ⟨hk,h1⟩))
   rw [if_pos h1,if_pos ⟨hk,h1⟩,bV (by omega) (by omega),fW hk h1,aP (aIi (at' r k) hq),ih (k+1) (by omega) (by omega) (by omega)]
   obtain ⟨x,hx⟩:∃ x,x=bP (at' r k):=⟨_,rfl⟩
   rw [List.all_cons,← hx]
   cases x <;> rfl
  ·
   rw [if_neg h1,List.drop_eq_nil_of_le (by omega)]
   simp
theorem aJs (r:List (List Int×Int)) (hr:r.length≤100000000) (hp:∀ p ∈ r,p.1.length≤100000000) (j:Unit→Option Bool):∀ (m:Nat) (k:Int),0≤k→k≤(r.length:Int)→(r.length:Int) - k<m→aZ (nB r j) m k=if (r.drop k.toNat).all bP then j () else some false:=by
 intro m
 induction m with
 | zero=>intro k _ _ h;omega
 | succ m ih=>
  intro k hk hk' hm
  simp only [aZ,nB,aN,Bool.cond_decide]
  by_cases h1:k<(r.length:Int)
  ·
   have hq:=hp (at' r k) (List.mem_of_getElem? (bH ⟨hk,h1⟩))
   rw [if_pos h1,if_pos ⟨hk,h1⟩,bV (by omega) (by omega),fW hk h1,aP (mN (at' r k) hq),ih (k+1) (by omega) (by omega) (by omega)]
   obtain ⟨x,hx⟩:∃ x,x=bP (at' r k):=⟨_,rfl⟩
   rw [List.all_cons,← hx]
   cases x <;> rfl
  ·
   rw [if_neg h1,List.drop_eq_nil_of_le (by omega)]
   simp
def gC (r:List (List Int×Int)):Bool:=r.all bP && decide (r.length≤20)
theorem aOf (r:List (List Int×Int)) (hr:r.length≤100000000) (hp:∀ p ∈ r,p.1.length≤100000000):sN r=some (gC r):=by
 unfold sN gC
 simp only [aT]
 rw [aJr r hr hp _ bO 0 (by omega) (by omega) (by rw [bQ];omega)]
 have:=aCj (n:=r.length) (m:=20)
 simp only [Int.toNat_zero,List.drop_zero] at this ⊢
 have e6:((20:Nat):Int)=20:=rfl
 rw [e6] at this
 rw [this]
 cases r.all bP <;> simp
theorem aCp (r:List (List Int×Int)) (hr:r.length≤100000000) (hp:∀ p ∈ r,p.1.length≤100000000):nY r=some (gC r):=by
 unfold nY gC
 simp only [aT]
 rw [aJs r hr hp _ bO 0 (by omega) (by omega) (by rw [bQ];omega)]
 have:=aCj (n:=r.length) (m:=20)
 simp only [Int.toNat_zero,List.drop_zero] at this ⊢
 have e6:((20:Nat):Int)=20:=rfl
 rw [e6] at this
 rw [this]
 cases r.all bP <;> simp
def sI (n:Int) (l:List Int):Bool:=l.any (fun x=>decide (x=n))
theorem aGm (l:List UInt8) (n:Int) (hl:l.length≤100000000):∀ (m:Nat) (k:Int),0≤k→k≤(l.length:Int)→(l.length:Int) - k<m→aZ (fS n l fun _=>some false) m k=some (sI n ((l.drop k.toNat).map (fun b=>(b.toNat:Int)))):=by
 intro m
 induction m with
 | zero=>intro k _ _ h;omega
 | succ m ih=>
  intro k hk hk' hm
  simp only [aZ,fS,aN,Bool.cond_decide]
  by_cases h1:k<(l.length:Int)
  ·
   rw [if_pos h1,if_pos ⟨hk,h1⟩,bV (by omega) (by omega),fW hk h1,ih (k+1) (by omega) (by omega) (by omega)]
   unfold sI
   by_cases h2:((at' l k).toNat:Int)=n
   ·
    simp [h2]
   ·
    simp [h2]
  ·
   rw [if_neg h1,List.drop_eq_nil_of_le (by omega)]
   simp [sI]
theorem aMm (n:Int) (l:List UInt8) (hl:l.length≤100000000):iF n l=some (sI n (l.map (fun b=>(b.toNat:Int)))):=by
 unfold iF
 simp only [aT]
 rw [aGm l n hl bO 0 (by omega) (by omega) (by rw [bQ];omega)]
 simp
def sH (l:List Int×Int):Bool:=decide ((l.1.length:Int)=0) && decide (l.2=0)
theorem aRt (l:List Int×Int):kP l=some (sH l):=by
  unfold kP sH;cases decide ((l.1.length:Int)=0) <;> rfl
def uH (l:List Int×Int):Bool:=decide (0<(l.1.length:Int)) && decide (l.2=(l.1.length:Int))
theorem aMl (l:List Int×Int):oG l=some (uH l):=by
  unfold oG uH;cases decide (0<(l.1.length:Int)) <;> rfl
abbrev EdT:=Bool×Int×(List Int×Int)×Int×Int×Int×Int×Int×Int×Int×List (List Int)×(List (List Int×Int))×Int×(List Int×Int)×List Int×Int×List Int×Int
def iX (vi:Bool) (D:Int) (G:List Int×Int) (op A7 A9:Int):Bool:=
  decide (0≤D∧D≤3∧(D=0→vi=false)∧(D=1→vi=true)∧(D=2→vi=true)∧(D=2→uH G=false)∧(D≠2→op=0∧A7=0∧A9=0)∧(op=0→A7=0)) && sI op [0,100,99,121] && sI A9 [0,102,70,116,84,114]
def uT (D:Int) (Z:List Int) (A6:Int) (A_:List Int×Int):Bool:=
  decide (D=3) || (decide ((Z.length:Int)=0) && decide (A6=0) && sH A_)
theorem aQh (op:Int):sI op [0,100,99,121]=(decide (op=0) || sI op [100,99,121]):=by
 have e:decide (0=op)=decide (op=0):=by simp [eq_comm]
 simp only [sI,List.any_cons,e]
theorem aQg (op:Int):sI op [0,102,70,116,84,114]=(decide (op=0) || sI op [102,70,116,84,114]):=by
 have e:decide (0=op)=decide (op=0):=by simp [eq_comm]
 simp only [sI,List.any_cons,e]
set_option maxHeartbeats 4000000 in
theorem aSv (vi:Bool) (D:Int) (G:List Int×Int) (B_ op A7 A9 fr fh A5:Int) (A8:List (List Int)) (A4:List (List Int×Int)) (O:Int) (A0:List Int×Int) (Z:List Int) (A6:Int) (A_:List Int×Int) :
  sR (vi,D,G,B_,op,A7,A9,fr,fh,A5,A8,A4,O,A0,Z,A6,A_)=some (iX vi D G op A7 A9):=by
 unfold sR iX
 have e1:([100,99,121]:List UInt8).map (fun b=>(b.toNat:Int))=[100,99,121]:=rfl
 have e2:([102,70,116,84,114]:List UInt8).map (fun b=>(b.toNat:Int))=[102,70,116,84,114]:=rfl
 simp only [aMl,aMm _ _ (show ([100,99,121]:List UInt8).length≤100000000 by simp),aMm _ _ (show ([102,70,116,84,114]:List UInt8).length≤100000000 by simp),dS,aT,e1,e2,aQh,aQg]
 generalize sI op [100,99,121]=A
 generalize sI A9 [102,70,116,84,114]=Bw
 generalize uH G=T
 by_cases m0:D<0
 ·
  have h1:¬ 0≤D:=by omega
  have h2:¬ D=0:=by omega
  have h3:¬ D=1:=by omega
  have h4:¬ D=2:=by omega
  have h5:¬ D=3:=by omega
  simp [h1,h2,h3,h4,h5]
 by_cases m3:3<D
 ·
  have h1:¬ D≤3:=by omega
  have h2:¬ D=0:=by omega
  have h3:¬ D=1:=by omega
  have h4:¬ D=2:=by omega
  have h5:¬ D=3:=by omega
  simp [h1,h2,h3,h4,h5]
 have hm:D=0∨D=1∨D=2∨D=3:=by omega
 rcases hm with rfl | rfl | rfl | rfl <;> cases vi <;> cases A <;> cases Bw <;> cases T <;> by_cases o:op=0 <;> by_cases oc:A7=0 <;> by_cases w:A9=0 <;> simp [o,oc,w]
def aAh (fr fh:Int):Bool:=decide ((fr=0→fh=0)∧(fr≠0→0≤fh∧fh≤3)) && (decide (fr=0) || pr fr)
def cF (e:EdT):Bool:=match e with
 | (vi,D,G,B_,op,A7,A9,fr,fh,A5,A8,A4,O,A0,Z,A6,A_)=>
  bP G && bP A0 && bP A_ && decide (0≤B_∧B_≤999) && decide (0≤A7∧A7≤999) && iX vi D G op A7 A9 && aAh fr fh && decide (0≤A5∧A5≤3) && eR A8 && gC A4 && decide (0≤O∧O≤1000000060) && decide (0≤A6∧A6≤1000000060) && (!decide (O=0) || sH A0) && decide ((Z.length:Int)≤40) && Z.all pr && uT D Z A6 A_
def oV (N:Nat) (e:EdT):Prop:=match e with
 | (_,_,G,_,_,_,_,_,_,_,A8,A4,_,A0,Z,_,A_)=>
  G.1.length≤N∧(A8.length≤N∧∀ s ∈ A8,s.length≤N)∧(A4.length≤N∧∀ s ∈ A4,s.1.length≤N)∧A0.1.length≤N∧Z.length≤N∧A_.1.length≤N
theorem aTk (c hi:Int):decide (hi<c)=!decide (c≤hi):=by
 by_cases h:hi<c
 ·
  rw [decide_eq_true h,decide_eq_false (by omega)];rfl
 ·
  rw [decide_eq_false h,decide_eq_true (by omega)];rfl
section
variable (vi:Bool) (D:Int) (G:List Int×Int) (B_ op A7 A9 fr fh A5:Int) (A8:List (List Int)) (A4:List (List Int×Int)) (O:Int) (A0:List Int×Int) (Z:List Int) (A6:Int) (A_:List Int×Int)
theorem aPz (hq:Z.length≤100000000) (j:Unit→Option Bool):∀ (m:Nat) (k:Int),0≤k→k≤(Z.length:Int)→(Z.length:Int) - k<m→aZ (qY (vi,D,G,B_,op,A7,A9,fr,fh,A5,A8,A4,O,A0,Z,A6,A_) j) m k=if (Z.drop k.toNat).all pr then j () else some false:=by
 intro m
 induction m with
 | zero=>intro k _ _ h;omega
 | succ m ih=>
  intro k hk hk' hm
  simp only [aZ,qY,aN,Bool.cond_decide,qK,aF]
  by_cases h1:k<(Z.length:Int)
  ·
   rw [if_pos h1,if_pos ⟨hk,h1⟩,bV (by omega) (by omega),fW hk h1]
   by_cases h2:pr (at' Z k)=true
   ·
    rw [ih (k+1) (by omega) (by omega) (by omega)]
    simp [h2]
   ·
    simp [h2]
  ·
   rw [if_neg h1,List.drop_eq_nil_of_le (by omega)]
   simp
theorem aPx (hs:oV 100000000 (vi,D,G,B_,op,A7,A9,fr,fh,A5,A8,A4,O,A0,Z,A6,A_)):lS (vi,D,G,B_,op,A7,A9,fr,fh,A5,A8,A4,O,A0,Z,A6,A_)=some (cF (vi,D,G,B_,op,A7,A9,fr,fh,A5,A8,A4,O,A0,Z,A6,A_)):=by
 obtain ⟨h1,⟨h2,h3⟩,⟨h4,h5⟩,h6,h7,h8⟩:=hs
 unfold lS cF
 simp only [mN G h1,mN A0 h6,mN A_ h8,aSv,zR A8 h2 h3,aCp A4 h4 h5,qK,aRt,dS,aT,yC,aTk]
 rw [aPz vi D G B_ op A7 A9 fr fh A5 A8 A4 O A0 Z A6 A_ h7 _ bO 0 (by omega) (by omega) (by rw [bQ];omega)]
 simp only [aF,Int.toNat_zero,List.drop_zero]
 have hF:(bif (bif (decide (fr=0)) then (!(decide (fh=0))) else false) then true else (bif (!(decide (fr=0))) then (bif (!(if (!decide (fr=0))=true∧(bif decide (fr=0) then !decide (fh=0) else false)=false then pr fr else false)) then true else (!(if (!if (!decide (fr=0))=true∧(bif decide (fr=0) then !decide (fh=0) else false)=false then pr fr else false)=false∧(!decide (fr=0))=true∧(bif decide (fr=0) then !decide (fh=0) else false)=false then decide (0≤fh∧fh≤3) else false))) else false))=!(aAh fr fh):=by
  unfold aAh
  by_cases a:fr=0
  ·
   by_cases b:fh=0 <;> simp [a,b]
  ·
   by_cases b:0≤fh∧fh≤3
   ·
    cases pr fr <;> simp [a,b]
   ·
    cases pr fr <;> simp [a,b]
 rw [hF]
 have hS:(bif (decide (D=3)) then true else (bif (bif (decide ((Z.length:Int)=0)) then (decide (A6=0)) else false) then (if (bif (decide ((Z.length:Int)=0)) then (decide (A6=0)) else false)=true∧(decide (D=3))=false then sH A_ else false) else false))=uT D Z A6 A_:=by
  unfold uT
  by_cases a:D=3 <;> by_cases b:(Z.length:Int)=0 <;> by_cases c:A6=0 <;> cases sH A_ <;> simp [a,b,c]
 have hS':sH (A_.1,A_.2)=sH A_:=rfl
 rw [hS',hS]
 generalize bP G=A1
 generalize bP A0=A2
 generalize bP A_=A3
 generalize iX vi D G op A7 A9=M
 generalize uT D Z A6 A_=S
 generalize decide (0≤B_∧B_≤999)=C
 generalize decide (0≤A7∧A7≤999)=OC
 generalize decide (0≤A5∧A5≤3)=L
 generalize eR A8=R
 generalize gC A4=U
 generalize aAh fr fh=F
 generalize decide (0≤O∧O≤1000000060)=N
 generalize decide (0≤A6∧A6≤1000000060)=H
 generalize decide (O=0)=N0
 generalize sH A0=EO
 generalize decide ((Z.length:Int)≤40)=Q
 generalize Z.all pr=P
 cases A1
 ·
  simp
 cases A2
 ·
  simp
 cases A3
 ·
  simp
 cases C
 ·
  simp
 cases OC
 ·
  simp
 cases M
 ·
  simp
 cases F
 ·
  simp
 cases L
 ·
  simp
 cases R
 ·
  simp
 cases U
 ·
  simp
 cases N
 ·
  simp
 cases H
 ·
  simp
 cases N0 <;> cases EO <;> cases Q <;> cases P <;> cases S <;> rfl
end
def jA (D:Int) (l:List Int×Int):Int:=if D=2∧l.2=(l.1.length:Int)∧0<l.2 then l.2 - 1 else l.2
def zEd:EdT:=(false,0,([],0),0,0,0,0,0,0,0,[],[],0,([],0),[],0,([],0))
theorem aTb (vi:Bool) (D:Int) (l:List Int×Int) (B_ op A7 A9 fr fh A5:Int) (A8:List (List Int)) (A4:List (List Int×Int)) (O:Int) (A0:List Int×Int) (Z:List Int) (A6:Int) (A_:List Int×Int) (wl:l.2≤9223372036854775807) :
  qO (vi,D,l,B_,op,A7,A9,fr,fh,A5,A8,A4,O,A0,Z,A6,A_)=some (vi,D,(l.1,jA D l),B_,op,A7,A9,fr,fh,A5,A8,A4,O,A0,Z,A6,A_):=by
 unfold qO jA
 simp only [aT]
 by_cases a:D=2
 ·
  by_cases b:l.2=(l.1.length:Int)
  ·
   by_cases c:0<l.2
   ·
    rw [bV (x:=l.2 - 1) (by omega) (by omega),if_pos (show D=2∧l.2=(l.1.length:Int)∧0<l.2 from ⟨a,b,c⟩),decide_eq_true a,decide_eq_true b,decide_eq_true c]
    rfl
   ·
    rw [if_neg (show ¬ (D=2∧l.2=(l.1.length:Int)∧0<l.2) from fun h=>c h.2.2),decide_eq_true a,decide_eq_true b,decide_eq_false c]
    rfl
  ·
   rw [if_neg (show ¬ (D=2∧l.2=(l.1.length:Int)∧0<l.2) from fun h=>b h.2.1),decide_eq_true a,decide_eq_false b]
   rfl
 ·
  rw [if_neg (show ¬ (D=2∧l.2=(l.1.length:Int)∧0<l.2) from fun h=>a h.1),decide_eq_false a]
  rfl
theorem sZ (l:List Int×Int) (D:Int) (wl:l.2≤9223372036854775807):gF l D=some (l.1,jA D l):=by
 unfold gF jA
 simp only [aT,aMl,dS]
 unfold uH
 by_cases a:D=2
 ·
  by_cases b:l.2=(l.1.length:Int)
  ·
   by_cases c:0<l.2
   ·
    have c':0<(l.1.length:Int):=by omega
    rw [bV (x:=l.2 - 1) (by omega) (by omega),if_pos (show D=2∧l.2=(l.1.length:Int)∧0<l.2 from ⟨a,b,c⟩),decide_eq_true a,decide_eq_true b,decide_eq_true c']
    rfl
   ·
    have c':¬ 0<(l.1.length:Int):=by omega
    rw [if_neg (show ¬ (D=2∧l.2=(l.1.length:Int)∧0<l.2) from fun h=>c h.2.2),decide_eq_true a,decide_eq_false c']
    rfl
  ·
   rw [if_neg (show ¬ (D=2∧l.2=(l.1.length:Int)∧0<l.2) from fun h=>b h.2.1),decide_eq_true a,decide_eq_false b]
   simp
 ·
  rw [if_neg (show ¬ (D=2∧l.2=(l.1.length:Int)∧0<l.2) from fun h=>a h.1),decide_eq_false a]
  rfl
theorem aPh (a b c:List Int) (h:a.length+b.length+c.length≤536870912):oC a b c=some (a ++ b ++ c):=by
 unfold oC aN
 rw [if_pos (by simp;omega),if_pos (by simp;omega),if_pos (by simp;omega)]
 simp
theorem aRa (t:List Int) (h:t.length≤100000000):hZ t=some (cT t):=by
 unfold hZ cT
 rw [zB t h,dS]
 by_cases c:t.length≤400
 ·
  have c':(t.length:Int)≤400:=by omega
  simp [c,c']
 ·
  have c':¬ (t.length:Int)≤400:=by omega
  simp [c,c']
def lA (r:List (List Int)) (t:List Int) (how:Int):List (List Int):=
 if t.length=0 then r
 else if how=0∨r.length=0∨400<(at' r 0).length+t.length then ([t] ++ r).take 6
 else r.set 0 (if how=1 then at' r 0 ++ t else t ++ at' r 0)
theorem gO {t:List Int} (h:cT t=true):t.length≤400:=by
 unfold cT at h
 simp only [Bool.and_eq_true,decide_eq_true_eq] at h
 exact h.2
theorem gX {r:List (List Int)} (h:eR r=true):r.length≤6∧∀ s ∈ r,cT s=true∧0<s.length:=by
 unfold eR at h
 simp only [Bool.and_eq_true,decide_eq_true_eq,List.all_eq_true] at h
 refine ⟨h.2,fun s hs=>?_⟩
 have:=h.1 s hs
 unfold lV at this
 simp only [Bool.and_eq_true,Bool.not_eq_true',decide_eq_false_iff_not] at this
 exact ⟨this.1,by omega⟩
theorem aAy {r:List (List Int)} (h1:r.length≤6) (h2:∀ s ∈ r,cT s=true∧0<s.length):eR r=true:=by
 unfold eR
 simp only [Bool.and_eq_true,decide_eq_true_eq,List.all_eq_true]
 refine ⟨fun s hs=>?_,h1⟩
 obtain ⟨a,b⟩:=h2 s hs
 unfold lV
 simp only [Bool.and_eq_true,Bool.not_eq_true',decide_eq_false_iff_not]
 exact ⟨a,by omega⟩
theorem zD {a b:List Int} (ha:cT a=true) (hb:cT b=true) (hl:a.length+b.length≤400):cT (a ++ b)=true:=by
 unfold cT at *
 simp only [Bool.and_eq_true,decide_eq_true_eq,List.all_append,List.length_append] at *
 exact ⟨⟨ha.1,hb.1⟩,hl⟩
theorem sU {r:List (List Int)} {t:List Int} {how:Int} (hr:eR r=true) (ht:cT t=true):eR (lA r t how)=true:=by
 obtain ⟨h1,h2⟩:=gX hr
 unfold lA
 split
 ·
  exact hr
 ·
  rename_i h0
  split
  ·
   refine aAy (by simp;omega) fun s hs=>?_
   have:=List.mem_of_mem_take hs
   simp only [List.singleton_append,List.mem_cons] at this
   rcases this with rfl | hm
   ·
    exact ⟨ht,by omega⟩
   ·
    exact h2 s hm
  ·
   rename_i h3
   simp only [not_or] at h3
   have hm:at' r 0 ∈ r:=List.mem_of_getElem? (bH (xs:=r) (i:=0) ⟨by omega,by omega⟩)
   obtain ⟨k1,k2⟩:=h2 _ hm
   refine aAy (by simp;omega) fun s hs=>?_
   rcases List.mem_or_eq_of_mem_set hs with hs | rfl
   ·
    exact h2 s hs
   ·
    split
    ·
     exact ⟨zD k1 ht (by omega),by simp;omega⟩
    ·
     exact ⟨zD ht k1 (by omega),by simp;omega⟩
theorem aFw (x:List (List Int)) (hx:(x.length:Int)≤1000) (j:List (List Int)→Option (List (List Int)×Bool)) :
  (bif decide (6<(x.length:Int)) then (aN (0≤(0:Int)∧(0:Int)≤(6:Int)∧(6:Int)≤(x.length:Int)) <| j (bJ x 0 (6:Int))) else j x)=j (x.take 6):=by
 by_cases h:6<(x.length:Int)
 ·
  rw [decide_eq_true h,cond_true,aN,if_pos (by omega)]
  simp [bJ]
 ·
  rw [decide_eq_false h,cond_false,List.take_of_length_le (by omega)]
theorem aM9 (r:List (List Int)) (t:List Int) (how:Int) (hr:eR r=true) (ht:cT t=true) (hh:0≤how∧how≤2):qS r t how=some (lA r t how,true):=by
 obtain ⟨r1,r2⟩:=gX hr
 have r3:∀ s ∈ r,s.length≤400:=fun s hs=>gO (r2 s hs).1
 have tl:=gO ht
 have c1:¬ how<0:=by omega
 have c2:¬ 2<how:=by omega
 unfold qS lA
 rw [aP (aOv r (by omega) (fun s hs=>by have:=r3 s hs;omega)),aRa t (by omega),dS,hr,ht,aLh r (by omega) (fun s hs=>by have:=r3 s hs;omega)]
 simp only [c1,c2,decide_false,Bool.not_true,cond_false,if_true,aF]
 by_cases h0:t.length=0
 ·
  have h0':(t.length:Int)=0:=by omega
  simp [h0]
 ·
  have h0':¬ (t.length:Int)=0:=by omega
  rw [if_neg h0,decide_eq_false h0',cond_false]
  have hat:0<r.length→(at' r 0).length≤400:=fun hp=>r3 _ (List.mem_of_getElem? (bH (xs:=r) (i:=0) ⟨by omega,by omega⟩))
  simp only [aN]
  rw [if_pos (fun h=>by
   by_cases hp:0<(r.length:Int)
   ·
    exact ⟨by omega,hp⟩
   ·
    rw [decide_eq_false hp] at h;simp at h)]
  by_cases hp:0<r.length
  ·
   have hp':0<(r.length:Int):=by omega
   have:=hat hp
   rw [decide_eq_true hp',bV (by omega) (by omega)]
   by_cases hz:how=0
   ·
    rw [if_pos (Or.inl hz)]
    have e0:(!decide (how=0))=false:=by simp [hz]
    simp only [e0,cond_false,aT,List.nil_append]
    rw [if_pos (by simp;omega),if_pos (by simp;omega)]
    have:=aFw ([t] ++ r) (by simp;omega) (fun x=>some (x,true))
    simp only [aN] at this
    exact this
   ·
    have e0:(!decide (how=0))=true:=by simp [hz]
    by_cases h4:400<(at' r 0).length+t.length
    ·
     rw [if_pos (Or.inr (Or.inr h4))]
     have e1:¬ (((at' r 0).length:Int)+(t.length:Int)≤400):=by omega
     simp only [e0,e1,decide_false,cond_false,cond_true,aT,List.nil_append]
     rw [if_pos (by simp;omega),if_pos (by simp;omega)]
     have:=aFw ([t] ++ r) (by simp;omega) (fun x=>some (x,true))
     simp only [aN] at this
     exact this
    ·
     rw [if_neg (show ¬ (how=0∨r.length=0∨400<(at' r 0).length+t.length) by omega)]
     have e1:(((at' r 0).length:Int)+(t.length:Int)≤400):=by omega
     have g:(0≤(0:Int)∧0<(r.length:Int)):=⟨by omega,hp'⟩
     have j1:=aPh (at' r 0) t [] (by simp;omega)
     have j2:=aPh t (at' r 0) [] (by simp;omega)
     simp only [List.append_nil] at j1 j2
     simp only [e0,e1,decide_true,cond_true,aT,if_pos g,j1,j2]
     by_cases h2:how=2
     ·
      have:¬ how=1:=by omega
      simp [h2]
     ·
      have:how=1:=by omega
      simp [this]
  ·
   have hp':¬ 0<(r.length:Int):=by omega
   have hz:r.length=0:=by omega
   rw [decide_eq_false hp',if_pos (Or.inr (Or.inl hz))]
   have e0:(bif (!decide (how=0)) then false else false)=false:=by cases (!decide (how=0)) <;> rfl
   simp only [e0,cond_false,aT,List.nil_append]
   rw [if_pos (by simp;omega),if_pos (by simp;omega)]
   have:=aFw ([t] ++ r) (by simp;omega) (fun x=>some (x,true))
   simp only [aN] at this
   exact this
theorem aAx (r:List (List Int)) (t:List Int) (how:Int) (hr:eR r=true) (ht:cT t=true) (hh:0≤how∧how≤2):oI r t how=some (lA r t how,true):=by
 obtain ⟨r1,r2⟩:=gX hr
 have r3:∀ s ∈ r,s.length≤400:=fun s hs=>gO (r2 s hs).1
 have tl:=gO ht
 unfold oI lA
 rw [aP (zR r (by omega) (fun s hs=>by have:=r3 s hs;omega)),yC,dS,aD5 t (by omega),dS,hr,ht,yY r (by omega) (fun s hs=>by have:=r3 s hs;omega),decide_eq_true hh]
 simp only [Bool.not_true,cond_false,if_true,aF,aT,iP t (by omega)]
 by_cases h0:t.length=0
 ·
  have h0':(t.length:Int)=0:=by omega
  simp [h0]
 ·
  have h0':¬ (t.length:Int)=0:=by omega
  rw [if_neg h0,decide_eq_false h0',cond_false]
  have hat:0<r.length→(at' r 0).length≤400:=fun hp=>r3 _ (List.mem_of_getElem? (bH (xs:=r) (i:=0) ⟨by omega,by omega⟩))
  simp only [aN]
  rw [if_pos (fun h=>by
   by_cases hp:(r.length:Int)=0
   ·
    rw [decide_eq_true hp] at h;simp at h
   ·
    exact ⟨by omega,by omega⟩)]
  have T:(if [t].length+r.length≤536870912 then if 0≤(0:Int)∧(0:Int)≤min (([t] ++ r).length:Int) 6∧min (([t] ++ r).length:Int) 6≤(([t] ++ r).length:Int) then some (bJ ([t] ++ r) 0 (min (([t] ++ r).length:Int) 6),true) else none else none)=some (([t] ++ r).take 6,true):=by
   rw [if_pos (by simp;omega),if_pos (by omega)]
   congr 2
   unfold bJ
   simp only [Int.toNat_zero,List.drop_zero,Int.sub_zero]
   by_cases h:([t] ++ r).length≤6
   ·
    have e:(min (([t] ++ r).length:Int) 6).toNat=([t] ++ r).length:=by omega
    rw [Nat.sub_zero,e,List.take_length,List.take_of_length_le h]
   ·
    have e:(min (([t] ++ r).length:Int) 6).toNat=6:=by omega
    rw [Nat.sub_zero,e]
  by_cases hp:0<r.length
  ·
   have hp':¬ (r.length:Int)=0:=by omega
   have:=hat hp
   rw [decide_eq_false hp',bV (by omega) (by omega)]
   by_cases hz:how=0
   ·
    rw [if_pos (Or.inl hz)]
    simp only [hz,decide_true,cond_true]
    exact T
   ·
    by_cases h4:400<(at' r 0).length+t.length
    ·
     rw [if_pos (Or.inr (Or.inr h4))]
     have e1:400<((at' r 0).length:Int)+(t.length:Int):=by omega
     simp only [hz,e1,decide_false,decide_true,cond_false,cond_true]
     exact T
    ·
     rw [if_neg (show ¬ (how=0∨r.length=0∨400<(at' r 0).length+t.length) by omega)]
     have e1:¬ 400<((at' r 0).length:Int)+(t.length:Int):=by omega
     have g:(0≤(0:Int)∧0<(r.length:Int)):=⟨by omega,by omega⟩
     simp only [hz,e1,decide_false,cond_false,if_pos g]
     by_cases h2:how=1
     ·
      simp only [h2,decide_true,cond_true,if_true]
      rw [if_pos (by omega)];rfl
     ·
      simp only [h2,decide_false,cond_false,if_false]
      rw [if_pos (by omega)];rfl
  ·
   have hp':(r.length:Int)=0:=by omega
   have hz:r.length=0:=by omega
   rw [decide_eq_true hp',if_pos (Or.inr (Or.inl hz))]
   have e0:(bif bif decide (how=0) then true else true then true else decide (400<W (((at' r 0).length:Int)+(t.length:Int))))=true:=by cases decide (how=0) <;> rfl
   rw [e0,cond_true]
   exact T
theorem bF {l:List Int×Int} (h:bP l=true):0≤l.2∧l.2≤(l.1.length:Int)∧l.1.length≤400:=by
 unfold bP cT at h
 simp only [Bool.and_eq_true,decide_eq_true_eq] at h
 exact ⟨h.2.1,h.2.2,h.1.2⟩
def goL (l:List Int×Int) (at_:Int):List Int×Int:=(l.1,max 0 (min at_ (l.1.length:Int)))
theorem pN (l:List Int×Int) (a:Int) (hl:l.1.length≤1048576):dP l a=some (goL l a):=by
 unfold dP goL
 rw [aP (iP l.1 (by omega))]
theorem eL {l:List Int×Int} (h:bP l=true):cT l.1=true:=by
 unfold bP at h
 simp only [Bool.and_eq_true] at h
 exact h.1
theorem iY {t:List Int} {a:Int} (h:cT t=true) (h0:0≤a) (h1:a≤(t.length:Int)):bP (t,a)=true:=by
 unfold bP
 simp only [h,Bool.true_and,decide_eq_true_eq]
 exact ⟨h0,h1⟩
theorem mI {l:List Int×Int} (h:bP l=true) (a:Int):bP (goL l a)=true:=iY (eL h) (by omega) (by omega)
theorem aIp (l:List Int×Int) (a b:Int) (hl:l.1.length≤100000000):pT l a b=some (bP l && decide (0≤a∧a≤b∧b≤(l.1.length:Int))):=by
 unfold pT
 rw [aP (mN l hl)]
 congr 1
 by_cases h1:0≤a <;> by_cases h2:a≤b <;> by_cases h3:b≤(l.1.length:Int) <;> cases bP l <;> simp [h1,h2,h3]
def wU (l:List Int×Int) (a b:Int):List Int×Int:=
  (bJ l.1 0 a ++ bJ l.1 b (l.1.length:Int),if b≤l.2 then l.2 - (b - a) else if a<l.2 then a else l.2)
def aP3 (l:List Int×Int) (a b:Int):(List Int×Int)×List Int×Bool:=
  if bP l && decide (0≤a∧a≤b∧b≤(l.1.length:Int)) then (wU l a b,bJ l.1 a b,true) else (([],0),[],false)
theorem xN (l:List Int×Int) (a b:Int) (hl:l.1.length≤1048576):iI l a b=some (aP3 l a b):=by
 unfold iI aP3
 rw [aP (aIp l a b (by omega))]
 by_cases h:bP l=true∧(0≤a∧a≤b∧b≤(l.1.length:Int))
 ·
  obtain ⟨h1,h2⟩:=h
  obtain ⟨p0,p1,p2⟩:=bF h1
  rw [h1,decide_eq_true h2]
  simp only [Bool.and_self,Bool.not_true,cond_false,if_true,aT,aN]
  have s1:(bJ l.1 0 a).length≤400:=by have:=rI (xs:=l.1) (lo:=0) (hi:=a) (by omega);omega
  have s2:(bJ l.1 b (l.1.length:Int)).length≤400:=by have:=rI (xs:=l.1) (lo:=b) (hi:=(l.1.length:Int)) (by omega);omega
  have s3:(bJ l.1 a b).length≤400:=by have:=rI (xs:=l.1) (lo:=a) (hi:=b) (by omega);omega
  have g1:(0≤(0:Int)∧(0:Int)≤a∧a≤(l.1.length:Int)):=by omega
  have g2:(0≤b∧b≤(l.1.length:Int)∧(l.1.length:Int)≤(l.1.length:Int)):=by omega
  have g3:(bJ l.1 0 a).length+(bJ l.1 b (l.1.length:Int)).length≤536870912:=by omega
  simp only [if_pos g1,iP (bJ l.1 0 a) (by omega),iP (bJ l.1 a b) (by omega),aF,if_pos g2,if_pos g3,if_pos h2,Bool.cond_decide]
  have hW:b≤l.2→W (l.2 - W (b - a))=l.2 - (b - a):=fun hb=>by
   rw [bV (x:=b - a) (by omega) (by omega),bV (by omega) (by omega)]
  unfold wU
  by_cases c1:b≤l.2
  ·
   rw [if_pos c1,if_pos c1,hW c1]
  ·
   rw [if_neg c1,if_neg c1]
   by_cases c2:a<l.2
   ·
    rw [if_pos c2,if_pos c2]
   ·
    rw [if_neg c2,if_neg c2]
 ·
  have:(bP l && decide (0≤a∧a≤b∧b≤(l.1.length:Int)))=false:=by
   cases hq:(bP l && decide (0≤a∧a≤b∧b≤(l.1.length:Int)))
   ·
    rfl
   ·
    simp only [Bool.and_eq_true,decide_eq_true_eq] at hq
    exact absurd hq h
  rw [this]
  simp
theorem aQ0 {α:Type} {xs:List α} {a b:Int} {x:α} (h:x ∈ bJ xs a b):x ∈ xs:=List.mem_of_mem_drop (List.mem_of_mem_take h)
theorem nQ {t:List Int} (h:cT t=true) (a b:Int):cT (bJ t a b)=true:=by
 unfold cT at *
 simp only [Bool.and_eq_true,decide_eq_true_eq,List.all_eq_true] at *
 refine ⟨fun x hx=>h.1 x (aQ0 hx),?_⟩
 have:(bJ t a b).length≤t.length:=by unfold bJ;simp only [List.length_take,List.length_drop];omega
 omega
theorem vC {l:List Int×Int} {a b:Int} (h:bP l=true) (hr:0≤a∧a≤b∧b≤(l.1.length:Int)):bP (wU l a b)=true∧((wU l a b).1.length:Int)=l.1.length - (b - a):=by
 obtain ⟨p0,p1,p2⟩:=bF h
 have ha:=eL h
 have s1:=rI (xs:=l.1) (lo:=0) (hi:=a) (by omega)
 have s2:=rI (xs:=l.1) (lo:=b) (hi:=(l.1.length:Int)) (by omega)
 have hlen:((bJ l.1 0 a ++ bJ l.1 b (l.1.length:Int)).length:Int)=l.1.length - (b - a):=by simp only [List.length_append];omega
 refine ⟨?_,hlen⟩
 unfold wU
 refine iY (zD (nQ ha _ _) (nQ ha _ _) (by omega)) ?_ ?_
 ·
  split
  ·
   omega
  ·
   split <;> omega
 ·
  rw [hlen]
  split
  ·
   omega
  ·
   split <;> omega
theorem aHt (a b:List Int) (hl:a.length=b.length) (ha:(a.length:Int)≤100000000):∀ (m:Nat) (k:Int),0≤k→k≤(a.length:Int)→(a.length:Int) - k<m→aZ (lE a b fun _=>some true) m k=some (decide (a.drop k.toNat=b.drop k.toNat)):=by
 intro m
 induction m with
 | zero=>intro k _ _ h;omega
 | succ m ih=>
  intro k hk hk' hm
  simp only [aZ,lE,aN,Bool.cond_decide]
  by_cases h1:k<(a.length:Int)
  ·
   have h2:k<(b.length:Int):=by omega
   rw [if_pos h1,if_pos ⟨hk,h1⟩,if_pos ⟨hk,h2⟩,fW hk h1,fW hk h2,bV (by omega) (by omega),ih (k+1) (by omega) (by omega) (by omega)]
   by_cases h3:at' a k=at' b k
   ·
    simp [h3]
   ·
    simp [h3]
  ·
   rw [if_neg h1,List.drop_eq_nil_of_le (by omega),List.drop_eq_nil_of_le (by omega)]
   simp
theorem aSk (a b:List Int) (ha:(a.length:Int)≤100000000):qP a b=some (decide (a=b)):=by
 unfold qP
 by_cases h:a.length=b.length
 ·
  have h':(a.length:Int)=(b.length:Int):=by omega
  rw [decide_eq_true h']
  simp only [Bool.not_true,cond_false,aT]
  rw [aHt a b h ha bO 0 (by omega) (by omega) (by rw [bQ];omega)]
  simp
 ·
  have h':¬ (a.length:Int)=(b.length:Int):=by omega
  have h2:a≠b:=fun e=>h (by rw [e])
  rw [decide_eq_false h',decide_eq_false h2];rfl
theorem aHu (a b:List Int) (hl:a.length=b.length) (ha:(a.length:Int)≤100000000):∀ (m:Nat) (k:Int),0≤k→k≤(a.length:Int)→(a.length:Int) - k<m→aZ (kB a b fun _=>some true) m k=some (decide (a.drop k.toNat=b.drop k.toNat)):=by
 intro m
 induction m with
 | zero=>intro k _ _ h;omega
 | succ m ih=>
  intro k hk hk' hm
  simp only [aZ,kB,aN,Bool.cond_decide]
  by_cases h1:k<(a.length:Int)
  ·
   have h2:k<(b.length:Int):=by omega
   rw [if_pos h1,if_pos ⟨hk,h1⟩,if_pos ⟨hk,h2⟩,fW hk h1,fW hk h2,bV (by omega) (by omega),ih (k+1) (by omega) (by omega) (by omega)]
   by_cases h3:at' a k=at' b k
   ·
    simp [h3]
   ·
    simp [h3]
  ·
   rw [if_neg h1,List.drop_eq_nil_of_le (by omega),List.drop_eq_nil_of_le (by omega)]
   simp
theorem aJ8 (a b:List Int) (ha:(a.length:Int)≤100000000):jO a b=some (decide (a=b)):=by
 unfold jO
 by_cases h:a.length=b.length
 ·
  have h':(a.length:Int)=(b.length:Int):=by omega
  rw [decide_eq_true h']
  simp only [Bool.not_true,cond_false,aT]
  rw [aHu a b h ha bO 0 (by omega) (by omega) (by rw [bQ];omega)]
  simp
 ·
  have h':¬ (a.length:Int)=(b.length:Int):=by omega
  have h2:a≠b:=fun e=>h (by rw [e])
  rw [decide_eq_false h',decide_eq_false h2];rfl
def aKm (u:List (List Int×Int)) (l:List Int×Int):List (List Int×Int):=
 if 0<u.length∧(at' u ((u.length:Int) - 1)).1=l.1 then u
 else if u.length=20 then (u ++ [l]).drop 1 else u ++ [l]
theorem aMv (u:List (List Int×Int)) (l:List Int×Int) (hu:gC u=true) (hl:bP l=true) (h1:(u.length:Int)≤1048576) (h2:∀ s ∈ u,(s.1.length:Int)≤1048576) (h3:(l.1.length:Int)≤1048576) :
  qR u l=some (aKm u l,true):=by
 unfold qR aKm
 rw [aP (aOf u (by omega) (fun s h=>by have:=h2 s h;omega)),aIi l (by omega),dS,hu,hl]
 simp only [Bool.not_true,cond_false,if_true]
 rw [aP (aLg u h1 h2),aP (yZ l h3),bV (by omega) (by omega)]
 have hg:(decide (0<(u.length:Int))=true→0≤(u.length:Int) - 1∧(u.length:Int) - 1<(u.length:Int)):=by
  intro h;have:=of_decide_eq_true h;omega
 simp only [aN]
 rw [if_pos hg]
 have hlen:(at' u ((u.length:Int) - 1)).1.length≤100000000:=by
  by_cases h0:0<u.length
  ·
   have:=h2 _ (List.mem_of_getElem? (bH (xs:=u) (i:=(u.length:Int) - 1) ⟨by omega,by omega⟩))
   omega
  ·
   have:u=[]:=List.length_eq_zero_iff.1 (by omega)
   subst this;simp [at'];decide
 rw [aSk _ _ (by omega),dS,if_pos (show u.length+([l]:List (List Int×Int)).length≤536870912 by simp;omega)]
 have gT:(0≤(1:Int)∧(1:Int)≤((u ++ [l]).length:Int)∧((u ++ [l]).length:Int)≤((u ++ [l]).length:Int)):=⟨by omega,by simp only [List.length_append,List.length_singleton];omega,by omega⟩
 simp only [if_pos gT,aT,aFx (show (0:Int)≤1 by omega)]
 have e1:Int.toNat 1=1:=rfl
 rw [e1]
 by_cases h0:0<u.length
 ·
  have h0':0<(u.length:Int):=by omega
  by_cases hs:(at' u ((u.length:Int) - 1)).1=l.1
  ·
   rw [if_pos (show 0<u.length∧(at' u ((u.length:Int) - 1)).1=l.1 from ⟨h0,hs⟩)]
   simp only [h0',hs,decide_true,if_true,cond_true]
  ·
   rw [if_neg (show ¬ (0<u.length∧(at' u ((u.length:Int) - 1)).1=l.1) from fun h=>hs h.2)]
   simp only [h0',hs,decide_true,decide_false,if_true,cond_true,cond_false]
   by_cases h20:u.length=20
   ·
    have h20':(u.length:Int)=20:=by omega
    rw [if_pos h20]
    simp only [h20',decide_true,cond_true]
   ·
    have h20':¬ (u.length:Int)=20:=by omega
    rw [if_neg h20]
    simp only [h20',decide_false,cond_false]
 ·
  have h0':¬ 0<(u.length:Int):=by omega
  have h20:¬ u.length=20:=by omega
  have h20':¬ (u.length:Int)=20:=by omega
  rw [if_neg (show ¬ (0<u.length∧(at' u ((u.length:Int) - 1)).1=l.1) from fun h=>h0 h.1),if_neg h20]
  simp only [h0',h20',decide_false,cond_false]
theorem aMw (u:List (List Int×Int)) (l:List Int×Int) (hu:gC u=true) (hl:bP l=true) (h1:(u.length:Int)≤1048576) (h2:∀ s ∈ u,(s.1.length:Int)≤1048576) (h3:(l.1.length:Int)≤1048576) :
  qX u l=some (aKm u l,true):=by
 unfold qX aKm
 rw [aP (aCp u (by omega) (fun s h=>by have:=h2 s h;omega)),mN l (by omega),dS,hu,hl]
 simp only [Bool.not_true,cond_false,if_true]
 rw [aP (yX u h1 h2),aP (fY l h3),bV (by omega) (by omega)]
 have hg:(decide (0<(u.length:Int))=true→0≤(u.length:Int) - 1∧(u.length:Int) - 1<(u.length:Int)):=by
  intro h;have:=of_decide_eq_true h;omega
 have hu20:u.length≤20:=by
  unfold gC at hu
  simp only [Bool.and_eq_true,decide_eq_true_eq] at hu
  exact hu.2
 simp only [aN]
 rw [if_pos hg]
 have hlen:(at' u ((u.length:Int) - 1)).1.length≤100000000:=by
  by_cases h0:0<u.length
  ·
   have:=h2 _ (List.mem_of_getElem? (bH (xs:=u) (i:=(u.length:Int) - 1) ⟨by omega,by omega⟩))
   omega
  ·
   have:u=[]:=List.length_eq_zero_iff.1 (by omega)
   subst this;simp [at'];decide
 rw [aJ8 _ _ (by omega),dS,if_pos (show u.length+([l]:List (List Int×Int)).length≤536870912 by simp;omega)]
 have hd:decide (20<((u ++ [l]).length:Int))=decide (u.length=20):=by
  by_cases h20:u.length=20
  ·
   rw [decide_eq_true h20,decide_eq_true (by simp;omega)]
  ·
   rw [decide_eq_false h20,decide_eq_false (by simp;omega)]
 have gT:(0≤(1:Int)∧(1:Int)≤((u ++ [l]).length:Int)∧((u ++ [l]).length:Int)≤((u ++ [l]).length:Int)):=⟨by omega,by simp only [List.length_append,List.length_singleton];omega,by omega⟩
 simp only [if_pos gT,aT,aFx (show (0:Int)≤1 by omega)]
 have e1:Int.toNat 1=1:=rfl
 rw [e1]
 by_cases h0:0<u.length
 ·
  have h0':0<(u.length:Int):=by omega
  by_cases hs:(at' u ((u.length:Int) - 1)).1=l.1
  ·
   rw [if_pos (show 0<u.length∧(at' u ((u.length:Int) - 1)).1=l.1 from ⟨h0,hs⟩)]
   simp only [h0',hs,decide_true,if_true,cond_true]
  ·
   rw [if_neg (show ¬ (0<u.length∧(at' u ((u.length:Int) - 1)).1=l.1) from fun h=>hs h.2)]
   simp only [h0',hs,decide_true,decide_false,if_true,cond_true,cond_false]
   by_cases h20:u.length=20
   ·
    have h20':(u.length:Int)=20:=by omega
    rw [if_pos h20]
    simp only [hd,h20,decide_true,cond_true]
   ·
    have h20':¬ (u.length:Int)=20:=by omega
    rw [if_neg h20]
    simp only [hd,h20,decide_false,cond_false]
 ·
  have h0':¬ 0<(u.length:Int):=by omega
  have h20:¬ u.length=20:=by omega
  have h20':¬ (u.length:Int)=20:=by omega
  rw [if_neg (show ¬ (0<u.length∧(at' u ((u.length:Int) - 1)).1=l.1) from fun h=>h0 h.1),if_neg h20]
  simp only [h0',hd,h20,decide_false,cond_false]
theorem oL {N M:Nat} (h:N≤M) {e:EdT} (hs:oV N e):oV M e:=by
 obtain ⟨vi,D,G,B_,op,A7,A9,fr,fh,A5,A8,A4,O,A0,Z,A6,A_⟩:=e
 obtain ⟨h1,⟨h2,h3⟩,⟨h4,h5⟩,h6,h7,h8⟩:=hs
 exact ⟨by omega,⟨by omega,fun s hs=>by have:=h3 s hs;omega⟩,⟨by omega,fun s hs=>by have:=h5 s hs;omega⟩,by omega,by omega,by omega⟩
def aQ2 (G:List Int×Int) (l:List Int×Int) (A4:List (List Int×Int)) (A5 nl:Int):List (List Int×Int):=
  if G.1≠l.1∧¬ (nl=1∧A5=1) then aKm A4 G else A4
def jU (nl:Int):EdT→EdT
  | (vi,D,G,_,_,_,_,fr,fh,_,A8,A4,O,A0,Z,A6,A_)=>(vi,D,G,0,0,0,0,fr,fh,nl,A8,A4,O,A0,Z,A6,A_)
def rJ (l:List Int×Int) (nl:Int):EdT→EdT
  | (vi,D,G,_,_,_,_,fr,fh,A5,A8,A4,O,A0,Z,A6,A_)=>(vi,D,(l.1,jA D l),0,0,0,0,fr,fh,nl,A8,aQ2 G l A4 A5 nl,O,A0,Z,A6,A_)
def aBk (r:List (List Int)):EdT→EdT
  | (vi,D,G,B_,op,A7,A9,fr,fh,A5,_,A4,O,A0,Z,A6,A_)=>(vi,D,G,B_,op,A7,A9,fr,fh,A5,r,A4,O,A0,Z,A6,A_)
def aQw (at_:Int):EdT→EdT
  | (vi,_,G,B_,op,A7,A9,fr,fh,A5,A8,A4,O,A0,Z,A6,A_)=>(vi,1,(G.1,at_),B_,op,A7,A9,fr,fh,A5,A8,A4,O,A0,Z,A6,A_)
section
variable {vi:Bool} {D:Int} {G:List Int×Int} {B_ op A7 A9 fr fh A5:Int} {A8:List (List Int)} {A4:List (List Int×Int)} {O:Int} {A0:List Int×Int} {Z:List Int} {A6:Int} {A_:List Int×Int}
theorem cO (h:cF (vi,D,G,B_,op,A7,A9,fr,fh,A5,A8,A4,O,A0,Z,A6,A_)=true) :
  bP G=true∧bP A0=true∧bP A_=true∧(0≤B_∧B_≤999)∧(0≤A7∧A7≤999)∧iX vi D G op A7 A9=true∧aAh fr fh=true∧(0≤A5∧A5≤3)∧eR A8=true∧gC A4=true∧(0≤O∧O≤1000000060)∧(0≤A6∧A6≤1000000060)∧(!decide (O=0) || sH A0)=true∧(Z.length:Int)≤40∧Z.all pr=true∧uT D Z A6 A_=true:=by
 unfold cF at h
 simp only [Bool.and_eq_true,decide_eq_true_eq] at h
 obtain ⟨⟨⟨⟨⟨⟨⟨⟨⟨⟨⟨⟨⟨⟨⟨h1,h2⟩,h3⟩,h4⟩,h5⟩,h6⟩,h7⟩,h8⟩,h9⟩,h10⟩,h11⟩,h12⟩,h13⟩,h14⟩,h15⟩,h16⟩:=h
 exact ⟨h1,h2,h3,h4,h5,h6,h7,h8,h9,h10,h11,h12,h13,h14,h15,h16⟩
theorem eT (h:bP G=true∧bP A0=true∧bP A_=true∧(0≤B_∧B_≤999)∧(0≤A7∧A7≤999)∧iX vi D G op A7 A9=true∧aAh fr fh=true∧(0≤A5∧A5≤3)∧eR A8=true∧gC A4=true∧(0≤O∧O≤1000000060)∧(0≤A6∧A6≤1000000060)∧(!decide (O=0) || sH A0)=true∧(Z.length:Int)≤40∧Z.all pr=true∧uT D Z A6 A_=true) :
  cF (vi,D,G,B_,op,A7,A9,fr,fh,A5,A8,A4,O,A0,Z,A6,A_)=true:=by
 obtain ⟨h1,h2,h3,h4,h5,h6,h7,h8,h9,h10,h11,h12,h13,h14,h15,h16⟩:=h
 unfold cF
 simp only [Bool.and_eq_true,decide_eq_true_eq]
 exact ⟨⟨⟨⟨⟨⟨⟨⟨⟨⟨⟨⟨⟨⟨⟨h1,h2⟩,h3⟩,h4⟩,h5⟩,h6⟩,h7⟩,h8⟩,h9⟩,h10⟩,h11⟩,h12⟩,h13⟩,h14⟩,h15⟩,h16⟩
theorem kX {u:List (List Int×Int)} (h:gC u=true):u.length≤20∧∀ s ∈ u,bP s=true:=by
 unfold gC at h
 simp only [Bool.and_eq_true,decide_eq_true_eq,List.all_eq_true] at h
 exact ⟨h.2,h.1⟩
theorem aCt (h:cF (vi,D,G,B_,op,A7,A9,fr,fh,A5,A8,A4,O,A0,Z,A6,A_)=true):oV 400 (vi,D,G,B_,op,A7,A9,fr,fh,A5,A8,A4,O,A0,Z,A6,A_):=by
 obtain ⟨h1,h2,h3,h4,h5,h6,h7,h8,h9,h10,h11,h12,h13,h14,h15,h16⟩:=cO h
 obtain ⟨r1,r2⟩:=gX h9
 obtain ⟨u1,u2⟩:=kX h10
 exact ⟨(bF h1).2.2,⟨by omega,fun s hs=>gO (r2 s hs).1⟩,⟨by omega,fun s hs=>(bF (u2 s hs)).2.2⟩,(bF h2).2.2,by omega,(bF h3).2.2⟩
theorem aM3:oV 400 zEd:=⟨by simp,⟨by simp,by simp⟩,⟨by simp,by simp⟩,by simp,by simp,by simp⟩
end
theorem aL0 {u:List (List Int×Int)} {l:List Int×Int} (hu:gC u=true) (hl:bP l=true):gC (aKm u l)=true:=by
 obtain ⟨u1,u2⟩:=kX hu
 have hm:∀ s ∈ u ++ [l],bP s=true:=by
  intro s hs
  rcases List.mem_append.1 hs with hs | hs
  ·
   exact u2 s hs
  ·
   simp only [List.mem_singleton] at hs;subst hs;exact hl
 unfold aKm
 split
 ·
  exact hu
 ·
  split
  ·
   unfold gC
   simp only [Bool.and_eq_true,decide_eq_true_eq,List.all_eq_true]
   exact ⟨fun s hs=>hm s (List.mem_of_mem_drop hs),by simp;omega⟩
  ·
   unfold gC
   simp only [Bool.and_eq_true,decide_eq_true_eq,List.all_eq_true]
   exact ⟨hm,by simp;omega⟩
theorem aLy {G l:List Int×Int} {A4:List (List Int×Int)} {A5 nl:Int} (hu:gC A4=true) (hl:bP G=true):gC (aQ2 G l A4 A5 nl)=true:=by
 unfold aQ2
 split
 ·
  exact aL0 hu hl
 ·
  exact hu
theorem aAn {D:Int} {l:List Int×Int} (h:bP l=true):0≤jA D l∧jA D l≤(l.1.length:Int):=by
 obtain ⟨a,b,_⟩:=bF h
 unfold jA
 split <;> omega
theorem aAm {D:Int} {l:List Int×Int} (h:bP l=true):bP (l.1,jA D l)=true:=iY (eL h) (aAn h).1 (aAn h).2
section
variable (vi:Bool) (D:Int) (G:List Int×Int) (B_ op A7 A9 fr fh A5:Int) (A8:List (List Int)) (A4:List (List Int×Int)) (O:Int) (A0:List Int×Int) (Z:List Int) (A6:Int) (A_:List Int×Int)
  (hv:cF (vi,D,G,B_,op,A7,A9,fr,fh,A5,A8,A4,O,A0,Z,A6,A_)=true)
include hv
theorem uX (l:List Int×Int) (hl:bP l=true):iX vi D (l.1,jA D l) 0 0 0=true:=by
 obtain ⟨h1,h2,h3,h4,h5,h6,h7,h8,h9,h10,h11,h12,h13,h14,h15,h16⟩:=cO hv
 obtain ⟨p0,p1,p2⟩:=bF hl
 unfold iX at h6 ⊢
 simp only [Bool.and_eq_true,decide_eq_true_eq] at h6 ⊢
 obtain ⟨⟨⟨a1,a2,a3,a4,a5,a6,a7,a8⟩,_⟩,_⟩:=h6
 refine ⟨⟨⟨a1,a2,a3,a4,a5,fun hm=>?_,by simp,by simp⟩,by decide⟩,by decide⟩
 unfold uH jA
 by_cases c:D=2∧l.2=(l.1.length:Int)∧0<l.2
 ·
  rw [if_pos c]
  have:¬ (l.2 - 1=(l.1.length:Int)):=by omega
  simp [this]
 ·
  rw [if_neg c]
  by_cases e:l.2=(l.1.length:Int)
  ·
   have:¬ 0<(l.1.length:Int):=by
    intro hp;exact c ⟨hm,e,by omega⟩
   rw [decide_eq_false this];rfl
  ·
   rw [decide_eq_false e];simp
theorem aN3:jA D G=G.2:=by
 obtain ⟨h1,h2,h3,h4,h5,h6,h7,h8,h9,h10,h11,h12,h13,h14,h15,h16⟩:=cO hv
 obtain ⟨p0,p1,p2⟩:=bF h1
 unfold iX at h6
 simp only [Bool.and_eq_true,decide_eq_true_eq] at h6
 obtain ⟨⟨⟨a1,a2,a3,a4,a5,a6,a7,a8⟩,_⟩,_⟩:=h6
 unfold jA
 split
 ·
  rename_i c
  have:=a6 c.1
  unfold uH at this
  have e1:0<(G.1.length:Int):=by omega
  rw [decide_eq_true e1,decide_eq_true c.2.1] at this
  cases this
 ·
  rfl
theorem aBg (nl:Int) (hn:0≤nl∧nl≤3):cF (jU nl (vi,D,G,B_,op,A7,A9,fr,fh,A5,A8,A4,O,A0,Z,A6,A_))=true:=by
 obtain ⟨h1,h2,h3,h4,h5,h6,h7,h8,h9,h10,h11,h12,h13,h14,h15,h16⟩:=cO hv
 have:=uX vi D G B_ op A7 A9 fr fh A5 A8 A4 O A0 Z A6 A_ hv G h1
 rw [aN3 vi D G B_ op A7 A9 fr fh A5 A8 A4 O A0 Z A6 A_ hv] at this
 exact eT ⟨h1,h2,h3,by omega,by omega,this,h7,hn,h9,h10,h11,h12,h13,h14,h15,h16⟩
theorem aQ3 (l:List Int×Int) (hl:bP l=true) (nl:Int) (hn:0≤nl∧nl≤3):cF (rJ l nl (vi,D,G,B_,op,A7,A9,fr,fh,A5,A8,A4,O,A0,Z,A6,A_))=true:=by
 obtain ⟨h1,h2,h3,h4,h5,h6,h7,h8,h9,h10,h11,h12,h13,h14,h15,h16⟩:=cO hv
 exact eT ⟨aAm hl,h2,h3,by omega,by omega,uX vi D G B_ op A7 A9 fr fh A5 A8 A4 O A0 Z A6 A_ hv l hl,h7,hn,h9,aLy h10 h1,h11,h12,h13,h14,h15,h16⟩
theorem aHz (r:List (List Int)) (hr:eR r=true):cF (aBk r (vi,D,G,B_,op,A7,A9,fr,fh,A5,A8,A4,O,A0,Z,A6,A_))=true:=by
 obtain ⟨h1,h2,h3,h4,h5,h6,h7,h8,h9,h10,h11,h12,h13,h14,h15,h16⟩:=cO hv
 exact eT ⟨h1,h2,h3,h4,h5,h6,h7,h8,hr,h10,h11,h12,h13,h14,h15,h16⟩
theorem aGz:cK (vi,D,G,B_,op,A7,A9,fr,fh,A5,A8,A4,O,A0,Z,A6,A_)=some (vi,D,G,B_,op,A7,A9,fr,fh,A5,A8,A4,O,A0,Z,A6,A_):=by
 obtain ⟨h1,⟨h2,h3⟩,⟨h4,h5⟩,h6,h7,h8⟩:=oL (M:=1048576) (by omega) (aCt hv)
 exact aJb vi D G B_ op A7 A9 fr fh A5 A8 A4 O A0 Z A6 A_ h1 h2 h3 h4 h5 h6 h7 h8
theorem tN (nl:Int):eE (vi,D,G,B_,op,A7,A9,fr,fh,A5,A8,A4,O,A0,Z,A6,A_) nl=some (jU nl (vi,D,G,B_,op,A7,A9,fr,fh,A5,A8,A4,O,A0,Z,A6,A_)):=by
 unfold eE
 rw [aP (aGz vi D G B_ op A7 A9 fr fh A5 A8 A4 O A0 Z A6 A_ hv)]
 rfl
theorem aQa:cR (vi,D,G,B_,op,A7,A9,fr,fh,A5,A8,A4,O,A0,Z,A6,A_)=some (jU 0 (vi,D,G,B_,op,A7,A9,fr,fh,A5,A8,A4,O,A0,Z,A6,A_),1):=by
 unfold cR
 rw [aP (tN vi D G B_ op A7 A9 fr fh A5 A8 A4 O A0 Z A6 A_ hv 0)]
theorem aLx (l:List Int×Int) (hl:bP l=true) (nl:Int):mB (vi,D,G,B_,op,A7,A9,fr,fh,A5,A8,A4,O,A0,Z,A6,A_) l nl=some (rJ l nl (vi,D,G,B_,op,A7,A9,fr,fh,A5,A8,A4,O,A0,Z,A6,A_)):=by
 obtain ⟨h1,h2,h3,h4,h5,h6,h7,h8,h9,h10,h11,h12,h13,h14,h15,h16⟩:=cO hv
 obtain ⟨p0,p1,p2⟩:=bF hl
 obtain ⟨q0,q1,q2⟩:=bF h1
 obtain ⟨u1,u2⟩:=kX h10
 unfold mB
 rw [aP (tN vi D G B_ op A7 A9 fr fh A5 A8 A4 O A0 Z A6 A_ hv nl)]
 simp only [aF,aT,jU,rJ]
 rw [aJ8 _ _ (by omega),fY (l.1,l.2) (by simp only;omega)]
 rw [aMw A4 G h10 h1 (by omega) (fun s h=>by have:=(bF (u2 s h)).2.2;omega) (by omega)]
 have hS:∀ (X Y:Option EdT),(bif (bif (!(decide (l.1=G.1))) then (!(bif (decide (nl=1)) then (decide (A5=1)) else false)) else false) then X else Y)=if G.1≠l.1∧¬ (nl=1∧A5=1) then X else Y:=by
  intro X Y
  by_cases a:G.1=l.1
  ·
   by_cases b:nl=1 <;> by_cases c:A5=1 <;> simp [a,b,c]
  ·
   have a':¬ l.1=G.1:=fun h=>a h.symm
   by_cases b:nl=1 <;> by_cases c:A5=1 <;> simp [a,a',b,c]
 have hc:=sZ (l.1,l.2) D (by simp only;omega)
 simp only [hS,hc]
 unfold aQ2
 by_cases hq:G.1≠l.1∧¬ (nl=1∧A5=1)
 ·
  simp only [if_pos hq]
 ·
  simp only [if_neg hq]
theorem aR6 (l:List Int×Int) (hl:bP l=true):eX (vi,D,G,B_,op,A7,A9,fr,fh,A5,A8,A4,O,A0,Z,A6,A_) l=some (rJ l 0 (vi,D,G,B_,op,A7,A9,fr,fh,A5,A8,A4,O,A0,Z,A6,A_),0):=by
 unfold eX
 rw [aP (aLx vi D G B_ op A7 A9 fr fh A5 A8 A4 O A0 Z A6 A_ hv l hl 0)]
end
def hOk (h:Int×List (List UInt8)):Bool:=decide (1≤h.1∧h.1≤1000000000∧(h.2.length:Int)≤60) && h.2.all fun s=>decide (1≤(s.length:Int)∧(s.length:Int)≤1000)
theorem aF1 (h:Int×List (List UInt8)) (hl:(h.2.length:Int)≤1048576) (b:Bool):∀ (m:Nat) (k:Int),0≤k→k≤(h.2.length:Int)→(h.2.length:Int) - k<m→0<m →
  aZ (mS h fun _=>some b) m k=some (b && (h.2.drop k.toNat).all fun s=>decide (1≤(s.length:Int)∧(s.length:Int)≤1000)):=by
 intro m
 induction m with
 | zero=>intro k _ _ _ h';omega
 | succ m ih=>
  intro k hk hk' hm _
  simp only [aZ,mS,aN,Bool.cond_decide]
  by_cases h1:k<(h.2.length:Int)
  ·
   rw [if_pos h1,if_pos ⟨hk,h1⟩,bV (by omega) (by omega),fW hk h1,ih _ (by omega) (by omega) (by omega) (by omega),List.all_cons]
   by_cases c1:((at' h.2 k).length:Int)<1
   ·
    have:¬ (1≤((at' h.2 k).length:Int)∧((at' h.2 k).length:Int)≤1000):=by omega
    rw [decide_eq_false this]
    simp [c1]
   ·
    by_cases c2:1000<((at' h.2 k).length:Int)
    ·
     have:¬ (1≤((at' h.2 k).length:Int)∧((at' h.2 k).length:Int)≤1000):=by omega
     rw [decide_eq_false this]
     simp [c1,c2]
    ·
     have:(1≤((at' h.2 k).length:Int)∧((at' h.2 k).length:Int)≤1000):=by omega
     rw [decide_eq_true this]
     simp [c1,c2]
  ·
   rw [if_neg h1,List.drop_eq_nil_of_le (by omega)]
   simp
theorem aCw (h:Int×List (List UInt8)) (hl:(h.2.length:Int)≤1048576):jM h=some (hOk h):=by
 unfold jM
 simp only [aT]
 rw [aF1 h hl _ bO 0 (by omega) (by omega) (by rw [bQ];omega) (by rw [bQ];omega)]
 unfold hOk
 simp only [Int.toNat_zero,List.drop_zero]
 congr 2
 by_cases c1:1≤h.1 <;> by_cases c2:h.1≤1000000000 <;> by_cases c3:(h.2.length:Int)≤60 <;> simp [c1,c2,c3]
theorem aGr (h:Int×List (List UInt8)) (hl:(h.2.length:Int)≤1048576):∀ (m:Nat) (k:Int),0≤k→k≤(h.2.length:Int)→(h.2.length:Int) - k<m→0<m →
  aZ (nF h fun _=>some true) m k=some ((h.2.drop k.toNat).all fun s=>decide (1≤(s.length:Int)∧(s.length:Int)≤1000)):=by
 intro m
 induction m with
 | zero=>intro k _ _ _ h';omega
 | succ m ih=>
  intro k hk hk' hm _
  simp only [aZ,nF,aN,Bool.cond_decide,dH,aF]
  by_cases h1:k<(h.2.length:Int)
  ·
   rw [if_pos h1,if_pos ⟨hk,h1⟩,bV (by omega) (by omega),fW hk h1,ih _ (by omega) (by omega) (by omega) (by omega),List.all_cons]
   by_cases c1:1≤((at' h.2 k).length:Int) <;> by_cases c2:((at' h.2 k).length:Int)≤1000 <;> simp only [c1,c2,and_self,and_true,and_false,false_and,true_and,decide_true,decide_false,if_true,if_false,Bool.not_true,Bool.not_false,cond_true,cond_false,Bool.true_and,Bool.false_and]
  ·
   rw [if_neg h1,List.drop_eq_nil_of_le (by omega)]
   simp
theorem uZ (h:Int×List (List UInt8)) (hl:(h.2.length:Int)≤1048576):lQ h=some (hOk h):=by
 unfold lQ dH
 simp only [aT,aF,Bool.cond_decide]
 rw [aGr h hl bO 0 (by omega) (by omega) (by rw [bQ];omega) (by rw [bQ];omega)]
 unfold hOk
 simp only [Int.toNat_zero,List.drop_zero]
 by_cases c1:1≤h.1 <;> by_cases c2:h.1≤1000000000 <;> by_cases c3:(h.2.length:Int)≤60
 all_goals first
  | (have c4:¬ (60<(h.2.length:Int)):=by omega);simp [c1,c2,c3,c4]
  | (have c4:60<(h.2.length:Int):=by omega);simp [c1,c2,c3,c4]
theorem qM {h:Int×List (List UInt8)} (hh:hOk h=true):1≤h.1∧h.1≤1000000000∧(h.2.length:Int)≤60∧∀ s ∈ h.2,1≤(s.length:Int)∧(s.length:Int)≤1000:=by
 unfold hOk at hh
 simp only [Bool.and_eq_true,decide_eq_true_eq,List.all_eq_true] at hh
 exact ⟨hh.1.1,hh.1.2.1,hh.1.2.2,hh.2⟩
def fV (h:Int×List (List UInt8)):Int:=if hOk h=true∧0<h.2.length then h.1+h.2.length - 1 else 0
def rB (h:Int×List (List UInt8)) (n:Int):List UInt8×Bool:=if hOk h=true∧h.1≤n∧n<h.1+h.2.length then (at' h.2 (n - h.1),true) else ([],false)
theorem aDx (h:Int×List (List UInt8)) (hl:(h.2.length:Int)≤1048576):jT h=some (fV h):=by
 unfold jT
 rw [aP (uZ h hl)]
 unfold fV
 cases hh:hOk h with
 | false=>simp
 | true=>
  obtain ⟨h1,h2,h3,_⟩:=qM hh
  simp only [Bool.cond_decide,Bool.not_true,cond_false]
  rw [bV (x:=h.1+(h.2.length:Int)) (by omega) (by omega),bV (by omega) (by omega)]
  by_cases h0:(h.2.length:Int)=0
  ·
   have:¬ (0<h.2.length):=by omega
   simp [h0,this]
  ·
   have:0<h.2.length:=by omega
   simp only [h0,this,if_false,and_self,if_true]
theorem aA9 (h:Int×List (List UInt8)) (hl:(h.2.length:Int)≤1048576) (n:Int) (hn:-9223372036854775808≤n∧n≤9223372036854775807):jJ h n=some (rB h n):=by
 unfold jJ
 rw [aP (uZ h hl)]
 unfold rB
 cases hh:hOk h with
 | false=>simp [cA,aF]
 | true=>
  obtain ⟨h1,h2,h3,_⟩:=qM hh
  simp only [Bool.cond_decide,Bool.not_true,cond_false,cA,if_true,dH,aF,aN,true_and]
  rw [bV (x:=h.1+(h.2.length:Int)) (by omega) (by omega),bV (x:=h.1+(h.2.length:Int) - 1) (by omega) (by omega)]
  by_cases c1:h.1≤n
  ·
   rw [bV (x:=n - h.1) (by omega) (by omega)]
   by_cases c2:n<h.1+h.2.length
   ·
    have d3:n≤h.1+(h.2.length:Int) - 1:=by omega
    have d4:0≤n - h.1∧n - h.1<(h.2.length:Int):=by omega
    simp [c1,c2,d3,d4]
   ·
    have d3:¬ (n≤h.1+(h.2.length:Int) - 1):=by omega
    simp [c1,c2,d3]
  ·
   simp [c1]
def aCe (r:Int):List Int:=
 if ¬ (0≤r∧r≤1114111∧(r<55296∨57343<r)) then [] else
 if r<128 then [r] else if r<2048 then [192+r / 64,128+r % 64]
 else if r<65536 then [224+r / 4096,128+r / 64 % 64,128+r % 64]
 else [240+r / 262144,128+r / 4096 % 64,128+r / 64 % 64,128+r % 64]
def enc (r:Int):List UInt8:=(aCe r).map u8
theorem td {a b:Int} (h:0≤a):Int.tdiv a b=a / b:=Int.tdiv_eq_ediv_of_nonneg h
theorem tm {a b:Int} (h:0≤a):Int.tmod a b=a % b:=Int.tmod_eq_emod_of_nonneg h
theorem aOg {x:Int} (h:0≤x) (h2:x<256):((u8 x).toNat:Int)=x:=by
  simp [u8];omega
theorem aQs (x:UInt8):u8 (x.toNat:Int)=x:=by
 have:x.toNat<256:=x.toNat_lt
 apply UInt8.toNat_inj.1
 have:=aOg (x:=(x.toNat:Int)) (by omega) (by omega)
 omega
theorem aO9:∀ (l:List Int) (bs:List UInt8),(∀ x ∈ l,0≤x∧x<256)→(l.map u8=bs ↔ l=bs.map (fun b=>(b.toNat:Int)))
 | [],[],_=>by simp
 | [],b :: bs,_=>by simp
 | x :: l,[],_=>by simp
 | x :: l,b :: bs,h=>by
  have hx:=h x (by simp)
  have ih:=aO9 l bs (fun y hy=>h y (by simp [hy]))
  simp only [List.map_cons,List.cons.injEq,ih]
  constructor
  ·
   rintro ⟨h1,h2⟩
   refine ⟨?_,h2⟩
   rw [← h1,aOg hx.1 hx.2]
  ·
   rintro ⟨h1,h2⟩
   refine ⟨?_,h2⟩
   rw [h1,aQs]
theorem aLe (r:Int):∀ x ∈ aCe r,0≤x∧x<256:=by
 intro x
 unfold aCe
 split
 ·
  simp
 ·
  split
  ·
   simp;omega
  ·
   split
   ·
    simp;omega
   ·
    split
    ·
     simp;omega
    ·
     simp;omega
theorem aGw (r:Int) (bs:List UInt8):enc r=bs ↔ aCe r=bs.map (fun b=>(b.toNat:Int)):=aO9 _ _ (aLe r)
theorem aRs (r:Int):(enc r).length≤4:=by
 unfold enc aCe
 split
 ·
  simp
 ·
  split
  ·
   simp
  ·
   split
   ·
    simp
   ·
    split <;> simp
def r2 (x y:Int):Int:=(x - 192)*64+y - 128
def r3 (x y z:Int):Int:=((x - 224)*64+y - 128)*64+z - 128
def r4 (x y z v:Int):Int:=(((x - 240)*64+y - 128)*64+z - 128)*64+v - 128
def E2 (x y:Int):Prop:=194≤x∧x≤223∧128≤y∧y≤191
instance (x y:Int):Decidable (E2 x y):=by unfold E2;infer_instance
def E3 (x y z:Int):Prop:=(224≤x∧x≤239∧128≤y∧y≤191∧128≤z∧z≤191)∧2048≤r3 x y z∧(r3 x y z<55296∨57343<r3 x y z)
instance (x y z:Int):Decidable (E3 x y z):=by unfold E3;infer_instance
def E4 (x y z v:Int):Prop:=(240≤x∧x≤247∧128≤y∧y≤191∧128≤z∧z≤191∧128≤v∧v≤191)∧65536≤r4 x y z v∧r4 x y z v≤1114111
instance (x y z v:Int):Decidable (E4 x y z v):=by unfold E4;infer_instance
theorem aTq {x y:Int} (h:0≤x∧x<256∧0≤y∧y<256):aCe (r2 x y)=[x,y] ↔ E2 x y:=by
 unfold E2
 generalize hr:r2 x y=r
 unfold r2 at hr
 unfold aCe
 split
 ·
  simp;omega
 ·
  split
  ·
   simp;omega
  ·
   split
   ·
    simp only [List.cons.injEq,and_true];omega
   ·
    split <;> (simp;try omega)
theorem aTp {x y z:Int} (h:0≤x∧x<256∧0≤y∧y<256∧0≤z∧z<256):aCe (r3 x y z)=[x,y,z] ↔ E3 x y z:=by
 unfold E3
 generalize hr:r3 x y z=r
 unfold r3 at hr
 unfold aCe
 split
 ·
  simp;omega
 ·
  split
  ·
   simp;omega
  ·
   split
   ·
    simp;omega
   ·
    split
    ·
     simp only [List.cons.injEq,and_true];omega
    ·
     simp;omega
theorem aTo {x y z v:Int} (h:0≤x∧x<256∧0≤y∧y<256∧0≤z∧z<256∧0≤v∧v<256):aCe (r4 x y z v)=[x,y,z,v] ↔ E4 x y z v:=by
 unfold E4
 generalize hr:r4 x y z v=r
 unfold r4 at hr
 unfold aCe
 split
 ·
  simp;omega
 ·
  split
  ·
   simp;omega
  ·
   split
   ·
    simp;omega
   ·
    split
    ·
     simp;omega
    ·
     simp only [List.cons.injEq,and_true];omega
def bi (s:List UInt8) (i:Int):Int:=((at' s i).toNat:Int)
def rd (s:List UInt8):Int×Int:=
 if s.length<1 then (0,0) else
 if bi s 0<128 then (bi s 0,1) else
 if s.length<2 then (0,0) else
 if E2 (bi s 0) (bi s 1) then (r2 (bi s 0) (bi s 1),2) else
 if s.length<3 then (0,0) else
 if E3 (bi s 0) (bi s 1) (bi s 2) then (r3 (bi s 0) (bi s 1) (bi s 2),3) else
 if s.length<4 then (0,0) else
 if E4 (bi s 0) (bi s 1) (bi s 2) (bi s 3) then (r4 (bi s 0) (bi s 1) (bi s 2) (bi s 3),4) else (0,0)
theorem aCk {α:Type} [Inhabited α] {b:List α} {a:Int} (h0:0≤a) (i:Int) (hi:0≤i):at' b (a+i)=at' (b.drop a.toNat) i:=by
 unfold at'
 have:(a+i).toNat=a.toNat+i.toNat:=by omega
 rw [this]
 simp [List.getD_eq_getElem?_getD,List.getElem?_drop]
theorem aQe {α:Type} [Inhabited α] {b:List α} {a:Int} (h0:0≤a):at' b a=at' (b.drop a.toNat) 0:=by
 have:=aCk (b:=b) h0 0 (by omega)
 simpa using this
theorem aCr {α:Type} {b:List α} {a n:Int} (h0:0≤a) (hn:0≤n):bJ b a (a+n)=(b.drop a.toNat).take n.toNat:=by
 unfold bJ
 congr 1
 omega
theorem pL (x:UInt8):0≤(x.toNat:Int)∧(x.toNat:Int)<256:=by
 have:x.toNat<256:=x.toNat_lt
 omega
section
variable {b:List UInt8} {a:Int} (h0:0≤a) (hl:(b.length:Int)≤100000000)
include h0 hl
def vl (b:List UInt8) (a n:Int):Int:=
 if n=1 then (at' b a).toNat
 else if n=2 then r2 (at' b a).toNat (at' b (a+1)).toNat
 else if n=3 then r3 (at' b a).toNat (at' b (a+1)).toNat (at' b (a+2)).toNat
 else r4 (at' b a).toNat (at' b (a+1)).toNat (at' b (a+2)).toNat (at' b (a+3)).toNat
end
theorem aOr (r:Int):lO r=some (decide (0≤r∧r≤1114111∧(r<55296∨57343<r))):=by
 unfold lO
 simp only [yC,aF,cA]
 by_cases h1:0≤r∧r≤1114111
 ·
  rw [decide_eq_true h1]
  simp only [cond_true,if_true]
  by_cases h2:r<55296
  ·
   have:¬ (55296≤r∧r≤57343):=by omega
   simp [h1,h2,this]
  ·
   by_cases h3:57343<r
   ·
    have:¬ (55296≤r∧r≤57343):=by omega
    simp [h1,h2,h3,this]
   ·
    have:(55296≤r∧r≤57343):=by omega
    simp [h1,h2,h3,this]
 ·
  have:¬ (0≤r∧r≤1114111∧(r<55296∨57343<r)):=fun h=>h1 ⟨h.1,h.2.1⟩
  rw [decide_eq_false h1,decide_eq_false this]
  simp
theorem aBh (r:Int):iQ r=some (enc r):=by
 unfold iQ enc aCe
 rw [aP (aOr r)]
 by_cases h:0≤r∧r≤1114111∧(r<55296∨57343<r)
 ·
  have h0:=h.1
  have h00:0≤r / 64:=by omega
  have h01:0≤r / 4096:=by omega
  simp only [h,decide_true,Bool.not_true,cond_false,not_true,if_false,Bool.cond_decide,td h0,tm h0]
  rw [bV (x:=r / 64) (by omega) (by omega),bV (x:=r / 4096) (by omega) (by omega),bV (x:=r / 262144) (by omega) (by omega),tm h00,tm h01]
  rw [bV (x:=192+r / 64) (by omega) (by omega),bV (x:=128+r % 64) (by omega) (by omega),bV (x:=224+r / 4096) (by omega) (by omega),bV (x:=128+r / 64 % 64) (by omega) (by omega),bV (x:=240+r / 262144) (by omega) (by omega),bV (x:=128+r / 4096 % 64) (by omega) (by omega)]
  split
  ·
   rfl
  ·
   split
   ·
    rfl
   ·
    split <;> rfl
 ·
  simp only [h,decide_false,Bool.not_false,cond_true,not_false_eq_true,if_true,List.map_nil]
section
variable {b:List UInt8} {a:Int} (h0:0≤a) (hl:(b.length:Int)≤100000000)
include h0 hl
theorem rK (n:Int) (hn:2≤n) (hn4:n≤4) (han:a+n≤(b.length:Int)) (j:Int→Option (Int×Int)) (m:Nat):∀ (r i:Int),0≤i→i≤n - 1→(-100000000≤r∧r≤100000000) →
  aZ (fC b a n j) (m+1) (r,i)=if i<n - 1 then aZ (fC b a n j) m (r*64+((at' b (a+1+i)).toNat:Int) - 128,i+1) else j r:=by
 intro r i hi hin hr
 have e1:W (a+1)=a+1:=bV (by omega) (by omega)
 have e2:W (a+n)=a+n:=bV (by omega) (by omega)
 have hsl:((bJ b (a+1) (a+n)).length:Int)=n - 1:=by rw [rI (by omega)];omega
 simp only [aZ,fC,aN,Bool.cond_decide,e1,e2,hsl]
 by_cases h:i<n - 1
 ·
  have ea:at' (bJ b (a+1) (a+n)) i=at' b (a+1+i):=by
   unfold at' bJ
   have q:(a+1+i).toNat=(a+1).toNat+i.toNat:=by omega
   rw [q]
   simp only [List.getD_eq_getElem?_getD,List.getElem?_take,List.getElem?_drop]
   rw [if_pos (by omega)]
  have hb:=pL (at' b (a+1+i))
  rw [if_pos h,if_pos h,if_pos ⟨hi,h⟩,ea]
  rw [bV (x:=r*64) (by omega) (by omega),bV (x:=r*64+_) (by omega) (by omega),bV (x:=r*64+_ - 128) (by omega) (by omega),bV (x:=i+1) (by omega) (by omega)]
 ·
  rw [if_neg h,if_neg h]
theorem aSl (n v0:Int) (hn:2≤n) (hn4:n≤4) (han:a+n≤(b.length:Int)) (hv:v0=(at' b a).toNat - (if n=2 then 192 else if n=3 then 224 else 240)) (j:Int→Option (Int×Int)) :
  aZ (fC b a n j) bO (v0,0)=j (vl b a n):=by
 obtain ⟨m,hm⟩:∃ m,bO=m+1+1+1+1:=⟨bO - 4,by rw [bQ]⟩
 rw [hm]
 subst hv
 have b0:=pL (at' b a)
 have b1:=pL (at' b (a+1))
 have b2:=pL (at' b (a+2))
 have b3:=pL (at' b (a+3))
 have b4:=pL (at' b (a+1+0))
 have b5:=pL (at' b (a+1+1))
 have b6:=pL (at' b (a+1+2))
 have q0:a+1+0=a+1:=by omega
 have q1:a+1+1=a+2:=by omega
 have q2:a+1+2=a+3:=by omega
 have z1:(0:Int)+1=1:=rfl
 have z2:(1:Int)+1=2:=rfl
 have z3:(2:Int)+1=3:=rfl
 have hc:n=2∨n=3∨n=4:=by omega
 rcases hc with rfl | rfl | rfl
 ·
  rw [if_pos rfl,rK h0 hl _ hn hn4 han _ _ _ _ (by omega) (by omega) (by omega),if_pos (by omega),z1,rK h0 hl _ hn hn4 han _ _ _ _ (by omega) (by omega) (by omega),if_neg (by omega),q0]
  rfl
 ·
  rw [if_neg (by omega),if_pos rfl,rK h0 hl _ hn hn4 han _ _ _ _ (by omega) (by omega) (by omega),if_pos (by omega),z1,rK h0 hl _ hn hn4 han _ _ _ _ (by omega) (by omega) (by omega),if_pos (by omega),z2,rK h0 hl _ hn hn4 han _ _ _ _ (by omega) (by omega) (by omega),if_neg (by omega),q0,q1]
  rfl
 ·
  rw [if_neg (by omega),if_neg (by omega),rK h0 hl _ hn hn4 han _ _ _ _ (by omega) (by omega) (by omega),if_pos (by omega),z1,rK h0 hl _ hn hn4 han _ _ _ _ (by omega) (by omega) (by omega),if_pos (by omega),z2,rK h0 hl _ hn hn4 han _ _ _ _ (by omega) (by omega) (by omega),if_pos (by omega),z3,rK h0 hl _ hn hn4 han _ _ _ _ (by omega) (by omega) (by omega),if_neg (by omega),q0,q1,q2]
  rfl
theorem aOw (n v0:Int) (hn:2≤n) (hn4:n≤4) (ha:a<(b.length:Int)) (hv:v0=(at' b a).toNat - (if n=2 then 192 else if n=3 then 224 else 240)) :
  (bif (decide ((W ((b.length:Int) - n))<a)) then
   some ((0:Int),(0:Int))
   else
   (aN (0≤(W (a+1))∧(W (a+1))≤(W (a+n))∧(W (a+n))≤(b.length:Int)) <|
   (aT (fun (x38:Int)=>
   (aF (iQ x38) fun (y42:List UInt8)=>
   (aN (0≤a∧a≤(W (a+n))∧(W (a+n))≤(b.length:Int)) <|
   (bif (!(decide (y42=(bJ b a (W (a+n)))))) then
   some (0,0)
   else
   some (x38,n))))) fun j39=>
   (aZ (fC b a n j39) bO (v0,0)))))=some (if a+n≤(b.length:Int)∧enc (vl b a n)=bJ b a (a+n) then (vl b a n,n) else (0,0)):=by
 rw [bV (x:=(b.length:Int) - n) (by omega) (by omega),bV (x:=a+1) (by omega) (by omega),bV (x:=a+n) (by omega) (by omega)]
 by_cases c:(b.length:Int) - n<a
 ·
  rw [decide_eq_true c,if_neg (by omega)];rfl
 ·
  rw [decide_eq_false c,cond_false]
  simp only [aN,aT,aBh,aF]
  rw [if_pos (by omega),aSl h0 hl n v0 hn hn4 (by omega) hv,if_pos (by omega)]
  by_cases h:enc (vl b a n)=bJ b a (a+n)
  ·
   rw [if_pos ⟨by omega,h⟩];simp [h]
  ·
   rw [if_neg (fun q=>h q.2)];simp [h]
theorem aKb (ha:a<(b.length:Int)):pF b a=some (rd (b.drop a.toNat)):=by
 unfold pF
 have e0:decide (a<0)=false:=by simp;omega
 have e1:decide ((b.length:Int)≤a)=false:=by simp;omega
 have b0:=pL (at' b a)
 rw [e0,e1]
 simp only [cond_false,yC]
 have g:0≤a∧a<(b.length:Int):=⟨h0,ha⟩
 rw [show ∀ k:Option (Int×Int),aN (0≤a∧a<(b.length:Int)) k=k from fun k=>if_pos g]
 have j1:∀ (f:Int×Int→Option (Int×Int)) (B:(Int×Int→Option (Int×Int))→Option (Int×Int)),aT f B=B f:=fun _ _=>rfl
 rw [j1]
 rw [bV (x:=((at' b a).toNat:Int) - 192) (by omega) (by omega),bV (x:=((at' b a).toNat:Int) - 224) (by omega) (by omega),bV (x:=((at' b a).toNat:Int) - 240) (by omega) (by omega)]
 have bS:∀ (x:Bool) (k:Bool→Option (Int×Int)),aF (some x) k=k x:=fun _ _=>rfl
 simp only [bS]
 have m2:=fun v=>aOw h0 hl 2 v (by omega) (by omega) ha
 have m3:=fun v=>aOw h0 hl 3 v (by omega) (by omega) ha
 have m4:=fun v=>aOw h0 hl 4 v (by omega) (by omega) ha
 have hL:(b.length:Int)=a+((b.drop a.toNat).length:Int):=by simp;omega
 have s2:=aCr (b:=b) (n:=2) h0 (by omega)
 have s3:=aCr (b:=b) (n:=3) h0 (by omega)
 have s4:=aCr (b:=b) (n:=4) h0 (by omega)
 have t0:=aQe (b:=b) h0
 have t1:=aCk (b:=b) h0 1 (by omega)
 have t2:=aCk (b:=b) h0 2 (by omega)
 have t3:=aCk (b:=b) h0 3 (by omega)
 have v2:vl b a 2=r2 (at' b a).toNat (at' b (a+1)).toNat:=rfl
 have v3:vl b a 3=r3 (at' b a).toNat (at' b (a+1)).toNat (at' b (a+2)).toNat:=rfl
 have v4:vl b a 4=r4 (at' b a).toNat (at' b (a+1)).toNat (at' b (a+2)).toNat (at' b (a+3)).toNat:=rfl
 have hne:0<(b.drop a.toNat).length:=by simp;omega
 by_cases c0:((at' b a).toNat:Int)<128
 ·
  rw [decide_eq_true c0,cond_true]
  rw [t0] at c0 ⊢
  unfold rd bi
  rw [if_neg (show ¬ (List.drop a.toNat b).length<1 by omega),if_pos c0]
 ·
  rw [decide_eq_false c0,cond_false]
  by_cases c2:192≤((at' b a).toNat:Int)∧((at' b a).toNat:Int)≤223
  ·
   rw [decide_eq_true c2,cond_true,m2 _ (by simp),s2,v2,t1]
   rw [t0] at c0 c2 ⊢
   rw [hL]
   generalize b.drop a.toNat=s at *
   congr 1
   unfold rd bi
   rw [if_neg (show ¬ s.length<1 by omega),if_neg c0]
   by_cases l2:s.length<2
   ·
    rw [if_pos l2,if_neg (show ¬ (a+2≤a+(s.length:Int)∧_) from fun h=>by omega)]
   ·
    rw [if_neg l2]
    obtain ⟨x,y,t,rfl⟩:∃ x y t,s=x :: y :: t:=by
     rcases s with _ | ⟨x,_ | ⟨y,t⟩⟩
     ·
      simp at l2
     ·
      simp at l2
     ·
      exact ⟨x,y,t,rfl⟩
    have e:=aTq (x:=x.toNat) (y:=y.toNat) (by have:=pL x;have:=pL y;omega)
    have a0:at' (x :: y :: t) 0=x:=rfl
    have a1:at' (x :: y :: t) 1=y:=rfl
    have tk:(x :: y :: t).take (Int.toNat 2)=[x,y]:=rfl
    rw [a0] at c0 c2
    rw [tk,a0,a1]
    have ee:(a+2≤a+((x :: y :: t).length:Int)∧enc (r2 x.toNat y.toNat)=[x,y]) ↔ E2 x.toNat y.toNat:=by
     rw [aGw]
     simp only [List.map_cons,List.map_nil,e]
     exact ⟨fun h=>h.2,fun h=>⟨by simp;omega,h⟩⟩
    by_cases q:E2 x.toNat y.toNat
    ·
     rw [if_pos (ee.2 q),if_pos q]
    ·
     rw [if_neg (fun h=>q (ee.1 h)),if_neg q]
     have n3:∀ u v,¬ E3 (x.toNat:Int) u v:=fun u v h=>by unfold E3 at h;omega
     have n4:∀ u v w,¬ E4 (x.toNat:Int) u v w:=fun u v w h=>by unfold E4 at h;omega
     simp only [n3,n4,if_false,ite_self]
  ·
   rw [decide_eq_false c2,cond_false]
   by_cases c3:224≤((at' b a).toNat:Int)∧((at' b a).toNat:Int)≤239
   ·
    rw [decide_eq_true c3,cond_true,m3 _ (by simp),s3,v3,t1,t2]
    rw [t0] at c0 c2 c3 ⊢
    rw [hL]
    generalize b.drop a.toNat=s at *
    congr 1
    unfold rd bi
    have n2:∀ u,¬ E2 ((at' s 0).toNat:Int) u:=fun u h=>by unfold E2 at h;omega
    have n4:∀ u v w,¬ E4 ((at' s 0).toNat:Int) u v w:=fun u v w h=>by unfold E4 at h;omega
    rw [if_neg (show ¬ s.length<1 by omega),if_neg c0]
    simp only [n2,n4,if_false,ite_self]
    by_cases l2:s.length<3
    ·
     rw [if_pos l2,ite_self,if_neg (show ¬ (a+3≤a+(s.length:Int)∧_) from fun h=>by omega)]
    ·
     rw [if_neg l2,if_neg (show ¬ s.length<2 by omega)]
     obtain ⟨x,y,z,t,rfl⟩:∃ x y z t,s=x :: y :: z :: t:=by
      rcases s with _ | ⟨x,_ | ⟨y,_ | ⟨z,t⟩⟩⟩
      ·
       simp at l2
      ·
       simp at l2
      ·
       simp at l2
      ·
       exact ⟨x,y,z,t,rfl⟩
     have e:=aTp (x:=x.toNat) (y:=y.toNat) (z:=z.toNat) (by have:=pL x;have:=pL y;have:=pL z;omega)
     have a0:at' (x :: y :: z :: t) 0=x:=rfl
     have a1:at' (x :: y :: z :: t) 1=y:=rfl
     have a2:at' (x :: y :: z :: t) 2=z:=rfl
     have tk:(x :: y :: z :: t).take (Int.toNat 3)=[x,y,z]:=rfl
     rw [tk,a0,a1,a2]
     have ee:(a+3≤a+((x :: y :: z :: t).length:Int)∧enc (r3 x.toNat y.toNat z.toNat)=[x,y,z]) ↔ E3 x.toNat y.toNat z.toNat:=by
      rw [aGw]
      simp only [List.map_cons,List.map_nil,e]
      exact ⟨fun h=>h.2,fun h=>⟨by simp;omega,h⟩⟩
     by_cases q:E3 x.toNat y.toNat z.toNat
     ·
      rw [if_pos (ee.2 q),if_pos q]
     ·
      rw [if_neg (fun h=>q (ee.1 h)),if_neg q]
   ·
    rw [decide_eq_false c3,cond_false]
    by_cases c4:240≤((at' b a).toNat:Int)∧((at' b a).toNat:Int)≤247
    ·
     rw [decide_eq_true c4,cond_true,m4 _ (by simp),s4,v4,t1,t2,t3]
     rw [t0] at c0 c2 c3 c4 ⊢
     rw [hL]
     generalize b.drop a.toNat=s at *
     congr 1
     unfold rd bi
     have n2:∀ u,¬ E2 ((at' s 0).toNat:Int) u:=fun u h=>by unfold E2 at h;omega
     have n3:∀ u v,¬ E3 ((at' s 0).toNat:Int) u v:=fun u v h=>by unfold E3 at h;omega
     rw [if_neg (show ¬ s.length<1 by omega),if_neg c0]
     simp only [n2,n3,if_false,ite_self]
     by_cases l2:s.length<4
     ·
      rw [if_pos l2,ite_self,ite_self,if_neg (show ¬ (a+4≤a+(s.length:Int)∧_) from fun h=>by omega)]
     ·
      rw [if_neg l2,if_neg (show ¬ s.length<2 by omega),if_neg (show ¬ s.length<3 by omega)]
      obtain ⟨x,y,z,v,t,rfl⟩:∃ x y z v t,s=x :: y :: z :: v :: t:=by
       rcases s with _ | ⟨x,_ | ⟨y,_ | ⟨z,_ | ⟨v,t⟩⟩⟩⟩
       ·
        simp at l2
       ·
        simp at l2
       ·
        simp at l2
       ·
        simp at l2
       ·
        exact ⟨x,y,z,v,t,rfl⟩
      have e:=aTo (x:=x.toNat) (y:=y.toNat) (z:=z.toNat) (v:=v.toNat) (by have:=pL x;have:=pL y;have:=pL z;have:=pL v;omega)
      have a0:at' (x :: y :: z :: v :: t) 0=x:=rfl
      have a1:at' (x :: y :: z :: v :: t) 1=y:=rfl
      have a2:at' (x :: y :: z :: v :: t) 2=z:=rfl
      have a3:at' (x :: y :: z :: v :: t) 3=v:=rfl
      have tk:(x :: y :: z :: v :: t).take (Int.toNat 4)=[x,y,z,v]:=rfl
      rw [tk,a0,a1,a2,a3]
      have ee:(a+4≤a+((x :: y :: z :: v :: t).length:Int)∧enc (r4 x.toNat y.toNat z.toNat v.toNat)=[x,y,z,v]) ↔ E4 x.toNat y.toNat z.toNat v.toNat:=by
       rw [aGw]
       simp only [List.map_cons,List.map_nil,e]
       exact ⟨fun h=>h.2,fun h=>⟨by simp;omega,h⟩⟩
      by_cases q:E4 x.toNat y.toNat z.toNat v.toNat
      ·
       rw [if_pos (ee.2 q),if_pos q]
      ·
       rw [if_neg (fun h=>q (ee.1 h)),if_neg q]
    ·
     rw [decide_eq_false c4,cond_false]
     rw [t0] at c0 c2 c3 c4
     unfold rd bi
     generalize b.drop a.toNat=s at *
     have n2:∀ u,¬ E2 ((at' s 0).toNat:Int) u:=fun u h=>by unfold E2 at h;omega
     have n3:∀ u v,¬ E3 ((at' s 0).toNat:Int) u v:=fun u v h=>by unfold E3 at h;omega
     have n4:∀ u v w,¬ E4 ((at' s 0).toNat:Int) u v w:=fun u v w h=>by unfold E4 at h;omega
     simp only [n2,n3,n4,c0,if_false,ite_self]
end
theorem aC3 (s:List UInt8):0≤(rd s).2∧(rd s).2≤4∧(rd s).2≤(s.length:Int):=by
 unfold rd
 repeat' split
 all_goals simp only
 all_goals omega
def rE:Nat→List UInt8→Option (List Int)
 | 0,_=>some []
 | m+1,s=>if s.length=0 then some [] else if (rd s).2=0 then none else (rE m (s.drop (rd s).2.toNat)).map ((rd s).1 :: ·)
def iS (s:List UInt8):List Int×Bool:=if 65536<(s.length:Int) then ([],false) else match rE s.length s with
 | some l=>(l,true)
 | none=>([],false)
theorem aE5:∀ (m:Nat) (s:List UInt8) (l:List Int),rE m s=some l→l.length≤s.length
 | 0,s,l,h=>by simp only [rE,Option.some.injEq] at h;subst h;simp
 | m+1,s,l,h=>by
  simp only [rE] at h
  split at h
  ·
   simp only [Option.some.injEq] at h;subst h;simp
  ·
   split at h
   ·
    cases h
   ·
    rename_i h0 h1
    obtain ⟨q,hq,rfl⟩:=Option.map_eq_some_iff.1 h
    have:=aE5 m _ q hq
    have b:=aC3 s
    simp only [List.length_drop,List.length_cons] at this ⊢
    omega
theorem aCx (s:List UInt8):((iS s).1.length:Int)≤65536:=by
 unfold iS
 split
 ·
  simp
 ·
  split
  ·
   rename_i l hl
   have:=aE5 _ _ _ hl
   simp only;omega
  ·
   simp
theorem aHx (s:List UInt8) (hs:(s.length:Int)≤65536) (j:List Int→Option (List Int×Bool)):∀ (f m:Nat) (o:List Int) (k:Int),0≤k→k≤(s.length:Int)→(s.length:Int) - k≤f→(s.length:Int) - k<m→(o.length:Int)≤k →
  aZ (jE s j) m (o,k)=match rE f (s.drop k.toNat) with
   | some l=>j (o ++ l)
   | none=>some ([],false):=by
 intro f
 induction f with
 | zero=>
  intro m o k hk hk' hf hm ho
  cases m with
  | zero=>omega
  | succ m=>
   have h1:¬ k<(s.length:Int):=by omega
   simp only [aZ,jE,h1,decide_false,cond_false,rE,List.append_nil]
 | succ f ih=>
  intro m o k hk hk' hf hm ho
  cases m with
  | zero=>omega
  | succ m=>
   simp only [aZ,jE,aN,rE,Bool.cond_decide]
   by_cases h1:k<(s.length:Int)
   ·
    have hne:¬ (s.drop k.toNat).length=0:=by simp;omega
    rw [if_pos h1,aP (aKb hk (by omega) h1),if_neg hne]
    have hb:=aC3 (s.drop k.toNat)
    simp only [List.length_drop] at hb
    by_cases h2:(rd (s.drop k.toNat)).2=0
    ·
     rw [if_pos h2,if_pos h2]
    ·
     rw [if_neg h2,if_neg h2,if_pos (by simp;omega),bV (by omega) (by omega),ih m _ _ (by omega) (by omega) (by omega) (by omega) (by simp;omega)]
     have e:s.drop (k+(rd (s.drop k.toNat)).2).toNat=(s.drop k.toNat).drop (rd (s.drop k.toNat)).2.toNat:=by
      rw [List.drop_drop];congr 1;omega
     rw [e]
     cases rE f ((s.drop k.toNat).drop (rd (s.drop k.toNat)).2.toNat) with
     | none=>rfl
     | some l=>simp
   ·
    have hne:(s.drop k.toNat).length=0:=by simp;omega
    rw [if_neg h1,if_pos hne];simp
theorem aE6 (s:List UInt8):oH s=some (iS s):=by
 unfold oH iS
 simp only [aT,Bool.cond_decide]
 by_cases h:65536<(s.length:Int)
 ·
  rw [if_pos h,if_pos h]
 ·
  rw [if_neg h,if_neg h,aHx s (by omega) _ s.length bO [] 0 (by omega) (by omega) (by omega) (by rw [bQ];omega) (by simp)]
  simp only [Int.toNat_zero,List.drop_zero,List.nil_append]
  cases rE s.length s <;> rfl
def mH (s:List UInt8):(List Int×Int)×Bool:=if (iS s).2 && bP ((iS s).1,((iS s).1.length:Int)) then (((iS s).1,((iS s).1.length:Int)),true) else (([],0),false)
theorem aDr (s:List UInt8):pU s=some (mH s):=by
 unfold pU mH
 have hl:=aCx s
 rw [aP (aE6 s)]
 generalize iS s=r at *
 obtain ⟨l,b⟩:=r
 simp only at hl ⊢
 rw [mN (l,(l.length:Int)) (by simp only;omega),dS]
 cases b
 ·
  simp
 ·
  cases hk:bP (l,(l.length:Int)) <;> simp [hk]
def vP (h:Int×List (List UInt8)) (st:Int):EdT→EdT×Bool
 | (vi,D,G,B_,op,A7,A9,fr,fh,A5,A8,A4,O,A0,Z,A6,A_)=>
  if cF (vi,D,G,B_,op,A7,A9,fr,fh,A5,A8,A4,O,A0,Z,A6,A_) && decide (st=1∨st = -1) then
   if O≠0∧st=1∧O=fV h then ((vi,D,(A0.1,jA D A0),0,0,0,0,fr,fh,0,A8,[],0,([],0),Z,A6,A_),true)
   else if (rB h ((if O=0 then fV h+1 else O)+st)).2 && (mH (rB h ((if O=0 then fV h+1 else O)+st)).1).2 then
    ((vi,D,((mH (rB h ((if O=0 then fV h+1 else O)+st)).1).1.1,if D=2 then 0 else (mH (rB h ((if O=0 then fV h+1 else O)+st)).1).1.2),0,0,0,0,fr,fh,0,A8,[],(if O=0 then fV h+1 else O)+st,(if O=0 then G else A0),Z,A6,A_),true)
   else (zEd,false)
  else (zEd,false)
theorem aIv (h:Int×List (List UInt8)):0≤fV h∧fV h≤2000000000:=by
 unfold fV
 split
 ·
  rename_i q
  obtain ⟨q1,q2,q3,_⟩:=qM q.1
  omega
 ·
  omega
theorem aNz {vi:Bool} {D:Int} {G:List Int×Int} {B_ op A7 A9 fr fh A5:Int} {A8:List (List Int)} {A4:List (List Int×Int)} {O:Int} {A0:List Int×Int} {Z:List Int} {A6:Int} {A_:List Int×Int} (h:cF (vi,D,G,B_,op,A7,A9,fr,fh,A5,A8,A4,O,A0,Z,A6,A_)=true):(0≤O∧O≤1000000060)∧bP A0=true:=by
 unfold cF at h
 simp only [Bool.and_eq_true,decide_eq_true_eq] at h
 exact ⟨h.1.1.1.1.1.2,h.1.1.1.1.1.1.1.1.1.1.1.1.1.1.2⟩
section
variable (vi:Bool) (D:Int) (G:List Int×Int) (B_ op A7 A9 fr fh A5:Int) (A8:List (List Int)) (A4:List (List Int×Int)) (O:Int) (A0:List Int×Int) (Z:List Int) (A6:Int) (A_:List Int×Int)
  (hs:oV 1048576 (vi,D,G,B_,op,A7,A9,fr,fh,A5,A8,A4,O,A0,Z,A6,A_)) (h:Int×List (List UInt8)) (hl:(h.2.length:Int)≤1048576) (st:Int)
include hs hl
theorem aPw:pV (vi,D,G,B_,op,A7,A9,fr,fh,A5,A8,A4,O,A0,Z,A6,A_) h st=some (vP h st (vi,D,G,B_,op,A7,A9,fr,fh,A5,A8,A4,O,A0,Z,A6,A_)):=by
 unfold pV
 simp only [vP]
 have hparts:cF (vi,D,G,B_,op,A7,A9,fr,fh,A5,A8,A4,O,A0,Z,A6,A_)=true→(0≤O∧O≤1000000060)∧bP A0=true:=fun h=>aNz h
 rw [aP (aPx vi D G B_ op A7 A9 fr fh A5 A8 A4 O A0 Z A6 A_ (oL (by omega) hs))]
 have hc:=aJb vi D G B_ op A7 A9 fr fh A5 A8 A4 O A0 Z A6 A_
 obtain ⟨h1,⟨h2,h3⟩,⟨h4,h5⟩,h6,h7,h8⟩:=hs
 have hc:=hc h1 h2 h3 h4 h5 h6 h7 h8
 generalize cF (vi,D,G,B_,op,A7,A9,fr,fh,A5,A8,A4,O,A0,Z,A6,A_)=K at *
 cases K
 ·
  simp [zEd]
 ·
  obtain ⟨⟨n0,n1⟩,hown⟩:=hparts rfl
  obtain ⟨o0,o1,o2⟩:=bF hown
  obtain ⟨b0,b1⟩:=aIv h
  by_cases hst:st=1∨st = -1
  ·
   have hb:(bif (!(decide (st=1))) then (!(decide (st=(-1)))) else false)=false:=by
    rcases hst with rfl | rfl <;> simp
   have hn:-2≤st∧st≤2:=by omega
   have g2:=aDx h hl
   have hcl:=sZ (A0.1,A0.2) D (by simp only;omega)
   have cl1:=fY (A0.1,A0.2) (by simp only;omega)
   have cl2:=fY (G.1,G.2) (by simp only;omega)
   have hW0:W (fV h+1)=fV h+1:=bV (by omega) (by omega)
   rw [hb,decide_eq_true hst]
   simp only [Bool.not_true,cond_false,hW0,eE,hc,aF,g2,aT,cl1,cl2,hcl,Bool.and_self,if_true]
   by_cases hnv:O=0
   ·
    subst hnv
    have hW:W (fV h+1+st)=fV h+1+st:=bV (by omega) (by omega)
    have k2:=aA9 h hl (fV h+1+st) (by omega)
    have k2':jJ (h.1,h.2) (fV h+1+st)=_:=k2
    have hx:(bif decide (st=1) then (!decide ((0:Int)=0)) else false)=false:=by cases decide (st=1) <;> simp
    simp only [hx,decide_true,cond_false,cond_true,hW,k2',aDr,ne_eq,not_true_eq_false,false_and,if_false,if_true]
    cases (rB h (fV h+1+st)).2
    ·
     simp [zEd]
    ·
     cases (mH (rB h (fV h+1+st)).1).2
     ·
      simp [zEd]
     ·
      by_cases hm:D=2 <;> simp [hm]
   ·
    have hW:W (O+st)=O+st:=bV (by omega) (by omega)
    have hW1:W (O+1)=O+1:=bV (by omega) (by omega)
    have k2:=aA9 h hl (O+st) (by omega)
    have k2':jJ (h.1,h.2) (O+st)=_:=k2
    simp only [hnv,decide_false,Bool.not_false,cond_false,cond_true,hW,hW1,k2',aDr,ne_eq,not_false_eq_true,true_and,if_false]
    by_cases he:st=1∧O=fV h
    ·
     obtain ⟨rfl,rfl⟩:=he
     simp
    ·
     have hq:(bif bif decide (st=1) then true else false then decide (O+1=fV h+1) else false)=false:=by
      by_cases e1:st=1
      ·
       have:¬ (O+1=fV h+1):=by omega
       rw [decide_eq_false this];simp
      ·
       simp [e1]
     rw [hq,if_neg he]
     simp only [cond_false]
     cases (rB h (O+st)).2
     ·
      simp [zEd]
     ·
      cases (mH (rB h (O+st)).1).2
      ·
       simp [zEd]
      ·
       by_cases hm:D=2 <;> simp [hm]
  ·
   have hb:(bif (!(decide (st=1))) then (!(decide (st=(-1)))) else false)=true:=by
    have a:¬ st=1:=fun h=>hst (.inl h)
    have b:¬ st = -1:=fun h=>hst (.inr h)
    simp [a,b]
   rw [hb,decide_eq_false hst]
   simp [zEd]
end
def aC4 (l:List Int×Int) (t:List Int):List Int×Int:=(bJ l.1 0 l.2 ++ t ++ bJ l.1 l.2 (l.1.length:Int),l.2+(t.length:Int))
def qJ (l:List Int×Int) (t:List Int):(List Int×Int)×Bool:=if bP (aC4 l t) then (aC4 l t,true) else (([],0),false)
theorem yK {α:Type} (l:List α) (a b:Int):(bJ l a b).length≤l.length:=by
 unfold bJ
 simp only [List.length_take,List.length_drop]
 omega
theorem uR {α:Type} (l:List α) (a b:Int) (h:0≤a∧a≤b∧b≤(l.length:Int)):((bJ l a b).length:Int)=b - a:=by
 unfold bJ
 simp only [List.length_take,List.length_drop]
 omega
theorem aH3 {l:List Int×Int} (h:bP l=true) (t:List Int):(aC4 l t).1.length=l.1.length+t.length:=by
 obtain ⟨p0,p1,p2⟩:=bF h
 have a:=uR l.1 0 l.2 (by omega)
 have b:=uR l.1 l.2 (l.1.length:Int) (by omega)
 simp only [aC4,List.length_append]
 omega
theorem xL {l:List Int×Int} {t:List Int} (h:(qJ l t).2=true):bP (qJ l t).1=true:=by
 unfold qJ at h ⊢
 split at h
 ·
  rename_i hq;rw [if_pos hq];exact hq
 ·
  cases h
theorem aA8 (l:List Int×Int) (t:List Int) (h:bP l=true) (ht:t.length≤1000):jI l t=some (qJ l t):=by
 obtain ⟨p0,p1,p2⟩:=bF h
 have hx:=aH3 h t
 have e1:=mN (aC4 l t) (by omega)
 have s1:=yK l.1 0 l.2
 have s2:=yK l.1 l.2 (l.1.length:Int)
 unfold jI qJ
 rw [aP (mN l (by omega)),h,bV (by omega) (by omega)]
 by_cases hc:400<(t.length:Int)
 ·
  have:bP (aC4 l t)=false:=by
   cases hq:bP (aC4 l t)
   ·
    rfl
   ·
    have:=(bF hq).2.2;omega
  rw [this,decide_eq_true hc];rfl
 ·
  rw [decide_eq_false hc]
  simp only [Bool.not_true,cond_false,aT,aN]
  rw [if_pos (by omega),aP (iP _ (by omega)),if_pos (by omega),if_pos (by omega),if_pos (by rw [List.length_append];omega)]
  have e1':eJ (bJ l.1 0 l.2 ++ t ++ bJ l.1 l.2 (l.1.length:Int),l.2+(t.length:Int))=some (bP (aC4 l t)):=e1
  rw [aP e1']
  cases bP (aC4 l t) <;> rfl
theorem aOy (r:Int) (k:Int) (h:0≤k):List.replicate k.toNat r ++ [r]=List.replicate (k+1).toNat r:=by
  rw [show (k+1).toNat=k.toNat+1 by omega,List.replicate_succ']
theorem aJw (r n:Int) (hn:n≤1000) (j:List Int→Option (List Int)):∀ (m:Nat) (k:Int),0≤k→k≤n→k≤401→n - k<m →
  aZ (jN [r] n j) m (List.replicate k.toNat r,k)=j (List.replicate (min n 401).toNat r):=by
 intro m
 induction m with
 | zero=>intro k _ _ _ h;omega
 | succ m ih=>
  intro k h0 h1 h2 hm
  simp only [aZ,jN,aN,Bool.cond_decide]
  rw [bV (x:=k+1) (by omega) (by omega),aOy r k h0]
  have hl:((List.replicate k.toNat r).length:Int)=k:=by rw [List.length_replicate];omega
  by_cases hc:k<n∧k≤400
  ·
   rw [hl,show (if k<n then decide (k≤400) else false)=true by simp [hc],cond_true,if_pos (by simp;omega)]
   exact ih _ (by omega) (by omega) (by omega) (by omega)
  ·
   rw [hl,show (if k<n then decide (k≤400) else false)=false by by_cases h3:k<n <;> simp [h3];omega,cond_false,show min n 401=k by omega]
theorem aLr (r n:Int) (h0:0≤n) (hn:n≤1000):mA [r] n=some (List.replicate (min n 401).toNat r):=by
 unfold mA
 simp only [aT]
 exact aJw r n hn _ bO 0 (by omega) h0 (by omega) (by rw [bQ];omega)
theorem xM {l:List Int×Int} (h:bP l=true) {t:List Int} (ht:400<t.length):qJ l t=(([],0),false):=by
 unfold qJ
 have hx:=aH3 h t
 rw [if_neg]
 intro hq
 have:=(bF hq).2.2
 omega
theorem aO3 {l:List Int×Int} (h:bP l=true) (r n:Int):qJ l (List.replicate (min n 401).toNat r)=qJ l (List.replicate n.toNat r):=by
 by_cases hc:n≤401
 ·
  rw [show min n 401=n by omega]
 ·
  rw [xM h (by rw [List.length_replicate];omega),xM h (by rw [List.length_replicate];omega)]
theorem aK {α β:Type} {m:Option α} {k:α→Option β} {y:α} {z:Option β} (h:m=some y) (hk:k y=z):aF m k=z:=(aP h).trans hk
def fP (e:EdT):EdT×Int:=(jU 0 e,1)
def aN1 (a b:Int) (e:EdT):EdT×Int:=if a=b then fP e else (rJ (wU e.2.2.1 a b) 0 e,0)
def aBz (a b how:Int) (e:EdT):EdT×Int:=
  if a=b then fP e else (aBk (lA e.2.2.2.2.2.2.2.2.2.2.1 (bJ e.2.2.1.1 a b) (if e.2.2.2.2.2.2.2.2.2.1=2 then how else 0)) (rJ (wU e.2.2.1 a b) 2 e),0)
def aGq (t:List Int) (nl:Int) (e:EdT):EdT×Int:=if (qJ e.2.2.1 t).2=true then (rJ (qJ e.2.2.1 t).1 nl e,0) else fP e
def vW (h:Int×List (List UInt8)) (st:Int) (e:EdT):EdT×Int:=if (vP h st e).2=true then ((vP h st e).1,0) else fP e
def goE (a:Int) (e:EdT):EdT×Int:=(rJ (goL e.2.2.1 a) 0 e,0)
section
variable (e:EdT) (hv:cF e=true)
include hv
theorem eOk:bP e.2.2.1=true∧(0≤e.2.2.2.1∧e.2.2.2.1≤999)∧eR e.2.2.2.2.2.2.2.2.2.2.1=true∧(0≤e.2.2.2.2.2.2.2.2.2.1∧e.2.2.2.2.2.2.2.2.2.1≤3):=by
 obtain ⟨vi,D,G,B_,op,A7,A9,fr,fh,A5,A8,A4,O,A0,Z,A6,A_⟩:=e
 obtain ⟨h1,h2,h3,h4,h5,h6,h7,h8,h9,h10,h11,h12,h13,h14,h15,h16⟩:=cO hv
 exact ⟨h1,h4,h9,h8⟩
theorem aJ5:oV 400 e:=by
 obtain ⟨vi,D,G,B_,op,A7,A9,fr,fh,A5,A8,A4,O,A0,Z,A6,A_⟩:=e
 exact aCt hv
theorem dM:cR e=some (fP e):=by
 obtain ⟨vi,D,G,B_,op,A7,A9,fr,fh,A5,A8,A4,O,A0,Z,A6,A_⟩:=e
 exact aQa vi D G B_ op A7 A9 fr fh A5 A8 A4 O A0 Z A6 A_ hv
theorem aCv (l:List Int×Int) (hl:bP l=true) (nl:Int):mB e l nl=some (rJ l nl e):=by
 obtain ⟨vi,D,G,B_,op,A7,A9,fr,fh,A5,A8,A4,O,A0,Z,A6,A_⟩:=e
 exact aLx vi D G B_ op A7 A9 fr fh A5 A8 A4 O A0 Z A6 A_ hv l hl nl
theorem tB (l:List Int×Int) (hl:bP l=true):eX e l=some (rJ l 0 e,0):=by
 obtain ⟨vi,D,G,B_,op,A7,A9,fr,fh,A5,A8,A4,O,A0,Z,A6,A_⟩:=e
 exact aR6 vi D G B_ op A7 A9 fr fh A5 A8 A4 O A0 Z A6 A_ hv l hl
theorem iZ:cK e=some e:=by
 obtain ⟨vi,D,G,B_,op,A7,A9,fr,fh,A5,A8,A4,O,A0,Z,A6,A_⟩:=e
 exact aGz vi D G B_ op A7 A9 fr fh A5 A8 A4 O A0 Z A6 A_ hv
theorem aQb:cF (fP e).1=true:=by
 obtain ⟨vi,D,G,B_,op,A7,A9,fr,fh,A5,A8,A4,O,A0,Z,A6,A_⟩:=e
 exact aBg vi D G B_ op A7 A9 fr fh A5 A8 A4 O A0 Z A6 A_ hv 0 (by omega)
theorem vZ (l:List Int×Int) (hl:bP l=true) (nl:Int) (hn:0≤nl∧nl≤3):cF (rJ l nl e)=true:=by
 obtain ⟨vi,D,G,B_,op,A7,A9,fr,fh,A5,A8,A4,O,A0,Z,A6,A_⟩:=e
 exact aQ3 vi D G B_ op A7 A9 fr fh A5 A8 A4 O A0 Z A6 A_ hv l hl nl hn
theorem xK (r:List (List Int)) (hr:eR r=true):cF (aBk r e)=true:=by
 obtain ⟨vi,D,G,B_,op,A7,A9,fr,fh,A5,A8,A4,O,A0,Z,A6,A_⟩:=e
 exact aHz vi D G B_ op A7 A9 fr fh A5 A8 A4 O A0 Z A6 A_ hv r hr
theorem aGy (a b:Int) (hr:0≤a∧a≤b∧b≤(e.2.2.1.1.length:Int)):aP3 e.2.2.1 a b=(wU e.2.2.1 a b,bJ e.2.2.1.1 a b,true):=by
  unfold aP3;rw [(eOk e hv).1,decide_eq_true hr];rfl
theorem aP2 (a b:Int) (hr:0≤a∧a≤b∧b≤(e.2.2.1.1.length:Int)):vI e a b=some (aN1 a b e):=by
 obtain ⟨hl,_⟩:=eOk e hv
 obtain ⟨p0,p1,p2⟩:=bF hl
 have hcut:=xN e.2.2.1 a b (by omega)
 rw [aGy e hv a b hr] at hcut
 obtain ⟨c1,c2⟩:=vC hl hr
 have hsl:=uR e.2.2.1.1 a b hr
 unfold vI aN1
 rw [aP hcut]
 simp only [Bool.not_true,cond_true]
 by_cases hab:a=b
 ·
  rw [if_pos hab,decide_eq_true (by omega)]
  exact aK (dM e hv) rfl
 ·
  rw [if_neg hab,decide_eq_false (by omega)]
  exact aK (tB e hv _ c1) rfl
theorem aDu (a b how:Int) (hr:0≤a∧a≤b∧b≤(e.2.2.1.1.length:Int)) (hh:0≤how∧how≤2):mX e a b how=some (aBz a b how e):=by
 obtain ⟨hl,_,hro,_⟩:=eOk e hv
 obtain ⟨p0,p1,p2⟩:=bF hl
 have hcut:=xN e.2.2.1 a b (by omega)
 rw [aGy e hv a b hr] at hcut
 obtain ⟨c1,c2⟩:=vC hl hr
 have hsl:=uR e.2.2.1.1 a b hr
 unfold mX aBz
 rw [aP hcut]
 simp only [Bool.not_true,cond_true]
 by_cases hab:a=b
 ·
  rw [if_pos hab,decide_eq_true (by omega)]
  exact aK (dM e hv) rfl
 ·
  rw [if_neg hab,decide_eq_false (by omega)]
  simp only [cond_false,aT]
  by_cases hk:e.2.2.2.2.2.2.2.2.2.1=2
  ·
   rw [if_pos hk,decide_eq_true hk]
   exact aK (aCv e hv _ c1 2) (aK (aAx _ _ how hro (nQ (eL hl) a b) hh) rfl)
  ·
   rw [if_neg hk,decide_eq_false hk]
   exact aK (aCv e hv _ c1 2) (aK (aAx _ _ 0 hro (nQ (eL hl) a b) (by omega)) rfl)
theorem aPm (t:List Int) (ht:t.length≤1000) (nl:Int):nT e t nl=some (aGq t nl e):=by
 obtain ⟨hl,_⟩:=eOk e hv
 have hp:=aA8 e.2.2.1 t hl ht
 have ho:=@xL e.2.2.1 t
 unfold nT aGq
 rw [aP hp]
 generalize qJ e.2.2.1 t=q at ho
 obtain ⟨l,b⟩:=q
 cases b
 ·
  exact aK (dM e hv) rfl
 ·
  exact aK (aCv e hv l (ho rfl) nl) rfl
end
theorem aJz (h:Int×List (List UInt8)) (st:Int) (e:EdT) (hk:(vP h st e).2=true):(vP h st e).1.2.2.2.2.2.2.2.2.2.2.2.1=[]:=by
 obtain ⟨vi,D,G,B_,op,A7,A9,fr,fh,A5,A8,A4,O,A0,Z,A6,A_⟩:=e
 simp only [vP] at hk ⊢
 generalize (if O=0 then fV h+1 else O)+st=N at *
 split at hk
 ·
  rename_i c1
  rw [if_pos c1]
  split
  ·
   rfl
  ·
   rename_i c2
   rw [if_neg c2] at hk
   split
   ·
    rfl
   ·
    rename_i c3
    rw [if_neg c3] at hk
    cases hk
 ·
  cases hk
section
variable (e:EdT) (hv:cF e=true) (h:Int×List (List UInt8)) (hl:(h.2.length:Int)≤1048576)
include hv hl
theorem xI (st:Int):mU e h st=some (vW h st e):=by
 have hu:=aJz h st e
 have hs:pV e h st=some (vP h st e):=by
  obtain ⟨vi,D,G,B_,op,A7,A9,fr,fh,A5,A8,A4,O,A0,Z,A6,A_⟩:=e
  exact aPw vi D G B_ op A7 A9 fr fh A5 A8 A4 O A0 Z A6 A_ (oL (by omega) (aCt hv)) h hl st
 unfold mU vW
 rw [aP hs]
 generalize vP h st e=q at hu
 obtain ⟨z,b⟩:=q
 cases b
 ·
  exact aK (dM e hv) rfl
 ·
  obtain ⟨vi,D,G,B_,op,A7,A9,fr,fh,A5,A8,A4,O,A0,Z,A6,A_⟩:=z
  obtain rfl:A4=[]:=hu rfl
  rfl
end
theorem aG3 {α β:Type} {c:Prop} [Decidable c] {m:Option α} {x d:α} {k:α→Option β} (h:m=some x) (hc:c):cA c m d k=k x:=by
  rw [h,uE hc]
def aLs (l:List Int×Int):List Int×Int:=
 let a:=min l.2 ((l.1.length:Int) - 1)
 ((l.1.set (a - 1).toNat (at' l.1 a)).set a.toNat (at' l.1 (a - 1)),a+1)
def aE2 (l:List Int×Int):(List Int×Int)×Bool:=if (l.1.length:Int)<2∨l.2=0 then (([],0),false) else (aLs l,true)
theorem zC {t:List Int} (h:cT t=true) (i:Nat) (x:Int) (hx:adm x=true):cT (t.set i x)=true:=by
 unfold cT at h ⊢
 simp only [Bool.and_eq_true,List.all_eq_true,decide_eq_true_eq,List.length_set] at h ⊢
 refine ⟨fun y hy=>?_,h.2⟩
 rcases List.mem_or_eq_of_mem_set hy with hy | rfl
 ·
  exact h.1 y hy
 ·
  exact hx
theorem aFn {t:List Int} (h:cT t=true) {i:Int} (h0:0≤i) (h1:i<(t.length:Int)):adm (at' t i)=true:=by
 unfold cT at h
 simp only [Bool.and_eq_true,List.all_eq_true] at h
 exact h.1 _ (List.mem_of_getElem? (bH ⟨h0,h1⟩))
theorem aHj {l:List Int×Int} (h:bP l=true) (h2:¬ ((l.1.length:Int)<2∨l.2=0)):bP (aLs l)=true:=by
 obtain ⟨p0,p1,_⟩:=bF h
 have ha:=eL h
 unfold aLs
 refine iY (zC (zC ha _ _ (aFn ha (by omega) (by omega))) _ _ (aFn ha (by omega) (by omega))) (by omega) ?_
 simp only [List.length_set]
 omega
theorem aK1 (l:List Int×Int) (h:bP l=true):pG l=some (aE2 l):=by
 obtain ⟨p0,p1,p2⟩:=bF h
 unfold pG aE2 aLs
 rw [aP (mN l (by omega)),h]
 by_cases c1:(l.1.length:Int)<2
 ·
  rw [if_pos (.inl c1),decide_eq_true c1];rfl
 by_cases c2:l.2=0
 ·
  rw [if_pos (.inr c2),decide_eq_false c1,decide_eq_true c2];rfl
 rw [if_neg (by omega),decide_eq_false c1,decide_eq_false c2,bV (x:=(l.1.length:Int) - 1) (by omega) (by omega)]
 simp only [Bool.not_true,cond_false]
 generalize ha:min l.2 ((l.1.length:Int) - 1)=a
 rw [bV (x:=a+1) (by omega) (by omega),bV (x:=a - 1) (by omega) (by omega),aP ((pN l _ (by omega)).trans (show some (goL l (a+1))=some (l.1,a+1) by unfold goL;rw [show max 0 (min (a+1) (l.1.length:Int))=a+1 by omega]))]
 simp only [aN]
 rw [if_pos (by omega),if_pos (by omega),if_pos (by omega),if_pos (by omega)]
def isL (c:Int):Prop:=97≤c∧c≤122
def isU (c:Int):Prop:=65≤c∧c≤90
instance (c:Int):Decidable (isL c):=inferInstanceAs (Decidable (_∧_))
instance (c:Int):Decidable (isU c):=inferInstanceAs (Decidable (_∧_))
def upI (c:Int):Int:=if isL c then c - 32 else c
def loI (c:Int):Int:=if isU c then c+32 else c
def aB4 (how:Int):Nat→Int→Bool→List Int→List Int
 | 0,_,_,xs=>xs
 | r+1,i,f,xs=>if isL (at' xs i)∨isU (at' xs i) then aB4 how r (i+1) false (xs.set i.toNat (if how=1∨(how=2∧f=true) then upI (at' xs i) else loI (at' xs i))) else aB4 how r (i+1) f xs
def aMj (l:List Int×Int) (a b how:Int):List Int×Int:=(aB4 how (b - a).toNat a true l.1,b)
theorem aFi (c:Int):eN c=some (decide (isL c)):=by
 unfold eN dH isL
 simp only [aF]
 by_cases a:97≤c <;> by_cases b:c≤122 <;> simp [a,b]
theorem aFh (c:Int):fR c=some (decide (isU c)):=by
 unfold fR dH isU
 simp only [aF]
 by_cases a:65≤c <;> by_cases b:c≤90 <;> simp [a,b]
theorem aQq (c:Int):oE c=some (upI c):=by
 unfold oE upI
 rw [aP (aFi c)]
 by_cases a:isL c
 ·
  rw [if_pos a,decide_eq_true a,cond_true,bV (by unfold isL at a;omega) (by unfold isL at a;omega)]
 ·
  rw [if_neg a,decide_eq_false a,cond_false]
theorem aRf (c:Int):oF c=some (loI c):=by
 unfold oF loI
 rw [aP (aFh c)]
 by_cases a:isU c
 ·
  rw [if_pos a,decide_eq_true a,cond_true,bV (by unfold isU at a;omega) (by unfold isU at a;omega)]
 ·
  rw [if_neg a,decide_eq_false a,cond_false]
theorem vF {c:Int} (h:65≤c∧c≤122):adm c=true:=by
 unfold adm pr
 simp only [Bool.or_eq_true,decide_eq_true_eq]
 omega
theorem aP7 {c:Int} (h:isL c∨isU c):adm (upI c)=true∧adm (loI c)=true:=by
 unfold upI loI
 constructor
 ·
  split
  ·
   rename_i a;exact vF (by unfold isL at a;omega)
  ·
   exact vF (by unfold isL isU at h;omega)
 ·
  split
  ·
   rename_i a;exact vF (by unfold isU at a;omega)
  ·
   exact vF (by unfold isL isU at h;omega)
theorem aD3 (how:Int):∀ (r:Nat) (i:Int) (f:Bool) (xs:List Int),cT xs=true→cT (aB4 how r i f xs)=true∧(aB4 how r i f xs).length=xs.length
 | 0,_,_,_,h=>⟨h,rfl⟩
 | r+1,i,f,xs,h=>by
  simp only [aB4]
  split
  ·
   rename_i c
   obtain ⟨k1,k2⟩:=aP7 c
   have:=aD3 how r (i+1) false (xs.set i.toNat (if how=1∨(how=2∧f=true) then upI (at' xs i) else loI (at' xs i))) (zC h _ _ (by split <;> assumption))
   rw [List.length_set] at this
   exact this
  ·
   exact aD3 how r (i+1) f xs h
theorem aJf {l:List Int×Int} (h:bP l=true) (a b how:Int) (hr:0≤a∧a≤b∧b≤(l.1.length:Int)):bP (aMj l a b how)=true:=by
 obtain ⟨k1,k2⟩:=aD3 how (b - a).toNat a true l.1 (eL h)
 exact iY k1 (by omega) (by rw [k2];omega)
theorem aJe (b how:Int) (j:List Int→Option ((List Int×Int)×Bool)):∀ (m r:Nat) (i:Int) (f:Bool) (xs:List Int),0≤i→i+r=b→b≤(xs.length:Int)→b≤1000000→r<m →
  aZ (kI b how j) m (f,i,xs)=j (aB4 how r i f xs):=by
 intro m
 induction m with
 | zero=>intro r i f xs _ _ _ _ h;omega
 | succ m ih=>
  intro r i f xs h0 hr hb hB hm
  simp only [aZ,kI,Bool.cond_decide,aT,aN]
  cases r with
  | zero=>rw [if_neg (by omega)];rfl
  | succ r=>
   rw [if_pos (by omega),if_pos ⟨h0,by omega⟩,aP (aFi _),aFh,bV (x:=i+1) (by omega) (by omega)]
   simp only [aB4]
   generalize hc:at' xs i=c
   have hU:(if how=1 then true else if how=2 then f else false)=decide (how=1∨(how=2∧f=true)):=by
    by_cases a:how=1 <;> by_cases b:how=2 <;> cases f <;> simp [a,b]
   by_cases a:isL c∨isU c
   ·
    have hn:(bif !decide (isL c) then !decide (isU c) else false)=false:=by
     by_cases a1:isL c <;> by_cases a2:isU c <;> simp_all
    have hcall:∀ k:Bool→Option ((List Int×Int)×Bool),(∀ z,(bif !decide (isL c) then !z else false)=false→k z=k true) →
      cA ((!decide (isL c))=true) (some (decide (isU c))) false k=k true:=by
     intro k hk
     by_cases a1:isL c
     ·
      rw [uF (by simp [a1])];exact hk _ (by simp [a1])
     ·
      rw [uE (by simp [a1])];exact hk _ (by simpa [a1] using hn)
    rw [hcall _ (fun z hz=>by rw [hz];simp),if_pos a,aQq,aRf,hU]
    simp only [Bool.not_true,Bool.cond_false_right,Bool.and_false,cond_false,aF,Bool.cond_decide]
    by_cases u:how=1∨(how=2∧f=true)
    ·
     rw [if_pos u,if_pos u,if_pos ⟨h0,by omega⟩]
     exact ih r (i+1) false _ (by omega) (by omega) (by rw [List.length_set];omega) hB (by omega)
    ·
     rw [if_neg u,if_neg u,if_pos ⟨h0,by omega⟩]
     exact ih r (i+1) false _ (by omega) (by omega) (by rw [List.length_set];omega) hB (by omega)
   ·
    have a1:¬ isL c:=fun h=>a (.inl h)
    have a2:¬ isU c:=fun h=>a (.inr h)
    rw [uE (by simp [a1]),if_neg a]
    simp only [a1,a2,decide_false,Bool.not_false,cond_true]
    exact ih r (i+1) f xs (by omega) (by omega) hb hB (by omega)
theorem aK2 (l:List Int×Int) (h:bP l=true) (a b how:Int) (hr:0≤a∧a≤b∧b≤(l.1.length:Int)) (hh:0≤how∧how≤2):mF l a b how=some (aMj l a b how,true):=by
 obtain ⟨p0,p1,p2⟩:=bF h
 have hi:dH how 0 2=some true:=by
  unfold dH
  rw [decide_eq_true hh.1,decide_eq_true hh.2];rfl
 unfold mF
 rw [aP (aIp l a b (by omega)),h,decide_eq_true hr,hi,uE (by rfl)]
 simp only [Bool.and_self,Bool.not_true,cond_false,aT]
 rw [aP (pN l b (by omega))]
 rw [aJe b how _ bO (b - a).toNat a true (goL l b).1 hr.1 (by omega) (by unfold goL;simp only;omega) (by omega) (by rw [bQ];omega)]
 unfold goL aMj
 rw [show max 0 (min b (l.1.length:Int))=b by omega]
section
variable (t:List Int) (hl:(t.length:Int)≤1048576) (big:Bool)
include hl
theorem aBj (c:Int) (j:Int→Option Int):∀ (m r:Nat) (k:Int),0≤k→k+r=(t.length:Int)→r<m →
  aZ (mV t big c j) m k=j (fwd (fun i=>fZ big (at' t i)=c) r k):=by
 intro m
 induction m with
 | zero=>intro r k _ _ h;omega
 | succ m ih=>
  intro r k hk hr hm
  simp only [aZ,mV,cA,Bool.cond_decide]
  cases r with
  | zero=>
   have:¬ (k<(t.length:Int)):=by omega
   simp [this,fwd]
  | succ r=>
   have h1:k<(t.length:Int):=by omega
   simp only [h1,decide_true,if_true]
   rw [aP (jL t k big hk h1),bV (by omega) (by omega),ih r (k+1) (by omega) (by omega) (by omega)]
   simp only [fwd,Bool.cond_decide]
   split <;> rfl
theorem aNl (j:Int→Option Int):∀ (m r:Nat) (k:Int),0≤k→k+r=(t.length:Int)→r<m →
  aZ (gL t big j) m k=j (fwd (fun i=>fZ big (at' t i)=0) r k):=by
 intro m
 induction m with
 | zero=>intro r k _ _ h;omega
 | succ m ih=>
  intro r k hk hr hm
  simp only [aZ,gL,cA,Bool.cond_decide]
  cases r with
  | zero=>
   have:¬ (k<(t.length:Int)):=by omega
   simp [this,fwd]
  | succ r=>
   have h1:k<(t.length:Int):=by omega
   simp only [h1,decide_true,if_true]
   rw [aP (jL t k big hk h1),bV (by omega) (by omega),ih r (k+1) (by omega) (by omega) (by omega)]
   simp only [fwd,Bool.cond_decide]
   split <;> rfl
theorem aDw (j:Int→Option Int):∀ (m r:Nat) (k:Int),0≤k→k+r=(t.length:Int)→r<m →
  aZ (kG t big j) m k=j (fwd (fun i=>fZ big (at' t i)=0) r k):=by
 intro m
 induction m with
 | zero=>intro r k _ _ h;omega
 | succ m ih=>
  intro r k hk hr hm
  simp only [aZ,kG,cA,Bool.cond_decide]
  cases r with
  | zero=>
   have:¬ (k<(t.length:Int)):=by omega
   simp [this,fwd]
  | succ r=>
   have h1:k<(t.length:Int):=by omega
   simp only [h1,decide_true,if_true]
   rw [aP (jL t k big hk h1),bV (by omega) (by omega),ih r (k+1) (by omega) (by omega) (by omega)]
   simp only [fwd,Bool.cond_decide]
   split <;> rfl
theorem aIq (j:Int→Option (Int×Bool×Bool)):∀ (m r:Nat) (k:Int),0≤k→k+r=(t.length:Int)→r<m →
  aZ (kH t j) m k=j (fwd (fun i=>pP (at' t i)=0) r k):=by
 intro m
 induction m with
 | zero=>intro r k _ _ h;omega
 | succ m ih=>
  intro r k hk hr hm
  simp only [aZ,kH,cA,Bool.cond_decide,aN]
  cases r with
  | zero=>
   have:¬ (k<(t.length:Int)):=by omega
   simp [this,fwd]
  | succ r=>
   have h1:k<(t.length:Int):=by omega
   simp only [h1,decide_true,if_true,hk,and_self,imp_self,imp_true_iff]
   rw [aP (rS _),bV (by omega) (by omega),ih r (k+1) (by omega) (by omega) (by omega)]
   simp only [fwd,Bool.cond_decide]
   split <;> rfl
theorem aIt (j:Int→Option Int):∀ (m k:Nat),(k:Int)≤(t.length:Int)→k<m →
  aZ (iH t big j) m (k:Int)=j (bwd (fun i=>fZ big (at' t i)=0) k:Nat):=by
 intro m
 induction m with
 | zero=>intro k _ h;omega
 | succ m ih=>
  intro k hk hm
  simp only [aZ,iH,cA,Bool.cond_decide]
  cases k with
  | zero=>simp [bwd]
  | succ k=>
   have h1:(0:Int)<((k+1:Nat):Int):=by omega
   have e:((k+1:Nat):Int) - 1=(k:Int):=by omega
   simp only [h1,decide_true,if_true]
   rw [bV (by omega) (by omega),e,aP (jL t k big (by omega) (by omega)),ih k (by omega) (by omega)]
   simp only [bwd,Bool.cond_decide]
   split <;> rfl
theorem aIs (c:Int) (j:Int→Option Int):∀ (m k:Nat),(k:Int)≤(t.length:Int)→k<m →
  aZ (iG t big c j) m (k:Int)=j (bwd (fun i=>fZ big (at' t i)=c) k:Nat):=by
 intro m
 induction m with
 | zero=>intro k _ h;omega
 | succ m ih=>
  intro k hk hm
  simp only [aZ,iG,cA,Bool.cond_decide]
  cases k with
  | zero=>simp [bwd]
  | succ k=>
   have h1:(0:Int)<((k+1:Nat):Int):=by omega
   have e:((k+1:Nat):Int) - 1=(k:Int):=by omega
   simp only [h1,decide_true,if_true]
   rw [bV (by omega) (by omega),e,aP (jL t k big (by omega) (by omega)),ih k (by omega) (by omega)]
   simp only [bwd,Bool.cond_decide]
   split <;> rfl
omit hl in
def wOn (k:Int):Int:=
 let n:Int:=t.length
 let x:=if k<n∧fZ big (at' t k)≠0 then fwd (fun i=>fZ big (at' t i)=fZ big (at' t k)) (n - k).toNat k else k
 fwd (fun i=>fZ big (at' t i)=0) (n - x).toNat x
omit hl in
def zH (k:Nat):Int:=
 let x:=bwd (fun i=>fZ big (at' t i)=0) k
 if x=0 then 0 else (bwd (fun i=>fZ big (at' t i)=fZ big (at' t ((x:Int) - 1))) x:Nat)
omit hl in
def aHe (k:Int):Int:=
 let n:Int:=t.length
 if n=0 then 0 else if n≤k+1 then n - 1 else
  let x:=fwd (fun i=>fZ big (at' t i)=0) (n - (k+1)).toNat (k+1)
  if n≤x then n - 1 else fwd (fun i=>fZ big (at' t i)=fZ big (at' t x)) (n - x).toNat x - 1
omit hl in
theorem aMu (k:Int) (h0:0≤k) (h1:k≤(t.length:Int)):k≤wOn t big k∧wOn t big k≤(t.length:Int):=by
 unfold wOn
 simp only
 split
 ·
  have a:=gJ (fun i=>fZ big (at' t i)=fZ big (at' t k)) ((t.length:Int) - k).toNat k
  have b:=gJ (fun i=>fZ big (at' t i)=0) ((t.length:Int) - fwd (fun i=>fZ big (at' t i)=fZ big (at' t k)) ((t.length:Int) - k).toNat k).toNat (fwd (fun i=>fZ big (at' t i)=fZ big (at' t k)) ((t.length:Int) - k).toNat k)
  omega
 ·
  have b:=gJ (fun i=>fZ big (at' t i)=0) ((t.length:Int) - k).toNat k
  omega
omit hl in
theorem vV (k:Nat) (h1:(k:Int)≤(t.length:Int)):0≤zH t big k∧zH t big k≤k:=by
 unfold zH
 simp only
 have a:=zA (fun i=>fZ big (at' t i)=0) k
 split
 ·
  omega
 ·
  have b:=zA (fun i=>fZ big (at' t i)=fZ big (at' t ((bwd (fun i=>fZ big (at' t i)=0) k:Nat) - 1:Int))) (bwd (fun i=>fZ big (at' t i)=0) k)
  omega
theorem aJq (k:Int) (h0:0≤k) (h1:k≤(t.length:Int)):0≤aHe t big k∧aHe t big k≤(t.length:Int):=by
 unfold aHe
 simp only
 split
 ·
  omega
 ·
  split
  ·
   omega
  ·
   have a:=gJ (fun i=>fZ big (at' t i)=0) ((t.length:Int) - (k+1)).toNat (k+1)
   split
   ·
    omega
   ·
    have b:=gJ (fun i=>fZ big (at' t i)=fZ big (at' t (fwd (fun i=>fZ big (at' t i)=0) ((t.length:Int) - (k+1)).toNat (k+1)))) ((t.length:Int) - fwd (fun i=>fZ big (at' t i)=0) ((t.length:Int) - (k+1)).toNat (k+1)).toNat (fwd (fun i=>fZ big (at' t i)=0) ((t.length:Int) - (k+1)).toNat (k+1))
    omega
theorem aS0 (k:Int) (h0:0≤k) (h1:k≤(t.length:Int)):pD t k big=some (wOn t big k):=by
 unfold pD dE wOn
 have e:max (0:Int) (min k (t.length:Int))=k:=by omega
 simp only [aF,aT,cA,Bool.cond_decide,e]
 by_cases h2:k<(t.length:Int)
 ·
  simp only [h2,decide_true,if_true,true_and]
  rw [jL t k big h0 h2]
  simp only
  by_cases h3:fZ big (at' t k)=0
  ·
   simp only [h3,decide_true,Bool.not_true,cond_false,ne_eq,not_true_eq_false,if_false]
   rw [aDw t hl big _ bO ((t.length:Int) - k).toNat k h0 (by omega) (by rw [bQ];omega)]
  ·
   simp only [h3,decide_false,Bool.not_false,cond_true,ne_eq,not_false_eq_true,if_true]
   have hr:lI t k big=some (fwd (fun i=>fZ big (at' t i)=fZ big (at' t k)) ((t.length:Int) - k).toNat k):=by
    unfold lI
    rw [aP (jL t k big h0 h2)]
    simp only [aT]
    rw [aBj t hl big _ _ bO ((t.length:Int) - k).toNat k h0 (by omega) (by rw [bQ];omega)]
   rw [hr]
   simp only
   have b:=gJ (fun i=>fZ big (at' t i)=fZ big (at' t k)) ((t.length:Int) - k).toNat k
   generalize fwd (fun i=>fZ big (at' t i)=fZ big (at' t k)) ((t.length:Int) - k).toNat k=x at *
   rw [aDw t hl big _ bO ((t.length:Int) - x).toNat x (by omega) (by omega) (by rw [bQ];omega)]
 ·
  simp only [h2,decide_false,if_false,Bool.false_eq_true,false_and,cond_false]
  rw [aDw t hl big _ bO ((t.length:Int) - k).toNat k h0 (by omega) (by rw [bQ];omega)]
theorem aIr (k:Nat) (h1:(k:Int)≤(t.length:Int)):jD t (k:Int) big=some (zH t big k):=by
 unfold jD dE zH
 have e:max (0:Int) (min (k:Int) (t.length:Int))=k:=by omega
 simp only [aF,aT,Bool.cond_decide,e]
 rw [aIt t hl big _ bO k h1 (by rw [bQ];omega)]
 have a:=zA (fun i=>fZ big (at' t i)=0) k
 generalize bwd (fun i=>fZ big (at' t i)=0) k=x at *
 by_cases h2:x=0
 ·
  simp [h2]
 ·
  have h2':¬ ((x:Int)=0):=by omega
  simp only [h2,h2',if_false]
  rw [bV (by omega) (by omega),jL t ((x:Int) - 1) big (by omega) (by omega)]
  simp only
  rw [aIs t hl big _ _ bO x (by omega) (by rw [bQ];omega)]
theorem aRk (k:Int) (h0:0≤k) (h1:k≤(t.length:Int)):nA t k big=some (aHe t big k):=by
 unfold nA dE aHe
 have e:max (0:Int) (min k (t.length:Int))=k:=by omega
 simp only [aF,aT,Bool.cond_decide,e]
 by_cases hz:(t.length:Int)=0
 ·
  simp [hz]
 ·
  simp only [hz,if_false]
  rw [bV (x:=k+1) (by omega) (by omega)]
  by_cases h2:(t.length:Int)≤k+1
  ·
   simp only [h2,if_true]
   obtain ⟨n,hn⟩:∃ n,bO=n+1:=⟨bO - 1,by have:=bQ;omega⟩
   rw [hn]
   have h3:¬ (k+1<(t.length:Int)):=by omega
   simp only [aZ,gL,cA,h3,decide_false,Bool.false_eq_true,if_false,cond_false,h2,if_true]
   rw [bV (by omega) (by omega)]
  ·
   simp only [h2,if_false]
   rw [aNl t hl big _ bO ((t.length:Int) - (k+1)).toNat (k+1) (by omega) (by omega) (by rw [bQ];omega)]
   have b:=gJ (fun i=>fZ big (at' t i)=0) ((t.length:Int) - (k+1)).toNat (k+1)
   generalize fwd (fun i=>fZ big (at' t i)=0) ((t.length:Int) - (k+1)).toNat (k+1)=x at *
   by_cases h3:(t.length:Int)≤x
   ·
    simp only [h3,if_true]
    rw [bV (by omega) (by omega)]
   ·
    simp only [h3,if_false]
    have hr:lI t x big=some (fwd (fun i=>fZ big (at' t i)=fZ big (at' t x)) ((t.length:Int) - x).toNat x):=by
     unfold lI
     rw [aP (jL t x big (by omega) (by omega))]
     simp only [aT]
     rw [aBj t hl big _ _ bO ((t.length:Int) - x).toNat x (by omega) (by omega) (by rw [bQ];omega)]
    rw [hr]
    simp only
    have b2:=gJ (fun i=>fZ big (at' t i)=fZ big (at' t x)) ((t.length:Int) - x).toNat x
    rw [bV (by omega) (by omega)]
end
def kOk (k:Int×Int):Bool:=
 if k.1=1 then pr k.2
 else if k.1=2 then decide (k.2=95∨(97≤k.2∧k.2≤122∧k.2≠104∧k.2≠105∧k.2≠106∧k.2≠109))
 else if k.1=3 then decide (33≤k.2∧k.2≤126)
 else decide (4≤k.1∧k.1≤16∧k.2=0)
theorem aRh (k:Int×Int):uP k=some (kOk k):=by
 unfold uP kOk
 simp only [qK,aF,Bool.cond_decide,eN,dH,dS]
 by_cases h1:k.1=1
 ·
  rw [if_pos h1,if_pos h1]
 rw [if_neg h1,if_neg h1]
 by_cases h2:k.1=2
 ·
  rw [if_pos h2,if_pos h2]
  congr 1
  by_cases q1:k.2=95
  ·
   simp [q1]
  ·
   by_cases q2:97≤k.2 <;> by_cases q3:k.2≤122 <;> simp [q1,q2,q3,Bool.and_assoc]
 rw [if_neg h2,if_neg h2]
 by_cases h3:k.1=3
 ·
  rw [if_pos h3,if_pos h3]
  congr 1
  by_cases q2:33≤k.2 <;> simp [q2]
 rw [if_neg h3,if_neg h3]
 congr 1
 by_cases q2:4≤k.1 <;> by_cases q3:k.1≤16 <;> simp [q2,q3]
theorem aRg (k:Int×Int):uJ k=some (kOk k):=by
 unfold uJ kOk
 simp only [aBm,aF,Bool.cond_decide]
 by_cases h1:k.1=1
 ·
  rw [if_pos h1,if_pos h1]
 rw [if_neg h1,if_neg h1]
 by_cases h2:k.1=2
 ·
  rw [if_pos h2,if_pos h2]
  congr 1
  by_cases q1:k.2=95
  ·
   simp [q1]
  ·
   by_cases q2:97≤k.2 <;> by_cases q3:k.2≤122 <;> simp [q1,q2,q3,Bool.and_assoc]
 rw [if_neg h2,if_neg h2]
 by_cases h3:k.1=3
 ·
  rw [if_pos h3,if_pos h3]
  congr 1
  by_cases q2:33≤k.2 <;> simp [q2]
 rw [if_neg h3,if_neg h3]
 congr 1
 by_cases q2:4≤k.1 <;> by_cases q3:k.1≤16 <;> simp [q2,q3]
def xR (p:EdT×Int):EdT×Int×Bool:=(p.1,p.2,true)
def aMh (r:Int) (e:EdT):EdT×Int×Bool:=
 if r=99 then (e,3,true) else if r=108 then (e,5,true)
 else if r=100 then (if 0<(e.2.2.1.1.length:Int) then xR (aN1 e.2.2.1.2 (min (e.2.2.1.2+max e.2.2.2.1 1) (e.2.2.1.1.length:Int)) e) else (e,4,true))
 else if r=117 then xR (aBz 0 e.2.2.1.2 2 e)
 else if r=119 then xR (aBz (zH e.2.2.1.1 true e.2.2.1.2.toNat) e.2.2.1.2 2 e)
 else (zEd,0,false)
def nL (h:Int×List (List UInt8)) (k:Int×Int) (e:EdT):EdT×Int×Bool:=
 if k.1=1 then xR (aGq (List.replicate (max e.2.2.2.1 1).toNat k.2) 1 e)
 else if k.1=6 then xR (aGq (List.replicate (max e.2.2.2.1 1).toNat 9) 1 e)
 else if k.1=4 then (e,2,true)
 else if k.1=2 then aMh k.2 e
 else if k.1=5 then xR (aN1 (max (e.2.2.1.2 - max e.2.2.2.1 1) 0) e.2.2.1.2 e)
 else if k.1=14 then xR (aN1 e.2.2.1.2 (min (e.2.2.1.2+max e.2.2.2.1 1) (e.2.2.1.1.length:Int)) e)
 else if k.1=11 then xR (goE (e.2.2.1.2 - max e.2.2.2.1 1) e)
 else if k.1=10 then xR (goE (e.2.2.1.2+max e.2.2.2.1 1) e)
 else if k.1=12 then xR (goE 0 e)
 else if k.1=13 then xR (goE (e.2.2.1.1.length:Int) e)
 else if k.1=8 then xR (vW h (-1) e)
 else if k.1=9 then xR (vW h 1 e)
 else (zEd,0,false)
theorem aIn (e:EdT) (hv:cF e=true) (r n nl:Int):aGq (List.replicate (min n 401).toNat r) nl e=aGq (List.replicate n.toNat r) nl e:=by
 unfold aGq
 rw [aO3 (eOk e hv).1]
section
variable (e:EdT) (hv:cF e=true)
include hv
theorem aS8 (r:Int):mW e r=some (aMh r e):=by
 obtain ⟨hl,hc,_⟩:=eOk e hv
 obtain ⟨p0,p1,p2⟩:=bF hl
 unfold mW aMh
 rw [aP (iZ e hv),bV (x:=e.2.2.1.2+max e.2.2.2.1 1) (by omega) (by omega)]
 simp only [aT,Bool.cond_decide]
 by_cases c1:r=99
 ·
  rw [if_pos c1,if_pos c1]
 rw [if_neg c1,if_neg c1]
 by_cases c1:r=108
 ·
  rw [if_pos c1,if_pos c1]
 rw [if_neg c1,if_neg c1]
 by_cases c1:r=100
 ·
  rw [if_pos c1,if_pos c1]
  by_cases c2:0<(e.2.2.1.1.length:Int)
  ·
   rw [if_pos c2,if_pos c2]
   exact aK (aP2 e hv _ _ (by omega)) rfl
  ·
   rw [if_neg c2,if_neg c2]
 rw [if_neg c1,if_neg c1]
 by_cases c1:r=117
 ·
  rw [if_pos c1,if_pos c1]
  exact aK (aDu e hv _ _ _ (by omega) (by omega)) rfl
 rw [if_neg c1,if_neg c1]
 by_cases c1:r=119
 ·
  rw [if_pos c1,if_pos c1]
  obtain ⟨n,hn⟩:∃ n:Nat,e.2.2.1.2=(n:Int):=⟨e.2.2.1.2.toNat,by omega⟩
  have hb:=vV e.2.2.1.1 true n (by omega)
  have hw:=aIr e.2.2.1.1 (by omega) true n (by omega)
  rw [hn,Int.toNat_natCast]
  refine aK hw ?_
  exact aK (aDu e hv _ _ _ (by omega) (by omega)) rfl
 rw [if_neg c1,if_neg c1]
 rfl
variable (h:Int×List (List UInt8)) (hh:(h.2.length:Int)≤1048576)
include hh
theorem aF4 (k:Int×Int):mC e h k=some (nL h k e):=by
 obtain ⟨hl,hc,_⟩:=eOk e hv
 obtain ⟨p0,p1,p2⟩:=bF hl
 have hgo:∀ a:Int,aF (dP e.2.2.1 a) (fun l=>eX e l)=some (goE a e):=by
  intro a
  exact aK (pN _ a (by omega)) (tB e hv _ (mI hl a))
 have hput:∀ a:Int,dP e.2.2.1 a=some (goL e.2.2.1 a):=fun a=>pN _ a (by omega)
 have hput2:∀ a:Int,eX e (goL e.2.2.1 a)=some (goE a e):=fun a=>tB e hv _ (mI hl a)
 unfold mC nL
 rw [bV (x:=e.2.2.1.2+max e.2.2.2.1 1) (by omega) (by omega),bV (x:=e.2.2.1.2 - max e.2.2.2.1 1) (by omega) (by omega)]
 simp only [aT,Bool.cond_decide]
 by_cases c1:k.1=1
 ·
  rw [if_pos c1,if_pos c1,← aIn e hv]
  exact aK (aLr _ _ (by omega) (by omega)) (aK (aPm e hv _ (by rw [List.length_replicate];omega) 1) rfl)
 rw [if_neg c1,if_neg c1]
 by_cases c1:k.1=6
 ·
  rw [if_pos c1,if_pos c1,← aIn e hv]
  exact aK (aLr _ _ (by omega) (by omega)) (aK (aPm e hv _ (by rw [List.length_replicate];omega) 1) rfl)
 rw [if_neg c1,if_neg c1]
 by_cases c1:k.1=4
 ·
  rw [if_pos c1,if_pos c1]
  exact aK (iZ e hv) rfl
 rw [if_neg c1,if_neg c1]
 by_cases c1:k.1=2
 ·
  rw [if_pos c1,if_pos c1]
  exact aK (aS8 e hv _) rfl
 rw [if_neg c1,if_neg c1]
 by_cases c1:k.1=5
 ·
  rw [if_pos c1,if_pos c1]
  exact aK (aP2 e hv _ _ (by omega)) rfl
 rw [if_neg c1,if_neg c1]
 by_cases c1:k.1=14
 ·
  rw [if_pos c1,if_pos c1]
  exact aK (aP2 e hv _ _ (by omega)) rfl
 rw [if_neg c1,if_neg c1]
 by_cases c1:k.1=11
 ·
  rw [if_pos c1,if_pos c1]
  exact aK (hput _) (aK (hput2 _) rfl)
 rw [if_neg c1,if_neg c1]
 by_cases c1:k.1=10
 ·
  rw [if_pos c1,if_pos c1]
  exact aK (hput _) (aK (hput2 _) rfl)
 rw [if_neg c1,if_neg c1]
 by_cases c1:k.1=12
 ·
  rw [if_pos c1,if_pos c1]
  exact aK (hput _) (aK (hput2 _) rfl)
 rw [if_neg c1,if_neg c1]
 by_cases c1:k.1=13
 ·
  rw [if_pos c1,if_pos c1]
  exact aK (hput _) (aK (hput2 _) rfl)
 rw [if_neg c1,if_neg c1]
 by_cases c1:k.1=8
 ·
  rw [if_pos c1,if_pos c1]
  exact aK (xI e hv h hh _) rfl
 rw [if_neg c1,if_neg c1]
 by_cases c1:k.1=9
 ·
  rw [if_pos c1,if_pos c1]
  exact aK (xI e hv h hh _) rfl
 rw [if_neg c1,if_neg c1]
 rfl
end
def fX (e:EdT):List (List Int):=e.2.2.2.2.2.2.2.2.2.2.1
def mK (r:List (List Int)):List Int:=r.headD []
def tL (r:List (List Int)):List (List Int):=r.drop 1 ++ r.take 1
def aOb (e:EdT):EdT×Int:=if ((mK (fX e)).length:Int)=0 then fP e else aGq (mK (fX e)) 3 e
def zE (e:EdT) (top:List Int) (f:Int):EdT×Int:=
 if e.2.2.2.2.2.2.2.2.2.1≠3∨(top.length:Int)=0∨f<0∨bJ e.2.2.1.1 f e.2.2.1.2≠top then fP e
 else if (qJ (wU e.2.2.1 f e.2.2.1.2) (mK (tL (fX e)))).2=true then (rJ (qJ (wU e.2.2.1 f e.2.2.1.2) (mK (tL (fX e)))).1 3 (aBk (tL (fX e)) e),0) else fP e
def aG7 (e:EdT):EdT×Int:=zE e (mK (fX e)) (e.2.2.1.2 - ((mK (fX e)).length:Int))
def aPa (l:List Int×Int) (u:List (List Int×Int)):EdT→EdT
  | (vi,D,_,B_,op,A7,A9,fr,fh,A5,A8,_,O,A0,Z,A6,A_)=>(vi,D,l,B_,op,A7,A9,fr,fh,A5,A8,u,O,A0,Z,A6,A_)
def kY (e:EdT):List (List Int×Int):=e.2.2.2.2.2.2.2.2.2.2.2.1
def aE1 (e:EdT):EdT×Int:=
 let u:=kY e
 if (u.length:Int)=0 then fP e
 else (aPa ((at' u ((u.length:Int) - 1)).1,jA e.2.1 (at' u ((u.length:Int) - 1))) (u.take (u.length - 1)) (jU 0 e),0)
def aHs:EdT→EdT×Int
  | (vi,_,G,_,_,_,_,fr,fh,_,A8,A4,O,A0,_,_,_)=>((vi,3,G,0,0,0,0,fr,fh,0,A8,A4,O,A0,[],0,G),0)
theorem aCf {r:List (List Int)} (h:eR r=true):cT (mK r)=true∧(mK r).length≤400:=by
 obtain ⟨h1,h2⟩:=gX h
 cases r with
 | nil=>exact ⟨rfl,by simp [mK]⟩
 | cons a r=>
  have:=(h2 a List.mem_cons_self).1
  exact ⟨this,gO this⟩
theorem aHg {r:List (List Int)} (h:eR r=true):eR (tL r)=true:=by
 obtain ⟨h1,h2⟩:=gX h
 refine aAy (by unfold tL;simp;omega) fun s hs=>?_
 unfold tL at hs
 rcases List.mem_append.1 hs with hs | hs
 ·
  exact h2 s (List.mem_of_mem_drop hs)
 ·
  exact h2 s (List.mem_of_mem_take hs)
theorem xJ (r:List (List Int)) (h:eR r=true):gG r=some (mK r):=by
 obtain ⟨h1,h2⟩:=gX h
 unfold gG
 rw [aP (zR r (by omega) (fun s hs=>by have:=gO (h2 s hs).1;omega)),h]
 cases r with
 | nil=>rfl
 | cons a r=>
  have ha:=gO (h2 a List.mem_cons_self).1
  have e0:at' (a :: r) 0=a:=rfl
  rw [e0,decide_eq_false (by simp only [List.length_cons];omega)]
  simp only [Bool.not_true,cond_false,aN]
  rw [if_pos (by simp only [List.length_cons];omega),aP (iP a (by omega))]
  rfl
theorem aKd (r:List (List Int)) (h:eR r=true):mE r=some (tL r):=by
 obtain ⟨h1,h2⟩:=gX h
 unfold mE
 rw [aP (zR r (by omega) (fun s hs=>by have:=gO (h2 s hs).1;omega)),h]
 simp only [Bool.not_true,cond_false,aT,aN]
 rw [aP (yY r (by omega) (fun s hs=>by have:=gO (h2 s hs).1;omega))]
 cases r with
 | nil=>rfl
 | cons a r=>
  have e0:at' (a :: r) 0=a:=rfl
  rw [e0,decide_eq_true (by simp only [List.length_cons];omega),cond_true,if_pos (by simp only [List.length_cons] at h1 ⊢;omega),if_pos (by omega),if_pos (by simp only [List.length_cons];omega),if_pos (by omega)]
  rfl
section
variable (e:EdT) (hv:cF e=true)
include hv
theorem aSf:xC e=some (aOb e):=by
 obtain ⟨hl,_,hro,_⟩:=eOk e hv
 obtain ⟨t1,t2⟩:=aCf hro
 unfold xC aOb
 rw [aP (xJ _ hro),Bool.cond_decide]
 show (if ((mK (fX e)).length:Int)=0 then _ else _)=_
 split
 ·
  exact aK (dM e hv) rfl
 ·
  exact aK (aPm e hv _ (by omega) 3) rfl
theorem aJm:pA e=some (aG7 e):=by
 obtain ⟨hl,_,hro,_⟩:=eOk e hv
 obtain ⟨p0,p1,p2⟩:=bF hl
 obtain ⟨t1,t2⟩:=aCf hro
 have hro2:=aHg hro
 obtain ⟨u1,u2⟩:=aCf hro2
 have hv2:=xK e hv _ hro2
 have hset:=aCv _ hv2
 have htop:=xJ _ hro
 have hturn:=aKd _ hro
 have htop2:=xJ _ hro2
 change eR (fX e)=true at hro
 change gG (fX e)=some (mK (fX e)) at htop
 change mE (fX e)=some (tL (fX e)) at hturn
 change gG (tL (fX e))=some (mK (tL (fX e))) at htop2
 change (mK (tL (fX e))).length≤400 at u2
 unfold pA aG7
 refine aK htop ?_
 simp only
 change (mK (fX e)).length≤400 at t2
 generalize mK (fX e)=top at t2 ⊢
 rw [bV (x:=e.2.2.1.2 - (top.length:Int)) (by omega) (by omega)]
 generalize hf:e.2.2.1.2 - (top.length:Int)=f
 simp only [aN]
 by_cases c1:e.2.2.2.2.2.2.2.2.2.1=3
 ·
  by_cases c2:(top.length:Int)=0
  ·
   rw [show zE e top f=fP e from if_pos (.inr (.inl c2)),decide_eq_true c1,decide_eq_true c2]
   simp only [Bool.not_true,cond_false,cond_true,Bool.true_eq_false,false_implies,if_true]
   rw [uF (by simp)]
   exact aK (dM e hv) rfl
  ·
   by_cases c3:f<0
   ·
    rw [show zE e top f=fP e from if_pos (.inr (.inr (.inl c3))),decide_eq_true c1,decide_eq_false c2,decide_eq_true c3]
    simp only [Bool.not_true,cond_false,cond_true,Bool.true_eq_false,false_implies,if_true]
    rw [uF (by simp)]
    exact aK (dM e hv) rfl
   ·
    rw [decide_eq_true c1,decide_eq_false c2,decide_eq_false c3]
    have hs:=yK e.2.2.1.1 f e.2.2.1.2
    simp only [Bool.not_true,cond_false,cond_true,forall_const]
    rw [if_pos (by omega),aJ8 _ _ (by omega),uE trivial]
    by_cases c4:bJ e.2.2.1.1 f e.2.2.1.2=top
    ·
     rw [show zE e top f=_ from if_neg (fun h=>h.elim (fun h=>h c1) fun h=>h.elim c2 fun h=>h.elim c3 fun h=>h c4),decide_eq_true c4]
     have hcut:=xN e.2.2.1 f e.2.2.1.2 (by omega)
     rw [aGy e hv f e.2.2.1.2 (by omega)] at hcut
     obtain ⟨k1,k2⟩:=vC hl (a:=f) (b:=e.2.2.1.2) (by omega)
     simp only [Bool.not_true,cond_false]
     refine aK hcut (aK hturn ?_)
     simp only [aT]
     refine aK htop2 (aK (aA8 _ _ k1 (by omega)) ?_)
     have ho:=@xL (wU e.2.2.1 f e.2.2.1.2) (mK (tL (fX e)))
     generalize qJ (wU e.2.2.1 f e.2.2.1.2) (mK (tL (fX e)))=q at ho ⊢
     obtain ⟨l,b⟩:=q
     cases b
     ·
      exact aK (dM e hv) rfl
     ·
      refine aK (iZ e hv) ?_
      exact aK (hset l (ho rfl) 3) rfl
    ·
     rw [show zE e top f=fP e from if_pos (.inr (.inr (.inr c4))),decide_eq_false c4]
     exact aK (dM e hv) rfl
 ·
  rw [show zE e top f=fP e from if_pos (.inl c1),decide_eq_false c1]
  simp only [Bool.not_false,cond_true,Bool.true_eq_false,false_implies,if_true]
  rw [uF (by simp)]
  exact aK (dM e hv) rfl
theorem aTs:gC (kY e)=true∧(0≤e.2.1∧e.2.1≤3):=by
 obtain ⟨vi,D,G,B_,op,A7,A9,fr,fh,A5,A8,A4,O,A0,Z,A6,A_⟩:=e
 obtain ⟨h1,h2,h3,h4,h5,h6,h7,h8,h9,h10,h11,h12,h13,h14,h15,h16⟩:=cO hv
 refine ⟨h10,?_⟩
 unfold iX at h6
 simp only [Bool.and_eq_true,decide_eq_true_eq] at h6
 exact ⟨h6.1.1.1,h6.1.1.2.1⟩
end
theorem aQz (u:List (List Int×Int)) (h:gC u=true):pE u=some (if (u.length:Int)=0 then ([],([],0),false) else (u.take (u.length - 1),at' u ((u.length:Int) - 1),true)):=by
 obtain ⟨h1,h2⟩:=kX h
 have hs:∀ s ∈ u,(s.1.length:Int)≤1048576:=fun s hs=>by have:=(bF (h2 s hs)).2.2;omega
 unfold pE
 rw [aP (aCp u (by omega) (fun s hs=>by have:=(bF (h2 s hs)).2.2;omega)),h]
 by_cases c:(u.length:Int)=0
 ·
  rw [if_pos c,decide_eq_true c];rfl
 rw [if_neg c,decide_eq_false c,bV (x:=(u.length:Int) - 1) (by omega) (by omega)]
 have hsub:bJ u 0 ((u.length:Int) - 1)=u.take (u.length - 1):=by
  unfold bJ
  rw [show ((u.length:Int) - 1).toNat=u.length - 1 by omega]
  simp
 have hm:=List.mem_of_getElem? (bH (xs:=u) (i:=(u.length:Int) - 1) ⟨by omega,by omega⟩)
 simp only [Bool.not_true,cond_false,aN]
 rw [if_pos (by omega),hsub,aP (yX _ (by rw [List.length_take];omega) (fun s q=>hs s (List.mem_of_mem_take q))),if_pos (by omega)]
 rw [aP (fY ((at' u ((u.length:Int) - 1)).1,(at' u ((u.length:Int) - 1)).2) (hs _ hm))]
section
variable (e:EdT) (hv:cF e=true)
include hv
theorem aOe:uK e=some (aE1 e):=by
 obtain ⟨hu,hm⟩:=aTs e hv
 obtain ⟨h1,h2⟩:=kX hu
 have ht:=aQz _ hu
 have hset:eE e 0=some (jU 0 e):=by
  obtain ⟨vi,D,G,B_,op,A7,A9,fr,fh,A5,A8,A4,O,A0,Z,A6,A_⟩:=e
  exact tN vi D G B_ op A7 A9 fr fh A5 A8 A4 O A0 Z A6 A_ hv 0
 unfold uK aE1
 refine aK ht ?_
 simp only
 by_cases c:((kY e).length:Int)=0
 ·
  rw [if_pos c,if_pos c]
  exact aK (dM e hv) rfl
 rw [if_neg c,if_neg c]
 have hmem:=List.mem_of_getElem? (bH (xs:=kY e) (i:=((kY e).length:Int) - 1) ⟨by omega,by omega⟩)
 have hlo:=bF (h2 _ hmem)
 generalize at' (kY e) (((kY e).length:Int) - 1)=l at hlo ⊢
 generalize (kY e).take ((kY e).length - 1)=u
 refine aK hset (aK (sZ l e.2.1 (by omega)) ?_)
 obtain ⟨vi,D,G,B_,op,A7,A9,fr,fh,A5,A8,A4,O,A0,Z,A6,A_⟩:=e
 rfl
theorem aJ7:sQ e=some (aHs e):=by
 have hl:=eOk e hv
 have hset:eE e 0=some (jU 0 e):=by
  obtain ⟨vi,D,G,B_,op,A7,A9,fr,fh,A5,A8,A4,O,A0,Z,A6,A_⟩:=e
  exact tN vi D G B_ op A7 A9 fr fh A5 A8 A4 O A0 Z A6 A_ hv 0
 have hl2:=(bF hl.1).2.2
 unfold sQ
 refine aK hset (aK (fY e.2.2.1 (by omega)) ?_)
 obtain ⟨vi,D,G,B_,op,A7,A9,fr,fh,A5,A8,A4,O,A0,Z,A6,A_⟩:=e
 rfl
end
theorem aGx (e:EdT) (hs:oV 100000000 e):lS e=some (cF e):=by
 obtain ⟨vi,D,G,B_,op,A7,A9,fr,fh,A5,A8,A4,O,A0,Z,A6,A_⟩:=e
 exact aPx vi D G B_ op A7 A9 fr fh A5 A8 A4 O A0 Z A6 A_ hs
section
variable (h:Int×List (List UInt8)) (hh:(h.2.length:Int)≤1048576) (k:Int×Int) (e:EdT) (hs:oV 1048576 e)
include hh hs
theorem aD4:nW e h k=some (cF e && hOk h && kOk k):=by
 unfold nW
 rw [aP (aGx e (oL (by omega) hs)),uZ h hh,dS,aRh,dS]
 cases cF e <;> cases hOk h <;> cases kOk k <;> rfl
end
def aS9 (n:Int):EdT→EdT
  | (vi,D,G,_,op,A7,A9,fr,fh,A5,A8,A4,O,A0,Z,A6,A_)=>(vi,D,G,n,op,A7,A9,fr,fh,A5,A8,A4,O,A0,Z,A6,A_)
def onE (e:EdT):Int:=again (eOn e.2.2.1.1) (max e.2.2.2.1 1).toNat e.2.2.1.2
def aMk (e:EdT):Int:=again (fun k=>(yG e.2.2.1.1 k.toNat:Int)) (max e.2.2.2.1 1).toNat e.2.2.1.2
def aJg (how:Int) (e:EdT):EdT×Int:=(rJ (aMj e.2.2.1 e.2.2.1.2 (eOn e.2.2.1.1 e.2.2.1.2) how) 0 e,0)
def aOl (e:EdT):EdT×Int:=if (aE2 e.2.2.1).2=true then (rJ (aE2 e.2.2.1).1 0 e,0) else fP e
def aL6 (r:Int) (e:EdT):EdT×Int:=
 if 48≤r∧r≤57 then (aS9 (min (10*e.2.2.2.1+r - 48) 999) e,0)
 else if r=98 then goE (aMk e) e
 else if r=102 then goE (onE e) e
 else if r=100 then aBz e.2.2.1.2 (onE e) 1 e
 else if r=121 then aG7 e
 else if r=117 then aJg 1 e
 else if r=108 then aJg 0 e
 else if r=99 then aJg 2 e
 else fP e
def aRx (h:Int×List (List UInt8)) (r:Int) (e:EdT):EdT×Int:=
 if r=97 then goE 0 e
 else if r=101 then goE (e.2.2.1.1.length:Int) e
 else if r=98 then goE (e.2.2.1.2 - max e.2.2.2.1 1) e
 else if r=102 then goE (e.2.2.1.2+max e.2.2.2.1 1) e
 else if r=112 then vW h (-1) e
 else if r=110 then vW h 1 e
 else if r=107 then aBz e.2.2.1.2 (e.2.2.1.1.length:Int) 1 e
 else if r=121 then aOb e
 else if r=116 then aOl e
 else if r=95 then aE1 e
 else if r=114 then aHs e
 else fP e
def aD0 (h:Int×List (List UInt8)) (k:Int×Int) (e:EdT):EdT×Int:=
 if (nL h k e).2.2=true then ((nL h k e).1,(nL h k e).2.1)
 else if k.1=3 then aL6 k.2 e
 else if k.1=15 then aBz (aMk e) e.2.2.1.2 2 e
 else if k.1=2 then aRx h k.2 e
 else fP e
def emR (h:Int×List (List UInt8)) (k:Int×Int) (e:EdT):EdT×Int:=
  if (cF e && hOk h && kOk k)=true∧e.2.1=0 then aD0 h k e else (zEd,0)
section
variable (e:EdT) (hv:cF e=true)
include hv
theorem aFa:e.2.2.1.2≤onE e∧onE e≤(e.2.2.1.1.length:Int):=by
 obtain ⟨p0,p1,p2⟩:=bF (eOk e hv).1
 exact aAg _ _ _ (by omega) (by omega)
theorem wY:0≤aMk e∧aMk e≤e.2.2.1.2:=by
 obtain ⟨p0,p1,p2⟩:=bF (eOk e hv).1
 exact wO _ _ _ (by omega) (by omega)
theorem aSe:e.2.2.1.2≤eOn e.2.2.1.1 e.2.2.1.2∧eOn e.2.2.1.1 e.2.2.1.2≤(e.2.2.1.1.length:Int):=by
 obtain ⟨p0,p1,p2⟩:=bF (eOk e hv).1
 exact aBb _ _ (by omega) (by omega)
theorem aSw (r:Int) (hr:-1000000≤r∧r≤10000000000):kQ e r=some (aL6 r e):=by
 obtain ⟨hl,hc,_⟩:=eOk e hv
 obtain ⟨p0,p1,p2⟩:=bF hl
 obtain ⟨b1,b2⟩:=aSe e hv
 have ho:=aFa e hv
 have hb:=wY e hv
 have hput2:∀ a:Int,eX e (goL e.2.2.1 a)=some (goE a e):=fun a=>tB e hv _ (mI hl a)
 have hgo:∀ a:Int,dP e.2.2.1 a=some (goL e.2.2.1 a):=fun a=>pN _ a (by omega)
 have hon:=aQ8 e.2.2.1.1 (by omega) e.2.2.1.2 (max e.2.2.2.1 1) p0 p1 (by omega)
 have hba:=aNb e.2.2.1.1 (by omega) e.2.2.1.2 (max e.2.2.2.1 1) p0 p1 (by omega)
 unfold kQ aL6
 have hd:lK r=some (decide (48≤r∧r≤57)):=by
  unfold lK
  rw [aP (yC r 48 57)]
 rw [aP hd]
 simp only [Bool.cond_decide,aT]
 by_cases c1:48≤r∧r≤57
 ·
  rw [if_pos c1,if_pos c1,bV (x:=10*e.2.2.2.1) (by omega) (by omega),bV (x:=10*e.2.2.2.1+r) (by omega) (by omega),bV (x:=10*e.2.2.2.1+r - 48) (by omega) (by omega)]
  exact aK (iZ e hv) rfl
 rw [if_neg c1,if_neg c1]
 by_cases c2:r=98
 ·
  rw [if_pos c2,if_pos c2]
  exact aK hba (aK (hgo _) (aK (hput2 _) rfl))
 rw [if_neg c2,if_neg c2]
 by_cases c3:r=102
 ·
  rw [if_pos c3,if_pos c3]
  exact aK hon (aK (hgo _) (aK (hput2 _) rfl))
 rw [if_neg c3,if_neg c3]
 by_cases c4:r=100
 ·
  rw [if_pos c4,if_pos c4]
  exact aK hon (aK (aDu e hv _ _ 1 ⟨p0,ho⟩ (by omega)) rfl)
 rw [if_neg c4,if_neg c4]
 by_cases c5:r=121
 ·
  rw [if_pos c5,if_pos c5]
  exact aK (aJm e hv) rfl
 rw [if_neg c5,if_neg c5]
 have hcase:∀ how:Int,0≤how∧how≤2→(aF (nX e.2.2.1.1 e.2.2.1.2) fun (y138:Int)=>
   (aF (mF e.2.2.1 e.2.2.1.2 y138 how) fun (y140,y141)=>
   (aF (eX e (y140.1,y140.2)) fun (y151,y152)=>some (y151,y152))))=some (aJg how e):=by
  intro how hh
  exact aK (aSd _ (by omega) _ p0 p1) (aK (aK2 _ hl _ _ how ⟨p0,b1,b2⟩ hh) (aK (tB e hv _ (aJf hl _ _ how ⟨p0,b1,b2⟩)) rfl))
 by_cases c6:r=117
 ·
  subst c6
  exact hcase 1 (by omega)
 by_cases c7:r=108
 ·
  subst c7
  exact hcase 0 (by omega)
 by_cases c8:r=99
 ·
  subst c8
  exact hcase 2 (by omega)
 have hm:xT [(117,1),(108,0),(99,2)] r=false:=by simp [xT,aAe,c6,c7,c8]
 rw [hm,if_neg c6,if_neg c7,if_neg c8]
 exact aK (dM e hv) rfl
variable (h:Int×List (List UInt8)) (hh:(h.2.length:Int)≤1048576)
include hh
theorem aTt (r:Int):kR e h r=some (aRx h r e):=by
 obtain ⟨hl,hc,_⟩:=eOk e hv
 obtain ⟨p0,p1,p2⟩:=bF hl
 unfold kR aRx
 have hp:∀ k:Int,mC e h (k,0)=some (nL h (k,0) e):=fun k=>aF4 e hv h hh (k,0)
 by_cases c1:r=97
 ·
  subst c1;exact aK (hp 12) rfl
 by_cases c2:r=101
 ·
  subst c2;exact aK (hp 13) rfl
 by_cases c3:r=98
 ·
  subst c3;exact aK (hp 11) rfl
 by_cases c4:r=102
 ·
  subst c4;exact aK (hp 10) rfl
 by_cases c5:r=112
 ·
  subst c5;exact aK (hp 8) rfl
 by_cases c6:r=110
 ·
  subst c6;exact aK (hp 9) rfl
 have hm:xT [(97,12),(101,13),(98,11),(102,10),(112,8),(110,9)] r=false:=by simp [xT,aAe,c1,c2,c3,c4,c5,c6]
 rw [hm,if_neg c1,if_neg c2,if_neg c3,if_neg c4,if_neg c5,if_neg c6]
 simp only [Bool.cond_decide,cond_false]
 by_cases c7:r=107
 ·
  rw [if_pos c7,if_pos c7]
  exact aK (aDu e hv _ _ 1 (by omega) (by omega)) rfl
 rw [if_neg c7,if_neg c7]
 by_cases c8:r=121
 ·
  rw [if_pos c8,if_pos c8]
  exact aK (aSf e hv) rfl
 rw [if_neg c8,if_neg c8]
 by_cases c9:r=116
 ·
  rw [if_pos c9,if_pos c9]
  refine aK (aK1 _ hl) ?_
  have hk:=@aHj _ hl
  unfold aOl aE2
  split
  ·
   exact aK (dM e hv) rfl
  ·
   rename_i c
   exact aK (tB e hv _ (hk c)) rfl
 rw [if_neg c9,if_neg c9]
 by_cases c10:r=95
 ·
  rw [if_pos c10,if_pos c10]
  exact aK (aOe e hv) rfl
 rw [if_neg c10,if_neg c10]
 by_cases c11:r=114
 ·
  rw [if_pos c11,if_pos c11]
  refine aK (aJ7 e hv) ?_
  obtain ⟨vi,D,G,B_,op,A7,A9,fr,fh,A5,A8,A4,O,A0,Z,A6,A_⟩:=e
  rfl
 rw [if_neg c11,if_neg c11]
 exact aK (dM e hv) rfl
theorem aRu (k:Int×Int) (hk:-1000000≤k.2∧k.2≤10000000000):(aF (mC e h k) fun (y34,y35,y36)=>
 (bif y36 then
 some (y34,y35)
 else
 (bif (decide (k.1=3)) then
 (aF (kQ e k.2) fun (y50,y51)=>
 some (y50,y51))
 else
 (bif (decide (k.1=15)) then
 (aF (dX e.2.2.1.2 (max e.2.2.2.1 1) e.2.2.1.1) fun (y66,y67)=>
 (aF (mX e y66 e.2.2.1.2 2) fun (y69,y70)=>
 some (y69,y70)))
 else
 (bif (decide (k.1=2)) then
 (aF (kR e h k.2) fun (y84,y85)=>
 some (y84,y85))
 else
 (aF (cR e) fun (y99,y100)=>
 some (y99,y100)))))))=some (aD0 h k e):=by
 obtain ⟨hl,hc,_⟩:=eOk e hv
 obtain ⟨p0,p1,p2⟩:=bF hl
 have hb:=wY e hv
 unfold aD0
 refine aK (aF4 e hv h hh k) ?_
 generalize nL h k e=q
 obtain ⟨z,n,b⟩:=q
 cases b
 ·
  simp only [cond_false,Bool.cond_decide,Bool.false_eq_true,if_false]
  by_cases c1:k.1=3
  ·
   rw [if_pos c1,if_pos c1];exact aK (aSw e hv k.2 hk) rfl
  rw [if_neg c1,if_neg c1]
  by_cases c2:k.1=15
  ·
   rw [if_pos c2,if_pos c2]
   exact aK (aKl e.2.2.1.1 (by omega) e.2.2.1.2 (max e.2.2.2.1 1) p0 p1 (by omega)) (aK (aDu e hv _ _ 2 ⟨hb.1,hb.2,p1⟩ (by omega)) rfl)
  rw [if_neg c2,if_neg c2]
  by_cases c3:k.1=2
  ·
   rw [if_pos c3,if_pos c3];exact aK (aTt e hv h hh k.2) rfl
  rw [if_neg c3,if_neg c3]
  exact aK (dM e hv) rfl
 ·
  rfl
end
theorem aTh {k:Int×Int} (h:kOk k=true):-1000000≤k.2∧k.2≤10000000000:=by
 unfold kOk pr at h
 split at h
 ·
  have:=of_decide_eq_true h;omega
 ·
  split at h
  ·
   have:=of_decide_eq_true h;omega
  ·
   split at h
   ·
    have:=of_decide_eq_true h;omega
   ·
    have:=of_decide_eq_true h;omega
section
variable (h:Int×List (List UInt8)) (hh:(h.2.length:Int)≤1048576) (k:Int×Int) (e:EdT) (hs:oV 1048576 e)
include hh hs
theorem em_i:pI e h k=some (emR h k e):=by
 unfold pI emR
 rw [aP (aD4 h hh k e hs)]
 have hp:cF e=true→kOk k=true→_:=fun hv hk=>aRu e hv h hh k (aTh hk)
 cases hv:cF e
 ·
  rfl
 have hp:=hp hv
 cases hOk h
 ·
  rfl
 cases hk:kOk k
 ·
  rfl
 have hp:=hp hk
 by_cases hm:e.2.1=0
 ·
  rw [decide_eq_true hm,if_pos ⟨rfl,hm⟩]
  exact hp
 ·
  rw [decide_eq_false hm,if_neg (fun h=>hm h.2)]
  rfl
end
def kV (op' a b:Int) (e:EdT):EdT×Int:=
 if a=b then (if op'=99 then (aQw a (rJ (goL e.2.2.1 a) 0 e),0) else (jU 0 e,1))
 else if op'=121 then (rJ (goL e.2.2.1 a) 0 (aBk (lA e.2.2.2.2.2.2.2.2.2.2.1 (bJ e.2.2.1.1 a b) 0) e),0)
 else if op'=99 then (aQw a (rJ (goL (wU e.2.2.1 a b) a) 0 (aBk (lA e.2.2.2.2.2.2.2.2.2.2.1 (bJ e.2.2.1.1 a b) 0) e)),0)
 else (rJ (goL (wU e.2.2.1 a b) a) 0 (aBk (lA e.2.2.2.2.2.2.2.2.2.2.1 (bJ e.2.2.1.1 a b) 0) e),0)
theorem aTc (x:Int):iF x ([100,99,121]:List UInt8)=some (decide (x=100∨x=99∨x=121)):=by
 unfold iF
 simp only [aT]
 obtain ⟨m,hm⟩:∃ m,bO=m+1+1+1+1:=⟨bO - 4,by rw [bQ]⟩
 rw [hm]
 have st:∀ (m:Nat) (k:Int),0≤k→k≤3→aZ (fS x ([100,99,121]:List UInt8) fun _=>some false) (m+1) k=if k<3 then (if ((at' ([100,99,121]:List UInt8) k).toNat:Int)=x then some true else aZ (fS x ([100,99,121]:List UInt8) fun _=>some false) m (k+1)) else some false:=by
  intro m k h1 h2
  simp only [aZ,fS,aN,Bool.cond_decide]
  rw [bV (x:=k+1) (by omega) (by omega)]
  by_cases h:k<3
  ·
   rw [if_pos (by simpa using h),if_pos h,if_pos ⟨h1,by simpa using h⟩]
  ·
   rw [if_neg (by simpa using h),if_neg h]
 rw [st _ 0 (by omega) (by omega),st _ (0+1) (by omega) (by omega),st _ (0+1+1) (by omega) (by omega),st _ (0+1+1+1) (by omega) (by omega)]
 have e0:((at' ([100,99,121]:List UInt8) 0).toNat:Int)=100:=rfl
 have e1:((at' ([100,99,121]:List UInt8) (0+1)).toNat:Int)=99:=rfl
 have e2:((at' ([100,99,121]:List UInt8) (0+1+1)).toNat:Int)=121:=rfl
 rw [e0,e1,e2]
 by_cases c0:x=100
 ·
  subst c0;simp
 ·
  by_cases c1:x=99
  ·
   subst c1;simp
  ·
   by_cases c2:x=121
   ·
    subst c2;simp
   ·
    have a0:¬ (100:Int)=x:=fun h=>c0 h.symm
    have a1:¬ (99:Int)=x:=fun h=>c1 h.symm
    have a2:¬ (121:Int)=x:=fun h=>c2 h.symm
    simp [a0,a1,a2,c0,c1,c2]
section
variable (vi:Bool) (D:Int) (G:List Int×Int) (B_ op A7 A9 fr fh A5:Int) (A8:List (List Int)) (A4:List (List Int×Int)) (O:Int) (A0:List Int×Int) (Z:List Int) (A6:Int) (A_:List Int×Int)
  (hs:oV 1048576 (vi,D,G,B_,op,A7,A9,fr,fh,A5,A8,A4,O,A0,Z,A6,A_)) (x a b:Int)
section
variable (hv:cF (vi,D,G,B_,op,A7,A9,fr,fh,A5,A8,A4,O,A0,Z,A6,A_)=true) (hr:0≤a∧a≤b∧b≤(G.1.length:Int))
include hv hr
theorem aP6:eI (vi,D,G,B_,op,A7,A9,fr,fh,A5,A8,A4,O,A0,Z,A6,A_) x a b=some (kV x a b (vi,D,G,B_,op,A7,A9,fr,fh,A5,A8,A4,O,A0,Z,A6,A_)):=by
 obtain ⟨h1,h2,h3,h4,h5,h6,h7,h8,h9,h10,h11,h12,h13,h14,h15,h16⟩:=cO hv
 obtain ⟨p0,p1,p2⟩:=bF h1
 have hg:=pN G a (by omega)
 have hs1:=aLx vi D G B_ op A7 A9 fr fh A5 A8 A4 O A0 Z A6 A_ hv (goL G a) (mI h1 a) 0
 unfold eI kV
 by_cases hab:a=b
 ·
  by_cases hc:x=99
  ·
   simp only [hab,hc,decide_true,cond_true,Bool.not_true,cond_false,if_true]
   rw [← hab,hg]
   simp only [aF]
   rw [hs1]
   rfl
  ·
   simp only [hab,hc,decide_true,decide_false,Bool.not_false,cond_true,if_true,if_false]
   rw [aP (aQa vi D G B_ op A7 A9 fr fh A5 A8 A4 O A0 Z A6 A_ hv)]
 ·
  obtain ⟨c1,c2⟩:=vC h1 hr
  have hcut:iI G a b=some (wU G a b,bJ G.1 a b,true):=by
   rw [xN G a b (by omega)]
   unfold aP3
   rw [h1,decide_eq_true hr];rfl
  have hadm:=nQ (eL h1) a b
  have hrp:=aAx A8 (bJ G.1 a b) 0 h9 hadm (by omega)
  have hro:=sU (how:=0) h9 hadm
  have hcp:=aGz vi D G B_ op A7 A9 fr fh A5 A8 A4 O A0 Z A6 A_ hv
  have hv':=aHz vi D G B_ op A7 A9 fr fh A5 A8 A4 O A0 Z A6 A_ hv _ hro
  have hg2:=pN (wU G a b) a (by omega)
  have hs2:=aR6 vi D G B_ op A7 A9 fr fh A5 _ A4 O A0 Z A6 A_ hv' (goL G a) (mI h1 a)
  have hs3:=aLx vi D G B_ op A7 A9 fr fh A5 _ A4 O A0 Z A6 A_ hv' (goL (wU G a b) a) (mI c1 a) 0
  simp only [hab,decide_false,cond_false,if_false,aF,hcut,hcp,hrp]
  by_cases hy:x=121
  ·
   simp only [hy,decide_true,cond_true,if_true,hg]
   rw [hs2]
   rfl
  ·
   simp only [hy,decide_false,cond_false,if_false,hg2]
   rw [hs3]
   by_cases hc:x=99
   ·
    simp only [hc,aT,decide_true,cond_true,if_true,nS]
    rfl
   ·
    simp only [hc,aT,decide_false,cond_false,if_false]
    rfl
end
include hs
end
theorem aSm (t:List Int) (hl:(t.length:Int)≤1048576) (big:Bool) (x2:List Int×Bool) (hx:x2.1=t) (q:Int) (j:Int×Bool→Option (Int×List Int×Bool)):∀ (m r:Nat) (k i:Int),0≤k→k≤(t.length:Int)→0≤i→i≤2000→q≤2000→r=(q - i).toNat→r<m →
  aZ (eA q x2 j) m (k,i,big)=j (again (wOn t big) r k,big):=by
 intro m
 induction m with
 | zero=>intro r k i _ _ _ _ _ _ h;omega
 | succ m ih=>
  intro r k i h0 h1 hi hi' hq hr hm
  simp only [aZ,eA,qF,Bool.cond_decide,hx]
  cases r with
  | zero=>
   rw [if_neg (by omega)];rfl
  | succ r=>
   have hb:=aMu t big k h0 h1
   rw [if_pos (by omega),aS0 t hl big k h0 h1]
   simp only [aF]
   rw [bV (by omega) (by omega)]
   exact ih r _ (i+1) (by omega) hb.2 (by omega) (by omega) hq (by omega) (by omega)
theorem aO1 (t:List Int) (hl:(t.length:Int)≤1048576) (big:Bool) (x2:List Int×Bool) (hx:x2.1=t) (q:Int) (j:Int×Bool→Option (Int×List Int×Bool)):∀ (m r:Nat) (k i:Int),0≤k→k≤(t.length:Int)→0≤i→i≤2000→q≤2000→r=(q - i).toNat→r<m →
  aZ (dZ q x2 j) m (k,i,big)=j (again (fun k=>zH t big k.toNat) r k,big):=by
 intro m
 induction m with
 | zero=>intro r k i _ _ _ _ _ _ h;omega
 | succ m ih=>
  intro r k i h0 h1 hi hi' hq hr hm
  simp only [aZ,dZ,qE,Bool.cond_decide,hx]
  cases r with
  | zero=>
   rw [if_neg (by omega)];rfl
  | succ r=>
   have hk:((k.toNat:Nat):Int)=k:=by omega
   have hb:=vV t big k.toNat (by omega)
   have he:=aIr t hl big k.toNat (by omega)
   rw [hk] at he
   rw [if_pos (by omega),he]
   simp only [aF]
   rw [bV (by omega) (by omega)]
   exact ih r _ (i+1) (by omega) (by omega) (by omega) (by omega) hq (by omega) (by omega)
theorem aQ7 (t:List Int) (hl:(t.length:Int)≤1048576) (big:Bool) (x2:List Int×Bool) (hx:x2.1=t) (q:Int) (j:Int×Bool→Option (Int×List Int×Bool)):∀ (m r:Nat) (k i:Int),0≤k→k≤(t.length:Int)→0≤i→i≤2000→q≤2000→r=(q - i).toNat→r<m →
  aZ (dY q x2 j) m (k,i,big)=j (again (aHe t big) r k,big):=by
 intro m
 induction m with
 | zero=>intro r k i _ _ _ _ _ _ h;omega
 | succ m ih=>
  intro r k i h0 h1 hi hi' hq hr hm
  simp only [aZ,dY,qD,Bool.cond_decide,hx]
  cases r with
  | zero=>
   rw [if_neg (by omega)];rfl
  | succ r=>
   have hb:=aJq t hl big k h0 h1
   rw [if_pos (by omega),aRk t hl big k h0 h1]
   simp only [aF]
   rw [bV (by omega) (by omega)]
   exact ih r _ (i+1) hb.1 hb.2 (by omega) (by omega) hq (by omega) (by omega)
def nN (t:List Int) (a r c:Int):Int×Bool×Bool:=
 let n:Int:=t.length
 let k:=max 0 (min a n)
 let q:=max 1 (min c 999)
 let big:=decide (65≤r∧r≤90)
 if r=104 then (max (k - q) 0,false,true)
 else if r=108∨r=32 then (min (k+q) n,false,true)
 else if r=119∨r=87 then (again (wOn t big) q.toNat k,false,true)
 else if r=98∨r=66 then (again (fun k=>zH t big k.toNat) q.toNat k,false,true)
 else if r=101∨r=69 then (again (aHe t big) q.toNat k,decide (0<n),true)
 else if r=48 then (0,false,true)
 else if r=94 then (fwd (fun i=>pP (at' t i)=0) t.length 0,false,true)
 else if r=36 then (max (n - 1) 0,decide (0<n),true)
 else if r=124 then (min (q - 1) n,false,true)
 else (0,false,false)
theorem yT (t:List Int) (hl:(t.length:Int)≤1048576) (a r c:Int):jS t a r c=some (nN t a r c):=by
 unfold jS dE fR dH nN
 simp only [aF,aT,Bool.cond_decide]
 have hq0:1≤max (1:Int) (min c 999):=by omega
 have hq1:max (1:Int) (min c 999)≤999:=by omega
 have hk0:0≤max (0:Int) (min a (t.length:Int)):=by omega
 have hk1:max (0:Int) (min a (t.length:Int))≤(t.length:Int):=by omega
 generalize max (1:Int) (min c 999)=q at *
 generalize max (0:Int) (min a (t.length:Int))=k at *
 have hbig:(if 65≤r then decide (r≤90) else false)=decide (65≤r∧r≤90):=by
  by_cases h:65≤r <;> simp [h]
 rw [hbig]
 generalize decide (65≤r∧r≤90)=big
 have e1:eW k q (t,big)=some (again (wOn t big) q.toNat k,t,big):=by
  unfold eW
  simp only [aT]
  rw [aSm t hl big (t,big) rfl q _ bO q.toNat k 0 hk0 hk1 (by omega) (by omega) (by omega) (by omega) (by rw [bQ];omega)]
 have e2:eV k q (t,big)=some (again (fun k=>zH t big k.toNat) q.toNat k,t,big):=by
  unfold eV
  simp only [aT]
  rw [aO1 t hl big (t,big) rfl q _ bO q.toNat k 0 hk0 hk1 (by omega) (by omega) (by omega) (by omega) (by rw [bQ];omega)]
 have e3:eU k q (t,big)=some (again (aHe t big) q.toNat k,t,big):=by
  unfold eU
  simp only [aT]
  rw [aQ7 t hl big (t,big) rfl q _ bO q.toNat k 0 hk0 hk1 (by omega) (by omega) (by omega) (by omega) (by rw [bQ];omega)]
 simp only [e1,e2,e3]
 rw [bV (x:=k - q) (by omega) (by omega),bV (x:=k+q) (by omega) (by omega),bV (x:=(t.length:Int) - 1) (by omega) (by omega),bV (x:=q - 1) (by omega) (by omega),
  aIq t hl _ bO t.length 0 (by omega) (by omega) (by rw [bQ];omega)]
 by_cases c1:r=104
 ·
  simp [c1]
 by_cases c2:r=108
 ·
  simp [c2]
 by_cases c3:r=32
 ·
  simp [c3]
 by_cases c4:r=119
 ·
  simp [c4]
 by_cases c5:r=87
 ·
  simp [c5]
 by_cases c6:r=98
 ·
  simp [c6]
 by_cases c7:r=66
 ·
  simp [c7]
 by_cases c8:r=101
 ·
  simp [c8]
 by_cases c9:r=69
 ·
  simp [c9]
 by_cases c10:r=48
 ·
  simp [c10]
 by_cases c11:r=94
 ·
  simp [c11]
 by_cases c12:r=36
 ·
  simp [c12]
 by_cases c13:r=124
 ·
  simp [c13]
 simp [c1,c2,c3,c4,c5,c6,c7,c8,c9,c10,c11,c12,c13]
theorem aTl (l:List Int) (hl:(l.length:Int)≤1048576) (r:Int) (j:Unit→Option Int) (hj:∃ v,j ()=some v):∀ (m:Nat) (k:Int),0≤k→k≤2000000→(l.length:Int) - k<m→0<m→∃ v,aZ (kM l r j) m k=some v:=by
 intro m
 induction m with
 | zero=>intro k _ _ h h';omega
 | succ m ih=>
  intro k hk hk' hm _
  simp only [aZ,kM,aN]
  by_cases h1:k<(l.length:Int)
  ·
   rw [decide_eq_true h1,cond_true,if_pos ⟨hk,h1⟩,bV (by omega) (by omega)]
   cases decide (at' l k=r)
   ·
    exact ih (k+1) (by omega) (by omega) (by omega) (by omega)
   ·
    exact ⟨_,rfl⟩
  ·
   rw [decide_eq_false h1];exact hj
theorem aRr (l:List Int) (hl:(l.length:Int)≤1048576) (r:Int) (j:Unit→Option Int) (hj:∃ v,j ()=some v):∀ (m:Nat) (k:Int),-1≤k→k<(l.length:Int)→k+1<m→∃ v,aZ (kL l r j) m k=some v:=by
 intro m
 induction m with
 | zero=>intro k _ _ h;omega
 | succ m ih=>
  intro k hk hk' hm
  simp only [aZ,kL,aN]
  by_cases h1:0≤k
  ·
   rw [decide_eq_true h1,cond_true,if_pos ⟨h1,hk'⟩,bV (by omega) (by omega)]
   cases decide (at' l k=r)
   ·
    exact ih (k - 1) (by omega) (by omega) (by omega)
   ·
    exact ⟨_,rfl⟩
  ·
   rw [decide_eq_false h1];exact hj
theorem aNs (l:List Int) (hl:(l.length:Int)≤1048576) (r:Int) (j:Unit→Option Int) (hj:∃ v,j ()=some v):∀ (m:Nat) (k:Int),0≤k→k≤2000000→(l.length:Int) - k<m→0<m→∃ v,aZ (kK l r j) m k=some v:=by
 intro m
 induction m with
 | zero=>intro k _ _ h h';omega
 | succ m ih=>
  intro k hk hk' hm _
  simp only [aZ,kK,aN]
  rw [bV (x:=k+1) (by omega) (by omega)]
  by_cases h1:k+1<(l.length:Int)
  ·
   rw [decide_eq_true h1,cond_true,if_pos ⟨by omega,h1⟩]
   cases decide (at' l (k+1)=r)
   ·
    exact ih (k+1) (by omega) (by omega) (by omega) (by omega)
   ·
    exact ⟨_,rfl⟩
  ·
   rw [decide_eq_false h1];exact hj
theorem aI1 (l:List Int) (hl:(l.length:Int)≤1048576) (r:Int) (j:Unit→Option Int) (hj:∃ v,j ()=some v):∀ (m:Nat) (k:Int),-1≤k→k<(l.length:Int)→k+2<m→∃ v,aZ (kJ l r j) m k=some v:=by
 intro m
 induction m with
 | zero=>intro k _ _ h;omega
 | succ m ih=>
  intro k hk hk' hm
  simp only [aZ,kJ,aN]
  rw [bV (x:=k - 1) (by omega) (by omega)]
  by_cases h1:1≤k
  ·
   rw [decide_eq_true h1,cond_true,if_pos (by omega)]
   cases decide (at' l (k - 1)=r)
   ·
    exact ih (k - 1) (by omega) (by omega) (by omega)
   ·
    exact ⟨_,rfl⟩
  ·
   rw [decide_eq_false h1];exact hj
theorem aLb (l:List Int) (hl:(l.length:Int)≤1048576) (a r how:Int):∃ v,pH l a r how=some v:=by
 unfold pH dE
 simp only [aF,aT]
 have h0:(0:Int)≤max 0 (min a l.length):=by omega
 have h1:max 0 (min a l.length)≤(l.length:Int):=by omega
 generalize max 0 (min a l.length)=y at *
 rw [bV (x:=y+1) (by omega) (by omega),bV (x:=y - 1) (by omega) (by omega)]
 have hj:∃ v:Int,(some (-1):Option Int)=some v:=⟨_,rfl⟩
 cases decide (how=0)
 ·
  cases decide (how=1)
  ·
   cases decide (how=2)
   ·
    cases decide (how=3)
    ·
     exact hj
    ·
     exact aI1 l hl r _ hj bO _ (by omega) (by omega) (by rw [bQ];omega)
   ·
    exact aNs l hl r _ hj bO _ (by omega) (by omega) (by rw [bQ];omega) (by rw [bQ];omega)
  ·
   exact aRr l hl r _ hj bO _ (by omega) (by omega) (by rw [bQ];omega)
 ·
  exact aTl l hl r _ hj bO _ (by omega) (by omega) (by rw [bQ];omega) (by rw [bQ];omega)
theorem aPt (l:List Int) (hl:(l.length:Int)≤1048576) (a r how t:Int):∃ v,lR l a r how t=some v:=by
 unfold lR dE
 simp only [aF,aT]
 have loop:∀ (m:Nat) (a n:Int),0≤n→n≤2000→max 1 (min t 999) - n<m→0<m→∃ v,aZ (nG l r how t fun x=>some (x,true)) m (a,n)=some v:=by
  intro m
  induction m with
  | zero=>intro a n _ _ h h';omega
  | succ m ih=>
   intro a n hn hn' hm _
   obtain ⟨y,e2⟩:=aLb l hl a r how
   simp only [aZ,nG,aF,e2]
   by_cases h1:n<max 1 (min t 999)
   ·
    rw [decide_eq_true h1,cond_true,bV (by omega) (by omega)]
    cases decide (y<0)
    ·
     exact ih y (n+1) (by omega) (by omega) (by omega) (by omega)
    ·
     exact ⟨_,rfl⟩
   ·
    rw [decide_eq_false h1];exact ⟨_,rfl⟩
 exact loop bO _ 0 (by omega) (by omega) (by rw [bQ];omega) (by rw [bQ];omega)
def nV (e:EdT):Int:=min (max e.2.2.2.1 1*max e.2.2.2.2.2.1 1) 999
def vS (x:Int):Int:=if x=102 then 0 else if x=70 then 1 else if x=116 then 2 else if x=84 then 3 else -1
theorem aSc (x:Int):rV x=some (vS x):=by
 unfold rV vS
 simp only [Bool.cond_decide]
 repeat' split
 all_goals rfl
noncomputable def fT (t:List Int) (a r how n:Int):Int×Bool:=(lR t a r how n).getD (0,false)
theorem aTm (t:List Int) (hl:(t.length:Int)≤1048576) (a r how n:Int):lR t a r how n=some (fT t a r how n):=by
 obtain ⟨v,e2⟩:=aPt t hl a r how n
 unfold fT;rw [e2];rfl
def zO (t:List Int) (a b:Int) (w:Bool):Int×Int:=
 (min (max 0 (min a (t.length:Int))) (max 0 (min b (t.length:Int))),
  if w=true∧max (max 0 (min a (t.length:Int))) (max 0 (min b (t.length:Int)))<(t.length:Int) then max (max 0 (min a (t.length:Int))) (max 0 (min b (t.length:Int)))+1 else max (max 0 (min a (t.length:Int))) (max 0 (min b (t.length:Int))))
theorem aBf (t:List Int) (a b:Int) (w:Bool):0≤(zO t a b w).1∧(zO t a b w).1≤(zO t a b w).2∧(zO t a b w).2≤(t.length:Int):=by
 unfold zO
 simp only
 split <;> omega
theorem aQ1 (t:List Int) (hl:(t.length:Int)≤1048576) (a b:Int) (w:Bool):xD t a b w=some (zO t a b w):=by
 unfold xD dE zO
 have h0:0≤max (0:Int) (min a (t.length:Int))∧max (0:Int) (min a (t.length:Int))≤(t.length:Int):=by omega
 have h1:0≤max (0:Int) (min b (t.length:Int))∧max (0:Int) (min b (t.length:Int))≤(t.length:Int):=by omega
 simp only [aF,aT]
 generalize max (0:Int) (min a (t.length:Int))=x at *
 generalize max (0:Int) (min b (t.length:Int))=y at *
 rw [bV (x:=max x y+1) (by omega) (by omega)]
 cases w
 ·
  rfl
 ·
  by_cases c:max x y<(t.length:Int)
  ·
   simp [c]
  ·
   simp [c]
def aIf (to:Int) (w:Bool) (e:EdT):EdT×Int:=
  if e.2.2.2.2.1=0 then goE to e else kV e.2.2.2.2.1 (zO e.2.2.1.1 e.2.2.1.2 to w).1 (zO e.2.2.1.1 e.2.2.1.2 to w).2 e
def aGl (r:Int) (e:EdT):EdT×Int:=aIf (nN e.2.2.1.1 e.2.2.1.2 r (nV e)).1 (nN e.2.2.1.1 e.2.2.1.2 r (nV e)).2.1 e
noncomputable def aIx (r how:Int) (e:EdT):EdT×Int:=
  if (fT e.2.2.1.1 e.2.2.1.2 r how (nV e)).2=true then aIf (fT e.2.2.1.1 e.2.2.1.2 r how (nV e)).1 (decide (how=0∨how=2)) e else fP e
noncomputable def xV (how:Int) (e:EdT):EdT×Int:=if e.2.2.2.2.2.2.2.1=0 then fP e else aIx e.2.2.2.2.2.2.2.1 how e
def aMd (r how:Int):EdT→EdT
  | (vi,D,G,B_,op,A7,A9,_,_,A5,A8,A4,O,A0,Z,A6,A_)=>(vi,D,G,B_,op,A7,A9,r,how,A5,A8,A4,O,A0,Z,A6,A_)
def aLq (r:Int):EdT→EdT
  | (vi,D,G,B_,op,A7,_,fr,fh,A5,A8,A4,O,A0,Z,A6,A_)=>(vi,D,G,B_,op,A7,r,fr,fh,A5,A8,A4,O,A0,Z,A6,A_)
def aTa (n:Int):EdT→EdT
  | (vi,D,G,_,op,A7,A9,fr,fh,A5,A8,A4,O,A0,Z,A6,A_)=>(vi,D,G,n,op,A7,A9,fr,fh,A5,A8,A4,O,A0,Z,A6,A_)
def opW (r:Int):EdT→EdT
  | (vi,D,G,B_,_,_,A9,fr,fh,A5,A8,A4,O,A0,Z,A6,A_)=>(vi,D,G,0,r,B_,A9,fr,fh,A5,A8,A4,O,A0,Z,A6,A_)
def yB (a:Int) (e:EdT):EdT×Int:=(aQw a (rJ (goL e.2.2.1 a) 0 e),0)
def aEe (f:Int→Int):List Int→Int→Nat→List Int
 | t,_,0=>t
 | t,k,m+1=>aEe f (List.set t k.toNat (f (at' t k))) (k+1) m
def yF (r:Int):Int:=if 97≤r∧r≤122 then r - 32 else if 65≤r∧r≤90 then r+32 else r
noncomputable def aHd (k:Int×Int) (e:EdT):EdT×Int:=
 if k.1≠1 then fP e
 else if e.2.2.2.2.2.2.1=114 then
  (if (e.2.2.1.1.length:Int)<e.2.2.1.2+nV e then fP e else (rJ (aEe (fun _=>k.2) e.2.2.1.1 e.2.2.1.2 (nV e).toNat,e.2.2.1.2+nV e - 1) 0 e,0))
 else if (fT e.2.2.1.1 e.2.2.1.2 k.2 (vS e.2.2.2.2.2.2.1) (nV e)).2=true then aIx k.2 (vS e.2.2.2.2.2.2.1) (aMd k.2 (vS e.2.2.2.2.2.2.1) e) else fP e
def aCq (e:EdT):EdT×Int:=
 if (e.2.2.1.1.length:Int)=0 then fP e
 else (rJ (aEe yF e.2.2.1.1 e.2.2.1.2 (min (e.2.2.1.2+nV e) (e.2.2.1.1.length:Int) - e.2.2.1.2).toNat,min (e.2.2.1.2+nV e) (e.2.2.1.1.length:Int)) 0 e,0)
def pK (t:List Int):Nat→List Int
 | 0=>[]
 | n+1=>pK t n ++ t
def aAz (t:List Int) (a:Int) (e:EdT):EdT×Int:=
 if (t.length:Int)=0∨400<(t.length:Int) then fP e
 else if (qJ (goL e.2.2.1 a) t).2=true then (rJ ((qJ (goL e.2.2.1 a) t).1.1,(qJ (goL e.2.2.1 a) t).1.2 - 1) 0 e,0) else fP e
def aA0 (a:Int) (e:EdT):EdT×Int:=aAz (pK (mK (fX e)) (nV e).toNat) a e
def aTn:EdT→EdT
  | (vi,_,G,_,op,A7,A9,fr,fh,_,A8,A4,O,A0,Z,A6,A_)=>(vi,2,(G.1,max (G.2 - 1) 0),0,op,A7,A9,fr,fh,0,A8,A4,O,A0,Z,A6,A_)
theorem zI (f:Int→Int):∀ (m:Nat) (t:List Int) (k:Int),(aEe f t k m).length=t.length
 | 0,_,_=>rfl
 | m+1,t,k=>by rw [aEe,zI f m,List.length_set]
theorem aMo {t:List Int} (h:cT t=true) (k:Nat) (v:Int) (hv:adm v=true):cT (List.set t k v)=true:=by
 unfold cT at *
 simp only [Bool.and_eq_true,decide_eq_true_eq,List.all_eq_true] at *
 refine ⟨fun x hx=>?_,by rw [List.length_set];exact h.2⟩
 rcases List.mem_or_eq_of_mem_set hx with hx | rfl
 ·
  exact h.1 x hx
 ·
  exact hv
theorem zJ (f:Int→Int) (hf:∀ x,adm x=true→adm (f x)=true):∀ (m:Nat) (t:List Int) (k:Int),cT t=true→0≤k→k+m≤(t.length:Int)→cT (aEe f t k m)=true
 | 0,_,_,h,_,_=>h
 | m+1,t,k,h,h0,h1=>by
  rw [aEe]
  have hm:=List.mem_of_getElem? (bH (xs:=t) (i:=k) ⟨h0,by omega⟩)
  have ha:adm (at' t k)=true:=by
   unfold cT at h
   simp only [Bool.and_eq_true,List.all_eq_true] at h
   exact h.1 _ hm
  exact zJ f hf m _ (k+1) (aMo h _ _ (hf _ ha)) (by omega) (by rw [List.length_set];omega)
theorem aD6 (x:Int) (h:adm x=true):adm (yF x)=true:=by
 unfold yF
 split
 ·
  rename_i c;unfold adm pr;rw [decide_eq_true (show ((0≤x - 32∧x - 32≤1114111∧(x - 32<55296∨57343<x - 32))∧32≤x - 32∧(x - 32<127∨159<x - 32)) by omega)];rfl
 ·
  split
  ·
   rename_i c;unfold adm pr;rw [decide_eq_true (show ((0≤x+32∧x+32≤1114111∧(x+32<55296∨57343<x+32))∧32≤x+32∧(x+32<127∨159<x+32)) by omega)];rfl
  ·
   exact h
section
variable (e:EdT) (hv:cF e=true)
include hv
theorem aN0:(0≤e.2.2.2.2.2.1∧e.2.2.2.2.2.1≤999)∧(e.2.2.2.2.1=0→e.2.2.2.2.2.1=0)∧(e.2.2.2.2.1=0∨e.2.2.2.2.1=100∨e.2.2.2.2.1=99∨e.2.2.2.2.1=121) ∧
  (e.2.2.2.2.2.2.1=0∨e.2.2.2.2.2.2.1=102∨e.2.2.2.2.2.2.1=70∨e.2.2.2.2.2.2.1=116∨e.2.2.2.2.2.2.1=84∨e.2.2.2.2.2.2.1=114) ∧
  (e.2.1≠2→e.2.2.2.2.1=0∧e.2.2.2.2.2.1=0∧e.2.2.2.2.2.2.1=0)∧aAh e.2.2.2.2.2.2.2.1 e.2.2.2.2.2.2.2.2.1=true:=by
 obtain ⟨vi,D,G,B_,op,A7,A9,fr,fh,A5,A8,A4,O,A0,Z,A6,A_⟩:=e
 obtain ⟨h1,h2,h3,h4,h5,h6,h7,h8,h9,h10,h11,h12,h13,h14,h15,h16⟩:=cO hv
 unfold iX sI at h6
 simp only [Bool.and_eq_true,decide_eq_true_eq,List.any_cons,List.any_nil,Bool.or_eq_true,Bool.or_false] at h6
 obtain ⟨⟨⟨a1,a2,a3,a4,a5,a6,a7,a8⟩,b⟩,c⟩:=h6
 exact ⟨h5,a8,by simp only;omega,by simp only;omega,a7,h7⟩
theorem oR:1≤nV e∧nV e≤999:=by
 have:=eOk e hv
 have h1:1≤max e.2.2.2.1 1:=by omega
 have h2:1≤max e.2.2.2.2.2.1 1:=by omega
 have h3:1*1≤max e.2.2.2.1 1*max e.2.2.2.2.2.1 1:=Int.mul_le_mul h1 h2 (by omega) (by omega)
 unfold nV
 generalize max e.2.2.2.1 1*max e.2.2.2.2.2.1 1=x at *
 omega
theorem aNg:-9223372036854775808≤max e.2.2.2.1 1*max e.2.2.2.2.2.1 1∧max e.2.2.2.1 1*max e.2.2.2.2.2.1 1≤9223372036854775807:=by
 obtain ⟨_,hc,_⟩:=eOk e hv
 obtain ⟨ho,_⟩:=aN0 e hv
 have h1:1≤max e.2.2.2.1 1:=by omega
 have h2:1≤max e.2.2.2.2.2.1 1:=by omega
 have h3:1*1≤max e.2.2.2.1 1*max e.2.2.2.2.2.1 1:=Int.mul_le_mul h1 h2 (by omega) (by omega)
 have h4:max e.2.2.2.1 1*max e.2.2.2.2.2.1 1≤999*999:=Int.mul_le_mul (by omega) (by omega) (by omega) (by omega)
 omega
theorem xO (x a b:Int) (hr:0≤a∧a≤b∧b≤(e.2.2.1.1.length:Int)):eI e x a b=some (kV x a b e):=by
 obtain ⟨vi,D,G,B_,op,A7,A9,fr,fh,A5,A8,A4,O,A0,Z,A6,A_⟩:=e
 exact aP6 vi D G B_ op A7 A9 fr fh A5 A8 A4 O A0 Z A6 A_ x a b hv hr
theorem aGp (a:Int):(aF (dP e.2.2.1 a) fun (y56:List Int×Int)=>
 (aF (mB e y56 0) fun (y60:EdQ)=>
 (aF (nS y60 a) fun (y74:EdQ)=>
 some ((y74.1,y74.2.1,(y60.2.2.1.1,y74.2.2.1.2),y74.2.2.2.1,y74.2.2.2.2.1,y74.2.2.2.2.2.1,y74.2.2.2.2.2.2.1,y74.2.2.2.2.2.2.2.1,y74.2.2.2.2.2.2.2.2.1,y74.2.2.2.2.2.2.2.2.2.1,y60.2.2.2.2.2.2.2.2.2.2.1,y60.2.2.2.2.2.2.2.2.2.2.2.1,y74.2.2.2.2.2.2.2.2.2.2.2.2.1,(y60.2.2.2.2.2.2.2.2.2.2.2.2.2.1.1,y74.2.2.2.2.2.2.2.2.2.2.2.2.2.1.2),y60.2.2.2.2.2.2.2.2.2.2.2.2.2.2.1,y74.2.2.2.2.2.2.2.2.2.2.2.2.2.2.2.1,(y60.2.2.2.2.2.2.2.2.2.2.2.2.2.2.2.2.1,y74.2.2.2.2.2.2.2.2.2.2.2.2.2.2.2.2.2)),(0:Int)))))=some (yB a e):=by
 obtain ⟨hl,_⟩:=eOk e hv
 obtain ⟨p0,p1,p2⟩:=bF hl
 refine aK (pN _ a (by omega)) (aK (aCv e hv _ (mI hl a) 0) ?_)
 obtain ⟨vi,D,G,B_,op,A7,A9,fr,fh,A5,A8,A4,O,A0,Z,A6,A_⟩:=e
 rfl
theorem aGk (to:Int) (w:Bool):qV e to w=some (aIf to w e):=by
 obtain ⟨hl,_⟩:=eOk e hv
 obtain ⟨p0,p1,p2⟩:=bF hl
 unfold qV aIf
 simp only [Bool.cond_decide]
 by_cases c:e.2.2.2.2.1=0
 ·
  rw [if_pos c,if_pos c]
  exact aK (pN _ to (by omega)) (aK (tB e hv _ (mI hl to)) rfl)
 ·
  rw [if_neg c,if_neg c]
  exact aK (aQ1 _ (by omega) _ to w) (aK (xO e hv _ _ _ (aBf _ _ _ _)) rfl)
theorem aDo (r:Int):lJ e r (nV e)=some (aGl r e):=by
 obtain ⟨hl,_⟩:=eOk e hv
 obtain ⟨p0,p1,p2⟩:=bF hl
 unfold lJ aGl
 exact aK (yT _ (by omega) _ r _) (aK (aGk e hv _ _) rfl)
theorem aMe (r how:Int):nU e r how (nV e)=some (aIx r how e):=by
 obtain ⟨hl,_⟩:=eOk e hv
 obtain ⟨p0,p1,p2⟩:=bF hl
 unfold nU aIx
 rw [aP (aTm _ (by omega) _ r how _)]
 have h02:(bif (decide (how=0)) then true else (decide (how=2)))=decide (how=0∨how=2):=by
  by_cases a:how=0 <;> by_cases b:how=2 <;> simp [a,b]
 rw [h02]
 generalize fT e.2.2.1.1 e.2.2.1.2 r how (nV e)=q
 obtain ⟨to,b⟩:=q
 cases b
 ·
  exact aK (dM e hv) rfl
 ·
  exact aK (aGk e hv _ _) rfl
theorem aPs (r how:Int) (hr:pr r=true) (hh:0≤how∧how≤3):cF (aMd r how e)=true:=by
 obtain ⟨vi,D,G,B_,op,A7,A9,fr,fh,A5,A8,A4,O,A0,Z,A6,A_⟩:=e
 obtain ⟨h1,h2,h3,h4,h5,h6,h7,h8,h9,h10,h11,h12,h13,h14,h15,h16⟩:=cO hv
 have h0:r≠0:=by
  intro h;subst h;exact absurd hr (by decide)
 refine eT ⟨h1,h2,h3,h4,h5,h6,?_,h8,h9,h10,h11,h12,h13,h14,h15,h16⟩
 unfold aAh
 rw [hr,decide_eq_true (show (r=0→how=0)∧(r≠0→0≤how∧how≤3) from ⟨fun h=>absurd h h0,fun _=>hh⟩)]
 simp
end
theorem aS4 (e:EdT) (k:Int×Int) (n:Int) (hb:0≤e.2.2.1.2+n∧e.2.2.1.2+n≤1000000) (j:List Int→Option (EdT×Int)):∀ (m r:Nat) (i:Int) (t:List Int),0≤i→i+r=e.2.2.1.2+n→e.2.2.1.2+n≤(t.length:Int)→r<m →
  aZ (mT e k n j) m (i,t)=j (aEe (fun _=>k.2) t i r):=by
 intro m
 induction m with
 | zero=>intro r i t _ _ _ h;omega
 | succ m ih=>
  intro r i t h0 h1 h2 hm
  simp only [aZ,mT,aN,Bool.cond_decide]
  rw [bV (x:=e.2.2.1.2+n) (by omega) (by omega)]
  cases r with
  | zero=>rw [if_neg (by omega)];rfl
  | succ r=>
   rw [if_pos (by omega),if_pos (by omega),bV (by omega) (by omega)]
   exact ih r (i+1) _ (by omega) (by omega) (by rw [List.length_set];omega) (by omega)
theorem aS3 (x:Int) (h:adm x=true):-1≤x∧x≤1114111:=by
 unfold adm pr at h
 simp only [Bool.or_eq_true,decide_eq_true_eq] at h
 omega
theorem aRe (x:Int) (h:-1≤x∧x≤1114111):eN x=some (decide (97≤x∧x≤122))∧oE x=some (if 97≤x∧x≤122 then x - 32 else x)∧oF x=some (if 65≤x∧x≤90 then x+32 else x):=by
 unfold oE oF eN fR
 rw [aP (yC x 97 122),aP (yC x 65 90),bV (x:=x - 32) (by omega) (by omega),bV (x:=x+32) (by omega) (by omega)]
 refine ⟨rfl,?_,?_⟩
 ·
  by_cases c:97≤x∧x≤122
  ·
   rw [if_pos c,decide_eq_true c];rfl
  ·
   rw [if_neg c,decide_eq_false c];rfl
 ·
  by_cases c:65≤x∧x≤90
  ·
   rw [if_pos c,decide_eq_true c];rfl
  ·
   rw [if_neg c,decide_eq_false c];rfl
theorem aTd {t:List Int} (h:cT t=true) (i:Int) (h0:0≤i) (h1:i<(t.length:Int)):adm (at' t i)=true:=by
 unfold cT at h
 simp only [Bool.and_eq_true,List.all_eq_true] at h
 exact h.1 _ (List.mem_of_getElem? (bH (xs:=t) (i:=i) ⟨h0,h1⟩))
theorem aQx (l:List Int×Int) (hl:l.2≤1000000) (j:List Int→Option (EdT×Int)):∀ (m r:Nat) (i:Int) (t:List Int),0≤i→i+r=l.2→l.2≤(t.length:Int)→cT t=true→r<m →
  aZ (kA l j) m (i,t)=j (aEe yF t i r):=by
 intro m
 induction m with
 | zero=>intro r i t _ _ _ _ h;omega
 | succ m ih=>
  intro r i t h0 h1 h2 ha hm
  simp only [aZ,kA,aN,aT]
  cases r with
  | zero=>rw [decide_eq_false (show ¬ i<l.2 by omega)];rfl
  | succ r=>
   rw [decide_eq_true (show i<l.2 by omega),cond_true,bV (by omega) (by omega),if_pos (by omega)]
   have hx:=aTd ha i h0 (by omega)
   obtain ⟨q1,q2,q3⟩:=aRe _ (aS3 _ hx)
   have hgo:=ih r (i+1) (List.set t i.toNat (yF (at' t i))) (by omega) (by omega) (by rw [List.length_set];omega) (aMo ha _ _ (aD6 _ hx)) (by omega)
   rw [aP q1]
   have hf:yF (at' t i)=if 97≤at' t i∧at' t i≤122 then at' t i - 32 else if 65≤at' t i∧at' t i≤90 then at' t i+32 else at' t i:=rfl
   by_cases c:97≤at' t i∧at' t i≤122
   ·
    rw [decide_eq_true c,cond_true,aP q2,if_pos (by omega)]
    rw [if_pos c] at hf ⊢
    rw [← hf];exact hgo
   ·
    rw [decide_eq_false c,cond_false,aP q3,if_pos (by omega)]
    rw [if_neg c] at hf
    rw [← hf];exact hgo
theorem aC2 (t:List Int):∀ n,(pK t n).length=n*t.length
 | 0=>by simp [pK]
 | n+1=>by rw [pK,List.length_append,aC2 t n,Nat.succ_mul]
theorem aSh (t:List Int) (ht:t.length≤400) (n:Int) (hn:n≤1000) (j:List Int→Option (List Int)):∀ (m r:Nat) (k:Nat),k+r=n→r<m→(pK t k).length≤800 →
  ∃ q,aZ (jN t n j) m (pK t k,k)=j q∧q.length≤800∧((q=pK t (k+r))∨(400<q.length∧400<(pK t (k+r)).length)):=by
 intro m
 induction m with
 | zero=>intro r k _ h _;omega
 | succ m ih=>
  intro r k h1 hm hl
  simp only [aZ,jN,aN]
  cases r with
  | zero=>
   rw [decide_eq_false (show ¬ (k:Int)<n by omega)]
   exact ⟨_,rfl,hl,.inl rfl⟩
  | succ r=>
   rw [decide_eq_true (show (k:Int)<n by omega)]
   by_cases c:((pK t k).length:Int)≤400
   ·
    rw [decide_eq_true c,if_pos (by omega),bV (by omega) (by omega)]
    obtain ⟨q,q1,q2,q3⟩:=ih r (k+1) (by omega) (by omega) (by rw [pK,List.length_append];omega)
    rw [show k+(r+1)=k+1+r by omega]
    exact ⟨q,q1,q2,q3⟩
   ·
    rw [decide_eq_false c]
    have:(pK t k).length≤(pK t (k+(r+1))).length:=by
     rw [aC2,aC2];exact Nat.mul_le_mul_right _ (by omega)
    exact ⟨_,rfl,hl,.inr ⟨by omega,by omega⟩⟩
theorem aOj (t:List Int) (ht:t.length≤400) (n:Int) (h0:0≤n) (hn:n≤1000):∃ q,mA t n=some q∧q.length≤800∧((q=pK t n.toNat)∨(400<q.length∧400<(pK t n.toNat).length)):=by
 obtain ⟨q,q1,q2,q3⟩:=aSh t ht n hn (fun x=>some x) bO n.toNat 0 (by omega) (by rw [bQ];omega) (by simp [pK])
 rw [Nat.zero_add] at q3
 refine ⟨q,?_,q2,q3⟩
 unfold mA
 simp only [aT]
 exact q1
section
variable (e:EdT) (hv:cF e=true)
include hv
theorem aL1 (a:Int):rU e a (nV e)=some (aA0 a e):=by
 obtain ⟨hl,_,hro,_⟩:=eOk e hv
 obtain ⟨p0,p1,p2⟩:=bF hl
 have hn:=oR e hv
 obtain ⟨t1,t2⟩:=aCf hro
 have hg:=mI hl a
 unfold rU aA0
 rw [aP (xJ _ hro)]
 obtain ⟨q,q1,q2,q3⟩:=aOj (mK e.2.2.2.2.2.2.2.2.2.2.1) t2 (nV e) (by omega) (by omega)
 rw [aP q1,aP (pN _ a (by omega))]
 have hp:=aA8 (goL e.2.2.1 a) q hg (by omega)
 rw [aP (show jI (goL e.2.2.1 a) q=_ from hp)]
 change _=some (aAz (pK (mK e.2.2.2.2.2.2.2.2.2.2.1) (nV e).toNat) a e)
 rcases q3 with rfl | ⟨q3,q4⟩
 ·
  unfold aAz
  have hok:=@xL (goL e.2.2.1 a) (pK (mK e.2.2.2.2.2.2.2.2.2.2.1) (nV e).toNat)
  have hlong:=fun h=>@xM (goL e.2.2.1 a) hg (pK (mK e.2.2.2.2.2.2.2.2.2.2.1) (nV e).toNat) h
  have hpos:(qJ (goL e.2.2.1 a) (pK (mK e.2.2.2.2.2.2.2.2.2.2.1) (nV e).toNat)).2=true→1≤(pK (mK e.2.2.2.2.2.2.2.2.2.2.1) (nV e).toNat).length→1≤(qJ (goL e.2.2.1 a) (pK (mK e.2.2.2.2.2.2.2.2.2.2.1) (nV e).toNat)).1.2:=by
   intro h h'
   unfold qJ at h ⊢
   split at h
   ·
    rename_i c
    rw [if_pos c]
    have:=(bF hg).1
    simp only [aC4];omega
   ·
    cases h
  generalize pK (mK e.2.2.2.2.2.2.2.2.2.2.1) (nV e).toNat=t at *
  by_cases c0:(t.length:Int)=0
  ·
   rw [decide_eq_true c0,if_pos (.inl c0)]
   exact aK (dM e hv) rfl
  rw [decide_eq_false c0]
  by_cases c1:400<(t.length:Int)
  ·
   rw [hlong (by omega),if_pos (.inr c1)]
   exact aK (dM e hv) rfl
  rw [if_neg (by omega)]
  generalize qJ (goL e.2.2.1 a) t=z at *
  obtain ⟨l,b⟩:=z
  cases b
  ·
   exact aK (dM e hv) rfl
  ·
   have hl2:=hok rfl
   obtain ⟨r0,r1,r2⟩:=bF hl2
   have hz:=hpos rfl (by omega)
   simp only at r0 r1 r2 hz
   simp only [cond_false,Bool.not_true,if_true]
   rw [bV (x:=l.2 - 1) (by omega) (by omega)]
   have he:goL l (l.2 - 1)=(l.1,l.2 - 1):=by unfold goL;congr 1;omega
   refine aK (pN l _ (by omega)) ?_
   rw [he]
   exact aK (tB e hv _ (by rw [← he];exact mI hl2 _)) rfl
 ·
  have hb:∀ b:EdT×Int,aAz (pK (mK e.2.2.2.2.2.2.2.2.2.2.1) (nV e).toNat) a e=fP e:=by
   intro _
   unfold aAz
   exact if_pos (.inr (by omega))
  rw [hb (fP e),xM hg q3,decide_eq_false (by omega)]
  exact aK (dM e hv) rfl
end
noncomputable def aKn (h:Int×List (List UInt8)) (r:Int) (e:EdT):EdT×Int:=
 if r=120 then kV 100 e.2.2.1.2 (min (e.2.2.1.2+nV e) (e.2.2.1.1.length:Int)) e
 else if r=88 then kV 100 (max (e.2.2.1.2 - nV e) 0) e.2.2.1.2 e
 else if r=68 then kV 100 e.2.2.1.2 (e.2.2.1.1.length:Int) e
 else if r=67 then kV 99 e.2.2.1.2 (e.2.2.1.1.length:Int) e
 else if r=115 then kV 99 e.2.2.1.2 (min (e.2.2.1.2+nV e) (e.2.2.1.1.length:Int)) e
 else if r=83 then kV 99 0 (e.2.2.1.1.length:Int) e
 else if r=114 then (aLq 114 e,0)
 else if r=112 then aA0 (min (e.2.2.1.2+1) (e.2.2.1.1.length:Int)) e
 else if r=80 then aA0 e.2.2.1.2 e
 else if r=126 then aCq e
 else if r=117 then aE1 e
 else if r=107∨r=45 then vW h (-1) e
 else if r=106∨r=43 then vW h 1 e
 else if r=47 then aHs e
 else if r=105 then yB e.2.2.1.2 e
 else if r=73 then yB (nN e.2.2.1.1 e.2.2.1.2 94 1).1 e
 else if r=97 then yB (min (e.2.2.1.2+1) (e.2.2.1.1.length:Int)) e
 else if r=65 then yB (e.2.2.1.1.length:Int) e
 else fP e
noncomputable def aLz (h:Int×List (List UInt8)) (r:Int) (e:EdT):EdT×Int:=
 if (49≤r∧r≤57)∨(r=48∧e.2.2.2.1≠0) then (aTa (min (10*e.2.2.2.1+r - 48) 999) e,0)
 else if 0≤vS r then (aLq r e,0)
 else if r=59 then xV e.2.2.2.2.2.2.2.2.1 e
 else if r=44 then xV (at' ([1,0,3,2]:List Int) e.2.2.2.2.2.2.2.2.1) e
 else if e.2.2.2.2.1=0∧(r=100∨r=99∨r=121) then (opW r e,0)
 else if e.2.2.2.2.1≠0∧r=e.2.2.2.2.1 then kV e.2.2.2.2.1 0 (e.2.2.1.1.length:Int) e
 else if (nN e.2.2.1.1 e.2.2.1.2 r (nV e)).2.2=true then aGl r e
 else if e.2.2.2.2.1≠0 then fP e
 else aKn h r e
noncomputable def aLw (h:Int×List (List UInt8)) (k:Int×Int) (e:EdT):EdT×Int:=
 if k.1=4 then (e,2)
 else if k.1=7 then (if e.2.2.2.1=0∧e.2.2.2.2.1=0 then fP e else (jU e.2.2.2.2.2.2.2.2.2.1 e,0))
 else if k.1=8 then vW h (-1) e
 else if k.1=9 then vW h 1 e
 else if k.1=11∨k.1=5 then aGl 104 e
 else if k.1=10 then aGl 108 e
 else if k.1=12 then aGl 48 e
 else if k.1=13 then aGl 36 e
 else if k.1=14 then kV 100 e.2.2.1.2 (min (e.2.2.1.2+nV e) (e.2.2.1.1.length:Int)) e
 else if k.1=2∧k.2=99 then (e,3)
 else if k.1=2∧k.2=108 then (e,5)
 else if (k.1=2∧k.2=100)∧(e.2.2.1.1.length:Int)=0 then (e,4)
 else if k.1=2∧k.2=114 then aHs e
 else fP e
noncomputable def viE (h:Int×List (List UInt8)) (k:Int×Int) (e:EdT):EdT×Int:=
 if e.2.1=2 then (if e.2.2.2.2.2.2.1≠0 then aHd k e else if k.1=1 then aLz h k.2 e else aLw h k e)
 else if (nL h k e).2.2=true then ((nL h k e).1,(nL h k e).2.1)
 else if k.1=7 then (aTn e,0)
 else fP e
noncomputable def viR (h:Int×List (List UInt8)) (k:Int×Int) (e:EdT):EdT×Int:=
  if (cF e && hOk h && kOk k)=true∧(e.2.1=1∨e.2.1=2) then viE h k e else (zEd,0)
theorem aRl {x:Int} (h:x=102∨x=70∨x=116∨x=84):0≤vS x∧vS x≤3:=by
  rcases h with rfl | rfl | rfl | rfl <;> exact ⟨by decide,by decide⟩
theorem aRy (t:List Int) (a:Int):0≤(nN t a 94 1).1∧(nN t a 94 1).1≤(t.length:Int):=by
 have h:(nN t a 94 1).1=fwd (fun i=>pP (at' t i)=0) t.length 0:=rfl
 have b:=gJ (fun i=>pP (at' t i)=0) t.length 0
 rw [h];omega
section
variable (e:EdT) (hv:cF e=true)
include hv
theorem aJ6 (nl:Int):eE e nl=some (jU nl e):=by
 obtain ⟨vi,D,G,B_,op,A7,A9,fr,fh,A5,A8,A4,O,A0,Z,A6,A_⟩:=e
 exact tN vi D G B_ op A7 A9 fr fh A5 A8 A4 O A0 Z A6 A_ hv nl
theorem aOk:pB e (nV e)=some (aCq e):=by
 obtain ⟨hl,_⟩:=eOk e hv
 obtain ⟨p0,p1,p2⟩:=bF hl
 have hn:=oR e hv
 unfold pB aCq
 rw [bV (x:=e.2.2.1.2+nV e) (by omega) (by omega)]
 by_cases c:(e.2.2.1.1.length:Int)=0
 ·
  rw [decide_eq_true c,if_pos c]
  exact aK (dM e hv) rfl
 rw [decide_eq_false c,if_neg c]
 simp only [cond_false,aT]
 refine aK (pN _ _ (by omega)) ?_
 have he:goL e.2.2.1 (e.2.2.1.2+nV e)=(e.2.2.1.1,min (e.2.2.1.2+nV e) (e.2.2.1.1.length:Int)):=by unfold goL;congr 1;omega
 rw [he,aQx _ (by simp only;omega) _ bO (min (e.2.2.1.2+nV e) (e.2.2.1.1.length:Int) - e.2.2.1.2).toNat _ _ p0 (by simp only;omega) (by simp only;omega) (eL hl) (by rw [bQ];omega)]
 have ha:=zJ yF aD6 (min (e.2.2.1.2+nV e) (e.2.2.1.1.length:Int) - e.2.2.1.2).toNat _ _ (eL hl) p0 (by omega)
 have hlen:=zI yF (min (e.2.2.1.2+nV e) (e.2.2.1.1.length:Int) - e.2.2.1.2).toNat e.2.2.1.1 e.2.2.1.2
 exact aK (tB e hv _ (iY ha (by omega) (by rw [hlen];omega))) rfl
variable (k:Int×Int) (hk:kOk k=true)
include hk
theorem aL2 (h1:k.1=1) (hc:¬ (e.2.2.1.1.length:Int)<e.2.2.1.2+nV e):bP (aEe (fun _=>k.2) e.2.2.1.1 e.2.2.1.2 (nV e).toNat,e.2.2.1.2+nV e - 1)=true:=by
 obtain ⟨hl,_⟩:=eOk e hv
 obtain ⟨p0,p1,p2⟩:=bF hl
 have hn:=oR e hv
 have hp:pr k.2=true:=by
  unfold kOk at hk
  rw [if_pos h1] at hk
  exact hk
 have ha:=zJ (fun _=>k.2) (fun _ _=>by unfold adm;rw [hp];rfl) (nV e).toNat _ _ (eL hl) p0 (by omega)
 have hlen:=zI (fun _=>k.2) (nV e).toNat e.2.2.1.1 e.2.2.1.2
 exact iY ha (by omega) (by rw [hlen];omega)
theorem aHc (h1:k.1=1) (hw:e.2.2.2.2.2.2.1≠0) (h114:e.2.2.2.2.2.2.1≠114):cF (aMd k.2 (vS e.2.2.2.2.2.2.1) e)=true∧k.2≠0:=by
 have hp:pr k.2=true:=by
  unfold kOk at hk
  rw [if_pos h1] at hk
  exact hk
 obtain ⟨_,_,_,ho,_⟩:=aN0 e hv
 refine ⟨aPs e hv _ _ hp (aRl (by omega)),fun h=>?_⟩
 rw [h] at hp
 exact absurd hp (by decide)
theorem aSg (hw:e.2.2.2.2.2.2.1≠0):sP e k (nV e)=some (aHd k e):=by
 obtain ⟨hl,_⟩:=eOk e hv
 obtain ⟨p0,p1,p2⟩:=bF hl
 have hn:=oR e hv
 unfold sP aHd
 by_cases c1:k.1=1
 ·
  rw [decide_eq_true c1,if_neg (fun h=>h c1)]
  simp only [Bool.not_true,cond_false,Bool.cond_decide]
  by_cases c2:e.2.2.2.2.2.2.1=114
  ·
   rw [if_pos c2,if_pos c2,bV (x:=e.2.2.1.2+nV e) (by omega) (by omega),bV (x:=e.2.2.1.2+nV e - 1) (by omega) (by omega)]
   by_cases c3:(e.2.2.1.1.length:Int)<e.2.2.1.2+nV e
   ·
    rw [if_pos c3,if_pos c3]
    exact aK (dM e hv) rfl
   ·
    rw [if_neg c3,if_neg c3]
    refine aK (pN _ _ (by omega)) ?_
    simp only [aT]
    have he:goL e.2.2.1 (e.2.2.1.2+nV e - 1)=(e.2.2.1.1,e.2.2.1.2+nV e - 1):=by unfold goL;congr 1;omega
    rw [he,aS4 e k (nV e) (by omega) _ bO (nV e).toNat _ _ p0 (by omega) (by simp only;omega) (by rw [bQ];omega)]
    exact aK (tB e hv _ (aL2 e hv k hk c1 c3)) rfl
  ·
   rw [if_neg c2,if_neg c2,aP (aSc _),aP (aTm _ (by omega) _ _ _ _)]
   obtain ⟨w1,w2⟩:=aHc e hv k hk c1 hw c2
   have hf:=aMe _ w1 k.2 (vS e.2.2.2.2.2.2.1)
   generalize fT e.2.2.1.1 e.2.2.1.2 k.2 (vS e.2.2.2.2.2.2.1) (nV e)=q
   obtain ⟨to,b⟩:=q
   cases b
   ·
    exact aK (dM e hv) rfl
   ·
    refine aK (iZ e hv) ?_
    obtain ⟨vi,D,G,B_,op,A7,A9,fr,fh,A5,A8,A4,O,A0,Z,A6,A_⟩:=e
    exact aK hf rfl
 ·
  rw [decide_eq_false c1,if_pos c1]
  exact aK (dM e hv) rfl
end
noncomputable def aLk (r:Int) (e:EdT):EdT×Int×Bool:=
 if (49≤r∧r≤57)∨(r=48∧e.2.2.2.1≠0) then (aTa (min (10*e.2.2.2.1+r - 48) 999) e,0,true)
 else if 0≤vS r then (aLq r e,0,true)
 else if r=59 then ((xV e.2.2.2.2.2.2.2.2.1 e).1,(xV e.2.2.2.2.2.2.2.2.1 e).2,true)
 else if r=44 then ((xV (at' ([1,0,3,2]:List Int) e.2.2.2.2.2.2.2.2.1) e).1,(xV (at' ([1,0,3,2]:List Int) e.2.2.2.2.2.2.2.2.1) e).2,true)
 else if e.2.2.2.2.1=0∧(r=100∨r=99∨r=121) then (opW r e,0,true)
 else (zEd,0,false)
section
variable (e:EdT) (hv:cF e=true)
include hv
theorem aRz (r:Int) (hr:-1000000≤r∧r≤10000000000):uM e r (nV e)=some (aLk r e):=by
 obtain ⟨hl,hc,_⟩:=eOk e hv
 obtain ⟨p0,p1,p2⟩:=bF hl
 obtain ⟨_,_,_,_,_,hf⟩:=aN0 e hv
 have hn:=oR e hv
 unfold uM aLk
 refine aK (iZ e hv) ?_
 rw [aP (yC r 49 57),bV (x:=10*e.2.2.2.1) (by omega) (by omega),bV (x:=10*e.2.2.2.1+r) (by omega) (by omega),bV (x:=10*e.2.2.2.1+r - 48) (by omega) (by omega)]
 rw [show (bif (decide (49≤r∧r≤57)) then true else (bif (decide (r=48)) then (!(decide (e.2.2.2.1=0))) else false))=decide ((49≤r∧r≤57)∨(r=48∧e.2.2.2.1≠0)) by
  by_cases a:49≤r∧r≤57 <;> by_cases b:r=48 <;> by_cases c:e.2.2.2.1=0 <;> simp [a,b,c]]
 by_cases c1:(49≤r∧r≤57)∨(r=48∧e.2.2.2.1≠0)
 ·
  rw [decide_eq_true c1,if_pos c1]
  obtain ⟨vi,D,G,B_,op,A7,A9,fr,fh,A5,A8,A4,O,A0,Z,A6,A_⟩:=e
  rfl
 rw [decide_eq_false c1,if_neg c1]
 refine aK (aSc r) ?_
 by_cases c2:0≤vS r
 ·
  rw [decide_eq_true c2,if_pos c2]
  obtain ⟨vi,D,G,B_,op,A7,A9,fr,fh,A5,A8,A4,O,A0,Z,A6,A_⟩:=e
  rfl
 rw [decide_eq_false c2,if_neg c2]
 have hsemi:∀ how:Int,(bif decide (e.2.2.2.2.2.2.2.1=0) then aF (cR e) fun (y54,y55)=>some (y54,y55,true)
   else aF (nU e e.2.2.2.2.2.2.2.1 how (nV e)) fun (y69,y70)=>some (y69,y70,true))=some ((xV how e).1,(xV how e).2,true):=by
  intro how
  unfold xV
  by_cases c:e.2.2.2.2.2.2.2.1=0
  ·
   rw [decide_eq_true c,if_pos c];exact aK (dM e hv) rfl
  ·
   rw [decide_eq_false c,if_neg c];exact aK (aMe e hv _ how) rfl
 simp only [aT,aN]
 have hrng:0≤e.2.2.2.2.2.2.2.2.1∧e.2.2.2.2.2.2.2.2.1≤3:=by
  unfold aAh at hf
  simp only [Bool.and_eq_true,decide_eq_true_eq] at hf
  obtain ⟨⟨f1,f2⟩,_⟩:=hf
  by_cases z:e.2.2.2.2.2.2.2.1=0
  ·
   have:=f1 z;omega
  ·
   exact f2 z
 have hlen:(([1,0,3,2]:List Int).length:Int)=4:=rfl
 by_cases c3:r=59
 ·
  subst c3
  exact hsemi _
 by_cases c4:r=44
 ·
  subst c4
  rw [hlen,if_pos (by omega)]
  exact hsemi _
 rw [decide_eq_false c3,if_neg c3,decide_eq_false c4,if_neg c4,aTc r,dS]
 simp only [cond_false]
 by_cases c5:e.2.2.2.2.1=0
 ·
  rw [decide_eq_true c5,if_pos rfl,cond_true]
  by_cases c6:r=100∨r=99∨r=121
  ·
   rw [decide_eq_true c6,if_pos ⟨c5,c6⟩]
   obtain ⟨vi,D,G,B_,op,A7,A9,fr,fh,A5,A8,A4,O,A0,Z,A6,A_⟩:=e
   rfl
  ·
   rw [decide_eq_false c6,if_neg (fun h=>c6 h.2)]
   rfl
 ·
  rw [decide_eq_false c5,if_neg Bool.false_ne_true,if_neg (fun h=>c5 h.1)]
  rfl
end
section
variable (e:EdT) (hv:cF e=true) (h:Int×List (List UInt8)) (hh:(h.2.length:Int)≤1048576)
include hv hh
theorem aN2 (r:Int) (hr:-1000000≤r∧r≤10000000000):qW e h r (nV e)=some (aLz h r e):=by
 have hb:=aRz e hv r hr
 unfold qW aLz
 unfold aLk at hb
 by_cases c1:(49≤r∧r≤57)∨(r=48∧e.2.2.2.1≠0)
 ·
  rw [if_pos c1] at hb ⊢;exact aK hb rfl
 rw [if_neg c1] at hb ⊢
 by_cases c2:0≤vS r
 ·
  rw [if_pos c2] at hb ⊢;exact aK hb rfl
 rw [if_neg c2] at hb ⊢
 by_cases c3:r=59
 ·
  rw [if_pos c3] at hb ⊢;exact aK hb rfl
 rw [if_neg c3] at hb ⊢
 by_cases c4:r=44
 ·
  rw [if_pos c4] at hb ⊢;exact aK hb rfl
 rw [if_neg c4] at hb ⊢
 by_cases c5:e.2.2.2.2.1=0∧(r=100∨r=99∨r=121)
 ·
  rw [if_pos c5] at hb ⊢;exact aK hb rfl
 rw [if_neg c5] at hb ⊢
 refine aK hb ?_
 obtain ⟨hl,_⟩:=eOk e hv
 obtain ⟨p0,p1,p2⟩:=bF hl
 have hn:=oR e hv
 simp only [cond_false]
 rw [show (bif (!(decide (e.2.2.2.2.1=0))) then (decide (r=e.2.2.2.2.1)) else false)=decide (e.2.2.2.2.1≠0∧r=e.2.2.2.2.1) by
  by_cases a:e.2.2.2.2.1=0 <;> by_cases b:r=e.2.2.2.2.1 <;> simp [a,b]]
 by_cases c6:e.2.2.2.2.1≠0∧r=e.2.2.2.2.1
 ·
  rw [decide_eq_true c6,if_pos c6,← c6.2];exact aK (xO e hv _ _ _ (by omega)) rfl
 rw [decide_eq_false c6,if_neg c6]
 refine aK (yT _ (by omega) _ r _) ?_
 have hmo:(aF (qV e (nN e.2.2.1.1 e.2.2.1.2 r (nV e)).1 (nN e.2.2.1.1 e.2.2.1.2 r (nV e)).2.1) fun (y68,y69)=>some (y68,y69))=some (aGl r e):=aK (aGk e hv _ _) rfl
 by_cases c7:(nN e.2.2.1.1 e.2.2.1.2 r (nV e)).2.2=true
 ·
  rw [if_pos c7]
  generalize nN e.2.2.1.1 e.2.2.1.2 r (nV e)=q at c7 hmo
  obtain ⟨a,b,c⟩:=q
  obtain rfl:c=true:=c7
  exact hmo
 rw [if_neg c7]
 generalize nN e.2.2.1.1 e.2.2.1.2 r (nV e)=q at c7
 obtain ⟨qa,qb,qc⟩:=q
 obtain rfl:qc=false:=by cases qc;rfl;exact absurd rfl c7
 by_cases c8:e.2.2.2.2.1=0
 ·
  rw [if_neg (fun h=>h c8),decide_eq_true c8]
  simp only [Bool.not_true,cond_false]
  unfold aKn
  simp only [aT]
  rw [bV (x:=e.2.2.1.2+nV e) (by omega) (by omega),bV (x:=e.2.2.1.2 - nV e) (by omega) (by omega),bV (x:=e.2.2.1.2+1) (by omega) (by omega)]
  simp only [Bool.cond_decide]
  have hch:∀ x a b:Int,(0≤a∧a≤b∧b≤(e.2.2.1.1.length:Int))→(aF (eI e x a b) fun (y98,y99)=>some (y98,y99))=some (kV x a b e):=fun x a b hr=>aK (xO e hv x a b hr) rfl
  by_cases c1:r=120
  ·
   rw [if_pos c1,if_pos c1];exact hch _ _ _ (by omega)
  rw [if_neg c1,if_neg c1]
  by_cases c2:r=88
  ·
   rw [if_pos c2,if_pos c2];exact hch _ _ _ (by omega)
  rw [if_neg c2,if_neg c2]
  by_cases c3:r=68
  ·
   rw [if_pos c3,if_pos c3];exact hch _ _ _ (by omega)
  rw [if_neg c3,if_neg c3]
  by_cases c4:r=67
  ·
   rw [if_pos c4,if_pos c4];exact hch _ _ _ (by omega)
  rw [if_neg c4,if_neg c4]
  by_cases c5:r=115
  ·
   rw [if_pos c5,if_pos c5];exact hch _ _ _ (by omega)
  rw [if_neg c5,if_neg c5]
  by_cases c6:r=83
  ·
   rw [if_pos c6,if_pos c6];exact hch _ _ _ (by omega)
  rw [if_neg c6,if_neg c6]
  by_cases c7:r=114
  ·
   rw [if_pos c7,if_pos c7]
   refine aK (iZ e hv) ?_
   obtain ⟨vi,D,G,B_,op,A7,A9,fr,fh,A5,A8,A4,O,A0,Z,A6,A_⟩:=e
   rfl
  rw [if_neg c7,if_neg c7]
  by_cases c8:r=112
  ·
   rw [if_pos c8,if_pos c8];exact aK (aL1 e hv _) rfl
  rw [if_neg c8,if_neg c8]
  by_cases c9:r=80
  ·
   rw [if_pos c9,if_pos c9];exact aK (aL1 e hv _) rfl
  rw [if_neg c9,if_neg c9]
  by_cases c10:r=126
  ·
   rw [if_pos c10,if_pos c10];exact aK (aOk e hv) rfl
  rw [if_neg c10,if_neg c10]
  by_cases c11:r=117
  ·
   rw [if_pos c11,if_pos c11];exact aK (aOe e hv) rfl
  rw [if_neg c11,if_neg c11]
  by_cases c12:r=107∨r=45
  ·
   rw [if_pos c12];rcases c12 with rfl | rfl <;> exact aK (xI e hv h hh _) rfl
  rw [if_neg (fun h=>c12 (.inl h)),if_neg (fun h=>c12 (.inr h)),if_neg c12]
  by_cases c13:r=106∨r=43
  ·
   rw [if_pos c13];rcases c13 with rfl | rfl <;> exact aK (xI e hv h hh _) rfl
  rw [if_neg (fun h=>c13 (.inl h)),if_neg (fun h=>c13 (.inr h)),if_neg c13]
  by_cases c14:r=47
  ·
   rw [if_pos c14,if_pos c14]
   refine aK (aJ7 e hv) ?_
   obtain ⟨vi,D,G,B_,op,A7,A9,fr,fh,A5,A8,A4,O,A0,Z,A6,A_⟩:=e
   rfl
  rw [if_neg c14,if_neg c14]
  have hb:uN e r=some (if r=105 then yB e.2.2.1.2 e
    else if r=73 then yB (nN e.2.2.1.1 e.2.2.1.2 94 1).1 e
    else if r=97 then yB (min (e.2.2.1.2+1) (e.2.2.1.1.length:Int)) e
    else if r=65 then yB (e.2.2.1.1.length:Int) e
    else fP e):=by
   unfold uN
   simp only [aT]
   rw [bV (x:=e.2.2.1.2+1) (by omega) (by omega)]
   simp only [Bool.cond_decide]
   by_cases d1:r=105
   ·
    rw [if_pos d1,if_pos d1];exact aGp e hv _
   rw [if_neg d1,if_neg d1]
   by_cases d2:r=73
   ·
    rw [if_pos d2,if_pos d2];exact aK (yT _ (by omega) _ 94 1) (aGp e hv _)
   rw [if_neg d2,if_neg d2]
   by_cases d3:r=97
   ·
    rw [if_pos d3,if_pos d3];exact aGp e hv _
   rw [if_neg d3,if_neg d3]
   by_cases d4:r=65
   ·
    rw [if_pos d4,if_pos d4];exact aGp e hv _
   rw [if_neg d4,if_neg d4]
   exact aK (dM e hv) rfl
  exact aK hb rfl
 ·
  rw [if_pos c8,decide_eq_false c8]
  exact aK (dM e hv) rfl
end
section
variable (e:EdT) (hv:cF e=true) (h:Int×List (List UInt8)) (hh:(h.2.length:Int)≤1048576)
include hv hh
theorem aSj (hw:e.2.2.2.2.2.2.1=0) (k:Int×Int):qU e h k (nV e)=some (aLw h k e):=by
 obtain ⟨hl,hc,_⟩:=eOk e hv
 obtain ⟨p0,p1,p2⟩:=bF hl
 obtain ⟨_,hoc,_⟩:=aN0 e hv
 have hn:=oR e hv
 unfold qU aLw
 refine aK (iZ e hv) ?_
 simp only [aT]
 rw [bV (x:=e.2.2.1.2+nV e) (by omega) (by omega)]
 obtain ⟨k,r⟩:=k
 simp only
 by_cases c1:k=4
 ·
  subst c1;rfl
 by_cases c2:k=7
 ·
  subst c2
  simp only [decide_true,cond_true,decide_false,cond_false,if_true,if_false,show ¬ (7:Int)=4 by decide]
  by_cases d:e.2.2.2.1=0∧e.2.2.2.2.1=0
  ·
   rw [decide_eq_true d.1,decide_eq_true d.2,decide_eq_true (hoc d.2),decide_eq_true hw,if_pos d]
   exact aK (dM e hv) rfl
  ·
   rw [if_neg d,show (bif (bif (bif (decide (e.2.2.2.1=0)) then (decide (e.2.2.2.2.1=0)) else false) then (decide (e.2.2.2.2.2.1=0)) else false) then (decide (e.2.2.2.2.2.2.1=0)) else false)=false by
    by_cases a:e.2.2.2.1=0
    ·
     have b:¬ e.2.2.2.2.1=0:=fun b=>d ⟨a,b⟩
     simp [a,b]
    ·
     simp [a]]
   exact aK (aJ6 e hv _) rfl
 by_cases c3:k=8
 ·
  subst c3;exact aK (xI e hv h hh _) rfl
 by_cases c4:k=9
 ·
  subst c4;exact aK (xI e hv h hh _) rfl
 by_cases c5:k=11
 ·
  subst c5;exact aK (aDo e hv 104) rfl
 by_cases c6:k=5
 ·
  subst c6;exact aK (aDo e hv 104) rfl
 by_cases c7:k=10
 ·
  subst c7;exact aK (aDo e hv 108) rfl
 by_cases c8:k=12
 ·
  subst c8;exact aK (aDo e hv 48) rfl
 by_cases c9:k=13
 ·
  subst c9;exact aK (aDo e hv 36) rfl
 by_cases c10:k=14
 ·
  subst c10;exact aK (xO e hv 100 e.2.2.1.2 (min (e.2.2.1.2+nV e) (e.2.2.1.1.length:Int)) (by omega)) rfl
 simp only [c1,c2,c3,c4,c5,c6,c7,c8,c9,c10,decide_false,cond_false,if_false,or_false]
 by_cases c11:k=2
 ·
  simp only [c11,decide_true,cond_true,true_and,Bool.cond_decide]
  by_cases d1:r=99
  ·
   rw [if_pos d1,if_pos d1]
  rw [if_neg d1,if_neg d1]
  by_cases d2:r=108
  ·
   rw [if_pos d2,if_pos d2]
  rw [if_neg d2,if_neg d2]
  by_cases d3:r=100∧(e.2.2.1.1.length:Int)=0
  ·
   rw [if_pos d3,if_pos d3.1,decide_eq_true d3.2];rfl
  rw [if_neg d3]
  rw [show (if r=100 then decide ((e.2.2.1.1.length:Int)=0) else false)=false by
   by_cases a:r=100
   ·
    rw [if_pos a,decide_eq_false (fun b=>d3 ⟨a,b⟩)]
   ·
    rw [if_neg a]]
  simp only [cond_false]
  by_cases d4:r=114
  ·
   rw [if_pos d4,if_pos d4]
   refine aK (aJ7 e hv) ?_
   obtain ⟨vi,D,G,B_,op,A7,A9,fr,fh,A5,A8,A4,O,A0,Z,A6,A_⟩:=e
   rfl
  rw [if_neg d4,if_neg d4]
  exact aK (dM e hv) rfl
 ·
  simp only [c11,decide_false,cond_false,false_and,if_false]
  exact aK (dM e hv) rfl
end
theorem aTi {k:Int×Int} (h:kOk k=true):-1000000≤k.2∧k.2≤10000000000:=by
 unfold kOk pr at h
 split at h
 ·
  have:=of_decide_eq_true h;omega
 ·
  split at h
  ·
   have:=of_decide_eq_true h;omega
  ·
   split at h
   ·
    have:=of_decide_eq_true h;omega
   ·
    have:=of_decide_eq_true h;omega
theorem nV_W (e:EdT) (hv:cF e=true):min (W (max e.2.2.2.1 1*max e.2.2.2.2.2.1 1)) 999=nV e:=by
 have hb:=aNg e hv
 unfold nV
 rw [bV (by omega) (by omega)]
section
variable (h:Int×List (List UInt8)) (hh:(h.2.length:Int)≤1048576) (k:Int×Int) (e:EdT) (hs:oV 1048576 e)
include hh hs
theorem vi_i:uO e h k=some (viR h k e):=by
 unfold uO viR
 rw [aP (aD4 h hh k e hs)]
 cases hv:cF e
 ·
  rfl
 cases hOk h
 ·
  rfl
 cases hk:kOk k
 ·
  rfl
 rw [nV_W e hv]
 have hkr:=aTi hk
 rw [show (bif (!(true && true && true)) then true else (bif (!(decide (e.2.1=1))) then (!(decide (e.2.1=2))) else false))=!decide (e.2.1=1∨e.2.1=2) by
  by_cases a:e.2.1=1 <;> by_cases b:e.2.1=2 <;> simp [a,b]]
 by_cases hm:e.2.1=1∨e.2.1=2
 ·
  rw [decide_eq_true hm,show (if (true && true && true)=true∧(e.2.1=1∨e.2.1=2) then viE h k e else (zEd,0))=viE h k e from if_pos ⟨rfl,hm⟩]
  unfold viE
  simp only [Bool.not_true,cond_false]
  by_cases h1:e.2.1=1
  ·
   rw [decide_eq_true h1,if_neg (show ¬ e.2.1=2 by omega)]
   refine aK (aF4 e hv h hh k) ?_
   generalize nL h k e=q
   obtain ⟨z,n,b⟩:=q
   cases b
   ·
    simp only [cond_false,Bool.false_eq_true,if_false]
    by_cases c:k.1=7
    ·
     rw [decide_eq_true c,if_pos c]
     refine aK (iZ e hv) ?_
     rw [bV (x:=e.2.2.1.2 - 1) (by have:=bF (eOk e hv).1;omega) (by have:=bF (eOk e hv).1;omega)]
     obtain ⟨vi,D,G,B_,op,A7,A9,fr,fh,A5,A8,A4,O,A0,Z,A6,A_⟩:=e
     rfl
    ·
     rw [decide_eq_false c,if_neg c]
     exact aK (dM e hv) rfl
   ·
    rfl
  ·
   rw [decide_eq_false h1,if_pos (hm.resolve_left h1)]
   simp only [cond_false]
   by_cases hw:e.2.2.2.2.2.2.1=0
   ·
    rw [decide_eq_true hw,if_neg (fun h=>h hw)]
    by_cases c:k.1=1
    ·
     rw [decide_eq_true c,if_pos c];exact aK (aN2 e hv h hh k.2 hkr) rfl
    ·
     rw [decide_eq_false c,if_neg c];exact aK (aSj e hv h hh hw k) rfl
   ·
    rw [decide_eq_false hw,if_pos hw]
    exact aK (aSg e hv k hk hw) rfl
 ·
  rw [decide_eq_false hm,show (if (true && true && true)=true∧(e.2.1=1∨e.2.1=2) then viE h k e else (zEd,0))=(zEd,0) from if_neg (fun h=>hm h.2)]
  rfl
end
theorem aG6 {p t:List UInt8} {i:Int} (h0:0≤i) (h:i<(p.length:Int)):bi (p ++ t) i=bi p i:=by
 unfold bi at'
 have:i.toNat<p.length:=by omega
 rw [List.getD_eq_getElem?_getD,List.getD_eq_getElem?_getD,List.getElem?_append_left this]
theorem aSo {p t:List UInt8} (h:(rd p).2≠0):rd (p ++ t)=rd p:=by
 unfold rd at h ⊢
 rw [List.length_append]
 by_cases h1:p.length<1
 ·
  rw [if_pos h1] at h;exact absurd rfl h
 ·
  rw [if_neg h1] at h ⊢
  rw [if_neg (by omega),aG6 (by omega) (by omega)]
  by_cases c1:bi p 0<128
  ·
   rw [if_pos c1,if_pos c1]
  ·
   rw [if_neg c1] at h ⊢
   rw [if_neg c1]
   by_cases h2:p.length<2
   ·
    rw [if_pos h2] at h;exact absurd rfl h
   ·
    rw [if_neg h2] at h ⊢
    rw [if_neg (by omega),aG6 (i:=1) (by omega) (by omega)]
    by_cases c2:E2 (bi p 0) (bi p 1)
    ·
     rw [if_pos c2,if_pos c2]
    ·
     rw [if_neg c2] at h ⊢
     rw [if_neg c2]
     by_cases h3:p.length<3
     ·
      rw [if_pos h3] at h;exact absurd rfl h
     ·
      rw [if_neg h3] at h ⊢
      rw [if_neg (by omega),aG6 (i:=2) (by omega) (by omega)]
      by_cases c3:E3 (bi p 0) (bi p 1) (bi p 2)
      ·
       rw [if_pos c3,if_pos c3]
      ·
       rw [if_neg c3] at h ⊢
       rw [if_neg c3]
       by_cases h4:p.length<4
       ·
        rw [if_pos h4] at h;exact absurd rfl h
       ·
        rw [if_neg h4] at h ⊢
        rw [if_neg (by omega),aG6 (i:=3) (by omega) (by omega)]
theorem aE4:∀ (m n:Nat) (p t:List UInt8) (l l':List Int),m≤n→rE m p=some l→rE n (p ++ t)=some l'→l.length≤l'.length
 | 0,n,p,t,l,l',_,h,_=>by simp only [rE,Option.some.injEq] at h;subst h;simp
 | m+1,0,p,t,l,l',hmn,h,h'=>by omega
 | m+1,n+1,p,t,l,l',hmn,h,h'=>by
  simp only [rE] at h h'
  by_cases h0:p.length=0
  ·
   rw [if_pos h0] at h;simp only [Option.some.injEq] at h;subst h;simp
  ·
   rw [if_neg h0] at h
   by_cases h1:(rd p).2=0
   ·
    rw [if_pos h1] at h;cases h
   ·
    rw [if_neg h1] at h
    have hb:=aC3 p
    rw [if_neg (by rw [List.length_append];omega),aSo h1,if_neg h1,List.drop_append_of_le_length (by omega)] at h'
    obtain ⟨q,hq,rfl⟩:=Option.map_eq_some_iff.1 h
    obtain ⟨q',hq',rfl⟩:=Option.map_eq_some_iff.1 h'
    have:=aE4 m n _ t q q' (by omega) hq hq'
    simp only [List.length_cons];omega
theorem aHw {s:List UInt8} (i:Nat) (h:(iS s).2=true):(iS (s.take i)).1.length≤(iS s).1.length:=by
 unfold iS at h ⊢
 by_cases h1:65536<(s.length:Int)
 ·
  rw [if_pos h1] at h;cases h
 ·
  rw [if_neg h1] at h ⊢
  have hl:(s.take i).length≤s.length:=by rw [List.length_take];omega
  rw [if_neg (by omega)]
  cases hr:rE s.length s with
  | none=>rw [hr] at h;cases h
  | some l=>
   cases hq:rE (s.take i).length (s.take i) with
   | none=>simp
   | some l'=>
    simp only
    exact aE4 _ s.length (s.take i) (s.drop i) l' l hl hq (by rw [List.take_append_drop];exact hr)
def jF:List Int→List UInt8
 | []=>[]
 | r :: t=>enc r ++ jF t
theorem aJy (q:List Int) (hq:(q.length:Int)≤1048576) (j:List UInt8→Option (List UInt8)):∀ (m:Nat) (o:List UInt8) (k:Int),0≤k→k≤(q.length:Int)→(q.length:Int) - k<m→(o.length:Int)≤4*k →
  aZ (nC q j) m (o,k)=j (o ++ jF (q.drop k.toNat)):=by
 intro m
 induction m with
 | zero=>intro o k _ _ h _;omega
 | succ m ih=>
  intro o k hk hk' hm ho
  simp only [aZ,nC,aN,Bool.cond_decide]
  by_cases h1:k<(q.length:Int)
  ·
   have he:=aRs (at' q k)
   rw [if_pos h1,if_pos ⟨hk,h1⟩,aP (aBh (at' q k)),if_pos (by omega),bV (by omega) (by omega),ih _ (k+1) (by omega) (by omega) (by omega) (by rw [List.length_append];omega),fW hk h1]
   simp only [jF,List.append_assoc]
  ·
   rw [if_neg h1,List.drop_eq_nil_of_le (by omega)]
   simp [jF]
theorem aHh (q:List Int) (hq:(q.length:Int)≤1048576):jR q=some (jF q):=by
 unfold jR
 simp only [aT]
 rw [aJy q hq _ bO [] 0 (by omega) (by omega) (by rw [bQ];omega) (by simp)]
 simp
def atR (s p:List UInt8):Int:=if 0≤Lib.index s p then ((iS (s.take (Lib.index s p).toNat)).1.length:Int) else -1
def aRm (l:List Int×Int) (n:Int) (q:List Int):EdT→EdT
  | (vi,D,_,B_,op,A7,A9,fr,fh,A5,A8,_,O,A0,_,_,A_)=>(vi,D,l,B_,op,A7,A9,fr,fh,A5,A8,[],n,(if O=0 then A_ else A0),q,n,A_)
def aNn (s:List UInt8) (q:List Int):List Int×Int:=((mH s).1.1,atR s (jF q))
end Go.Eng
