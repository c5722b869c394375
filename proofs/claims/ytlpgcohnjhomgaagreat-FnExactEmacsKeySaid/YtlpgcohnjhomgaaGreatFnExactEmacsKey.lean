/- FnExactEmacsKey: for every input the given law returns true and leaves its arguments as they were. No condition. -/
import Derived.Test.YtlpgcohnjhomgaaGreatFnExactEmacsKeyWalkD
import Derived.Test.YtlpgcohnjhomgaaGreatRows
import Derived.WalkKit
import Derived.ProofKit
import Derived.OpenShut
import Derived.ShutString
set_option linter.unusedVariables false
set_option linter.unusedSimpArgs false
namespace Go.Eng
open Go Go.Proofs
theorem aO {α β:Type} {m:Option α} {k:α→Option β} {y:α} (h:m=some y):aG m k=k y:=by rw [h];rfl
theorem sW {α β:Type} {c:Prop} [Decidable c] {x d:α} {k:α→Option β} (h:c):bU c (some x) d k=k x:=by
  unfold bU;rw [if_pos h];rfl
theorem qK {α β:Type} {c:Prop} [Decidable c] {m:Option α} {d:α} {k:α→Option β} (h:¬ c):bU c m d k=k d:=by
  unfold bU;rw [if_neg h]
def rF (r:Int):Int:=
 if r=9∨r=10∨r=32 then 0
 else if (97≤r∧r≤122)∨(65≤r∧r≤90)∨(48≤r∧r≤57)∨r=95∨(159<r∧r≤1114111∧(r<55296∨57343<r)) then 1 else 2
theorem sT (r:Int):fO r=some (rF r):=by
 unfold fO dS lS fN iU lL cT rF bU
 simp only [aG,Bool.cond_decide]
 by_cases h0:r=9
 ·
  simp [h0]
 by_cases h1:r=10
 ·
  simp [h1]
 by_cases h2:r=32
 ·
  simp [h2]
 simp only [h0,h1,h2,if_false,decide_false,or_self,cond_false,Bool.false_eq_true]
 by_cases a1:97≤r∧r≤122
 ·
  have:¬ (159<r):=by omega
  simp [a1,this]
 by_cases a2:65≤r∧r≤90
 ·
  have:¬ (159<r):=by omega
  have a1':¬ (97≤r):=by omega
  simp [a2,a1',this]
 by_cases a3:48≤r∧r≤57
 ·
  have:¬ (159<r):=by omega
  have a1':¬ (97≤r):=by omega
  have a2':¬ (65≤r):=by omega
  simp [a3,a1',a2',this]
 by_cases a4:r=95
 ·
  subst a4;decide
 have e1:(if 97≤r then decide (r≤122) else false)=false:=by split <;> simp <;> omega
 have e2:(if 65≤r then decide (r≤90) else false)=false:=by split <;> simp <;> omega
 have e3:(if 48≤r then decide (r≤57) else false)=false:=by split <;> simp <;> omega
 simp only [e1,e2,e3,a1,a2,a3,a4,cond_false,decide_false,false_or,if_false,if_true,and_true,decide_eq_true_eq,Bool.false_eq_true]
 by_cases a5:159<r
 ·
  by_cases a6:r≤1114111
  ·
   by_cases a7:r<55296
   ·
    have b1:0≤r:=by omega
    have b2:32≤r:=by omega
    have b3:¬ (r≤159):=by omega
    have b4:¬ (55296≤r):=by omega
    have b5:127≤r:=by omega
    simp [a5,a6,a7,b1,b2,b3,b4,b5]
   ·
    by_cases a8:57343<r
    ·
     have b1:0≤r:=by omega
     have b2:32≤r:=by omega
     have b3:¬ (r≤159):=by omega
     have b4:55296≤r:=by omega
     have b5:127≤r:=by omega
     have b6:¬ (r≤57343):=by omega
     simp [a5,a6,a7,a8,b1,b2,b3,b4,b5,b6]
    ·
     have b1:0≤r:=by omega
     have b4:55296≤r:=by omega
     have b6:r≤57343:=by omega
     simp [a5,a6,a7,a8,b1,b4,b6]
  ·
   simp [a5,a6]
 ·
  simp [a5]
def vX (big:Bool) (r:Int):Int:=if big=true∧rF r=2 then 1 else rF r
theorem aA0 (t:List Int) (i:Int) (big:Bool) (h0:0≤i) (h1:i<(t.length:Int)):lO t i big=some (vX big (at' t i)):=by
 unfold lO vX aN
 rw [if_pos ⟨h0,h1⟩,aO (sT _)]
 cases big
 ·
  simp
 ·
  by_cases h:rF (at' t i)=2 <;> simp [h]
def fwd (f:Int→Prop) [DecidablePred f]:Nat→Int→Int
 | 0,k=>k
 | r+1,k=>if f k then fwd f r (k+1) else k
theorem zR (f:Int→Prop) [DecidablePred f]:∀ (r:Nat) (k:Int),k≤fwd f r k∧fwd f r k≤k+r
 | 0,k=>by simp [fwd]
 | r+1,k=>by
  have:=zR f r (k+1)
  simp only [fwd]
  split <;> omega
def bwd (f:Int→Prop) [DecidablePred f]:Nat→Nat
 | 0=>0
 | r+1=>if f (r:Int) then bwd f r else r+1
theorem yV (f:Int→Prop) [DecidablePred f]:∀ (r:Nat),bwd f r≤r
 | 0=>Nat.le_refl _
 | r+1=>by
  have:=yV f r
  simp only [bwd]
  split <;> omega
theorem oZ (a n:Int) (hn:0≤n):dA a n=some (max 0 (min a n)):=by
 simp only [dA,Bool.cond_decide]
 split
 ·
  congr 1;omega
 ·
  split <;> (congr 1;omega)
theorem aG7 (r:Int):fM r=some (rF r):=by
 unfold fM dR kY rF bU
 simp only [aG,Bool.cond_decide]
 by_cases h0:r=9
 ·
  simp [h0]
 by_cases h1:r=10
 ·
  simp [h1]
 by_cases h2:r=32
 ·
  simp [h2]
 simp only [h0,h1,h2,if_false,decide_false,or_self,cond_false,Bool.false_eq_true]
 by_cases a1:97≤r∧r≤122
 ·
  have:¬ (159<r):=by omega
  simp [a1,this]
 by_cases a2:65≤r∧r≤90
 ·
  have:¬ (159<r):=by omega
  have a1':¬ (97≤r):=by omega
  simp [a2,a1',this]
 by_cases a3:48≤r∧r≤57
 ·
  have:¬ (159<r):=by omega
  have a1':¬ (97≤r):=by omega
  have a2':¬ (65≤r):=by omega
  simp [a3,a1',a2',this]
 by_cases a4:r=95
 ·
  subst a4;decide
 have e1:(if 97≤r then decide (r≤122) else false)=false:=by split <;> simp <;> omega
 have e2:(if 65≤r then decide (r≤90) else false)=false:=by split <;> simp <;> omega
 have e3:(if 48≤r then decide (r≤57) else false)=false:=by split <;> simp <;> omega
 simp only [e1,e2,e3,a1,a2,a3,a4,cond_false,decide_false,false_or,if_false,and_true,decide_eq_true_eq,Bool.false_eq_true]
 by_cases a5:159<r
 ·
  by_cases a6:r≤1114111
  ·
   by_cases a7:r<55296
   ·
    have b1:0≤r:=by omega
    have b2:32≤r:=by omega
    have b3:¬ (r<127):=by omega
    simp [a5,a6,a7,b1,b2,b3]
   ·
    by_cases a8:57343<r
    ·
     have b1:0≤r:=by omega
     have b2:32≤r:=by omega
     have b3:¬ (r<127):=by omega
     simp [a5,a6,a7,a8,b1,b2,b3]
    ·
     have b1:0≤r:=by omega
     simp [a5,a6,a7,a8,b1]
  ·
   simp [a5,a6]
 ·
  simp [a5]
theorem aAq (r:Int) (big:Bool):iZ r big=some (vX big r):=by
 unfold iZ vX
 rw [aO (aG7 r)]
 cases big
 ·
  simp
 ·
  by_cases h:rF r=2 <;> simp [h]
def again (g:Int→Int):Nat→Int→Int
 | 0,k=>k
 | n+1,k=>again g n (g k)
def eOn (t:List Int) (k:Int):Int:=
 let x:=fwd (fun i=>¬ rF (at' t i)=1) ((t.length:Int) - k).toNat k
 fwd (fun i=>rF (at' t i)=1) ((t.length:Int) - x).toNat x
def vW (t:List Int) (k:Nat):Nat:=bwd (fun i=>rF (at' t i)=1) (bwd (fun i=>¬ rF (at' t i)=1) k)
theorem zS (t:List Int) (k:Int) (h0:0≤k) (h1:k≤(t.length:Int)):k≤eOn t k∧eOn t k≤(t.length:Int):=by
 unfold eOn
 have a:=zR (fun i=>¬ rF (at' t i)=1) ((t.length:Int) - k).toNat k
 generalize fwd (fun i=>¬ rF (at' t i)=1) ((t.length:Int) - k).toNat k=x at *
 have b:=zR (fun i=>rF (at' t i)=1) ((t.length:Int) - x).toNat x
 simp only
 omega
theorem aFp (t:List Int) (k:Nat):vW t k≤k:=Nat.le_trans (yV _ _) (yV _ _)
theorem aB3:fM=fO:=funext fun r=>(aG7 r).trans (sT r).symm
theorem aP8:mW=hY:=by funext a b c d;unfold mW hY;rw [aB3]
theorem aP6:mV=hX:=by funext a b c d;unfold mV hX;rw [aB3]
theorem aLs:jM=fE:=by funext a b c d;unfold jM fE;rw [aB3]
theorem aLq:jL=fD:=by funext a b c d;unfold jL fD;rw [aB3]
section
variable (t:List Int) (hl:(t.length:Int)≤1048576)
include hl
theorem aP9 (j:Int→Option Int):∀ (m r:Nat) (k:Int),0≤k→k+r=(t.length:Int)→r<m →
  bC (hY t j) m k=j (fwd (fun i=>¬ rF (at' t i)=1) r k):=by
 intro m
 induction m with
 | zero=>intro r k _ _ h;omega
 | succ m ih=>
  intro r k hk hr hm
  simp only [bC,hY,bU,aN,Bool.cond_decide]
  cases r with
  | zero=>
   have:¬ (k<(t.length:Int)):=by omega
   simp [this,fwd]
  | succ r=>
   have h1:k<(t.length:Int):=by omega
   simp only [h1,decide_true,if_true,hk,and_self,implies_true]
   rw [aO (sT _),bP (by omega) (by omega),ih r (k+1) (by omega) (by omega) (by omega)]
   simp only [fwd]
   by_cases c:rF (at' t k)=1 <;> simp [c]
theorem aP7 (j:Int→Option Int):∀ (m r:Nat) (k:Int),0≤k→k+r=(t.length:Int)→r<m →
  bC (hX t j) m k=j (fwd (fun i=>rF (at' t i)=1) r k):=by
 intro m
 induction m with
 | zero=>intro r k _ _ h;omega
 | succ m ih=>
  intro r k hk hr hm
  simp only [bC,hX,bU,aN,Bool.cond_decide]
  cases r with
  | zero=>
   have:¬ (k<(t.length:Int)):=by omega
   simp [this,fwd]
  | succ r=>
   have h1:k<(t.length:Int):=by omega
   simp only [h1,decide_true,if_true,hk,and_self,implies_true]
   rw [aO (sT _),bP (by omega) (by omega),ih r (k+1) (by omega) (by omega) (by omega)]
   simp only [fwd]
   by_cases c:rF (at' t k)=1 <;> simp [c]
theorem aLt (j:Int→Option Int):∀ (m k:Nat),(k:Int)≤(t.length:Int)→k<m →
  bC (fE t j) m (k:Int)=j (bwd (fun i=>¬ rF (at' t i)=1) k:Nat):=by
 intro m
 induction m with
 | zero=>intro k _ h;omega
 | succ m ih=>
  intro k hk hm
  simp only [bC,fE,bU,aN,Bool.cond_decide]
  cases k with
  | zero=>simp [bwd]
  | succ k=>
   have h1:(0:Int)<((k+1:Nat):Int):=by omega
   have e:((k+1:Nat):Int) - 1=(k:Int):=by omega
   rw [bP (by omega) (by omega),e,if_pos (fun _=>by omega)]
   simp only [h1,decide_true,if_true]
   rw [aO (sT _),ih k (by omega) (by omega)]
   simp only [bwd]
   by_cases c:rF (at' t (k:Int))=1 <;> simp [c]
theorem aLr (j:Int→Option Int):∀ (m k:Nat),(k:Int)≤(t.length:Int)→k<m →
  bC (fD t j) m (k:Int)=j (bwd (fun i=>rF (at' t i)=1) k:Nat):=by
 intro m
 induction m with
 | zero=>intro k _ h;omega
 | succ m ih=>
  intro k hk hm
  simp only [bC,fD,bU,aN,Bool.cond_decide]
  cases k with
  | zero=>simp [bwd]
  | succ k=>
   have h1:(0:Int)<((k+1:Nat):Int):=by omega
   have e:((k+1:Nat):Int) - 1=(k:Int):=by omega
   rw [bP (by omega) (by omega),e,if_pos (fun _=>by omega)]
   simp only [h1,decide_true,if_true]
   rw [aO (sT _),ih k (by omega) (by omega)]
   simp only [bwd]
   by_cases c:rF (at' t (k:Int))=1 <;> simp [c]
theorem aRp (k:Int) (h0:0≤k) (h1:k≤(t.length:Int)):lQ t k=some (eOn t k):=by
 unfold lQ hD eOn
 have e:max (0:Int) (min k (t.length:Int))=k:=by omega
 simp only [aG,aU,e]
 rw [aP9 t hl _ bM ((t.length:Int) - k).toNat k h0 (by omega) (by rw [bO];omega)]
 have a:=zR (fun i=>¬ rF (at' t i)=1) ((t.length:Int) - k).toNat k
 generalize fwd (fun i=>¬ rF (at' t i)=1) ((t.length:Int) - k).toNat k=x at *
 rw [aP7 t hl _ bM ((t.length:Int) - x).toNat x (by omega) (by omega) (by rw [bO];omega)]
theorem aT9 (k:Int) (h0:0≤k) (h1:k≤(t.length:Int)):tP t k=some (eOn t k):=by
 rw [← aRp t hl k h0 h1]
 unfold tP lQ hD
 rw [aP8,aP6,oZ _ _ (by omega)]
theorem aOn (k:Nat) (h1:(k:Int)≤(t.length:Int)):jF t (k:Int)=some ((vW t k:Nat):Int):=by
 unfold jF hD vW
 have e:max (0:Int) (min (k:Int) (t.length:Int))=k:=by omega
 simp only [aG,aU,e]
 rw [aLt t hl _ bM k h1 (by rw [bO];omega)]
 have a:=yV (fun i=>¬ rF (at' t i)=1) k
 rw [aLr t hl _ bM _ (by omega) (by rw [bO];omega)]
theorem aSv (k:Nat) (h1:(k:Int)≤(t.length:Int)):pB t (k:Int)=some ((vW t k:Nat):Int):=by
 rw [← aOn t hl k h1]
 unfold pB jF hD
 rw [aLs,aLq,oZ _ _ (by omega)]
omit hl in
theorem aBv:∀ (n:Nat) (k:Int),0≤k→k≤(t.length:Int)→k≤again (eOn t) n k∧again (eOn t) n k≤(t.length:Int)
 | 0,k,h0,h1=>by simp only [again];omega
 | n+1,k,h0,h1=>by
  have a:=zS t k h0 h1
  have b:=aBv n (eOn t k) (by omega) a.2
  simp only [again]
  omega
omit hl in
theorem yL:∀ (n:Nat) (k:Int),0≤k→k≤(t.length:Int)→0≤again (fun k=>(vW t k.toNat:Int)) n k∧again (fun k=>(vW t k.toNat:Int)) n k≤k
 | 0,k,h0,h1=>by simp only [again];omega
 | n+1,k,h0,h1=>by
  have a:=aFp t k.toNat
  have b:=yL n (vW t k.toNat:Int) (by omega) (by omega)
  simp only [again]
  omega
theorem aM0 (q:Int) (j:Int→Option (Int×List Int)):∀ (m r:Nat) (k i:Int),0≤k→k≤(t.length:Int)→0≤i→i≤2000→q≤2000→r=(q - i).toNat→r<m →
  bC (eR q t j) m (k,i)=j (again (eOn t) r k):=by
 intro m
 induction m with
 | zero=>intro r k i _ _ _ _ _ _ h;omega
 | succ m ih=>
  intro r k i h0 h1 hi hi' hq hr hm
  simp only [bC,eR,pZ,Bool.cond_decide]
  cases r with
  | zero=>rw [if_neg (by omega)];rfl
  | succ r=>
   have hb:=zS t k h0 h1
   rw [if_pos (by omega),aRp t hl k h0 h1]
   simp only [aG]
   rw [bP (by omega) (by omega)]
   exact ih r _ (i+1) (by omega) hb.2 (by omega) (by omega) hq (by omega) (by omega)
theorem aBj (q:Int) (j:Int→Option (Int×List Int)):∀ (m r:Nat) (k i:Int),0≤k→k≤(t.length:Int)→0≤i→i≤2000→q≤2000→r=(q - i).toNat→r<m →
  bC (cX q t j) m (k,i)=j (again (fun k=>(vW t k.toNat:Int)) r k):=by
 intro m
 induction m with
 | zero=>intro r k i _ _ _ _ _ _ h;omega
 | succ m ih=>
  intro r k i h0 h1 hi hi' hq hr hm
  simp only [bC,cX,lN,Bool.cond_decide]
  cases r with
  | zero=>rw [if_neg (by omega)];rfl
  | succ r=>
   have hk:((k.toNat:Nat):Int)=k:=by omega
   have hb:=aFp t k.toNat
   have he:=aOn t hl k.toNat (by omega)
   rw [hk] at he
   rw [if_pos (by omega),he]
   simp only [aG]
   rw [bP (by omega) (by omega)]
   exact ih r _ (i+1) (by omega) (by omega) (by omega) (by omega) hq (by omega) (by omega)
omit hl in
theorem aTn:eS=cX:=by funext a b c d;unfold eS cX rA lN;rfl
theorem aSg (k n:Int) (h0:0≤k) (h1:k≤(t.length:Int)) (hn:n≤1000):eY k n t=some (again (eOn t) n.toNat k,t):=by
 unfold eY
 simp only [aU]
 exact aM0 t hl n _ bM n.toNat k 0 h0 h1 (by omega) (by omega) (by omega) (by omega) (by rw [bO];omega)
theorem aPp (k n:Int) (h0:0≤k) (h1:k≤(t.length:Int)) (hn:n≤1000):gN k n t=some (again (fun k=>(vW t k.toNat:Int)) n.toNat k,t):=by
 unfold gN
 simp only [aU]
 exact aBj t hl n _ bM n.toNat k 0 h0 h1 (by omega) (by omega) (by omega) (by omega) (by rw [bO];omega)
theorem aM1 (k n:Int) (h0:0≤k) (h1:k≤(t.length:Int)) (hn:n≤1000):eZ k n t=some (again (fun k=>(vW t k.toNat:Int)) n.toNat k,t):=by
 unfold eZ
 rw [aTn]
 simp only [aU]
 exact aBj t hl n _ bM n.toNat k 0 h0 h1 (by omega) (by omega) (by omega) (by omega) (by rw [bO];omega)
end
theorem dI {α:Type} [Inhabited α] {l:List α} {k:Int} (h0:0≤k) (h:k<(l.length:Int)):l.drop k.toNat=at' l k :: l.drop (k+1).toNat:=by
 have hlt:k.toNat<l.length:=by omega
 rw [List.drop_eq_getElem_cons hlt]
 have:(k+1).toNat=k.toNat+1:=by omega
 rw [this]
 congr 1
 simp [at',List.getD_eq_getElem?_getD,hlt]
theorem aN1 {α:Type} {l:List α} {k:Int} (h0:0≤k):bN l k (l.length:Int)=l.drop k.toNat:=by
 unfold bN
 rw [List.take_of_length_le]
 simp
theorem aMw (xs:List (List Int)) (hl:(xs.length:Int)≤1048576) (hs:∀ s ∈ xs,(s.length:Int)≤1048576) (j:List (List Int)→Option (List (List Int))):∀ (m:Nat) (i:Int) (ds:List (List Int)),0≤i→i≤(xs.length:Int)→(ds.length:Int)=i→(xs.length:Int) - i<m →
  bC (kV xs j) m (i,ds)=j (ds ++ xs.drop i.toNat):=by
 intro m
 induction m with
 | zero=>intro i ds _ _ _ h;omega
 | succ m ih=>
  intro i ds hi hi' hd hm
  simp only [bC,kV,aN,Bool.cond_decide,List.nil_append]
  by_cases h1:i<(xs.length:Int)
  ·
   have hb:=hs (at' xs i) (List.mem_of_getElem? (bD ⟨hi,h1⟩))
   rw [if_pos h1,if_pos ⟨hi,h1⟩,if_pos (by simp;omega),if_pos (by simp;omega),bP (by omega) (by omega),ih (i+1) _ (by omega) (by omega) (by simp;omega) (by omega),dI hi h1]
   simp
  ·
   rw [if_neg h1,List.drop_eq_nil_of_le (by omega)]
   simp
theorem aMx (xs:List (List Int)) (hl:(xs.length:Int)≤1048576) (hs:∀ s ∈ xs,(s.length:Int)≤1048576) (j:List (List Int)→Option (List (List Int))):∀ (m:Nat) (i:Int) (ds:List (List Int)),0≤i→i≤(xs.length:Int)→(ds.length:Int)=i→(xs.length:Int) - i<m →
  bC (jX xs j) m (i,ds)=j (ds ++ xs.drop i.toNat):=by
 intro m
 induction m with
 | zero=>intro i ds _ _ _ h;omega
 | succ m ih=>
  intro i ds hi hi' hd hm
  simp only [bC,jX,aN,Bool.cond_decide]
  by_cases h1:i<(xs.length:Int)
  ·
   have hb:=hs (at' xs i) (List.mem_of_getElem? (bD ⟨hi,h1⟩))
   have ec:cJ (at' xs i)=some (at' xs i):=by
    unfold cJ aN
    rw [if_pos (by simp;omega)];simp
   rw [if_pos h1,if_pos ⟨hi,h1⟩,aO ec,if_pos (by simp;omega),bP (by omega) (by omega),ih (i+1) _ (by omega) (by omega) (by simp;omega) (by omega),dI hi h1]
   simp
  ·
   rw [if_neg h1,List.drop_eq_nil_of_le (by omega)]
   simp
theorem aA3 (xs:List (List Int)) (hl:(xs.length:Int)≤1048576) (hs:∀ s ∈ xs,(s.length:Int)≤1048576):kW xs=some xs:=by
 unfold kW
 simp only [aU]
 rw [aMw xs hl hs _ bM 0 [] (by omega) (by omega) (by simp) (by rw [bO];omega)]
 simp
theorem aA4 (xs:List (List Int)) (hl:(xs.length:Int)≤1048576) (hs:∀ s ∈ xs,(s.length:Int)≤1048576):jE xs=some xs:=by
 unfold jE
 simp only [aU]
 rw [aMx xs hl hs _ bM 0 [] (by omega) (by omega) (by simp) (by rw [bO];omega)]
 simp
theorem kO (x:List Int) (h:(x.length:Int)≤1048576):cJ x=some x:=by
 unfold cJ aN
 rw [if_pos (by simp;omega)];simp
theorem gZ (x:List Int×Int) (h:(x.1.length:Int)≤1048576):cS x=some x:=by
 unfold cS
 rw [aO (kO x.1 h)]
theorem iW (x:List Int×Int) (h:(x.1.length:Int)≤1048576):dK x=some x:=by
 unfold dK aN
 rw [if_pos (by simp;omega)];simp
theorem aMc (xs:List (List Int×Int)) (hl:(xs.length:Int)≤1048576) (hs:∀ s ∈ xs,(s.1.length:Int)≤1048576) (j:List (List Int×Int)→Option (List (List Int×Int))):∀ (m:Nat) (i:Int) (ds:List (List Int×Int)),0≤i→i≤(xs.length:Int)→(ds.length:Int)=i→(xs.length:Int) - i<m →
  bC (jK xs j) m (i,ds)=j (ds ++ xs.drop i.toNat):=by
 intro m
 induction m with
 | zero=>intro i ds _ _ _ h;omega
 | succ m ih=>
  intro i ds hi hi' hd hm
  simp only [bC,jK,aN,Bool.cond_decide]
  by_cases h1:i<(xs.length:Int)
  ·
   have hb:=hs (at' xs i) (List.mem_of_getElem? (bD ⟨hi,h1⟩))
   rw [if_pos h1,if_pos ⟨hi,h1⟩,aO (iW (at' xs i) hb),if_pos (by simp;omega),bP (by omega) (by omega),ih (i+1) _ (by omega) (by omega) (by simp;omega) (by omega),dI hi h1]
   simp
  ·
   rw [if_neg h1,List.drop_eq_nil_of_le (by omega)]
   simp
theorem aMd (xs:List (List Int×Int)) (hl:(xs.length:Int)≤1048576) (hs:∀ s ∈ xs,(s.1.length:Int)≤1048576) (j:List (List Int×Int)→Option (List (List Int×Int))):∀ (m:Nat) (i:Int) (ds:List (List Int×Int)),0≤i→i≤(xs.length:Int)→(ds.length:Int)=i→(xs.length:Int) - i<m →
  bC (jW xs j) m (i,ds)=j (ds ++ xs.drop i.toNat):=by
 intro m
 induction m with
 | zero=>intro i ds _ _ _ h;omega
 | succ m ih=>
  intro i ds hi hi' hd hm
  simp only [bC,jW,aN,Bool.cond_decide]
  by_cases h1:i<(xs.length:Int)
  ·
   have hb:=hs (at' xs i) (List.mem_of_getElem? (bD ⟨hi,h1⟩))
   rw [if_pos h1,if_pos ⟨hi,h1⟩,aO (gZ (at' xs i) hb),if_pos (by simp;omega),bP (by omega) (by omega),ih (i+1) _ (by omega) (by omega) (by simp;omega) (by omega),dI hi h1]
   simp
  ·
   rw [if_neg h1,List.drop_eq_nil_of_le (by omega)]
   simp
theorem aA1 (xs:List (List Int×Int)) (hl:(xs.length:Int)≤1048576) (hs:∀ s ∈ xs,(s.1.length:Int)≤1048576):iY xs=some xs:=by
 unfold iY
 simp only [aU]
 rw [aMc xs hl hs _ bM 0 [] (by omega) (by omega) (by simp) (by rw [bO];omega)]
 simp
theorem aA2 (xs:List (List Int×Int)) (hl:(xs.length:Int)≤1048576) (hs:∀ s ∈ xs,(s.1.length:Int)≤1048576):jD xs=some xs:=by
 unfold jD
 simp only [aU]
 rw [aMd xs hl hs _ bM 0 [] (by omega) (by omega) (by simp) (by rw [bO];omega)]
 simp
section
variable (vi:Bool) (mode:Int) (line:List Int×Int) (count op opc wait fr fh last:Int) (ring:List (List Int)) (undo:List (List Int×Int)) (nav:Int) (own:List Int×Int) (query:List Int) (hit:Int) (back:List Int×Int)
  (h1:line.1.length≤1048576) (h2:ring.length≤1048576) (h3:∀ s ∈ ring,s.length≤1048576) (h4:undo.length≤1048576) (h5:∀ s ∈ undo,s.1.length≤1048576) (h6:own.1.length≤1048576) (h7:query.length≤1048576) (h8:back.1.length≤1048576)
include h1 h2 h3 h4 h5 h6 h7 h8
theorem aFq:cH (vi,mode,line,count,op,opc,wait,fr,fh,last,ring,undo,nav,own,query,hit,back)=some (vi,mode,line,count,op,opc,wait,fr,fh,last,ring,undo,nav,own,query,hit,back):=by
 unfold cH
 simp only [iW line (by omega),iW own (by omega),iW back (by omega),aA3 ring (by omega) (fun s h=>by have:=h3 s h;omega),aA1 undo (by omega) (fun s h=>by have:=h5 s h;omega),aG,aN]
 rw [if_pos (by simp;omega)]
 simp
theorem aLu:fX (vi,mode,line,count,op,opc,wait,fr,fh,last,ring,undo,nav,own,query,hit,back)=some (vi,mode,line,count,op,opc,wait,fr,fh,last,ring,undo,nav,own,query,hit,back):=by
 unfold fX
 simp only [gZ line (by omega),gZ own (by omega),gZ back (by omega),aA4 ring (by omega) (fun s h=>by have:=h3 s h;omega),aA2 undo (by omega) (fun s h=>by have:=h5 s h;omega),kO query (by omega),aG]
end
theorem aFf (a b c:Int):cT a b c=some (decide (b≤a∧a≤c)):=by
 unfold cT
 congr 1
 by_cases h1:b≤a <;> by_cases h2:a≤c <;> simp [h1,h2]
def pr (r:Int):Bool:=decide ((0≤r∧r≤1114111∧(r<55296∨57343<r))∧32≤r∧(r<127∨159<r))
theorem cB {α β:Type} {c:Prop} [Decidable c] {x d:α} {k:α→Option β}:bU c (some x) d k=k (if c then x else d):=by
 unfold bU
 split <;> simp [aG, *]
theorem uH (r:Int):dR r=some (pr r):=by
 unfold dR pr kY
 simp only [aG]
 congr 1
 by_cases h1:0≤r <;> by_cases h2:r≤1114111 <;> by_cases h3:r<55296 <;> by_cases h4:57343<r <;> by_cases h5:32≤r <;> by_cases h6:r<127 <;> simp [h1,h2,h3,h4,h5,h6]
theorem uI (r:Int):dS r=some (pr r):=by
 unfold dS pr lS
 simp only [aFf,cB,aG]
 congr 1
 by_cases h1:0≤r∧r≤1114111
 ·
  by_cases h2:55296≤r∧r≤57343
  ·
   have:¬ (r<55296∨57343<r):=by omega
   simp [h1,h2,this]
  ·
   have:(r<55296∨57343<r):=by omega
   by_cases h5:32≤r
   ·
    by_cases h6:127≤r∧r≤159
    ·
     have:¬ (r<127∨159<r):=by omega
     simp [h1,h2,h5,h6,this]
    ·
     have:(r<127∨159<r):=by omega
     simp [h1,h2,h5,h6, *]
   ·
    simp [h1,h2,h5]
 ·
  have:¬ (0≤r∧r≤1114111∧(r<55296∨57343<r)):=fun h=>h1 ⟨h.1,h.2.1⟩
  simp [h1,this]
def adm (r:Int):Bool:=pr r || decide (r=9) || decide (r=10)
theorem aR8 (r:Int):pA r=some (adm r):=by
 unfold pA adm
 rw [aO (uH r)]
 cases pr r <;> by_cases h:r=9 <;> by_cases h':r=10 <;> simp [h,h']
theorem aJc (r:Int):lP r=some (adm r):=by
 unfold lP adm
 rw [aO (uI r)]
 cases pr r <;> by_cases h:r=9 <;> by_cases h':r=10 <;> simp [h,h']
theorem aG3 (t:List Int) (ht:t.length≤100000000) (j:Unit→Option Bool):∀ (m:Nat) (k:Int),0≤k→k≤(t.length:Int)→(t.length:Int) - k<m→bC (eG t j) m k=if (t.drop k.toNat).all adm then j () else some false:=by
 intro m
 induction m with
 | zero=>intro k _ _ h;omega
 | succ m ih=>
  intro k hk hk' hm
  simp only [bC,eG,aN,Bool.cond_decide,aR8,aG]
  by_cases h1:k<(t.length:Int)
  ·
   rw [if_pos h1,if_pos ⟨hk,h1⟩,bP (by omega) (by omega),dI hk h1]
   by_cases h2:adm (at' t k)
   ·
    rw [ih (k+1) (by omega) (by omega) (by omega)]
    simp [h2]
   ·
    simp [h2]
  ·
   rw [if_neg h1,List.drop_eq_nil_of_le (by omega)]
   simp
theorem aA6 (t:List Int) (ht:t.length≤100000000):gC t=some (t.all adm):=by
 unfold gC aU
 show bC (eG t fun _=>some true) bM 0=_
 rw [aG3 t ht _ bM 0 (by omega) (by omega) (by rw [bO];omega)]
 simp only [Int.toNat_zero,List.drop_zero]
 cases t.all adm <;> simp
theorem aL1 (t:List Int) (ht:t.length≤100000000) (j:Unit→Option Bool):∀ (m:Nat) (k:Int),0≤k→k≤(t.length:Int)→(k=0∨k≤400)→(t.length:Int) - k<m→bC (dL t j) m k=if (t.drop k.toNat).all adm∧t.length≤400 then j () else some false:=by
 intro m
 induction m with
 | zero=>intro k _ _ _ h;omega
 | succ m ih=>
  intro k hk hk' h4 hm
  simp only [bC,dL,aN,Bool.cond_decide,aJc,cB]
  by_cases h1:k<(t.length:Int)
  ·
   rw [if_pos h1,if_pos ⟨hk,h1⟩,bP (by omega) (by omega),dI hk h1]
   by_cases h3:400≤k
   ·
    have:¬ t.length≤400:=by omega
    simp [h3,this]
   ·
    by_cases h2:adm (at' t k)
    ·
     rw [ih (k+1) (by omega) (by omega) (by omega) (by omega)]
     simp [h2,h3]
    ·
     simp [h2,h3]
  ·
   rw [if_neg h1,List.drop_eq_nil_of_le (by omega)]
   have:t.length≤400:=by omega
   simp [this]
def cO (t:List Int):Bool:=t.all adm && decide (t.length≤400)
theorem aFw (t:List Int) (ht:t.length≤100000000):dY t=some (cO t):=by
 unfold dY aU cO
 show bC (dL t fun _=>some true) bM 0=_
 rw [aL1 t ht _ bM 0 (by omega) (by omega) (.inl rfl) (by rw [bO];omega)]
 simp only [Int.toNat_zero,List.drop_zero]
 by_cases h:t.length≤400 <;> cases t.all adm <;> simp [h]
def bK (l:List Int×Int):Bool:=cO l.1 && decide (0≤l.2∧l.2≤(l.1.length:Int))
theorem iF (l:List Int×Int) (hl:l.1.length≤100000000):dE l=some (bK l):=by
 unfold dE bK cO
 rw [aA6 _ hl]
 simp only [cB]
 congr 1
 by_cases h:l.1.length≤400
 ·
  have h':(l.1.length:Int)≤400:=by omega
  by_cases h2:0≤l.2 <;> by_cases h3:l.2≤(l.1.length:Int) <;> cases l.1.all adm <;> simp [h,h',h2,h3]
 ·
  have h':¬ (l.1.length:Int)≤400:=by omega
  simp [h,h']
theorem mP (l:List Int×Int) (hl:l.1.length≤100000000):dJ l=some (bK l):=by
 unfold dJ bK
 rw [aO (aFw _ hl)]
 simp only [aFf,cB]
 congr 1
 cases cO l.1 <;> simp
def lX (p:List Int):Bool:=cO p && !(decide (p.length=0))
theorem aMu (r:List (List Int)) (hr:r.length≤100000000) (hp:∀ p ∈ r,p.length≤100000000) (j:Unit→Option Bool):∀ (m:Nat) (k:Int),0≤k→k≤(r.length:Int)→(r.length:Int) - k<m→bC (mZ r j) m k=if (r.drop k.toNat).all lX then j () else some false:=by
 intro m
 induction m with
 | zero=>intro k _ _ h;omega
 | succ m ih=>
  intro k hk hk' hm
  simp only [bC,mZ,aN,Bool.cond_decide]
  by_cases h1:k<(r.length:Int)
  ·
   have hq:=hp (at' r k) (List.mem_of_getElem? (bD ⟨hk,h1⟩))
   have e:gG (at' r k)=some (cO (at' r k)):=by
    unfold gG cO
    rw [aA6 _ hq,cB]
    congr 1
    by_cases h:(at' r k).length≤400
    ·
     have h':((at' r k).length:Int)≤400:=by omega
     simp [h,h']
    ·
     have h':¬ ((at' r k).length:Int)≤400:=by omega
     simp [h,h']
   rw [if_pos h1,if_pos ⟨hk,h1⟩,bP (by omega) (by omega),dI hk h1,e,cB,ih (k+1) (by omega) (by omega) (by omega)]
   have hb:(if ((at' r k).length:Int)=0 then true else !(if decide (((at' r k).length:Int)=0)=false then cO (at' r k) else false))=!(lX (at' r k)):=by
    unfold lX
    by_cases hz:(at' r k).length=0
    ·
     have hz':((at' r k).length:Int)=0:=by omega
     rw [if_pos hz',decide_eq_true hz];simp
    ·
     have hz':¬ ((at' r k).length:Int)=0:=by omega
     rw [if_neg hz',decide_eq_false hz,decide_eq_false hz'];simp
   rw [hb]
   by_cases hz:lX (at' r k)=true <;> simp [hz]
  ·
   rw [if_neg h1,List.drop_eq_nil_of_le (by omega)]
   simp
theorem aMv (r:List (List Int)) (hr:r.length≤100000000) (hp:∀ p ∈ r,p.length≤100000000) (j:Unit→Option Bool):∀ (m:Nat) (k:Int),0≤k→k≤(r.length:Int)→(r.length:Int) - k<m→bC (nK r j) m k=if (r.drop k.toNat).all lX then j () else some false:=by
 intro m
 induction m with
 | zero=>intro k _ _ h;omega
 | succ m ih=>
  intro k hk hk' hm
  simp only [bC,nK,aN,Bool.cond_decide]
  by_cases h1:k<(r.length:Int)
  ·
   have hq:=hp (at' r k) (List.mem_of_getElem? (bD ⟨hk,h1⟩))
   rw [if_pos h1,if_pos ⟨hk,h1⟩,bP (by omega) (by omega),dI hk h1,aFw _ hq,cB,ih (k+1) (by omega) (by omega) (by omega)]
   have hb:(if ((at' r k).length:Int)=0 then true else !(if decide (((at' r k).length:Int)=0)=false then cO (at' r k) else false))=!(lX (at' r k)):=by
    unfold lX
    by_cases hz:(at' r k).length=0
    ·
     have hz':((at' r k).length:Int)=0:=by omega
     rw [if_pos hz',decide_eq_true hz];simp
    ·
     have hz':¬ ((at' r k).length:Int)=0:=by omega
     rw [if_neg hz',decide_eq_false hz,decide_eq_false hz'];simp
   rw [hb]
   by_cases hz:lX (at' r k)=true <;> simp [hz]
  ·
   rw [if_neg h1,List.drop_eq_nil_of_le (by omega)]
   simp
def dT (r:List (List Int)):Bool:=r.all lX && decide (r.length≤6)
theorem aD2 {n m:Nat}:decide ((n:Int)≤(m:Int))=decide (n≤m):=by
 by_cases h:n≤m
 ·
  rw [decide_eq_true h,decide_eq_true (by omega)]
 ·
  rw [decide_eq_false h,decide_eq_false (by omega)]
theorem aBg (r:List (List Int)) (hr:r.length≤100000000) (hp:∀ p ∈ r,p.length≤100000000):kZ r=some (dT r):=by
 unfold kZ dT
 simp only [aU]
 rw [aMu r hr hp _ bM 0 (by omega) (by omega) (by rw [bO];omega)]
 have:=aD2 (n:=r.length) (m:=6)
 simp only [Int.toNat_zero,List.drop_zero] at this ⊢
 have e6:((6:Nat):Int)=6:=rfl
 rw [e6] at this
 rw [this]
 cases r.all lX <;> simp
theorem aBh (r:List (List Int)) (hr:r.length≤100000000) (hp:∀ p ∈ r,p.length≤100000000):lT r=some (dT r):=by
 unfold lT dT
 simp only [aU]
 rw [aMv r hr hp _ bM 0 (by omega) (by omega) (by rw [bO];omega)]
 have:=aD2 (n:=r.length) (m:=6)
 simp only [Int.toNat_zero,List.drop_zero] at this ⊢
 have e6:((6:Nat):Int)=6:=rfl
 rw [e6] at this
 rw [this]
 cases r.all lX <;> simp
theorem aMa (r:List (List Int×Int)) (hr:r.length≤100000000) (hp:∀ p ∈ r,p.1.length≤100000000) (j:Unit→Option Bool):∀ (m:Nat) (k:Int),0≤k→k≤(r.length:Int)→(r.length:Int) - k<m→bC (mX r j) m k=if (r.drop k.toNat).all bK then j () else some false:=by
 intro m
 induction m with
 | zero=>intro k _ _ h;omega
 | succ m ih=>
  intro k hk hk' hm
  simp only [bC,mX,aN,Bool.cond_decide]
  by_cases h1:k<(r.length:Int)
  ·
   have hq:=hp (at' r k) (List.mem_of_getElem? (bD ⟨hk,h1⟩))
   rw [if_pos h1,if_pos ⟨hk,h1⟩,bP (by omega) (by omega),dI hk h1,aO (iF (at' r k) hq),ih (k+1) (by omega) (by omega) (by omega)]
   obtain ⟨x,hx⟩:∃ x,x=bK (at' r k):=⟨_,rfl⟩
   rw [List.all_cons,← hx]
   cases x <;> rfl
  ·
   rw [if_neg h1,List.drop_eq_nil_of_le (by omega)]
   simp
theorem aMb (r:List (List Int×Int)) (hr:r.length≤100000000) (hp:∀ p ∈ r,p.1.length≤100000000) (j:Unit→Option Bool):∀ (m:Nat) (k:Int),0≤k→k≤(r.length:Int)→(r.length:Int) - k<m→bC (nJ r j) m k=if (r.drop k.toNat).all bK then j () else some false:=by
 intro m
 induction m with
 | zero=>intro k _ _ h;omega
 | succ m ih=>
  intro k hk hk' hm
  simp only [bC,nJ,aN,Bool.cond_decide]
  by_cases h1:k<(r.length:Int)
  ·
   have hq:=hp (at' r k) (List.mem_of_getElem? (bD ⟨hk,h1⟩))
   rw [if_pos h1,if_pos ⟨hk,h1⟩,bP (by omega) (by omega),dI hk h1,aO (mP (at' r k) hq),ih (k+1) (by omega) (by omega) (by omega)]
   obtain ⟨x,hx⟩:∃ x,x=bK (at' r k):=⟨_,rfl⟩
   rw [List.all_cons,← hx]
   cases x <;> rfl
  ·
   rw [if_neg h1,List.drop_eq_nil_of_le (by omega)]
   simp
def fA (r:List (List Int×Int)):Bool:=r.all bK && decide (r.length≤20)
theorem aD5 (r:List (List Int×Int)) (hr:r.length≤100000000) (hp:∀ p ∈ r,p.1.length≤100000000):nW r=some (fA r):=by
 unfold nW fA
 simp only [aU]
 rw [aMa r hr hp _ bM 0 (by omega) (by omega) (by rw [bO];omega)]
 have:=aD2 (n:=r.length) (m:=20)
 simp only [Int.toNat_zero,List.drop_zero] at this ⊢
 have e6:((20:Nat):Int)=20:=rfl
 rw [e6] at this
 rw [this]
 cases r.all bK <;> simp
theorem aD6 (r:List (List Int×Int)) (hr:r.length≤100000000) (hp:∀ p ∈ r,p.1.length≤100000000):oC r=some (fA r):=by
 unfold oC fA
 simp only [aU]
 rw [aMb r hr hp _ bM 0 (by omega) (by omega) (by rw [bO];omega)]
 have:=aD2 (n:=r.length) (m:=20)
 simp only [Int.toNat_zero,List.drop_zero] at this ⊢
 have e6:((20:Nat):Int)=20:=rfl
 rw [e6] at this
 rw [this]
 cases r.all bK <;> simp
def kH (n:Int) (l:List Int):Bool:=l.any (fun x=>decide (x=n))
theorem aLd (l:List Int) (n:Int) (hl:l.length≤100000000):∀ (m:Nat) (k:Int),0≤k→k≤(l.length:Int)→(l.length:Int) - k<m→bC (iJ l n fun _=>some false) m k=some (kH n (l.drop k.toNat)):=by
 intro m
 induction m with
 | zero=>intro k _ _ h;omega
 | succ m ih=>
  intro k hk hk' hm
  simp only [bC,iJ,aN,Bool.cond_decide]
  by_cases h1:k<(l.length:Int)
  ·
   rw [if_pos h1,if_pos ⟨hk,h1⟩,bP (by omega) (by omega),dI hk h1,ih (k+1) (by omega) (by omega) (by omega)]
   unfold kH
   by_cases h2:at' l k=n
   ·
    simp [h2]
   ·
    simp [h2]
  ·
   rw [if_neg h1,List.drop_eq_nil_of_le (by omega)]
   simp [kH]
theorem aOt (n:Int) (l:List Int) (hl:l.length≤100000000):mE n l=some (kH n l):=by
 unfold mE qX
 simp only [aU]
 rw [aLd l n hl bM 0 (by omega) (by omega) (by rw [bO];omega)]
 simp [aG]
theorem aIz (l:List UInt8) (n:Int) (hl:l.length≤100000000):∀ (m:Nat) (k:Int),0≤k→k≤(l.length:Int)→(l.length:Int) - k<m→bC (lM n l fun _=>some false) m k=some (kH n ((l.drop k.toNat).map (fun b=>(b.toNat:Int)))):=by
 intro m
 induction m with
 | zero=>intro k _ _ h;omega
 | succ m ih=>
  intro k hk hk' hm
  simp only [bC,lM,aN,Bool.cond_decide]
  by_cases h1:k<(l.length:Int)
  ·
   rw [if_pos h1,if_pos ⟨hk,h1⟩,bP (by omega) (by omega),dI hk h1,ih (k+1) (by omega) (by omega) (by omega)]
   unfold kH
   by_cases h2:((at' l k).toNat:Int)=n
   ·
    simp [h2]
   ·
    simp [h2]
  ·
   rw [if_neg h1,List.drop_eq_nil_of_le (by omega)]
   simp [kH]
theorem aOu (n:Int) (l:List UInt8) (hl:l.length≤100000000):oM n l=some (kH n (l.map (fun b=>(b.toNat:Int)))):=by
 unfold oM
 simp only [aU]
 rw [aIz l n hl bM 0 (by omega) (by omega) (by rw [bO];omega)]
 simp
def nT (l:List Int×Int):Bool:=decide ((l.1.length:Int)=0) && decide (l.2=0)
theorem aOj (l:List Int×Int):mD l=some (nT l):=by
  unfold mD nT;cases decide ((l.1.length:Int)=0) <;> rfl
theorem aSp (l:List Int×Int):jZ l=some (nT l):=by
  unfold jZ nT;cases decide ((l.1.length:Int)=0) <;> rfl
def aAk (l:List Int×Int):Bool:=decide (0<(l.1.length:Int)) && decide (l.2=(l.1.length:Int))
theorem aOs (l:List Int×Int):oL l=some (aAk l):=by
  unfold oL aAk;cases decide (0<(l.1.length:Int)) <;> rfl
abbrev EdT:=Bool×Int×(List Int×Int)×Int×Int×Int×Int×Int×Int×Int×List (List Int)×(List (List Int×Int))×Int×(List Int×Int)×List Int×Int×List Int×Int
def vT (vi:Bool) (mode:Int) (line:List Int×Int) (op opc wait:Int):Bool:=
  decide (0≤mode∧mode≤3∧(mode=0→vi=false)∧(mode=1→vi=true)∧(mode=2→vi=true)∧(mode=2→aAk line=false)∧(mode≠2→op=0∧opc=0∧wait=0)∧(op=0→opc=0)) && kH op [0,100,99,121] && kH wait [0,102,70,116,84,114]
def qR (mode:Int) (query:List Int) (hit:Int) (back:List Int×Int):Bool:=
  decide (mode=3) || (decide ((query.length:Int)=0) && decide (hit=0) && nT back)
set_option maxHeartbeats 4000000 in
theorem aTt (vi:Bool) (mode:Int) (line:List Int×Int) (count op opc wait fr fh last:Int) (ring:List (List Int)) (undo:List (List Int×Int)) (nav:Int) (own:List Int×Int) (query:List Int) (hit:Int) (back:List Int×Int) :
  rM (vi,mode,line,count,op,opc,wait,fr,fh,last,ring,undo,nav,own,query,hit,back)=some (vT vi mode line op opc wait && qR mode query hit back):=by
 unfold rM
 have hg:(gl (kH op [0,100,99,121]) ([0,102,70,116,84,114]:List Int)).length≤100000000:=by
  cases kH op [0,100,99,121] <;> simp [gl]
 simp only [aOj,aOt _ _ (show ([0,100,99,121]:List Int).length≤100000000 by simp),aG,cB]
 rw [aOt _ _ hg,cB]
 unfold vT qR
 generalize hA:kH op [0,100,99,121]=A
 generalize hE:nT back=E
 have hW:(if A=true then kH wait (gl A [0,102,70,116,84,114]) else false)=(A && kH wait [0,102,70,116,84,114]):=by
  cases A <;> simp [gl]
 rw [hW]
 generalize hB:kH wait [0,102,70,116,84,114]=Bw
 have hAt:(bif (bif (decide (mode=2)) then (decide (0<(line.1.length:Int))) else false) then (decide (line.2=(line.1.length:Int))) else false)=(decide (mode=2) && aAk line):=by
  unfold aAk
  by_cases h:mode=2 <;> simp [h]
 rw [hAt]
 generalize aAk line=T
 generalize hQ:(query.length:Int)=q
 have hq:0≤q:=by omega
 by_cases m0:mode<0
 ·
  have:¬ 0≤mode:=by omega
  simp [m0,this]
 by_cases m3:3<mode
 ·
  have:¬ mode≤3:=by omega
  simp [m0,m3,this]
 have hm:mode=0∨mode=1∨mode=2∨mode=3:=by omega
 by_cases q0:0<q
 ·
  have q0':¬ q=0:=by omega
  rcases hm with rfl | rfl | rfl | rfl <;> cases vi <;> cases A <;> cases Bw <;> cases T <;> by_cases o:op=0 <;> by_cases oc:opc=0 <;> by_cases w:wait=0 <;> simp [o,oc,w,q0,q0']
 ·
  have q0':q=0:=by omega
  by_cases hh:hit=0 <;> rcases hm with rfl | rfl | rfl | rfl <;> cases vi <;> cases A <;> cases Bw <;> cases T <;> cases E <;> by_cases o:op=0 <;> by_cases oc:opc=0 <;> by_cases w:wait=0 <;> simp [o,oc,w,q0',hh]
theorem aR0 (op:Int):kH op [0,100,99,121]=(decide (op=0) || kH op [100,99,121]):=by
 have e:decide (0=op)=decide (op=0):=by simp [eq_comm]
 simp only [kH,List.any_cons,e]
theorem aRz (op:Int):kH op [0,102,70,116,84,114]=(decide (op=0) || kH op [102,70,116,84,114]):=by
 have e:decide (0=op)=decide (op=0):=by simp [eq_comm]
 simp only [kH,List.any_cons,e]
set_option maxHeartbeats 4000000 in
theorem aTu (vi:Bool) (mode:Int) (line:List Int×Int) (count op opc wait fr fh last:Int) (ring:List (List Int)) (undo:List (List Int×Int)) (nav:Int) (own:List Int×Int) (query:List Int) (hit:Int) (back:List Int×Int) :
  uA (vi,mode,line,count,op,opc,wait,fr,fh,last,ring,undo,nav,own,query,hit,back)=some (vT vi mode line op opc wait):=by
 unfold uA vT
 have e1:([100,99,121]:List UInt8).map (fun b=>(b.toNat:Int))=[100,99,121]:=rfl
 have e2:([102,70,116,84,114]:List UInt8).map (fun b=>(b.toNat:Int))=[102,70,116,84,114]:=rfl
 simp only [aOs,aOu _ _ (show ([100,99,121]:List UInt8).length≤100000000 by simp),aOu _ _ (show ([102,70,116,84,114]:List UInt8).length≤100000000 by simp),cB,aU,e1,e2,aR0,aRz]
 generalize kH op [100,99,121]=A
 generalize kH wait [102,70,116,84,114]=Bw
 generalize aAk line=T
 by_cases m0:mode<0
 ·
  have h1:¬ 0≤mode:=by omega
  have h2:¬ mode=0:=by omega
  have h3:¬ mode=1:=by omega
  have h4:¬ mode=2:=by omega
  have h5:¬ mode=3:=by omega
  simp [h1,h2,h3,h4,h5]
 by_cases m3:3<mode
 ·
  have h1:¬ mode≤3:=by omega
  have h2:¬ mode=0:=by omega
  have h3:¬ mode=1:=by omega
  have h4:¬ mode=2:=by omega
  have h5:¬ mode=3:=by omega
  simp [h1,h2,h3,h4,h5]
 have hm:mode=0∨mode=1∨mode=2∨mode=3:=by omega
 rcases hm with rfl | rfl | rfl | rfl <;> cases vi <;> cases A <;> cases Bw <;> cases T <;> by_cases o:op=0 <;> by_cases oc:opc=0 <;> by_cases w:wait=0 <;> simp [o,oc,w]
def aBx (fr fh:Int):Bool:=decide ((fr=0→fh=0)∧(fr≠0→0≤fh∧fh≤3)) && (decide (fr=0) || pr fr)
def cG (e:EdT):Bool:=match e with
 | (vi,mode,line,count,op,opc,wait,fr,fh,last,ring,undo,nav,own,query,hit,back)=>
  bK line && bK own && bK back && decide (0≤count∧count≤999) && decide (0≤opc∧opc≤999) && vT vi mode line op opc wait && aBx fr fh && decide (0≤last∧last≤3) && dT ring && fA undo && decide (0≤nav∧nav≤1000000060) && decide (0≤hit∧hit≤1000000060) && (!decide (nav=0) || nT own) && decide ((query.length:Int)≤40) && query.all pr && qR mode query hit back
def eJ (N:Nat) (e:EdT):Prop:=match e with
 | (_,_,line,_,_,_,_,_,_,_,ring,undo,_,own,query,_,back)=>
  line.1.length≤N∧(ring.length≤N∧∀ s ∈ ring,s.length≤N)∧(undo.length≤N∧∀ s ∈ undo,s.1.length≤N)∧own.1.length≤N∧query.length≤N∧back.1.length≤N
theorem rng (X:Bool) (c lo hi:Int):(bif (bif X then true else decide (c<lo)) then true else decide (hi<c))=(X || !decide (lo≤c∧c≤hi)):=by
 by_cases h1:c<lo
 ·
  have:¬ (lo≤c∧c≤hi):=by omega
  rw [decide_eq_true h1,decide_eq_false this];cases X <;> rfl
 ·
  by_cases h2:hi<c
  ·
   have:¬ (lo≤c∧c≤hi):=by omega
   rw [decide_eq_true h2,decide_eq_false this];cases X <;> simp
  ·
   have:(lo≤c∧c≤hi):=by omega
   rw [decide_eq_false h1,decide_eq_false h2,decide_eq_true this];cases X <;> rfl
theorem rng0 (c lo hi:Int):(bif decide (c<lo) then true else decide (hi<c))=!decide (lo≤c∧c≤hi):=by
 have:=rng false c lo hi
 simpa using this
theorem aTb (c hi:Int):decide (hi<c)=!decide (c≤hi):=by
 by_cases h:hi<c
 ·
  rw [decide_eq_true h,decide_eq_false (by omega)];rfl
 ·
  rw [decide_eq_false h,decide_eq_true (by omega)];rfl
section
variable (vi:Bool) (mode:Int) (line:List Int×Int) (count op opc wait fr fh last:Int) (ring:List (List Int)) (undo:List (List Int×Int)) (nav:Int) (own:List Int×Int) (query:List Int) (hit:Int) (back:List Int×Int)
theorem aRn (hq:query.length≤100000000):∀ (m:Nat) (k:Int),0≤k→k≤(query.length:Int)→(query.length:Int) - k<m→bC (rQ (vi,mode,line,count,op,opc,wait,fr,fh,last,ring,undo,nav,own,query,hit,back) fun _=>some true) m k=some ((query.drop k.toNat).all pr):=by
 intro m
 induction m with
 | zero=>intro k _ _ h;omega
 | succ m ih=>
  intro k hk hk' hm
  simp only [bC,rQ,aN,Bool.cond_decide,uH,aG]
  by_cases h1:k<(query.length:Int)
  ·
   rw [if_pos h1,if_pos ⟨hk,h1⟩,bP (by omega) (by omega),dI hk h1]
   by_cases h2:pr (at' query k)=true
   ·
    rw [ih (k+1) (by omega) (by omega) (by omega)]
    simp [h2]
   ·
    simp [h2]
  ·
   rw [if_neg h1,List.drop_eq_nil_of_le (by omega)]
   simp
theorem aRo (hq:query.length≤100000000) (j:Unit→Option Bool):∀ (m:Nat) (k:Int),0≤k→k≤(query.length:Int)→(query.length:Int) - k<m→bC (rY (vi,mode,line,count,op,opc,wait,fr,fh,last,ring,undo,nav,own,query,hit,back) j) m k=if (query.drop k.toNat).all pr then j () else some false:=by
 intro m
 induction m with
 | zero=>intro k _ _ h;omega
 | succ m ih=>
  intro k hk hk' hm
  simp only [bC,rY,aN,Bool.cond_decide,uI,aG]
  by_cases h1:k<(query.length:Int)
  ·
   rw [if_pos h1,if_pos ⟨hk,h1⟩,bP (by omega) (by omega),dI hk h1]
   by_cases h2:pr (at' query k)=true
   ·
    rw [ih (k+1) (by omega) (by omega) (by omega)]
    simp [h2]
   ·
    simp [h2]
  ·
   rw [if_neg h1,List.drop_eq_nil_of_le (by omega)]
   simp
theorem aNo (hs:eJ 100000000 (vi,mode,line,count,op,opc,wait,fr,fh,last,ring,undo,nav,own,query,hit,back)):pJ (vi,mode,line,count,op,opc,wait,fr,fh,last,ring,undo,nav,own,query,hit,back)=some (cG (vi,mode,line,count,op,opc,wait,fr,fh,last,ring,undo,nav,own,query,hit,back)):=by
 obtain ⟨h1,⟨h2,h3⟩,⟨h4,h5⟩,h6,h7,h8⟩:=hs
 unfold pJ cG
 simp only [iF line h1,iF own h6,iF back h8,aTt,aBg ring h2 h3,aD5 undo h4 h5,uH,aOj,cB,aU,rng,rng0]
 simp only [aTb]
 rw [aRn vi mode line count op opc wait fr fh last ring undo nav own query hit back h7 bM 0 (by omega) (by omega) (by rw [bO];omega)]
 simp only [aG,Int.toNat_zero,List.drop_zero]
 have hF:(bif (bif (decide (fr=0)) then (!(decide (fh=0))) else false) then true else (bif (!(decide (fr=0))) then (!(if (!decide (fr=0))=true∧(bif decide (fr=0) then !decide (fh=0) else false)=false then pr fr else false) || !decide (0≤fh∧fh≤3)) else false))=!(aBx fr fh):=by
  unfold aBx
  by_cases a:fr=0
  ·
   by_cases b:fh=0 <;> simp [a,b]
  ·
   by_cases b:0≤fh∧fh≤3
   ·
    cases pr fr <;> simp [a,b]
   ·
    cases pr fr <;> simp [a,b]
 rw [hF]
 generalize bK line=A1
 generalize bK own=A2
 generalize bK back=A3
 generalize vT vi mode line op opc wait=M
 generalize qR mode query hit back=S
 generalize decide (0≤count∧count≤999)=C
 generalize decide (0≤opc∧opc≤999)=OC
 generalize decide (0≤last∧last≤3)=L
 generalize dT ring=R
 generalize fA undo=U
 generalize aBx fr fh=F
 generalize decide (0≤nav∧nav≤1000000060)=N
 generalize decide (0≤hit∧hit≤1000000060)=H
 generalize decide (nav=0)=N0
 generalize nT own=EO
 generalize decide ((query.length:Int)≤40)=Q
 generalize query.all pr=P
 cases A1
 ·
  simp
 cases A2
 ·
  simp
 cases A3
 ·
  simp
 cases M
 ·
  simp
 cases S
 ·
  simp
 cases C
 ·
  simp
 cases OC
 ·
  simp
 cases L
 ·
  simp
 cases R
 ·
  simp
 cases U
 ·
  simp
 cases F
 ·
  simp
 cases N
 ·
  simp
 cases H
 ·
  simp
 cases N0 <;> cases EO <;> cases Q <;> cases P <;> rfl
theorem aRm (hs:eJ 100000000 (vi,mode,line,count,op,opc,wait,fr,fh,last,ring,undo,nav,own,query,hit,back)):uD (vi,mode,line,count,op,opc,wait,fr,fh,last,ring,undo,nav,own,query,hit,back)=some (cG (vi,mode,line,count,op,opc,wait,fr,fh,last,ring,undo,nav,own,query,hit,back)):=by
 obtain ⟨h1,⟨h2,h3⟩,⟨h4,h5⟩,h6,h7,h8⟩:=hs
 unfold uD cG
 simp only [mP line h1,mP own h6,mP back h8,aTu,aBh ring h2 h3,aD6 undo h4 h5,uI,aSp,cB,aU,aFf,aTb]
 rw [aRo vi mode line count op opc wait fr fh last ring undo nav own query hit back h7 _ bM 0 (by omega) (by omega) (by rw [bO];omega)]
 simp only [aG,Int.toNat_zero,List.drop_zero]
 have hF:(bif (bif (decide (fr=0)) then (!(decide (fh=0))) else false) then true else (bif (!(decide (fr=0))) then (bif (!(if (!decide (fr=0))=true∧(bif decide (fr=0) then !decide (fh=0) else false)=false then pr fr else false)) then true else (!(if (!if (!decide (fr=0))=true∧(bif decide (fr=0) then !decide (fh=0) else false)=false then pr fr else false)=false∧(!decide (fr=0))=true∧(bif decide (fr=0) then !decide (fh=0) else false)=false then decide (0≤fh∧fh≤3) else false))) else false))=!(aBx fr fh):=by
  unfold aBx
  by_cases a:fr=0
  ·
   by_cases b:fh=0 <;> simp [a,b]
  ·
   by_cases b:0≤fh∧fh≤3
   ·
    cases pr fr <;> simp [a,b]
   ·
    cases pr fr <;> simp [a,b]
 rw [hF]
 have hS:(bif (decide (mode=3)) then true else (bif (bif (decide ((query.length:Int)=0)) then (decide (hit=0)) else false) then (if (bif (decide ((query.length:Int)=0)) then (decide (hit=0)) else false)=true∧(decide (mode=3))=false then nT back else false) else false))=qR mode query hit back:=by
  unfold qR
  by_cases a:mode=3 <;> by_cases b:(query.length:Int)=0 <;> by_cases c:hit=0 <;> cases nT back <;> simp [a,b,c]
 have hS':nT (back.1,back.2)=nT back:=rfl
 rw [hS',hS]
 generalize bK line=A1
 generalize bK own=A2
 generalize bK back=A3
 generalize vT vi mode line op opc wait=M
 generalize qR mode query hit back=S
 generalize decide (0≤count∧count≤999)=C
 generalize decide (0≤opc∧opc≤999)=OC
 generalize decide (0≤last∧last≤3)=L
 generalize dT ring=R
 generalize fA undo=U
 generalize aBx fr fh=F
 generalize decide (0≤nav∧nav≤1000000060)=N
 generalize decide (0≤hit∧hit≤1000000060)=H
 generalize decide (nav=0)=N0
 generalize nT own=EO
 generalize decide ((query.length:Int)≤40)=Q
 generalize query.all pr=P
 cases A1
 ·
  simp
 cases A2
 ·
  simp
 cases A3
 ·
  simp
 cases C
 ·
  simp
 cases OC
 ·
  simp
 cases M
 ·
  simp
 cases F
 ·
  simp
 cases L
 ·
  simp
 cases R
 ·
  simp
 cases U
 ·
  simp
 cases N
 ·
  simp
 cases H
 ·
  simp
 cases N0 <;> cases EO <;> cases Q <;> cases P <;> cases S <;> rfl
end
def mM (mode:Int) (l:List Int×Int):Int:=if mode=2∧l.2=(l.1.length:Int)∧0<l.2 then l.2 - 1 else l.2
def zEd:EdT:=(false,0,([],0),0,0,0,0,0,0,0,[],[],0,([],0),[],0,([],0))
theorem aLp {vi:Bool} {mode:Int} {line:List Int×Int} {count op opc wait fr fh last:Int} {ring:List (List Int)} {undo:List (List Int×Int)} {nav:Int} {own:List Int×Int} {query:List Int} {hit:Int} {back:List Int×Int} (h:cG (vi,mode,line,count,op,opc,wait,fr,fh,last,ring,undo,nav,own,query,hit,back)=true):bK line=true∧fA undo=true:=by
 unfold cG at h
 simp only [Bool.and_eq_true] at h
 exact ⟨h.1.1.1.1.1.1.1.1.1.1.1.1.1.1.1,h.1.1.1.1.1.1.2⟩
theorem aNp (vi:Bool) (mode:Int) (l:List Int×Int) (count op opc wait fr fh last:Int) (ring:List (List Int)) (undo:List (List Int×Int)) (nav:Int) (own:List Int×Int) (query:List Int) (hit:Int) (back:List Int×Int) (wl:l.2≤9223372036854775807) :
  kS (vi,mode,l,count,op,opc,wait,fr,fh,last,ring,undo,nav,own,query,hit,back)=some (vi,mode,(l.1,mM mode l),count,op,opc,wait,fr,fh,last,ring,undo,nav,own,query,hit,back):=by
 unfold kS mM
 simp only [aU]
 by_cases a:mode=2
 ·
  by_cases b:l.2=(l.1.length:Int)
  ·
   by_cases c:0<l.2
   ·
    rw [bP (x:=l.2 - 1) (by omega) (by omega),if_pos (show mode=2∧l.2=(l.1.length:Int)∧0<l.2 from ⟨a,b,c⟩),decide_eq_true a,decide_eq_true b,decide_eq_true c]
    rfl
   ·
    rw [if_neg (show ¬ (mode=2∧l.2=(l.1.length:Int)∧0<l.2) from fun h=>c h.2.2),decide_eq_true a,decide_eq_true b,decide_eq_false c]
    rfl
  ·
   rw [if_neg (show ¬ (mode=2∧l.2=(l.1.length:Int)∧0<l.2) from fun h=>b h.2.1),decide_eq_true a,decide_eq_false b]
   rfl
 ·
  rw [if_neg (show ¬ (mode=2∧l.2=(l.1.length:Int)∧0<l.2) from fun h=>a h.1),decide_eq_false a]
  rfl
theorem yN (l:List Int×Int) (mode:Int) (wl:l.2≤9223372036854775807):hJ l mode=some (l.1,mM mode l):=by
 unfold hJ mM
 simp only [aU,aOs,cB]
 unfold aAk
 by_cases a:mode=2
 ·
  by_cases b:l.2=(l.1.length:Int)
  ·
   by_cases c:0<l.2
   ·
    have c':0<(l.1.length:Int):=by omega
    rw [bP (x:=l.2 - 1) (by omega) (by omega),if_pos (show mode=2∧l.2=(l.1.length:Int)∧0<l.2 from ⟨a,b,c⟩),decide_eq_true a,decide_eq_true b,decide_eq_true c']
    rfl
   ·
    have c':¬ 0<(l.1.length:Int):=by omega
    rw [if_neg (show ¬ (mode=2∧l.2=(l.1.length:Int)∧0<l.2) from fun h=>c h.2.2),decide_eq_true a,decide_eq_false c']
    rfl
  ·
   rw [if_neg (show ¬ (mode=2∧l.2=(l.1.length:Int)∧0<l.2) from fun h=>b h.2.1),decide_eq_true a,decide_eq_false b]
   simp
 ·
  rw [if_neg (show ¬ (mode=2∧l.2=(l.1.length:Int)∧0<l.2) from fun h=>a h.1),decide_eq_false a]
  rfl
theorem xB (a b c:List Int) (h:a.length+b.length+c.length≤536870912):cW a b c=some (a ++ b ++ c):=by
 unfold cW aN
 rw [if_pos (by simp;omega),if_pos (by simp;omega),if_pos (by simp;omega)]
 simp
theorem aSj (t:List Int) (h:t.length≤100000000):gG t=some (cO t):=by
 unfold gG cO
 rw [aA6 t h,cB]
 by_cases c:t.length≤400
 ·
  have c':(t.length:Int)≤400:=by omega
  simp [c,c']
 ·
  have c':¬ (t.length:Int)≤400:=by omega
  simp [c,c']
def tH (r:List (List Int)) (t:List Int) (how:Int):List (List Int):=
 if t.length=0 then r
 else if how=0∨r.length=0∨400<(at' r 0).length+t.length then ([t] ++ r).take 6
 else r.set 0 (if how=1 then at' r 0 ++ t else t ++ at' r 0)
theorem dW {t:List Int} (h:cO t=true):t.length≤400:=by
 unfold cO at h
 simp only [Bool.and_eq_true,decide_eq_true_eq] at h
 exact h.2
theorem fJ {r:List (List Int)} (h:dT r=true):r.length≤6∧∀ s ∈ r,cO s=true∧0<s.length:=by
 unfold dT at h
 simp only [Bool.and_eq_true,decide_eq_true_eq,List.all_eq_true] at h
 refine ⟨h.2,fun s hs=>?_⟩
 have:=h.1 s hs
 unfold lX at this
 simp only [Bool.and_eq_true,Bool.not_eq_true',decide_eq_false_iff_not] at this
 exact ⟨this.1,by omega⟩
theorem aCi {r:List (List Int)} (h1:r.length≤6) (h2:∀ s ∈ r,cO s=true∧0<s.length):dT r=true:=by
 unfold dT
 simp only [Bool.and_eq_true,decide_eq_true_eq,List.all_eq_true]
 refine ⟨fun s hs=>?_,h1⟩
 obtain ⟨a,b⟩:=h2 s hs
 unfold lX
 simp only [Bool.and_eq_true,Bool.not_eq_true',decide_eq_false_iff_not]
 exact ⟨a,by omega⟩
theorem aA8 {a b:List Int} (ha:cO a=true) (hb:cO b=true) (hl:a.length+b.length≤400):cO (a ++ b)=true:=by
 unfold cO at *
 simp only [Bool.and_eq_true,decide_eq_true_eq,List.all_append,List.length_append] at *
 exact ⟨⟨ha.1,hb.1⟩,hl⟩
theorem aJ9 {r:List (List Int)} {t:List Int} {how:Int} (hr:dT r=true) (ht:cO t=true):dT (tH r t how)=true:=by
 obtain ⟨h1,h2⟩:=fJ hr
 unfold tH
 split
 ·
  exact hr
 ·
  rename_i h0
  split
  ·
   refine aCi (by simp;omega) fun s hs=>?_
   have:=List.mem_of_mem_take hs
   simp only [List.singleton_append,List.mem_cons] at this
   rcases this with rfl | hm
   ·
    exact ⟨ht,by omega⟩
   ·
    exact h2 s hm
  ·
   rename_i h3
   simp only [not_or] at h3
   have hm:at' r 0 ∈ r:=List.mem_of_getElem? (bD (xs:=r) (i:=0) ⟨by omega,by omega⟩)
   obtain ⟨k1,k2⟩:=h2 _ hm
   refine aCi (by simp;omega) fun s hs=>?_
   rcases List.mem_or_eq_of_mem_set hs with hs | rfl
   ·
    exact h2 s hs
   ·
    split
    ·
     exact ⟨aA8 k1 ht (by omega),by simp;omega⟩
    ·
     exact ⟨aA8 ht k1 (by omega),by simp;omega⟩
theorem aH6 (x:List (List Int)) (hx:(x.length:Int)≤1000) (j:List (List Int)→Option (List (List Int)×Bool)) :
  (bif decide (6<(x.length:Int)) then (aN (0≤(0:Int)∧(0:Int)≤(6:Int)∧(6:Int)≤(x.length:Int)) <| j (bN x 0 (6:Int))) else j x)=j (x.take 6):=by
 by_cases h:6<(x.length:Int)
 ·
  rw [decide_eq_true h,cond_true,aN,if_pos (by omega)]
  simp [bN]
 ·
  rw [decide_eq_false h,cond_false,List.take_of_length_le (by omega)]
theorem aHa (r:List (List Int)) (t:List Int) (how:Int) (hr:dT r=true) (ht:cO t=true) (hh:0≤how∧how≤2):rP r t how=some (tH r t how,true):=by
 obtain ⟨r1,r2⟩:=fJ hr
 have r3:∀ s ∈ r,s.length≤400:=fun s hs=>dW (r2 s hs).1
 have tl:=dW ht
 have c1:¬ how<0:=by omega
 have c2:¬ 2<how:=by omega
 unfold rP tH
 rw [aO (aBg r (by omega) (fun s hs=>by have:=r3 s hs;omega)),aSj t (by omega),cB,hr,ht,aA3 r (by omega) (fun s hs=>by have:=r3 s hs;omega)]
 simp only [c1,c2,decide_false,Bool.not_true,cond_false,if_true,aG]
 by_cases h0:t.length=0
 ·
  have h0':(t.length:Int)=0:=by omega
  simp [h0]
 ·
  have h0':¬ (t.length:Int)=0:=by omega
  rw [if_neg h0,decide_eq_false h0',cond_false]
  have hat:0<r.length→(at' r 0).length≤400:=fun hp=>r3 _ (List.mem_of_getElem? (bD (xs:=r) (i:=0) ⟨by omega,by omega⟩))
  simp only [aN]
  rw [if_pos (fun h=>by
   by_cases hp:0<(r.length:Int)
   ·
    exact ⟨by omega,hp⟩
   ·
    rw [decide_eq_false hp] at h;simp at h)]
  by_cases hp:0<r.length
  ·
   have hp':0<(r.length:Int):=by omega
   have:=hat hp
   rw [decide_eq_true hp',bP (by omega) (by omega)]
   by_cases hz:how=0
   ·
    rw [if_pos (Or.inl hz)]
    have e0:(!decide (how=0))=false:=by simp [hz]
    simp only [e0,cond_false,aU,List.nil_append]
    rw [if_pos (by simp;omega),if_pos (by simp;omega)]
    have:=aH6 ([t] ++ r) (by simp;omega) (fun x=>some (x,true))
    simp only [aN] at this
    exact this
   ·
    have e0:(!decide (how=0))=true:=by simp [hz]
    by_cases h4:400<(at' r 0).length+t.length
    ·
     rw [if_pos (Or.inr (Or.inr h4))]
     have e1:¬ (((at' r 0).length:Int)+(t.length:Int)≤400):=by omega
     simp only [e0,e1,decide_false,cond_false,cond_true,aU,List.nil_append]
     rw [if_pos (by simp;omega),if_pos (by simp;omega)]
     have:=aH6 ([t] ++ r) (by simp;omega) (fun x=>some (x,true))
     simp only [aN] at this
     exact this
    ·
     rw [if_neg (show ¬ (how=0∨r.length=0∨400<(at' r 0).length+t.length) by omega)]
     have e1:(((at' r 0).length:Int)+(t.length:Int)≤400):=by omega
     have g:(0≤(0:Int)∧0<(r.length:Int)):=⟨by omega,hp'⟩
     have j1:=xB (at' r 0) t [] (by simp;omega)
     have j2:=xB t (at' r 0) [] (by simp;omega)
     simp only [List.append_nil] at j1 j2
     simp only [e0,e1,decide_true,cond_true,aU,if_pos g,j1,j2]
     by_cases h2:how=2
     ·
      have:¬ how=1:=by omega
      simp [h2]
     ·
      have:how=1:=by omega
      simp [this]
  ·
   have hp':¬ 0<(r.length:Int):=by omega
   have hz:r.length=0:=by omega
   rw [decide_eq_false hp',if_pos (Or.inr (Or.inl hz))]
   have e0:(bif (!decide (how=0)) then false else false)=false:=by cases (!decide (how=0)) <;> rfl
   simp only [e0,cond_false,aU,List.nil_append]
   rw [if_pos (by simp;omega),if_pos (by simp;omega)]
   have:=aH6 ([t] ++ r) (by simp;omega) (fun x=>some (x,true))
   simp only [aN] at this
   exact this
theorem aHb (r:List (List Int)) (t:List Int) (how:Int) (hr:dT r=true) (ht:cO t=true) (hh:0≤how∧how≤2):rX r t how=some (tH r t how,true):=by
 obtain ⟨r1,r2⟩:=fJ hr
 have r3:∀ s ∈ r,s.length≤400:=fun s hs=>dW (r2 s hs).1
 have tl:=dW ht
 unfold rX tH
 rw [aO (aBh r (by omega) (fun s hs=>by have:=r3 s hs;omega)),aFf,cB,aFw t (by omega),cB,hr,ht,aA4 r (by omega) (fun s hs=>by have:=r3 s hs;omega),decide_eq_true hh]
 simp only [Bool.not_true,cond_false,if_true,aG,aU,kO t (by omega)]
 by_cases h0:t.length=0
 ·
  have h0':(t.length:Int)=0:=by omega
  simp [h0]
 ·
  have h0':¬ (t.length:Int)=0:=by omega
  rw [if_neg h0,decide_eq_false h0',cond_false]
  have hat:0<r.length→(at' r 0).length≤400:=fun hp=>r3 _ (List.mem_of_getElem? (bD (xs:=r) (i:=0) ⟨by omega,by omega⟩))
  simp only [aN]
  rw [if_pos (fun h=>by
   by_cases hp:(r.length:Int)=0
   ·
    rw [decide_eq_true hp] at h;simp at h
   ·
    exact ⟨by omega,by omega⟩)]
  have T:(if [t].length+r.length≤536870912 then if 0≤(0:Int)∧(0:Int)≤min (([t] ++ r).length:Int) 6∧min (([t] ++ r).length:Int) 6≤(([t] ++ r).length:Int) then some (bN ([t] ++ r) 0 (min (([t] ++ r).length:Int) 6),true) else none else none)=some (([t] ++ r).take 6,true):=by
   rw [if_pos (by simp;omega),if_pos (by omega)]
   congr 2
   unfold bN
   simp only [Int.toNat_zero,List.drop_zero,Int.sub_zero]
   by_cases h:([t] ++ r).length≤6
   ·
    have e:(min (([t] ++ r).length:Int) 6).toNat=([t] ++ r).length:=by omega
    rw [Nat.sub_zero,e,List.take_length,List.take_of_length_le h]
   ·
    have e:(min (([t] ++ r).length:Int) 6).toNat=6:=by omega
    rw [Nat.sub_zero,e]
  by_cases hp:0<r.length
  ·
   have hp':¬ (r.length:Int)=0:=by omega
   have:=hat hp
   rw [decide_eq_false hp',bP (by omega) (by omega)]
   by_cases hz:how=0
   ·
    rw [if_pos (Or.inl hz)]
    simp only [hz,decide_true,cond_true]
    exact T
   ·
    by_cases h4:400<(at' r 0).length+t.length
    ·
     rw [if_pos (Or.inr (Or.inr h4))]
     have e1:400<((at' r 0).length:Int)+(t.length:Int):=by omega
     simp only [hz,e1,decide_false,decide_true,cond_false,cond_true]
     exact T
    ·
     rw [if_neg (show ¬ (how=0∨r.length=0∨400<(at' r 0).length+t.length) by omega)]
     have e1:¬ 400<((at' r 0).length:Int)+(t.length:Int):=by omega
     have g:(0≤(0:Int)∧0<(r.length:Int)):=⟨by omega,by omega⟩
     simp only [hz,e1,decide_false,cond_false,if_pos g]
     by_cases h2:how=1
     ·
      simp only [h2,decide_true,cond_true,if_true]
      rw [if_pos (by omega)];rfl
     ·
      simp only [h2,decide_false,cond_false,if_false]
      rw [if_pos (by omega)];rfl
  ·
   have hp':(r.length:Int)=0:=by omega
   have hz:r.length=0:=by omega
   rw [decide_eq_true hp',if_pos (Or.inr (Or.inl hz))]
   have e0:(bif bif decide (how=0) then true else true then true else decide (400<W (((at' r 0).length:Int)+(t.length:Int))))=true:=by cases decide (how=0) <;> rfl
   rw [e0,cond_true]
   exact T
theorem bG {l:List Int×Int} (h:bK l=true):0≤l.2∧l.2≤(l.1.length:Int)∧l.1.length≤400:=by
 unfold bK cO at h
 simp only [Bool.and_eq_true,decide_eq_true_eq] at h
 exact ⟨h.2.1,h.2.2,h.1.2⟩
def goL (l:List Int×Int) (at_:Int):List Int×Int:=(l.1,max 0 (min at_ (l.1.length:Int)))
theorem aFi (l:List Int×Int) (a:Int) (hl:l.1.length≤1048576):fW l a=some (goL l a):=by
 unfold fW goL
 rw [aO (kO l.1 (by omega))]
theorem mB {l:List Int×Int} (h:bK l=true):cO l.1=true:=by
 unfold bK at h
 simp only [Bool.and_eq_true] at h
 exact h.1
theorem vU {t:List Int} {a:Int} (h:cO t=true) (h0:0≤a) (h1:a≤(t.length:Int)):bK (t,a)=true:=by
 unfold bK
 simp only [h,Bool.true_and,decide_eq_true_eq]
 exact ⟨h0,h1⟩
theorem aCu {l:List Int×Int} (h:bK l=true) (a:Int):bK (goL l a)=true:=vU (mB h) (by omega) (by omega)
theorem aQ6 (l:List Int×Int) (a:Int) (h:bK l=true):tR l a=some (goL l a,true):=by
 obtain ⟨h0,h1,h2⟩:=bG h
 unfold tR mF
 have hg:=aCu h a
 have e:goL l a=(l.1,max 0 (min a (l.1.length:Int))):=rfl
 rw [aO (xB l.1 [] [] (by simp;omega)),aO (oZ a _ (by omega)),aO (iF l (by omega)),h]
 simp only [List.append_nil]
 rw [← e,iF _ (by rw [e];simp only;omega),cB,hg]
 rfl
theorem aK8 (l:List Int×Int) (a b:Int) (hl:l.1.length≤100000000):qO l a b=some (bK l && decide (0≤a∧a≤b∧b≤(l.1.length:Int))):=by
 unfold qO
 rw [aO (mP l hl)]
 congr 1
 by_cases h1:0≤a <;> by_cases h2:a≤b <;> by_cases h3:b≤(l.1.length:Int) <;> cases bK l <;> simp [h1,h2,h3]
theorem aQm (l:List Int×Int) (a b:Int) (hl:l.1.length≤100000000):oI l a b=some (bK l && decide (0≤a∧a≤b∧b≤(l.1.length:Int))):=by
 unfold oI
 rw [aO (iF l hl)]
 congr 1
 by_cases h1:0≤a <;> by_cases h2:a≤b <;> by_cases h3:b≤(l.1.length:Int) <;> cases bK l <;> simp [h1,h2,h3]
def vJ (l:List Int×Int) (a b:Int):List Int×Int:=
  (bN l.1 0 a ++ bN l.1 b (l.1.length:Int),if b≤l.2 then l.2 - (b - a) else if a<l.2 then a else l.2)
def aQb (l:List Int×Int) (a b:Int):(List Int×Int)×List Int×Bool:=
  if bK l && decide (0≤a∧a≤b∧b≤(l.1.length:Int)) then (vJ l a b,bN l.1 a b,true) else (([],0),[],false)
theorem aCs (l:List Int×Int) (a b:Int) (hl:l.1.length≤1048576):lU l a b=some (aQb l a b):=by
 unfold lU aQb
 rw [aO (aK8 l a b (by omega))]
 by_cases h:bK l=true∧(0≤a∧a≤b∧b≤(l.1.length:Int))
 ·
  obtain ⟨h1,h2⟩:=h
  obtain ⟨p0,p1,p2⟩:=bG h1
  rw [h1,decide_eq_true h2]
  simp only [Bool.and_self,Bool.not_true,cond_false,if_true,aU,aN]
  have s1:(bN l.1 0 a).length≤400:=by have:=lW (xs:=l.1) (lo:=0) (hi:=a) (by omega);omega
  have s2:(bN l.1 b (l.1.length:Int)).length≤400:=by have:=lW (xs:=l.1) (lo:=b) (hi:=(l.1.length:Int)) (by omega);omega
  have s3:(bN l.1 a b).length≤400:=by have:=lW (xs:=l.1) (lo:=a) (hi:=b) (by omega);omega
  have g1:(0≤(0:Int)∧(0:Int)≤a∧a≤(l.1.length:Int)):=by omega
  have g2:(0≤b∧b≤(l.1.length:Int)∧(l.1.length:Int)≤(l.1.length:Int)):=by omega
  have g3:(bN l.1 0 a).length+(bN l.1 b (l.1.length:Int)).length≤536870912:=by omega
  simp only [if_pos g1,kO (bN l.1 0 a) (by omega),kO (bN l.1 a b) (by omega),aG,if_pos g2,if_pos g3,if_pos h2,Bool.cond_decide]
  have hW:b≤l.2→W (l.2 - W (b - a))=l.2 - (b - a):=fun hb=>by
   rw [bP (x:=b - a) (by omega) (by omega),bP (by omega) (by omega)]
  unfold vJ
  by_cases c1:b≤l.2
  ·
   rw [if_pos c1,if_pos c1,hW c1]
  ·
   rw [if_neg c1,if_neg c1]
   by_cases c2:a<l.2
   ·
    rw [if_pos c2,if_pos c2]
   ·
    rw [if_neg c2,if_neg c2]
 ·
  have:(bK l && decide (0≤a∧a≤b∧b≤(l.1.length:Int)))=false:=by
   cases hq:(bK l && decide (0≤a∧a≤b∧b≤(l.1.length:Int)))
   ·
    rfl
   ·
    simp only [Bool.and_eq_true,decide_eq_true_eq] at hq
    exact absurd hq h
  rw [this]
  simp
theorem aCr (l:List Int×Int) (a b:Int) (hl:l.1.length≤1048576):lA l a b=some (aQb l a b):=by
 unfold lA aQb
 rw [aO (aQm l a b (by omega))]
 by_cases h:bK l=true∧(0≤a∧a≤b∧b≤(l.1.length:Int))
 ·
  obtain ⟨h1,h2⟩:=h
  obtain ⟨p0,p1,p2⟩:=bG h1
  rw [h1,decide_eq_true h2]
  simp only [Bool.and_self,Bool.not_true,cond_false,if_true,aU,aN]
  have s1:(bN l.1 0 a).length≤400:=by have:=lW (xs:=l.1) (lo:=0) (hi:=a) (by omega);omega
  have s2:(bN l.1 b (l.1.length:Int)).length≤400:=by have:=lW (xs:=l.1) (lo:=b) (hi:=(l.1.length:Int)) (by omega);omega
  have s3:(bN l.1 a b).length≤400:=by have:=lW (xs:=l.1) (lo:=a) (hi:=b) (by omega);omega
  rw [xB _ _ _ (by simp;omega),xB _ _ _ (by simp;omega)]
  have g1:(0≤(0:Int)∧(0:Int)≤a∧a≤(l.1.length:Int)):=by omega
  have g2:(0≤b∧b≤(l.1.length:Int)∧(l.1.length:Int)≤(l.1.length:Int)):=by omega
  simp only [aG,if_pos g1,if_pos g2,if_pos h2,Bool.cond_decide,List.append_nil,List.nil_append]
  have hW:b≤l.2→W (l.2 - W (b - a))=l.2 - (b - a):=fun hb=>by
   rw [bP (x:=b - a) (by omega) (by omega),bP (by omega) (by omega)]
  unfold vJ
  by_cases c1:b≤l.2
  ·
   rw [if_pos c1,if_pos c1,hW c1]
  ·
   rw [if_neg c1,if_neg c1]
   by_cases c2:a<l.2
   ·
    rw [if_pos c2,if_pos c2]
   ·
    rw [if_neg c2,if_neg c2]
 ·
  have:(bK l && decide (0≤a∧a≤b∧b≤(l.1.length:Int)))=false:=by
   cases hq:(bK l && decide (0≤a∧a≤b∧b≤(l.1.length:Int)))
   ·
    rfl
   ·
    simp only [Bool.and_eq_true,decide_eq_true_eq] at hq
    exact absurd hq h
  rw [this]
  simp
theorem aSd {α:Type} {xs:List α} {a b:Int} {x:α} (h:x ∈ bN xs a b):x ∈ xs:=List.mem_of_mem_drop (List.mem_of_mem_take h)
theorem qM {t:List Int} (h:cO t=true) (a b:Int):cO (bN t a b)=true:=by
 unfold cO at *
 simp only [Bool.and_eq_true,decide_eq_true_eq,List.all_eq_true] at *
 refine ⟨fun x hx=>h.1 x (aSd hx),?_⟩
 have:(bN t a b).length≤t.length:=by unfold bN;simp only [List.length_take,List.length_drop];omega
 omega
theorem uT {l:List Int×Int} {a b:Int} (h:bK l=true) (hr:0≤a∧a≤b∧b≤(l.1.length:Int)):bK (vJ l a b)=true∧((vJ l a b).1.length:Int)=l.1.length - (b - a):=by
 obtain ⟨p0,p1,p2⟩:=bG h
 have ha:=mB h
 have s1:=lW (xs:=l.1) (lo:=0) (hi:=a) (by omega)
 have s2:=lW (xs:=l.1) (lo:=b) (hi:=(l.1.length:Int)) (by omega)
 have hlen:((bN l.1 0 a ++ bN l.1 b (l.1.length:Int)).length:Int)=l.1.length - (b - a):=by simp only [List.length_append];omega
 refine ⟨?_,hlen⟩
 unfold vJ
 refine vU (aA8 (qM ha _ _) (qM ha _ _) (by omega)) ?_ ?_
 ·
  split
  ·
   omega
  ·
   split <;> omega
 ·
  rw [hlen]
  split
  ·
   omega
  ·
   split <;> omega
theorem aJ0 (a b:List Int) (hl:a.length=b.length) (ha:(a.length:Int)≤100000000):∀ (m:Nat) (k:Int),0≤k→k≤(a.length:Int)→(a.length:Int) - k<m→bC (kT a b fun _=>some true) m k=some (decide (a.drop k.toNat=b.drop k.toNat)):=by
 intro m
 induction m with
 | zero=>intro k _ _ h;omega
 | succ m ih=>
  intro k hk hk' hm
  simp only [bC,kT,aN,Bool.cond_decide]
  by_cases h1:k<(a.length:Int)
  ·
   have h2:k<(b.length:Int):=by omega
   rw [if_pos h1,if_pos ⟨hk,h1⟩,if_pos ⟨hk,h2⟩,dI hk h1,dI hk h2,bP (by omega) (by omega),ih (k+1) (by omega) (by omega) (by omega)]
   by_cases h3:at' a k=at' b k
   ·
    simp [h3]
   ·
    simp [h3]
  ·
   rw [if_neg h1,List.drop_eq_nil_of_le (by omega),List.drop_eq_nil_of_le (by omega)]
   simp
theorem aMn (a b:List Int) (ha:(a.length:Int)≤100000000):kU a b=some (decide (a=b)):=by
 unfold kU
 by_cases h:a.length=b.length
 ·
  have h':(a.length:Int)=(b.length:Int):=by omega
  rw [decide_eq_true h']
  simp only [Bool.not_true,cond_false,aU]
  rw [aJ0 a b h ha bM 0 (by omega) (by omega) (by rw [bO];omega)]
  simp
 ·
  have h':¬ (a.length:Int)=(b.length:Int):=by omega
  have h2:a≠b:=fun e=>h (by rw [e])
  rw [decide_eq_false h',decide_eq_false h2];rfl
theorem aJ1 (a b:List Int) (hl:a.length=b.length) (ha:(a.length:Int)≤100000000):∀ (m:Nat) (k:Int),0≤k→k≤(a.length:Int)→(a.length:Int) - k<m→bC (jV a b fun _=>some true) m k=some (decide (a.drop k.toNat=b.drop k.toNat)):=by
 intro m
 induction m with
 | zero=>intro k _ _ h;omega
 | succ m ih=>
  intro k hk hk' hm
  simp only [bC,jV,aN,Bool.cond_decide]
  by_cases h1:k<(a.length:Int)
  ·
   have h2:k<(b.length:Int):=by omega
   rw [if_pos h1,if_pos ⟨hk,h1⟩,if_pos ⟨hk,h2⟩,dI hk h1,dI hk h2,bP (by omega) (by omega),ih (k+1) (by omega) (by omega) (by omega)]
   by_cases h3:at' a k=at' b k
   ·
    simp [h3]
   ·
    simp [h3]
  ·
   rw [if_neg h1,List.drop_eq_nil_of_le (by omega),List.drop_eq_nil_of_le (by omega)]
   simp
theorem aMo (a b:List Int) (ha:(a.length:Int)≤100000000):jC a b=some (decide (a=b)):=by
 unfold jC
 by_cases h:a.length=b.length
 ·
  have h':(a.length:Int)=(b.length:Int):=by omega
  rw [decide_eq_true h']
  simp only [Bool.not_true,cond_false,aU]
  rw [aJ1 a b h ha bM 0 (by omega) (by omega) (by rw [bO];omega)]
  simp
 ·
  have h':¬ (a.length:Int)=(b.length:Int):=by omega
  have h2:a≠b:=fun e=>h (by rw [e])
  rw [decide_eq_false h',decide_eq_false h2];rfl
def aM2 (u:List (List Int×Int)) (l:List Int×Int):List (List Int×Int):=
 if 0<u.length∧(at' u ((u.length:Int) - 1)).1=l.1 then u
 else if u.length=20 then (u ++ [l]).drop 1 else u ++ [l]
theorem aO2 (u:List (List Int×Int)) (l:List Int×Int) (hu:fA u=true) (hl:bK l=true) (h1:(u.length:Int)≤1048576) (h2:∀ s ∈ u,(s.1.length:Int)≤1048576) (h3:(l.1.length:Int)≤1048576) :
  rN u l=some (aM2 u l,true):=by
 unfold rN aM2
 rw [aO (aD5 u (by omega) (fun s h=>by have:=h2 s h;omega)),iF l (by omega),cB,hu,hl]
 simp only [Bool.not_true,cond_false,if_true]
 rw [aO (aA1 u h1 h2),aO (iW l h3),bP (by omega) (by omega)]
 have hg:(decide (0<(u.length:Int))=true→0≤(u.length:Int) - 1∧(u.length:Int) - 1<(u.length:Int)):=by
  intro h;have:=of_decide_eq_true h;omega
 simp only [aN]
 rw [if_pos hg]
 have hlen:(at' u ((u.length:Int) - 1)).1.length≤100000000:=by
  by_cases h0:0<u.length
  ·
   have:=h2 _ (List.mem_of_getElem? (bD (xs:=u) (i:=(u.length:Int) - 1) ⟨by omega,by omega⟩))
   omega
  ·
   have:u=[]:=List.length_eq_zero_iff.1 (by omega)
   subst this;simp [at'];decide
 rw [aMn _ _ (by omega),cB,if_pos (show u.length+([l]:List (List Int×Int)).length≤536870912 by simp;omega)]
 have gT:(0≤(1:Int)∧(1:Int)≤((u ++ [l]).length:Int)∧((u ++ [l]).length:Int)≤((u ++ [l]).length:Int)):=⟨by omega,by simp only [List.length_append,List.length_singleton];omega,by omega⟩
 simp only [if_pos gT,aU,aN1 (show (0:Int)≤1 by omega)]
 have e1:Int.toNat 1=1:=rfl
 rw [e1]
 by_cases h0:0<u.length
 ·
  have h0':0<(u.length:Int):=by omega
  by_cases hs:(at' u ((u.length:Int) - 1)).1=l.1
  ·
   rw [if_pos (show 0<u.length∧(at' u ((u.length:Int) - 1)).1=l.1 from ⟨h0,hs⟩)]
   simp only [h0',hs,decide_true,if_true,cond_true]
  ·
   rw [if_neg (show ¬ (0<u.length∧(at' u ((u.length:Int) - 1)).1=l.1) from fun h=>hs h.2)]
   simp only [h0',hs,decide_true,decide_false,if_true,cond_true,cond_false]
   by_cases h20:u.length=20
   ·
    have h20':(u.length:Int)=20:=by omega
    rw [if_pos h20]
    simp only [h20',decide_true,cond_true]
   ·
    have h20':¬ (u.length:Int)=20:=by omega
    rw [if_neg h20]
    simp only [h20',decide_false,cond_false]
 ·
  have h0':¬ 0<(u.length:Int):=by omega
  have h20:¬ u.length=20:=by omega
  have h20':¬ (u.length:Int)=20:=by omega
  rw [if_neg (show ¬ (0<u.length∧(at' u ((u.length:Int) - 1)).1=l.1) from fun h=>h0 h.1),if_neg h20]
  simp only [h0',h20',decide_false,cond_false]
theorem aO3 (u:List (List Int×Int)) (l:List Int×Int) (hu:fA u=true) (hl:bK l=true) (h1:(u.length:Int)≤1048576) (h2:∀ s ∈ u,(s.1.length:Int)≤1048576) (h3:(l.1.length:Int)≤1048576) :
  rV u l=some (aM2 u l,true):=by
 unfold rV aM2
 rw [aO (aD6 u (by omega) (fun s h=>by have:=h2 s h;omega)),mP l (by omega),cB,hu,hl]
 simp only [Bool.not_true,cond_false,if_true]
 rw [aO (aA2 u h1 h2),aO (gZ l h3),bP (by omega) (by omega)]
 have hg:(decide (0<(u.length:Int))=true→0≤(u.length:Int) - 1∧(u.length:Int) - 1<(u.length:Int)):=by
  intro h;have:=of_decide_eq_true h;omega
 have hu20:u.length≤20:=by
  unfold fA at hu
  simp only [Bool.and_eq_true,decide_eq_true_eq] at hu
  exact hu.2
 simp only [aN]
 rw [if_pos hg]
 have hlen:(at' u ((u.length:Int) - 1)).1.length≤100000000:=by
  by_cases h0:0<u.length
  ·
   have:=h2 _ (List.mem_of_getElem? (bD (xs:=u) (i:=(u.length:Int) - 1) ⟨by omega,by omega⟩))
   omega
  ·
   have:u=[]:=List.length_eq_zero_iff.1 (by omega)
   subst this;simp [at'];decide
 rw [aMo _ _ (by omega),cB,if_pos (show u.length+([l]:List (List Int×Int)).length≤536870912 by simp;omega)]
 have hd:decide (20<((u ++ [l]).length:Int))=decide (u.length=20):=by
  by_cases h20:u.length=20
  ·
   rw [decide_eq_true h20,decide_eq_true (by simp;omega)]
  ·
   rw [decide_eq_false h20,decide_eq_false (by simp;omega)]
 have gT:(0≤(1:Int)∧(1:Int)≤((u ++ [l]).length:Int)∧((u ++ [l]).length:Int)≤((u ++ [l]).length:Int)):=⟨by omega,by simp only [List.length_append,List.length_singleton];omega,by omega⟩
 simp only [if_pos gT,aU,aN1 (show (0:Int)≤1 by omega)]
 have e1:Int.toNat 1=1:=rfl
 rw [e1]
 by_cases h0:0<u.length
 ·
  have h0':0<(u.length:Int):=by omega
  by_cases hs:(at' u ((u.length:Int) - 1)).1=l.1
  ·
   rw [if_pos (show 0<u.length∧(at' u ((u.length:Int) - 1)).1=l.1 from ⟨h0,hs⟩)]
   simp only [h0',hs,decide_true,if_true,cond_true]
  ·
   rw [if_neg (show ¬ (0<u.length∧(at' u ((u.length:Int) - 1)).1=l.1) from fun h=>hs h.2)]
   simp only [h0',hs,decide_true,decide_false,if_true,cond_true,cond_false]
   by_cases h20:u.length=20
   ·
    have h20':(u.length:Int)=20:=by omega
    rw [if_pos h20]
    simp only [hd,h20,decide_true,cond_true]
   ·
    have h20':¬ (u.length:Int)=20:=by omega
    rw [if_neg h20]
    simp only [hd,h20,decide_false,cond_false]
 ·
  have h0':¬ 0<(u.length:Int):=by omega
  have h20:¬ u.length=20:=by omega
  have h20':¬ (u.length:Int)=20:=by omega
  rw [if_neg (show ¬ (0<u.length∧(at' u ((u.length:Int) - 1)).1=l.1) from fun h=>h0 h.1),if_neg h20]
  simp only [h0',hd,h20,decide_false,cond_false]
theorem aT5 {α:Type} [Inhabited α] {l:List α} {k:Int} (h0:0≤k) (h:k<(l.length:Int)):l[k.toNat]?=some (at' l k):=bD ⟨h0,h⟩
theorem aJm (xs:List Int) (hl:(xs.length:Int)≤100000000) (j:List Int→Option (List Int)):∀ (m:Nat) (ys:List Int) (k:Int),0≤k→k≤(xs.length:Int)→ys.length=xs.length→(∀ i:Nat,(i:Int)<k→ys[i]?=xs[i]?)→(xs.length:Int) - k<m→0<m →
  bC (nC xs j) m (ys,k)=j xs:=by
 intro m
 induction m with
 | zero=>intro ys k _ _ _ _ h h';omega
 | succ m ih=>
  intro ys k hk hk' hy hyx hm _
  simp only [bC,nC,aN,Bool.cond_decide]
  by_cases h1:k<(xs.length:Int)
  ·
   have h2:k<(ys.length:Int):=by omega
   simp only [h1,h2,hk,if_true,and_self]
   rw [bP (by omega) (by omega)]
   refine ih _ _ (by omega) (by omega) (by simpa using hy) (fun i hi=>?_) (by omega) (by omega)
   rw [List.getElem?_set]
   by_cases he:k.toNat=i
   ·
    subst he
    rw [if_pos rfl,if_pos (by omega),aT5 hk h1]
   ·
    rw [if_neg he]
    exact hyx i (by omega)
  ·
   simp only [h1,if_false]
   congr 1
   apply List.ext_getElem?
   intro i
   by_cases hi:(i:Int)<k
   ·
    exact hyx i hi
   ·
    rw [List.getElem?_eq_none (by omega),List.getElem?_eq_none (by omega)]
theorem aCb (xs:List Int) (hl:(xs.length:Int)≤100000000):nX xs=some xs:=by
 unfold nX aN
 rw [if_pos (by omega)]
 exact aJm xs hl _ bM _ 0 (by omega) (by omega) (by simp) (fun i hi=>by omega) (by rw [bO];omega) (by rw [bO];omega)
theorem aLn (xs:List Int) (hl:(xs.length:Int)≤100000000) (j:Unit→Option Bool):∀ (m:Nat) (k:Int),0≤k→k≤(xs.length:Int)→(xs.length:Int) - k<m→0<m→bC (nF xs xs j) m k=j ():=by
 intro m
 induction m with
 | zero=>intro k _ _ h h';omega
 | succ m ih=>
  intro k hk hk' hm _
  simp only [bC,nF,aN,Bool.cond_decide]
  by_cases h1:k<(xs.length:Int)
  ·
   simp only [h1,hk,if_true,and_self,decide_true,Bool.not_true,cond_false]
   rw [bP (by omega) (by omega)]
   exact ih _ (by omega) (by omega) (by omega) (by omega)
  ·
   simp only [h1,if_false]
theorem yQ (xs:List Int) (hl:(xs.length:Int)≤100000000):oA xs xs=some true:=by
 unfold oA
 simp only [decide_true,Bool.not_true,cond_false]
 exact aLn xs hl _ bM 0 (by omega) (by omega) (by rw [bO];omega) (by rw [bO];omega)
theorem aCc (xs:List Int) (hx:xs.length≤maxLen) (left:Int) (h0:0≤left) (h1:left≤1048576) :
  ∃ v,nY xs left=some v∧(v = -1∨(0≤v∧v≤left∧(xs.length:Int)≤left)):=by
 have hM':maxLen≤9223372036854775807:=by decide
 unfold nY
 rw [bP (by omega) (by omega)]
 by_cases h:left - (xs.length:Int)<0
 ·
  exact ⟨-1,by simp [h],.inl rfl⟩
 ·
  exact ⟨left - xs.length,by simp [h],.inr (by omega)⟩
theorem zI (l:List Int×Int) (hx:l.1.length≤maxLen) (left:Int) (h0:0≤left) (h1:left≤1048576) :
  ∃ v,lH l left=some v∧(v = -1∨(0≤v∧v≤left∧(l.1.length:Int)≤left)):=by
 obtain ⟨v,e,hv⟩:=aCc l.1 hx left h0 h1
 unfold lH
 rw [aO e]
 rcases hv with rfl | ⟨v0,v1,v2⟩
 ·
  exact ⟨-1,rfl,.inl rfl⟩
 ·
  have:¬ v<0:=by omega
  exact ⟨v,by simp [this],.inr ⟨v0,v1,v2⟩⟩
theorem aMg (l:List Int) (hx:l.length≤maxLen) (left:Int) (h0:0≤left) (h1:left≤1048576) :
  ∃ v,rS l left=some v∧(v = -1∨(0≤v∧v≤left∧(l.length:Int)≤left)):=by
 obtain ⟨v,e,hv⟩:=aCc l hx left h0 h1
 unfold rS
 rw [aO e]
 rcases hv with rfl | ⟨v0,v1,v2⟩
 ·
  exact ⟨-1,rfl,.inl rfl⟩
 ·
  have:¬ v<0:=by omega
  exact ⟨v,by simp [this],.inr ⟨v0,v1,v2⟩⟩
theorem aF7 (xs:List (List Int)) (hx:xs.length≤maxLen) (hs:∀ s ∈ xs,s.length≤maxLen):∀ (m:Nat) (left k:Int),0≤left→left≤1048576→0≤k→k≤(xs.length:Int)→(xs.length:Int) - k<m→0<m →
  ∃ v,bC (jP xs fun x=>some x) m (left,k)=some v∧(v = -1∨(0≤v∧v≤left∧∀ s ∈ xs.drop k.toNat,(s.length:Int)≤left)):=by
 have hM':maxLen≤9223372036854775807:=by decide
 intro m
 induction m with
 | zero=>intro left k _ _ _ _ _ h;omega
 | succ m ih=>
  intro left k h0 h1 hk hk' hm _
  simp only [bC,jP,aN,Bool.cond_decide]
  by_cases h2:k<(xs.length:Int)
  ·
   rw [if_pos h2,if_pos ⟨hk,h2⟩]
   have hb:=hs (at' xs k) (List.mem_of_getElem? (bD ⟨hk,h2⟩))
   obtain ⟨v,e,hv⟩:=aMg (at' xs k) hb left h0 h1
   rw [aO e,bP (x:=k+1) (by omega) (by omega)]
   rcases hv with rfl | ⟨v0,v1,v2⟩
   ·
    exact ⟨-1,rfl,.inl rfl⟩
   ·
    rw [if_neg (by omega)]
    obtain ⟨u,e',hu⟩:=ih v (k+1) v0 (by omega) (by omega) (by omega) (by omega) (by omega)
    refine ⟨u,e',?_⟩
    rcases hu with hu | ⟨g1,g2,g3⟩
    ·
     exact .inl hu
    ·
     refine .inr ⟨g1,by omega,?_⟩
     rw [dI hk h2]
     intro s hs'
     rcases List.mem_cons.1 hs' with rfl | hs'
     ·
      omega
     ·
      have:=g3 s hs';omega
  ·
   rw [if_neg h2]
   exact ⟨left,rfl,.inr ⟨h0,Int.le_refl _,by rw [List.drop_eq_nil_of_le (by omega)];simp⟩⟩
theorem aJn (xs:List (List Int)) (hx:xs.length≤maxLen) (hs:∀ s ∈ xs,s.length≤maxLen) (left:Int) (h0:0≤left) (h1:left≤1048576) :
  ∃ v,pL xs left=some v∧(v = -1∨(0≤v∧v≤left∧(xs.length:Int)≤left∧∀ s ∈ xs,(s.length:Int)≤left)):=by
 have hM':maxLen≤9223372036854775807:=by decide
 unfold pL
 simp only [Bool.cond_decide,aU]
 rw [bP (x:=left - (xs.length:Int)) (by omega) (by omega)]
 by_cases h:left - (xs.length:Int)<0
 ·
  rw [if_pos h];exact ⟨-1,rfl,.inl rfl⟩
 ·
  rw [if_neg h]
  obtain ⟨v,e,hv⟩:=aF7 xs hx hs bM (left - (xs.length:Int)) 0 (by omega) (by omega) (by omega) (by omega) (by rw [bO];omega) (by rw [bO];omega)
  refine ⟨v,e,?_⟩
  rcases hv with hv | ⟨g1,g2,g3⟩
  ·
   exact .inl hv
  ·
   refine .inr ⟨g1,by omega,by omega,fun s hs'=>?_⟩
   have:=g3 s (by simpa using hs')
   omega
theorem aO9 (xs:List (List Int)) (hx:xs.length≤maxLen) (hs:∀ s ∈ xs,s.length≤maxLen) (left:Int) (h0:0≤left) (h1:left≤1048576) :
  ∃ v,tV xs left=some v∧(v = -1∨(0≤v∧v≤left∧(xs.length:Int)≤left∧∀ s ∈ xs,(s.length:Int)≤left)):=by
 obtain ⟨v,e,hv⟩:=aJn xs hx hs left h0 h1
 unfold tV
 rw [aO e]
 rcases hv with rfl | ⟨v0,v1,v2⟩
 ·
  exact ⟨-1,rfl,.inl rfl⟩
 ·
  have:¬ v<0:=by omega
  exact ⟨v,by simp [this],.inr ⟨v0,v1,v2⟩⟩
theorem aH8 (xs:List (List Int×Int)) (hx:xs.length≤maxLen) (hs:∀ s ∈ xs,s.1.length≤maxLen):∀ (m:Nat) (left k:Int),0≤left→left≤1048576→0≤k→k≤(xs.length:Int)→(xs.length:Int) - k<m→0<m →
  ∃ v,bC (lG xs fun x=>some x) m (left,k)=some v∧(v = -1∨(0≤v∧v≤left∧∀ s ∈ xs.drop k.toNat,(s.1.length:Int)≤left)):=by
 have hM':maxLen≤9223372036854775807:=by decide
 intro m
 induction m with
 | zero=>intro left k _ _ _ _ _ h;omega
 | succ m ih=>
  intro left k h0 h1 hk hk' hm _
  simp only [bC,lG,aN,Bool.cond_decide]
  by_cases h2:k<(xs.length:Int)
  ·
   rw [if_pos h2,if_pos ⟨hk,h2⟩]
   have hb:=hs (at' xs k) (List.mem_of_getElem? (bD ⟨hk,h2⟩))
   obtain ⟨v,e,hv⟩:=zI (at' xs k) hb left h0 h1
   rw [aO e,bP (x:=k+1) (by omega) (by omega)]
   rcases hv with rfl | ⟨v0,v1,v2⟩
   ·
    exact ⟨-1,rfl,.inl rfl⟩
   ·
    rw [if_neg (by omega)]
    obtain ⟨u,e',hu⟩:=ih v (k+1) v0 (by omega) (by omega) (by omega) (by omega) (by omega)
    refine ⟨u,e',?_⟩
    rcases hu with hu | ⟨g1,g2,g3⟩
    ·
     exact .inl hu
    ·
     refine .inr ⟨g1,by omega,?_⟩
     rw [dI hk h2]
     intro s hs'
     rcases List.mem_cons.1 hs' with rfl | hs'
     ·
      omega
     ·
      have:=g3 s hs';omega
  ·
   rw [if_neg h2]
   exact ⟨left,rfl,.inr ⟨h0,Int.le_refl _,by rw [List.drop_eq_nil_of_le (by omega)];simp⟩⟩
theorem aMh (xs:List (List Int×Int)) (hx:xs.length≤maxLen) (hs:∀ s ∈ xs,s.1.length≤maxLen) (left:Int) (h0:0≤left) (h1:left≤1048576) :
  ∃ v,rT xs left=some v∧(v = -1∨(0≤v∧v≤left∧(xs.length:Int)≤left∧∀ s ∈ xs,(s.1.length:Int)≤left)):=by
 have hM':maxLen≤9223372036854775807:=by decide
 unfold rT
 simp only [Bool.cond_decide,aU]
 rw [bP (x:=left - (xs.length:Int)) (by omega) (by omega)]
 by_cases h:left - (xs.length:Int)<0
 ·
  rw [if_pos h];exact ⟨-1,rfl,.inl rfl⟩
 ·
  rw [if_neg h]
  obtain ⟨v,e,hv⟩:=aH8 xs hx hs bM (left - (xs.length:Int)) 0 (by omega) (by omega) (by omega) (by omega) (by rw [bO];omega) (by rw [bO];omega)
  refine ⟨v,e,?_⟩
  rcases hv with hv | ⟨g1,g2,g3⟩
  ·
   exact .inl hv
  ·
   refine .inr ⟨g1,by omega,by omega,fun s hs'=>?_⟩
   have:=g3 s (by simpa using hs')
   omega
theorem aO8 (xs:List (List Int×Int)) (hx:xs.length≤maxLen) (hs:∀ s ∈ xs,s.1.length≤maxLen) (left:Int) (h0:0≤left) (h1:left≤1048576) :
  ∃ v,tU xs left=some v∧(v = -1∨(0≤v∧v≤left∧(xs.length:Int)≤left∧∀ s ∈ xs,(s.1.length:Int)≤left)):=by
 obtain ⟨v,e,hv⟩:=aMh xs hx hs left h0 h1
 unfold tU
 rw [aO e]
 rcases hv with rfl | ⟨v0,v1,v2⟩
 ·
  exact ⟨-1,rfl,.inl rfl⟩
 ·
  have:¬ v<0:=by omega
  exact ⟨v,by simp [this],.inr ⟨v0,v1,v2⟩⟩
theorem zH (l:List Int×Int) (hl:(l.1.length:Int)≤100000000):lE l=some l:=by
  unfold lE;rw [aO (aCb l.1 hl)]
theorem aMe (l:List Int) (hl:(l.length:Int)≤100000000):rR l=some l:=by
  unfold rR;rw [aO (aCb l hl)]
theorem aF6 (xs:List (List Int)) (hl:(xs.length:Int)≤100000000) (hs:∀ s ∈ xs,(s.length:Int)≤100000000) (j:List (List Int)→Option (List (List Int))):∀ (m:Nat) (ys:List (List Int)) (k:Int),0≤k→k≤(xs.length:Int)→ys.length=xs.length→(∀ i:Nat,(i:Int)<k→ys[i]?=xs[i]?)→(xs.length:Int) - k<m→0<m →
  bC (jO xs j) m (ys,k)=j xs:=by
 intro m
 induction m with
 | zero=>intro ys k _ _ _ _ h h';omega
 | succ m ih=>
  intro ys k hk hk' hy hyx hm _
  simp only [bC,jO,aN,Bool.cond_decide]
  by_cases h1:k<(xs.length:Int)
  ·
   have h2:k<(ys.length:Int):=by omega
   have hb:=hs (at' xs k) (List.mem_of_getElem? (bD ⟨hk,h1⟩))
   rw [if_pos h1,if_pos ⟨hk,h1⟩,aO (aMe _ hb),if_pos ⟨hk,h2⟩]
   rw [bP (by omega) (by omega)]
   refine ih _ _ (by omega) (by omega) (by simpa using hy) (fun i hi=>?_) (by omega) (by omega)
   rw [List.getElem?_set]
   by_cases he:k.toNat=i
   ·
    subst he
    rw [if_pos rfl,if_pos (by omega),bD ⟨hk,h1⟩]
   ·
    rw [if_neg he]
    exact hyx i (by omega)
  ·
   simp only [h1,if_false]
   congr 1
   apply List.ext_getElem?
   intro i
   by_cases hi:(i:Int)<k
   ·
    exact hyx i hi
   ·
    rw [List.getElem?_eq_none (by omega),List.getElem?_eq_none (by omega)]
theorem aO6 (xs:List (List Int)) (hl:(xs.length:Int)≤100000000) (hs:∀ s ∈ xs,(s.length:Int)≤100000000):tT xs=some xs:=by
 unfold tT sO aN
 rw [if_pos (by omega)]
 simp only [aU]
 rw [aF6 xs hl hs _ bM _ 0 (by omega) (by omega) (by simp) (fun i hi=>by omega) (by rw [bO];omega) (by rw [bO];omega)]
 rfl
theorem aH5 (xs:List (List Int×Int)) (hl:(xs.length:Int)≤100000000) (hs:∀ s ∈ xs,(s.1.length:Int)≤100000000) (j:List (List Int×Int)→Option (List (List Int×Int))):∀ (m:Nat) (ys:List (List Int×Int)) (k:Int),0≤k→k≤(xs.length:Int)→ys.length=xs.length→(∀ i:Nat,(i:Int)<k→ys[i]?=xs[i]?)→(xs.length:Int) - k<m→0<m →
  bC (lD xs j) m (ys,k)=j xs:=by
 intro m
 induction m with
 | zero=>intro ys k _ _ _ _ h h';omega
 | succ m ih=>
  intro ys k hk hk' hy hyx hm _
  simp only [bC,lD,aN,Bool.cond_decide]
  by_cases h1:k<(xs.length:Int)
  ·
   have h2:k<(ys.length:Int):=by omega
   have hb:=hs (at' xs k) (List.mem_of_getElem? (bD ⟨hk,h1⟩))
   rw [if_pos h1,if_pos ⟨hk,h1⟩,aO (zH (at' xs k) hb),if_pos ⟨hk,h2⟩]
   rw [bP (by omega) (by omega)]
   refine ih _ _ (by omega) (by omega) (by simpa using hy) (fun i hi=>?_) (by omega) (by omega)
   rw [List.getElem?_set]
   by_cases he:k.toNat=i
   ·
    subst he
    rw [if_pos rfl,if_pos (by omega),bD ⟨hk,h1⟩]
   ·
    rw [if_neg he]
    exact hyx i (by omega)
  ·
   simp only [h1,if_false]
   congr 1
   apply List.ext_getElem?
   intro i
   by_cases hi:(i:Int)<k
   ·
    exact hyx i hi
   ·
    rw [List.getElem?_eq_none (by omega),List.getElem?_eq_none (by omega)]
theorem aO5 (xs:List (List Int×Int)) (hl:(xs.length:Int)≤100000000) (hs:∀ s ∈ xs,(s.1.length:Int)≤100000000):tS xs=some xs:=by
 unfold tS uU aN
 rw [if_pos (by omega)]
 simp only [aU]
 rw [aH5 xs hl hs _ bM _ 0 (by omega) (by omega) (by simp) (fun i hi=>by omega) (by rw [bO];omega) (by rw [bO];omega)]
 rfl
theorem uS (l:List Int×Int) (hl:(l.1.length:Int)≤100000000):lK l l=some true:=by
  unfold lK;rw [aO (yQ l.1 hl)];simp
theorem aI5 (l:List Int) (hl:(l.length:Int)≤100000000):rU l l=some true:=by
  unfold rU;rw [aO (yQ l hl)];simp
theorem aLm (xs:List (List Int)) (hl:(xs.length:Int)≤100000000) (hs:∀ s ∈ xs,(s.length:Int)≤100000000):tY xs xs=some true:=by
 have loop:∀ (j:Unit→Option Bool) (m:Nat) (k:Int),0≤k→k≤(xs.length:Int)→(xs.length:Int) - k<m→0<m→bC (jU xs xs j) m k=j ():=by
  intro j m
  induction m with
  | zero=>intro k _ _ h h';omega
  | succ m ih=>
   intro k hk hk' hm _
   simp only [bC,jU,aN,Bool.cond_decide]
   by_cases h1:k<(xs.length:Int)
   ·
    have hb:=hs (at' xs k) (List.mem_of_getElem? (bD ⟨hk,h1⟩))
    rw [if_pos h1,if_pos ⟨hk,h1⟩,if_pos ⟨hk,h1⟩,aO (aI5 _ hb)]
    simp only [Bool.not_true,cond_false]
    rw [bP (by omega) (by omega)]
    exact ih _ (by omega) (by omega) (by omega) (by omega)
   ·
    simp only [h1,if_false]
 unfold tY sP
 simp only [decide_true,Bool.not_true,cond_false,aU]
 rw [loop _ bM 0 (by omega) (by omega) (by rw [bO];omega) (by rw [bO];omega)]
 rfl
theorem aLl (xs:List (List Int×Int)) (hl:(xs.length:Int)≤100000000) (hs:∀ s ∈ xs,(s.1.length:Int)≤100000000):tX xs xs=some true:=by
 have loop:∀ (j:Unit→Option Bool) (m:Nat) (k:Int),0≤k→k≤(xs.length:Int)→(xs.length:Int) - k<m→0<m→bC (lJ xs xs j) m k=j ():=by
  intro j m
  induction m with
  | zero=>intro k _ _ h h';omega
  | succ m ih=>
   intro k hk hk' hm _
   simp only [bC,lJ,aN,Bool.cond_decide]
   by_cases h1:k<(xs.length:Int)
   ·
    have hb:=hs (at' xs k) (List.mem_of_getElem? (bD ⟨hk,h1⟩))
    rw [if_pos h1,if_pos ⟨hk,h1⟩,if_pos ⟨hk,h1⟩,aO (uS (at' xs k) hb)]
    simp only [Bool.not_true,cond_false]
    rw [bP (by omega) (by omega)]
    exact ih _ (by omega) (by omega) (by omega) (by omega)
   ·
    simp only [h1,if_false]
 unfold tX uV
 simp only [decide_true,Bool.not_true,cond_false,aU]
 rw [loop _ bM 0 (by omega) (by omega) (by rw [bO];omega) (by rw [bO];omega)]
 rfl
theorem aSc (vi:Bool) (mode:Int) (line:List Int×Int) (count op opc wait fr fh last:Int) (ring:List (List Int)) (undo:List (List Int×Int)) (nav:Int) (own:List Int×Int) (query:List Int) (hit:Int) (back:List Int×Int)
  (w:WfT (.pair .bool (.pair (.int .i64) (.pair (.pair (.sl (.int .i64)) (.int .i64)) (.pair (.int .i64) (.pair (.int .i64) (.pair (.int .i64) (.pair (.int .i64) (.pair (.int .i64) (.pair (.int .i64) (.pair (.int .i64) (.pair (.sl (.sl (.int .i64))) (.pair (.sl (.pair (.sl (.int .i64)) (.int .i64))) (.pair (.int .i64) (.pair (.pair (.sl (.int .i64)) (.int .i64)) (.pair (.sl (.int .i64)) (.pair (.int .i64) (.pair (.sl (.int .i64)) (.int .i64)))))))))))))))))) (vi,mode,line,count,op,opc,wait,fr,fh,last,ring,undo,nav,own,query,hit,back))
  (left:Int) (h0:0≤left) (h1:left≤1048576) :
  ∃ v,wC (vi,mode,line,count,op,opc,wait,fr,fh,last,ring,undo,nav,own,query,hit,back) left=some v∧(v = -1∨(0≤v∧v≤left∧eJ 1048576 (vi,mode,line,count,op,opc,wait,fr,fh,last,ring,undo,nav,own,query,hit,back))):=by
 obtain ⟨w1,w2,⟨⟨w3,_⟩,w4⟩,w5,w6,w7,w8,w9,w10,w11,⟨w12,w12'⟩,⟨w13,w13'⟩,w14,⟨⟨w15,_⟩,_⟩,⟨w16,_⟩,w17,⟨w18,_⟩,_⟩:=w
 unfold wC
 obtain ⟨a1,e1,v1⟩:=zI line w3 left h0 h1
 simp only [Bool.cond_decide]
 rw [aO e1]
 rcases v1 with rfl | ⟨p1,q1,s1⟩
 ·
  exact ⟨-1,rfl,.inl rfl⟩
 rw [if_neg (by omega)]
 obtain ⟨a2,e2,v2⟩:=aO9 ring w12 (fun s hs=>(w12' s hs).1) a1 p1 (by omega)
 rw [aO e2]
 rcases v2 with rfl | ⟨p2,q2,s2,s2'⟩
 ·
  exact ⟨-1,rfl,.inl rfl⟩
 rw [if_neg (by omega)]
 obtain ⟨a3,e3,v3⟩:=aO8 undo w13 (fun s hs=>(w13' s hs).1.1) a2 p2 (by omega)
 rw [aO e3]
 rcases v3 with rfl | ⟨p3,q3,s3,s3'⟩
 ·
  exact ⟨-1,rfl,.inl rfl⟩
 rw [if_neg (by omega)]
 obtain ⟨a4,e4,v4⟩:=zI own w15 a3 p3 (by omega)
 rw [aO e4]
 rcases v4 with rfl | ⟨p4,q4,s4⟩
 ·
  exact ⟨-1,rfl,.inl rfl⟩
 rw [if_neg (by omega)]
 obtain ⟨a5,e5,v5⟩:=aCc query w16 a4 p4 (by omega)
 rw [aO e5]
 rcases v5 with rfl | ⟨p5,q5,s5⟩
 ·
  exact ⟨-1,rfl,.inl rfl⟩
 rw [if_neg (by omega)]
 obtain ⟨a6,e6,v6⟩:=zI back w18 a5 p5 (by omega)
 rw [aO e6]
 rcases v6 with rfl | ⟨p6,q6,s6⟩
 ·
  exact ⟨-1,rfl,.inl rfl⟩
 rw [if_neg (by omega)]
 refine ⟨a6,rfl,.inr ⟨p6,by omega,?_⟩⟩
 refine ⟨by omega,⟨by omega,fun s hs=>?_⟩,⟨by omega,fun s hs=>?_⟩,by omega,by omega,by omega⟩
 ·
  have:=s2' s hs;omega
 ·
  have:=s3' s hs;omega
theorem cR {N M:Nat} (h:N≤M) {e:EdT} (hs:eJ N e):eJ M e:=by
 obtain ⟨vi,mode,line,count,op,opc,wait,fr,fh,last,ring,undo,nav,own,query,hit,back⟩:=e
 obtain ⟨h1,⟨h2,h3⟩,⟨h4,h5⟩,h6,h7,h8⟩:=hs
 exact ⟨by omega,⟨by omega,fun s hs=>by have:=h3 s hs;omega⟩,⟨by omega,fun s hs=>by have:=h5 s hs;omega⟩,by omega,by omega,by omega⟩
theorem aR9 (vi:Bool) (mode:Int) (line:List Int×Int) (count op opc wait fr fh last:Int) (ring:List (List Int)) (undo:List (List Int×Int)) (nav:Int) (own:List Int×Int) (query:List Int) (hit:Int) (back:List Int×Int) (hs:eJ 100000000 (vi,mode,line,count,op,opc,wait,fr,fh,last,ring,undo,nav,own,query,hit,back)) :
  pK (vi,mode,line,count,op,opc,wait,fr,fh,last,ring,undo,nav,own,query,hit,back)=some (vi,mode,line,count,op,opc,wait,fr,fh,last,ring,undo,nav,own,query,hit,back):=by
 obtain ⟨h1,⟨h2,h3⟩,⟨h4,h5⟩,h6,h7,h8⟩:=hs
 unfold pK
 simp only [zH line (by omega),zH own (by omega),zH back (by omega),aO6 ring (by omega) (fun s hs=>by have:=h3 s hs;omega),aO5 undo (by omega) (fun s hs=>by have:=h5 s hs;omega),aCb query (by omega),aG]
theorem aHs (vi:Bool) (mode:Int) (line:List Int×Int) (count op opc wait fr fh last:Int) (ring:List (List Int)) (undo:List (List Int×Int)) (nav:Int) (own:List Int×Int) (query:List Int) (hit:Int) (back:List Int×Int) (hs:eJ 100000000 (vi,mode,line,count,op,opc,wait,fr,fh,last,ring,undo,nav,own,query,hit,back)) :
  nG (vi,mode,line,count,op,opc,wait,fr,fh,last,ring,undo,nav,own,query,hit,back) (vi,mode,line,count,op,opc,wait,fr,fh,last,ring,undo,nav,own,query,hit,back)=some true:=by
 obtain ⟨h1,⟨h2,h3⟩,⟨h4,h5⟩,h6,h7,h8⟩:=hs
 unfold nG
 simp only [uS line (by omega),uS own (by omega),uS back (by omega),aLm ring (by omega) (fun s hs=>by have:=h3 s hs;omega),aLl undo (by omega) (fun s hs=>by have:=h5 s hs;omega),yQ query (by omega),aG,decide_true,Bool.not_true,cond_false,beq_self_eq_true]
def aPi (line:List Int×Int) (l:List Int×Int) (undo:List (List Int×Int)) (last nl:Int):List (List Int×Int):=
  if line.1≠l.1∧¬ (nl=1∧last=1) then aM2 undo line else undo
def aPj (ok:Bool) (r:EdT):EdT×Bool:=if ok then (r,true) else (zEd,false)
section
variable (vi:Bool) (mode:Int) (line:List Int×Int) (count op opc wait fr fh last:Int) (ring:List (List Int)) (undo:List (List Int×Int)) (nav:Int) (own:List Int×Int) (query:List Int) (hit:Int) (back:List Int×Int)
  (hs:eJ 1048576 (vi,mode,line,count,op,opc,wait,fr,fh,last,ring,undo,nav,own,query,hit,back)) (l:List Int×Int) (hl:l.1.length≤1048576) (nl:Int) (wl:l.2≤9223372036854775807)
include hs hl wl
theorem aOl:sY (vi,mode,line,count,op,opc,wait,fr,fh,last,ring,undo,nav,own,query,hit,back) l nl =
  some (aPj (cG (vi,mode,line,count,op,opc,wait,fr,fh,last,ring,undo,nav,own,query,hit,back) && bK l && decide (0≤nl∧nl≤3)) (vi,mode,(l.1,mM mode l),0,0,0,0,fr,fh,nl,ring,aPi line l undo last nl,nav,own,query,hit,back)):=by
 unfold sY
 have hparts:cG (vi,mode,line,count,op,opc,wait,fr,fh,last,ring,undo,nav,own,query,hit,back)=true→bK line=true∧fA undo=true:=fun h=>aLp h
 rw [aO (aNo vi mode line count op opc wait fr fh last ring undo nav own query hit back (cR (by omega) hs)),iF l (by omega),cB]
 obtain ⟨h1,⟨h2,h3⟩,⟨h4,h5⟩,h6,h7,h8⟩:=hs
 generalize cG (vi,mode,line,count,op,opc,wait,fr,fh,last,ring,undo,nav,own,query,hit,back)=K at *
 generalize hL:bK l=L
 cases K
 ·
  simp [zEd,aPj]
 ·
  cases L
  ·
   simp [zEd,aPj]
  ·
   by_cases hn:0≤nl∧nl≤3
   ·
    have n1:¬ nl<0:=by omega
    have n2:¬ 3<nl:=by omega
    rw [decide_eq_true hn]
    simp only [Bool.not_true,n1,n2,decide_false,if_true,cond_false,Bool.and_self,aPj]
    rw [aO (aFq vi mode line count op opc wait fr fh last ring undo nav own query hit back h1 h2 h3 h4 h5 h6 h7 h8)]
    unfold eQ
    simp only [aG,aU]
    rw [aMn _ _ (by omega),iW (l.1,l.2) (by simp only;omega)]
    obtain ⟨p1,p2⟩:=hparts rfl
    rw [aO2 undo line p2 p1 (by omega) (fun s h=>by have:=h5 s h;omega) (by omega)]
    have hS:∀ (X Y:Option (EdT×Bool)),(bif (bif (!(decide (line.1=l.1))) then (!(bif (decide (nl=1)) then (decide (last=1)) else false)) else false) then X else Y)=if line.1≠l.1∧¬ (nl=1∧last=1) then X else Y:=by
     intro X Y
     by_cases a:line.1=l.1 <;> by_cases b:nl=1 <;> by_cases c:last=1 <;> simp [a,b,c]
    have hc:=fun u:List (List Int×Int)=>aNp vi mode (l.1,l.2) 0 0 0 0 fr fh nl ring u nav (own.1,own.2) query hit (back.1,back.2) wl
    simp only [hS,hc]
    unfold aPi
    split <;> rfl
   ·
    rw [decide_eq_false hn]
    by_cases n1:nl<0
    ·
     simp [n1,zEd,aPj]
    ·
     have n2:3<nl:=by omega
     simp [n1,n2,zEd,aPj]
end
def oQ (nl:Int):EdT→EdT
  | (vi,mode,line,_,_,_,_,fr,fh,_,ring,undo,nav,own,query,hit,back)=>(vi,mode,line,0,0,0,0,fr,fh,nl,ring,undo,nav,own,query,hit,back)
def xN (l:List Int×Int) (nl:Int):EdT→EdT
  | (vi,mode,line,_,_,_,_,fr,fh,last,ring,undo,nav,own,query,hit,back)=>(vi,mode,(l.1,mM mode l),0,0,0,0,fr,fh,nl,ring,aPi line l undo last nl,nav,own,query,hit,back)
def aN7 (r:List (List Int)):EdT→EdT
  | (vi,mode,line,count,op,opc,wait,fr,fh,last,_,undo,nav,own,query,hit,back)=>(vi,mode,line,count,op,opc,wait,fr,fh,last,r,undo,nav,own,query,hit,back)
section
variable {vi:Bool} {mode:Int} {line:List Int×Int} {count op opc wait fr fh last:Int} {ring:List (List Int)} {undo:List (List Int×Int)} {nav:Int} {own:List Int×Int} {query:List Int} {hit:Int} {back:List Int×Int}
theorem iH (h:cG (vi,mode,line,count,op,opc,wait,fr,fh,last,ring,undo,nav,own,query,hit,back)=true) :
  bK line=true∧bK own=true∧bK back=true∧(0≤count∧count≤999)∧(0≤opc∧opc≤999)∧vT vi mode line op opc wait=true∧aBx fr fh=true∧(0≤last∧last≤3)∧dT ring=true∧fA undo=true∧(0≤nav∧nav≤1000000060)∧(0≤hit∧hit≤1000000060)∧(!decide (nav=0) || nT own)=true∧(query.length:Int)≤40∧query.all pr=true∧qR mode query hit back=true:=by
 unfold cG at h
 simp only [Bool.and_eq_true,decide_eq_true_eq] at h
 obtain ⟨⟨⟨⟨⟨⟨⟨⟨⟨⟨⟨⟨⟨⟨⟨h1,h2⟩,h3⟩,h4⟩,h5⟩,h6⟩,h7⟩,h8⟩,h9⟩,h10⟩,h11⟩,h12⟩,h13⟩,h14⟩,h15⟩,h16⟩:=h
 exact ⟨h1,h2,h3,h4,h5,h6,h7,h8,h9,h10,h11,h12,h13,h14,h15,h16⟩
theorem aFo (h:bK line=true∧bK own=true∧bK back=true∧(0≤count∧count≤999)∧(0≤opc∧opc≤999)∧vT vi mode line op opc wait=true∧aBx fr fh=true∧(0≤last∧last≤3)∧dT ring=true∧fA undo=true∧(0≤nav∧nav≤1000000060)∧(0≤hit∧hit≤1000000060)∧(!decide (nav=0) || nT own)=true∧(query.length:Int)≤40∧query.all pr=true∧qR mode query hit back=true) :
  cG (vi,mode,line,count,op,opc,wait,fr,fh,last,ring,undo,nav,own,query,hit,back)=true:=by
 obtain ⟨h1,h2,h3,h4,h5,h6,h7,h8,h9,h10,h11,h12,h13,h14,h15,h16⟩:=h
 unfold cG
 simp only [Bool.and_eq_true,decide_eq_true_eq]
 exact ⟨⟨⟨⟨⟨⟨⟨⟨⟨⟨⟨⟨⟨⟨⟨h1,h2⟩,h3⟩,h4⟩,h5⟩,h6⟩,h7⟩,h8⟩,h9⟩,h10⟩,h11⟩,h12⟩,h13⟩,h14⟩,h15⟩,h16⟩
theorem iQ {u:List (List Int×Int)} (h:fA u=true):u.length≤20∧∀ s ∈ u,bK s=true:=by
 unfold fA at h
 simp only [Bool.and_eq_true,decide_eq_true_eq,List.all_eq_true] at h
 exact ⟨h.2,h.1⟩
theorem tD (h:cG (vi,mode,line,count,op,opc,wait,fr,fh,last,ring,undo,nav,own,query,hit,back)=true):eJ 400 (vi,mode,line,count,op,opc,wait,fr,fh,last,ring,undo,nav,own,query,hit,back):=by
 obtain ⟨h1,h2,h3,h4,h5,h6,h7,h8,h9,h10,h11,h12,h13,h14,h15,h16⟩:=iH h
 obtain ⟨r1,r2⟩:=fJ h9
 obtain ⟨u1,u2⟩:=iQ h10
 exact ⟨(bG h1).2.2,⟨by omega,fun s hs=>dW (r2 s hs).1⟩,⟨by omega,fun s hs=>(bG (u2 s hs)).2.2⟩,(bG h2).2.2,by omega,(bG h3).2.2⟩
theorem aG6:eJ 400 zEd:=⟨by simp,⟨by simp,by simp⟩,⟨by simp,by simp⟩,by simp,by simp,by simp⟩
end
theorem aSh {u:List (List Int×Int)} {l:List Int×Int} (hu:fA u=true) (hl:bK l=true):fA (aM2 u l)=true:=by
 obtain ⟨u1,u2⟩:=iQ hu
 have hm:∀ s ∈ u ++ [l],bK s=true:=by
  intro s hs
  rcases List.mem_append.1 hs with hs | hs
  ·
   exact u2 s hs
  ·
   simp only [List.mem_singleton] at hs;subst hs;exact hl
 unfold aM2
 split
 ·
  exact hu
 ·
  split
  ·
   unfold fA
   simp only [Bool.and_eq_true,decide_eq_true_eq,List.all_eq_true]
   exact ⟨fun s hs=>hm s (List.mem_of_mem_drop hs),by simp;omega⟩
  ·
   unfold fA
   simp only [Bool.and_eq_true,decide_eq_true_eq,List.all_eq_true]
   exact ⟨hm,by simp;omega⟩
theorem aSe {line l:List Int×Int} {undo:List (List Int×Int)} {last nl:Int} (hu:fA undo=true) (hl:bK line=true):fA (aPi line l undo last nl)=true:=by
 unfold aPi
 split
 ·
  exact aSh hu hl
 ·
  exact hu
theorem aB5 {mode:Int} {l:List Int×Int} (h:bK l=true):0≤mM mode l∧mM mode l≤(l.1.length:Int):=by
 obtain ⟨a,b,_⟩:=bG h
 unfold mM
 split <;> omega
theorem aSx {mode:Int} {l:List Int×Int} (h:bK l=true):bK (l.1,mM mode l)=true:=vU (mB h) (aB5 h).1 (aB5 h).2
section
variable (vi:Bool) (mode:Int) (line:List Int×Int) (count op opc wait fr fh last:Int) (ring:List (List Int)) (undo:List (List Int×Int)) (nav:Int) (own:List Int×Int) (query:List Int) (hit:Int) (back:List Int×Int)
  (hv:cG (vi,mode,line,count,op,opc,wait,fr,fh,last,ring,undo,nav,own,query,hit,back)=true)
include hv
theorem aE8 (l:List Int×Int) (hl:bK l=true):vT vi mode (l.1,mM mode l) 0 0 0=true:=by
 obtain ⟨h1,h2,h3,h4,h5,h6,h7,h8,h9,h10,h11,h12,h13,h14,h15,h16⟩:=iH hv
 obtain ⟨p0,p1,p2⟩:=bG hl
 unfold vT at h6 ⊢
 simp only [Bool.and_eq_true,decide_eq_true_eq] at h6 ⊢
 obtain ⟨⟨⟨a1,a2,a3,a4,a5,a6,a7,a8⟩,_⟩,_⟩:=h6
 refine ⟨⟨⟨a1,a2,a3,a4,a5,fun hm=>?_,by simp,by simp⟩,by decide⟩,by decide⟩
 unfold aAk mM
 by_cases c:mode=2∧l.2=(l.1.length:Int)∧0<l.2
 ·
  rw [if_pos c]
  have:¬ (l.2 - 1=(l.1.length:Int)):=by omega
  simp [this]
 ·
  rw [if_neg c]
  by_cases e:l.2=(l.1.length:Int)
  ·
   have:¬ 0<(l.1.length:Int):=by
    intro hp;exact c ⟨hm,e,by omega⟩
   rw [decide_eq_false this];rfl
  ·
   rw [decide_eq_false e];simp
theorem aQd:mM mode line=line.2:=by
 obtain ⟨h1,h2,h3,h4,h5,h6,h7,h8,h9,h10,h11,h12,h13,h14,h15,h16⟩:=iH hv
 obtain ⟨p0,p1,p2⟩:=bG h1
 unfold vT at h6
 simp only [Bool.and_eq_true,decide_eq_true_eq] at h6
 obtain ⟨⟨⟨a1,a2,a3,a4,a5,a6,a7,a8⟩,_⟩,_⟩:=h6
 unfold mM
 split
 ·
  rename_i c
  have:=a6 c.1
  unfold aAk at this
  have e1:0<(line.1.length:Int):=by omega
  rw [decide_eq_true e1,decide_eq_true c.2.1] at this
  cases this
 ·
  rfl
theorem aJy (nl:Int) (hn:0≤nl∧nl≤3):cG (oQ nl (vi,mode,line,count,op,opc,wait,fr,fh,last,ring,undo,nav,own,query,hit,back))=true:=by
 obtain ⟨h1,h2,h3,h4,h5,h6,h7,h8,h9,h10,h11,h12,h13,h14,h15,h16⟩:=iH hv
 have:=aE8 vi mode line count op opc wait fr fh last ring undo nav own query hit back hv line h1
 rw [aQd vi mode line count op opc wait fr fh last ring undo nav own query hit back hv] at this
 exact aFo ⟨h1,h2,h3,by omega,by omega,this,h7,hn,h9,h10,h11,h12,h13,h14,h15,h16⟩
theorem aSf (l:List Int×Int) (hl:bK l=true) (nl:Int) (hn:0≤nl∧nl≤3):cG (xN l nl (vi,mode,line,count,op,opc,wait,fr,fh,last,ring,undo,nav,own,query,hit,back))=true:=by
 obtain ⟨h1,h2,h3,h4,h5,h6,h7,h8,h9,h10,h11,h12,h13,h14,h15,h16⟩:=iH hv
 exact aFo ⟨aSx hl,h2,h3,by omega,by omega,aE8 vi mode line count op opc wait fr fh last ring undo nav own query hit back hv l hl,h7,hn,h9,aSe h10 h1,h11,h12,h13,h14,h15,h16⟩
theorem aQu (r:List (List Int)) (hr:dT r=true):cG (aN7 r (vi,mode,line,count,op,opc,wait,fr,fh,last,ring,undo,nav,own,query,hit,back))=true:=by
 obtain ⟨h1,h2,h3,h4,h5,h6,h7,h8,h9,h10,h11,h12,h13,h14,h15,h16⟩:=iH hv
 exact aFo ⟨h1,h2,h3,h4,h5,h6,h7,h8,hr,h10,h11,h12,h13,h14,h15,h16⟩
theorem aOp:cH (vi,mode,line,count,op,opc,wait,fr,fh,last,ring,undo,nav,own,query,hit,back)=some (vi,mode,line,count,op,opc,wait,fr,fh,last,ring,undo,nav,own,query,hit,back):=by
 obtain ⟨h1,⟨h2,h3⟩,⟨h4,h5⟩,h6,h7,h8⟩:=cR (M:=1048576) (by omega) (tD hv)
 exact aFq vi mode line count op opc wait fr fh last ring undo nav own query hit back h1 h2 h3 h4 h5 h6 h7 h8
theorem aOq:fX (vi,mode,line,count,op,opc,wait,fr,fh,last,ring,undo,nav,own,query,hit,back)=some (vi,mode,line,count,op,opc,wait,fr,fh,last,ring,undo,nav,own,query,hit,back):=by
 obtain ⟨h1,⟨h2,h3⟩,⟨h4,h5⟩,h6,h7,h8⟩:=cR (M:=1048576) (by omega) (tD hv)
 exact aLu vi mode line count op opc wait fr fh last ring undo nav own query hit back h1 h2 h3 h4 h5 h6 h7 h8
theorem zK (nl:Int):eA (vi,mode,line,count,op,opc,wait,fr,fh,last,ring,undo,nav,own,query,hit,back) nl=some (oQ nl (vi,mode,line,count,op,opc,wait,fr,fh,last,ring,undo,nav,own,query,hit,back)):=by
 unfold eA
 rw [aO (aOq vi mode line count op opc wait fr fh last ring undo nav own query hit back hv)]
 rfl
theorem aT4:eC (vi,mode,line,count,op,opc,wait,fr,fh,last,ring,undo,nav,own,query,hit,back)=some (oQ 0 (vi,mode,line,count,op,opc,wait,fr,fh,last,ring,undo,nav,own,query,hit,back),1):=by
 unfold eC
 rw [aO (zK vi mode line count op opc wait fr fh last ring undo nav own query hit back hv 0)]
theorem aT3:dG (vi,mode,line,count,op,opc,wait,fr,fh,last,ring,undo,nav,own,query,hit,back)=some (oQ 0 (vi,mode,line,count,op,opc,wait,fr,fh,last,ring,undo,nav,own,query,hit,back),1):=by
 unfold dG eQ
 rw [aO (aOp vi mode line count op opc wait fr fh last ring undo nav own query hit back hv)]
 rfl
theorem aS4 (l:List Int×Int) (hl:bK l=true) (nl:Int):sQ (vi,mode,line,count,op,opc,wait,fr,fh,last,ring,undo,nav,own,query,hit,back) l nl=some (xN l nl (vi,mode,line,count,op,opc,wait,fr,fh,last,ring,undo,nav,own,query,hit,back)):=by
 obtain ⟨h1,h2,h3,h4,h5,h6,h7,h8,h9,h10,h11,h12,h13,h14,h15,h16⟩:=iH hv
 obtain ⟨p0,p1,p2⟩:=bG hl
 obtain ⟨q0,q1,q2⟩:=bG h1
 obtain ⟨u1,u2⟩:=iQ h10
 unfold sQ
 rw [aO (zK vi mode line count op opc wait fr fh last ring undo nav own query hit back hv nl)]
 simp only [aG,aU,oQ,xN]
 rw [aMo _ _ (by omega),gZ (l.1,l.2) (by simp only;omega)]
 rw [aO3 undo line h10 h1 (by omega) (fun s h=>by have:=(bG (u2 s h)).2.2;omega) (by omega)]
 have hS:∀ (X Y:Option EdT),(bif (bif (!(decide (l.1=line.1))) then (!(bif (decide (nl=1)) then (decide (last=1)) else false)) else false) then X else Y)=if line.1≠l.1∧¬ (nl=1∧last=1) then X else Y:=by
  intro X Y
  by_cases a:line.1=l.1
  ·
   by_cases b:nl=1 <;> by_cases c:last=1 <;> simp [a,b,c]
  ·
   have a':¬ l.1=line.1:=fun h=>a h.symm
   by_cases b:nl=1 <;> by_cases c:last=1 <;> simp [a,a',b,c]
 have hc:=yN (l.1,l.2) mode (by simp only;omega)
 simp only [hS,hc]
 unfold aPi
 by_cases hq:line.1≠l.1∧¬ (nl=1∧last=1)
 ·
  simp only [if_pos hq]
 ·
  simp only [if_neg hq]
theorem aSs (l:List Int×Int) (hl:bK l=true) (nl:Int) (hn:0≤nl∧nl≤3):sY (vi,mode,line,count,op,opc,wait,fr,fh,last,ring,undo,nav,own,query,hit,back) l nl=some (xN l nl (vi,mode,line,count,op,opc,wait,fr,fh,last,ring,undo,nav,own,query,hit,back),true):=by
 obtain ⟨p0,p1,p2⟩:=bG hl
 rw [aOl vi mode line count op opc wait fr fh last ring undo nav own query hit back (cR (by omega) (tD hv)) l (by omega) nl (by omega),hv,hl,decide_eq_true hn]
 rfl
theorem aK4 (l:List Int×Int) (hl:bK l=true) (nl:Int) (hn:0≤nl∧nl≤3):dX (vi,mode,line,count,op,opc,wait,fr,fh,last,ring,undo,nav,own,query,hit,back) l true nl=some (xN l nl (vi,mode,line,count,op,opc,wait,fr,fh,last,ring,undo,nav,own,query,hit,back),0):=by
 unfold dX
 rw [aO (aSs vi mode line count op opc wait fr fh last ring undo nav own query hit back hv l hl nl hn)]
 rfl
theorem aT6 (l:List Int×Int) (hl:bK l=true):fY (vi,mode,line,count,op,opc,wait,fr,fh,last,ring,undo,nav,own,query,hit,back) l=some (xN l 0 (vi,mode,line,count,op,opc,wait,fr,fh,last,ring,undo,nav,own,query,hit,back),0):=by
 unfold fY
 rw [aO (aS4 vi mode line count op opc wait fr fh last ring undo nav own query hit back hv l hl 0)]
theorem go_s (a:Int):eF (vi,mode,line,count,op,opc,wait,fr,fh,last,ring,undo,nav,own,query,hit,back) a=some (xN (goL line a) 0 (vi,mode,line,count,op,opc,wait,fr,fh,last,ring,undo,nav,own,query,hit,back),0):=by
 obtain ⟨h1,_⟩:=iH hv
 unfold eF
 rw [aO (aQ6 line a h1)]
 simp only
 rw [aO (aK4 vi mode line count op opc wait fr fh last ring undo nav own query hit back hv (goL line a) (aCu h1 a) 0 (by omega))]
end
theorem aEc (xs:List (List UInt8)) (hx:xs.length≤maxLen) (hs:∀ s ∈ xs,s.length≤maxLen):∀ (m:Nat) (left k:Int),0≤left→left≤1048576→0≤k→k≤(xs.length:Int)→(xs.length:Int) - k<m→0<m →
  ∃ v,bC (iM xs fun x18=>some x18) m (left,k)=some v∧(v = -1∨(0≤v∧v≤left∧∀ s ∈ xs.drop k.toNat,(s.length:Int)≤left)):=by
 have hM':maxLen≤9223372036854775807:=by decide
 intro m
 induction m with
 | zero=>intro left k _ _ _ _ _ h;omega
 | succ m ih=>
  intro left k h0 h1 hk hk' hm _
  simp only [bC,iM,aN,Bool.cond_decide]
  by_cases h2:k<(xs.length:Int)
  ·
   rw [if_pos h2,if_pos ⟨hk,h2⟩]
   have hb:=hs (at' xs k) (List.mem_of_getElem? (bD ⟨hk,h2⟩))
   rw [bP (x:=left - ((at' xs k).length:Int)) (by omega) (by omega),bP (x:=k+1) (by omega) (by omega)]
   by_cases h3:left - ((at' xs k).length:Int)<0
   ·
    rw [if_pos h3];exact ⟨-1,rfl,.inl rfl⟩
   ·
    rw [if_neg h3]
    obtain ⟨v,e,hv⟩:=ih (left - ((at' xs k).length:Int)) (k+1) (by omega) (by omega) (by omega) (by omega) (by omega) (by omega)
    refine ⟨v,e,?_⟩
    rcases hv with hv | ⟨g1,g2,g3⟩
    ·
     exact .inl hv
    ·
     refine .inr ⟨g1,by omega,?_⟩
     rw [dI hk h2]
     intro s hs'
     rcases List.mem_cons.1 hs' with rfl | hs'
     ·
      omega
     ·
      have:=g3 s hs';omega
  ·
   rw [if_neg h2]
   exact ⟨left,rfl,.inr ⟨h0,Int.le_refl _,by rw [List.drop_eq_nil_of_le (by omega)];simp⟩⟩
theorem aH7 (xs:List (List UInt8)) (hx:xs.length≤maxLen) (hs:∀ s ∈ xs,s.length≤maxLen) (left:Int) (h0:0≤left) (h1:left≤1048576) :
  ∃ v,nD xs left=some v∧(v = -1∨(0≤v∧v≤left∧(xs.length:Int)≤left∧∀ s ∈ xs,(s.length:Int)≤left)):=by
 have hM':maxLen≤9223372036854775807:=by decide
 unfold nD
 simp only [Bool.cond_decide,aU]
 rw [bP (x:=left - (xs.length:Int)) (by omega) (by omega)]
 by_cases h:left - (xs.length:Int)<0
 ·
  rw [if_pos h];exact ⟨-1,rfl,.inl rfl⟩
 ·
  rw [if_neg h]
  obtain ⟨v,e,hv⟩:=aEc xs hx hs bM (left - (xs.length:Int)) 0 (by omega) (by omega) (by omega) (by omega) (by rw [bO];omega) (by rw [bO];omega)
  refine ⟨v,e,?_⟩
  rcases hv with hv | ⟨g1,g2,g3⟩
  ·
   exact .inl hv
  ·
   refine .inr ⟨g1,by omega,by omega,fun s hs'=>?_⟩
   have:=g3 s (by simpa using hs')
   omega
theorem aEa (xs:List (List UInt8)) (hl:(xs.length:Int)≤100000000) (j:List (List UInt8)→Option (List (List UInt8))):∀ (m:Nat) (ys:List (List UInt8)) (k:Int),0≤k→k≤(xs.length:Int)→ys.length=xs.length→(∀ i:Nat,(i:Int)<k→ys[i]?=xs[i]?)→(xs.length:Int) - k<m→0<m →
  bC (iL xs j) m (ys,k)=j xs:=by
 intro m
 induction m with
 | zero=>intro ys k _ _ _ _ h h';omega
 | succ m ih=>
  intro ys k hk hk' hy hyx hm _
  simp only [bC,iL,aN,Bool.cond_decide]
  by_cases h1:k<(xs.length:Int)
  ·
   have h2:k<(ys.length:Int):=by omega
   simp only [h1,h2,hk,if_true,and_self]
   rw [bP (by omega) (by omega)]
   refine ih _ _ (by omega) (by omega) (by simpa using hy) (fun i hi=>?_) (by omega) (by omega)
   rw [List.getElem?_set]
   by_cases he:k.toNat=i
   ·
    subst he
    rw [if_pos rfl,if_pos (by omega),bD ⟨hk,h1⟩]
   ·
    rw [if_neg he]
    exact hyx i (by omega)
  ·
   simp only [h1,if_false]
   congr 1
   apply List.ext_getElem?
   intro i
   by_cases hi:(i:Int)<k
   ·
    exact hyx i hi
   ·
    rw [List.getElem?_eq_none (by omega),List.getElem?_eq_none (by omega)]
theorem aH4 (xs:List (List UInt8)) (hl:(xs.length:Int)≤100000000):nB xs=some xs:=by
 unfold nB aN
 rw [if_pos (by omega)]
 exact aEa xs hl _ bM _ 0 (by omega) (by omega) (by simp) (fun i hi=>by omega) (by rw [bO];omega) (by rw [bO];omega)
theorem aFn (xs:List (List UInt8)) (hl:(xs.length:Int)≤100000000) (j:Unit→Option Bool):∀ (m:Nat) (k:Int),0≤k→k≤(xs.length:Int)→(xs.length:Int) - k<m→0<m→bC (iO xs xs j) m k=j ():=by
 intro m
 induction m with
 | zero=>intro k _ _ h h';omega
 | succ m ih=>
  intro k hk hk' hm _
  simp only [bC,iO,aN,Bool.cond_decide]
  by_cases h1:k<(xs.length:Int)
  ·
   simp only [h1,hk,if_true,and_self,decide_true,Bool.not_true,cond_false]
   rw [bP (by omega) (by omega)]
   exact ih _ (by omega) (by omega) (by omega) (by omega)
  ·
   simp only [h1,if_false]
theorem aFm (xs:List (List UInt8)) (hl:(xs.length:Int)≤100000000):nE xs xs=some true:=by
 unfold nE
 simp only [decide_true,Bool.not_true,cond_false]
 exact aFn xs hl _ bM 0 (by omega) (by omega) (by rw [bO];omega) (by rw [bO];omega)
def hOk (h:Int×List (List UInt8)):Bool:=decide (1≤h.1∧h.1≤1000000000∧(h.2.length:Int)≤60) && h.2.all fun s=>decide (1≤(s.length:Int)∧(s.length:Int)≤1000)
theorem aId (h:Int×List (List UInt8)) (hl:(h.2.length:Int)≤1048576) (b:Bool):∀ (m:Nat) (k:Int),0≤k→k≤(h.2.length:Int)→(h.2.length:Int) - k<m→0<m →
  bC (nA h fun _=>some b) m k=some (b && (h.2.drop k.toNat).all fun s=>decide (1≤(s.length:Int)∧(s.length:Int)≤1000)):=by
 intro m
 induction m with
 | zero=>intro k _ _ _ h';omega
 | succ m ih=>
  intro k hk hk' hm _
  simp only [bC,nA,aN,Bool.cond_decide]
  by_cases h1:k<(h.2.length:Int)
  ·
   rw [if_pos h1,if_pos ⟨hk,h1⟩,bP (by omega) (by omega),dI hk h1,ih _ (by omega) (by omega) (by omega) (by omega),List.all_cons]
   by_cases c1:((at' h.2 k).length:Int)<1
   ·
    have:¬ (1≤((at' h.2 k).length:Int)∧((at' h.2 k).length:Int)≤1000):=by omega
    rw [decide_eq_false this]
    simp [c1]
   ·
    by_cases c2:1000<((at' h.2 k).length:Int)
    ·
     have:¬ (1≤((at' h.2 k).length:Int)∧((at' h.2 k).length:Int)≤1000):=by omega
     rw [decide_eq_false this]
     simp [c1,c2]
    ·
     have:(1≤((at' h.2 k).length:Int)∧((at' h.2 k).length:Int)≤1000):=by omega
     rw [decide_eq_true this]
     simp [c1,c2]
  ·
   rw [if_neg h1,List.drop_eq_nil_of_le (by omega)]
   simp
theorem wR (h:Int×List (List UInt8)) (hl:(h.2.length:Int)≤1048576):lB h=some (hOk h):=by
 unfold lB
 simp only [aU]
 rw [aId h hl _ bM 0 (by omega) (by omega) (by rw [bO];omega) (by rw [bO];omega)]
 unfold hOk
 simp only [Int.toNat_zero,List.drop_zero]
 congr 2
 by_cases c1:1≤h.1 <;> by_cases c2:h.1≤1000000000 <;> by_cases c3:(h.2.length:Int)≤60 <;> simp [c1,c2,c3]
theorem aI2 (h:Int×List (List UInt8)) (hl:(h.2.length:Int)≤1048576):∀ (m:Nat) (k:Int),0≤k→k≤(h.2.length:Int)→(h.2.length:Int) - k<m→0<m →
  bC (nL h fun _=>some true) m k=some ((h.2.drop k.toNat).all fun s=>decide (1≤(s.length:Int)∧(s.length:Int)≤1000)):=by
 intro m
 induction m with
 | zero=>intro k _ _ _ h';omega
 | succ m ih=>
  intro k hk hk' hm _
  simp only [bC,nL,aN,Bool.cond_decide,cT,aG]
  by_cases h1:k<(h.2.length:Int)
  ·
   rw [if_pos h1,if_pos ⟨hk,h1⟩,bP (by omega) (by omega),dI hk h1,ih _ (by omega) (by omega) (by omega) (by omega),List.all_cons]
   by_cases c1:1≤((at' h.2 k).length:Int) <;> by_cases c2:((at' h.2 k).length:Int)≤1000 <;> simp only [c1,c2,and_self,and_true,and_false,false_and,true_and,decide_true,decide_false,if_true,if_false,Bool.not_true,Bool.not_false,cond_true,cond_false,Bool.true_and,Bool.false_and]
  ·
   rw [if_neg h1,List.drop_eq_nil_of_le (by omega)]
   simp
theorem aAz (h:Int×List (List UInt8)) (hl:(h.2.length:Int)≤1048576):oD h=some (hOk h):=by
 unfold oD cT
 simp only [aU,aG,Bool.cond_decide]
 rw [aI2 h hl bM 0 (by omega) (by omega) (by rw [bO];omega) (by rw [bO];omega)]
 unfold hOk
 simp only [Int.toNat_zero,List.drop_zero]
 by_cases c1:1≤h.1 <;> by_cases c2:h.1≤1000000000 <;> by_cases c3:(h.2.length:Int)≤60
 all_goals first
  | (have c4:¬ (60<(h.2.length:Int)):=by omega);simp [c1,c2,c3,c4]
  | (have c4:60<(h.2.length:Int):=by omega);simp [c1,c2,c3,c4]
theorem aFh {h:Int×List (List UInt8)} (hh:hOk h=true):1≤h.1∧h.1≤1000000000∧(h.2.length:Int)≤60∧∀ s ∈ h.2,1≤(s.length:Int)∧(s.length:Int)≤1000:=by
 unfold hOk at hh
 simp only [Bool.and_eq_true,decide_eq_true_eq,List.all_eq_true] at hh
 exact ⟨hh.1.1,hh.1.2.1,hh.1.2.2,hh.2⟩
def eH (h:Int×List (List UInt8)):Int:=if hOk h=true∧0<h.2.length then h.1+h.2.length - 1 else 0
theorem aDf (h:Int×List (List UInt8)) (hl:(h.2.length:Int)≤1048576):pH h=some (eH h)∧qD h=some (eH h):=by
 unfold pH qD
 rw [aO (wR h hl),aO (aAz h hl)]
 unfold eH
 cases hh:hOk h with
 | false=>simp
 | true=>
  obtain ⟨h1,h2,h3,_⟩:=aFh hh
  simp only [Bool.cond_decide,Bool.not_true,cond_false]
  rw [bP (x:=h.1+(h.2.length:Int)) (by omega) (by omega),bP (by omega) (by omega)]
  by_cases h0:(h.2.length:Int)=0
  ·
   have:¬ (0<h.2.length):=by omega
   simp [h0,this]
  ·
   have:0<h.2.length:=by omega
   simp only [h0,this,if_false,and_self,if_true]
def aAa (h:Int×List (List UInt8)) (n:Int):List UInt8×Bool:=if hOk h=true∧h.1≤n∧n<h.1+h.2.length then (at' h.2 (n - h.1),true) else ([],false)
theorem xC (h:Int×List (List UInt8)) (hl:(h.2.length:Int)≤1048576) (n:Int) (hn:-9223372036854775808≤n∧n≤9223372036854775807):lC h n=some (aAa h n)∧lV h n=some (aAa h n):=by
 unfold lC lV
 rw [aO (wR h hl),aO (aAz h hl)]
 unfold aAa
 cases hh:hOk h with
 | false=>simp [bU,aG]
 | true=>
  obtain ⟨h1,h2,h3,_⟩:=aFh hh
  simp only [Bool.cond_decide,Bool.not_true,cond_false,bU,if_true,cT,aG,aN,true_and]
  rw [bP (x:=h.1+(h.2.length:Int)) (by omega) (by omega),bP (x:=h.1+(h.2.length:Int) - 1) (by omega) (by omega)]
  by_cases c1:h.1≤n
  ·
   rw [bP (x:=n - h.1) (by omega) (by omega)]
   by_cases c2:n<h.1+h.2.length
   ·
    have d1:¬ (n<h.1):=by omega
    have d2:¬ ((h.2.length:Int)≤n - h.1):=by omega
    have d3:n≤h.1+(h.2.length:Int) - 1:=by omega
    have d4:0≤n - h.1∧n - h.1<(h.2.length:Int):=by omega
    simp [c1,c2,d1,d2,d3,d4]
   ·
    have d1:¬ (n<h.1):=by omega
    have d2:((h.2.length:Int)≤n - h.1):=by omega
    have d3:¬ (n≤h.1+(h.2.length:Int) - 1):=by omega
    simp [c1,c2,d1,d2,d3]
  ·
   have d1:n<h.1:=by omega
   simp [c1,d1]
def aB0 (r:Int):List Int:=
 if ¬ (0≤r∧r≤1114111∧(r<55296∨57343<r)) then [] else
 if r<128 then [r] else if r<2048 then [192+r / 64,128+r % 64]
 else if r<65536 then [224+r / 4096,128+r / 64 % 64,128+r % 64]
 else [240+r / 262144,128+r / 4096 % 64,128+r / 64 % 64,128+r % 64]
def enc (r:Int):List UInt8:=(aB0 r).map u8
theorem td {a b:Int} (h:0≤a):Int.tdiv a b=a / b:=Int.tdiv_eq_ediv_of_nonneg h
theorem tm {a b:Int} (h:0≤a):Int.tmod a b=a % b:=Int.tmod_eq_emod_of_nonneg h
theorem aQh {x:Int} (h:0≤x) (h2:x<256):((u8 x).toNat:Int)=x:=by
  simp [u8];omega
theorem aR7 (x:UInt8):u8 (x.toNat:Int)=x:=by
 have:x.toNat<256:=x.toNat_lt
 apply UInt8.toNat_inj.1
 have:=aQh (x:=(x.toNat:Int)) (by omega) (by omega)
 omega
theorem aQ3:∀ (l:List Int) (bs:List UInt8),(∀ x ∈ l,0≤x∧x<256)→(l.map u8=bs ↔ l=bs.map (fun b=>(b.toNat:Int)))
 | [],[],_=>by simp
 | [],b :: bs,_=>by simp
 | x :: l,[],_=>by simp
 | x :: l,b :: bs,h=>by
  have hx:=h x (by simp)
  have ih:=aQ3 l bs (fun y hy=>h y (by simp [hy]))
  simp only [List.map_cons,List.cons.injEq,ih]
  constructor
  ·
   rintro ⟨h1,h2⟩
   refine ⟨?_,h2⟩
   rw [← h1,aQh hx.1 hx.2]
  ·
   rintro ⟨h1,h2⟩
   refine ⟨?_,h2⟩
   rw [h1,aR7]
theorem aNn (r:Int):∀ x ∈ aB0 r,0≤x∧x<256:=by
 intro x
 unfold aB0
 split
 ·
  simp
 ·
  split
  ·
   simp;omega
  ·
   split
   ·
    simp;omega
   ·
    split
    ·
     simp;omega
    ·
     simp;omega
theorem aD1 (r:Int) (bs:List UInt8):enc r=bs ↔ aB0 r=bs.map (fun b=>(b.toNat:Int)):=aQ3 _ _ (aNn r)
def r2 (x y:Int):Int:=(x - 192)*64+y - 128
def r3 (x y z:Int):Int:=((x - 224)*64+y - 128)*64+z - 128
def r4 (x y z v:Int):Int:=(((x - 240)*64+y - 128)*64+z - 128)*64+v - 128
theorem aOi {x:Int} (h:0≤x) (h2:x<256):aB0 x=[x] ↔ x<128:=by
 unfold aB0
 split
 ·
  simp;omega
 ·
  split
  ·
   simp;omega
  ·
   split
   ·
    simp;omega
   ·
    omega
def E2 (x y:Int):Prop:=194≤x∧x≤223∧128≤y∧y≤191
instance (x y:Int):Decidable (E2 x y):=by unfold E2;infer_instance
def E3 (x y z:Int):Prop:=(224≤x∧x≤239∧128≤y∧y≤191∧128≤z∧z≤191)∧2048≤r3 x y z∧(r3 x y z<55296∨57343<r3 x y z)
instance (x y z:Int):Decidable (E3 x y z):=by unfold E3;infer_instance
def E4 (x y z v:Int):Prop:=(240≤x∧x≤247∧128≤y∧y≤191∧128≤z∧z≤191∧128≤v∧v≤191)∧65536≤r4 x y z v∧r4 x y z v≤1114111
instance (x y z v:Int):Decidable (E4 x y z v):=by unfold E4;infer_instance
theorem aOh {x y:Int} (h:0≤x∧x<256∧0≤y∧y<256):aB0 (r2 x y)=[x,y] ↔ E2 x y:=by
 unfold E2
 generalize hr:r2 x y=r
 unfold r2 at hr
 unfold aB0
 split
 ·
  simp;omega
 ·
  split
  ·
   simp;omega
  ·
   split
   ·
    simp only [List.cons.injEq,and_true];omega
   ·
    split <;> (simp;try omega)
theorem aRh {x y z:Int} (h:0≤x∧x<256∧0≤y∧y<256∧0≤z∧z<256):aB0 (r3 x y z)=[x,y,z] ↔ E3 x y z:=by
 unfold E3
 generalize hr:r3 x y z=r
 unfold r3 at hr
 unfold aB0
 split
 ·
  simp;omega
 ·
  split
  ·
   simp;omega
  ·
   split
   ·
    simp;omega
   ·
    split
    ·
     simp only [List.cons.injEq,and_true];omega
    ·
     simp;omega
theorem aTc {x y z v:Int} (h:0≤x∧x<256∧0≤y∧y<256∧0≤z∧z<256∧0≤v∧v<256):aB0 (r4 x y z v)=[x,y,z,v] ↔ E4 x y z v:=by
 unfold E4
 generalize hr:r4 x y z v=r
 unfold r4 at hr
 unfold aB0
 split
 ·
  simp;omega
 ·
  split
  ·
   simp;omega
  ·
   split
   ·
    simp;omega
   ·
    split
    ·
     simp;omega
    ·
     simp only [List.cons.injEq,and_true];omega
def bi (s:List UInt8) (i:Int):Int:=((at' s i).toNat:Int)
def rd (s:List UInt8):Int×Int:=
 if s.length<1 then (0,0) else
 if bi s 0<128 then (bi s 0,1) else
 if s.length<2 then (0,0) else
 if E2 (bi s 0) (bi s 1) then (r2 (bi s 0) (bi s 1),2) else
 if s.length<3 then (0,0) else
 if E3 (bi s 0) (bi s 1) (bi s 2) then (r3 (bi s 0) (bi s 1) (bi s 2),3) else
 if s.length<4 then (0,0) else
 if E4 (bi s 0) (bi s 1) (bi s 2) (bi s 3) then (r4 (bi s 0) (bi s 1) (bi s 2) (bi s 3),4) else (0,0)
theorem xF {α:Type} [Inhabited α] {b:List α} {a:Int} (h0:0≤a) (i:Int) (hi:0≤i):at' b (a+i)=at' (b.drop a.toNat) i:=by
 unfold at'
 have:(a+i).toNat=a.toNat+i.toNat:=by omega
 rw [this]
 simp [List.getD_eq_getElem?_getD,List.getElem?_drop]
theorem aL0 {α:Type} [Inhabited α] {b:List α} {a:Int} (h0:0≤a):at' b a=at' (b.drop a.toNat) 0:=by
 have:=xF (b:=b) h0 0 (by omega)
 simpa using this
theorem tA {α:Type} {b:List α} {a n:Int} (h0:0≤a) (hn:0≤n):bN b a (a+n)=(b.drop a.toNat).take n.toNat:=by
 unfold bN
 congr 1
 omega
theorem eI (x:UInt8):0≤(x.toNat:Int)∧(x.toNat:Int)<256:=by
 have:x.toNat<256:=x.toNat_lt
 omega
theorem rd_1 (x:UInt8):rd [x]=if (x.toNat:Int)<128 then ((x.toNat:Int),1) else (0,0):=by
  simp [rd,bi,at']
theorem rd_2 (x y:UInt8):rd [x,y]=if (x.toNat:Int)<128 then ((x.toNat:Int),1) else if E2 x.toNat y.toNat then (r2 x.toNat y.toNat,2) else (0,0):=by
  simp [rd,bi,at']
theorem rd_3 (x y z:UInt8):rd [x,y,z]=if (x.toNat:Int)<128 then ((x.toNat:Int),1) else if E2 x.toNat y.toNat then (r2 x.toNat y.toNat,2) else if E3 x.toNat y.toNat z.toNat then (r3 x.toNat y.toNat z.toNat,3) else (0,0):=by
  simp [rd,bi,at']
theorem rd_4 (x y z v:UInt8) (t:List UInt8):rd (x :: y :: z :: v :: t)=if (x.toNat:Int)<128 then ((x.toNat:Int),1) else if E2 x.toNat y.toNat then (r2 x.toNat y.toNat,2) else if E3 x.toNat y.toNat z.toNat then (r3 x.toNat y.toNat z.toNat,3) else if E4 x.toNat y.toNat z.toNat v.toNat then (r4 x.toNat y.toNat z.toNat v.toNat,4) else (0,0):=by
 have l1:¬ (t.length+1+1+1+1<1):=by omega
 have l2:¬ (t.length+1+1+1+1<2):=by omega
 have l3:¬ (t.length+1+1+1+1<3):=by omega
 have l4:¬ (t.length+1+1+1+1<4):=by omega
 simp [rd,bi,at',l1,l2,l3,l4]
theorem aQq (r:Int):kY r=some (decide (0≤r∧r≤1114111∧(r<55296∨57343<r))):=by
 unfold kY
 congr 1
 by_cases h1:0≤r <;> by_cases h2:r≤1114111 <;> by_cases h3:r<55296 <;> simp [h1,h2,h3]
theorem aJ6 (r:Int):mY r=some (enc r):=by
 unfold mY enc aB0
 rw [aO (aQq r)]
 by_cases h:0≤r∧r≤1114111∧(r<55296∨57343<r)
 ·
  have h0:=h.1
  have h00:0≤r / 64:=by omega
  have h01:0≤r / 4096:=by omega
  simp only [h,decide_true,Bool.not_true,cond_false,not_true,if_false,Bool.cond_decide,td h0,tm h0]
  rw [bP (x:=r / 64) (by omega) (by omega),bP (x:=r / 4096) (by omega) (by omega),bP (x:=r / 262144) (by omega) (by omega),tm h00,tm h01]
  rw [bP (x:=192+r / 64) (by omega) (by omega),bP (x:=128+r % 64) (by omega) (by omega),bP (x:=224+r / 4096) (by omega) (by omega),bP (x:=128+r / 64 % 64) (by omega) (by omega),bP (x:=240+r / 262144) (by omega) (by omega),bP (x:=128+r / 4096 % 64) (by omega) (by omega)]
  split
  ·
   rfl
  ·
   split
   ·
    rfl
   ·
    split <;> rfl
 ·
  simp only [h,decide_false,Bool.not_false,cond_true,not_false_eq_true,if_true,List.map_nil]
section
variable {b:List UInt8} {a:Int} (h0:0≤a) (hl:(b.length:Int)≤100000000)
include h0 hl
theorem qS (n:Int) (hn:1≤n) (hn4:n≤4) (han:a+n≤(b.length:Int)) (j:Int→Option (Int×Int)) (m:Nat):∀ (r i:Int),1≤i→i≤n→(-100000000≤r∧r≤100000000) →
  bC (dZ b a n j) (m+1) (r,i)=if i<n then bC (dZ b a n j) m (r*64+((at' b (a+i)).toNat:Int) - 128,i+1) else j r:=by
 intro r i hi hin hr
 simp only [bC,dZ,aN,Bool.cond_decide]
 by_cases h:i<n
 ·
  have hb:=eI (at' b (a+i))
  rw [if_pos h,if_pos h]
  rw [bP (x:=a+i) (by omega) (by omega),if_pos (by omega),bP (x:=r*64) (by omega) (by omega),bP (x:=r*64+_) (by omega) (by omega),bP (x:=r*64+_ - 128) (by omega) (by omega),bP (x:=i+1) (by omega) (by omega)]
 ·
  rw [if_neg h,if_neg h]
def vl (b:List UInt8) (a n:Int):Int:=
 if n=1 then (at' b a).toNat
 else if n=2 then r2 (at' b a).toNat (at' b (a+1)).toNat
 else if n=3 then r3 (at' b a).toNat (at' b (a+1)).toNat (at' b (a+2)).toNat
 else r4 (at' b a).toNat (at' b (a+1)).toNat (at' b (a+2)).toNat (at' b (a+3)).toNat
theorem aTl (n:Int) (hn:1≤n) (hn4:n≤4) (han:a+n≤(b.length:Int)) (j:Int→Option (Int×Int)) :
  (if 1<n then bC (dZ b a n j) bM ((((at' b a).toNat:Int) - (at' ([0,0,192,224,240]:List Int) n)),1) else bC (dZ b a n j) bM (((at' b a).toNat:Int),1))=j (vl b a n):=by
 obtain ⟨m,hm⟩:∃ m,bM=m+1+1+1+1:=⟨bM - 4,by rw [bO]⟩
 rw [hm]
 have b0:=eI (at' b a)
 have b1:=eI (at' b (a+1))
 have b2:=eI (at' b (a+2))
 have b3:=eI (at' b (a+3))
 have b4:=eI (at' b (a+(1+1)))
 have b5:=eI (at' b (a+(1+1+1)))
 have hc:n=1∨n=2∨n=3∨n=4:=by omega
 rcases hc with rfl | rfl | rfl | rfl
 ·
  rw [if_neg (by omega),qS h0 hl _ hn hn4 han _ _ _ _ (by omega) (by omega) (by omega),if_neg (by omega)]
  rfl
 ·
  rw [if_pos (by omega)]
  have e:at' ([0,0,192,224,240]:List Int) 2=192:=rfl
  rw [e,qS h0 hl _ hn hn4 han _ _ _ _ (by omega) (by omega) (by omega),if_pos (by omega),qS h0 hl _ hn hn4 han _ _ _ _ (by omega) (by omega) (by omega),if_neg (by omega)]
  rfl
 ·
  rw [if_pos (by omega)]
  have e:at' ([0,0,192,224,240]:List Int) 3=224:=rfl
  rw [e,qS h0 hl _ hn hn4 han _ _ _ _ (by omega) (by omega) (by omega),if_pos (by omega),qS h0 hl _ hn hn4 han _ _ _ _ (by omega) (by omega) (by omega),if_pos (by omega),qS h0 hl _ hn hn4 han _ _ _ _ (by omega) (by omega) (by omega),if_neg (by omega)]
  rfl
 ·
  rw [if_pos (by omega)]
  have e:at' ([0,0,192,224,240]:List Int) 4=240:=rfl
  rw [e,qS h0 hl _ hn hn4 han _ _ _ _ (by omega) (by omega) (by omega),if_pos (by omega),qS h0 hl _ hn hn4 han _ _ _ _ (by omega) (by omega) (by omega),if_pos (by omega),qS h0 hl _ hn hn4 han _ _ _ _ (by omega) (by omega) (by omega),if_pos (by omega),qS h0 hl _ hn hn4 han _ _ _ _ (by omega) (by omega) (by omega),if_neg (by omega)]
  rfl
theorem aTk (j:Unit→Option (Int×Int)) (k:Int→Option (Int×Int)) (n:Int) (hn:1≤n) (hn5:n≤5) (ha:a<(b.length:Int)) :
  fC b a j k n=if n≤4∧n≤(b.length:Int) - a then (if enc (vl b a n)=bN b a (a+n) then some (vl b a n,n) else k (n+1)) else j ():=by
 unfold fC
 simp only [aU,aN,Bool.cond_decide,aJ6,aG]
 rw [bP (x:=(b.length:Int) - a) (by omega) (by omega),bP (x:=a+n) (by omega) (by omega),bP (x:=n+1) (by omega) (by omega)]
 by_cases hc:n≤4∧n≤(b.length:Int) - a
 ·
  have hs:((bN b a (a+n)).length:Int)=n:=by
   rw [lW (by omega)];omega
  have b0:=eI (at' b a)
  have ht:0≤at' ([0,0,192,224,240]:List Int) n∧at' ([0,0,192,224,240]:List Int) n≤240:=by
   have:n=1∨n=2∨n=3∨n=4:=by omega
   rcases this with rfl | rfl | rfl | rfl <;> decide
  rw [if_pos hc,if_pos hc.1,decide_eq_true hc.2,cond_true,if_pos ⟨h0,ha⟩,if_pos (show 0≤n∧n<(([0,0,192,224,240]:List Int).length:Int) by simp;omega),bP (x:=((at' b a).toNat:Int) - _) (by omega) (by omega)]
  rw [aTl h0 hl n hn hc.1 (by omega)]
  rw [if_pos (fun _=>by omega)]
  by_cases h:enc (vl b a n)=bN b a (a+n)
  ·
   rw [h];simp [hs]
  ·
   simp [h]
 ·
  rw [if_neg hc]
  by_cases h1:n≤4
  ·
   have:¬ n≤(b.length:Int) - a:=fun h=>hc ⟨h1,h⟩
   simp [h1,this]
  ·
   simp [h1]
theorem aMp (ha:a<(b.length:Int)):pD b a=some (rd (b.drop a.toNat)):=by
 unfold pD
 have e0:decide (a<0)=false:=by simp;omega
 have e1:decide ((b.length:Int)≤a)=false:=by simp;omega
 rw [e0,e1]
 simp only [cond_false,aU]
 obtain ⟨m,hm⟩:∃ m,bM=m+1+1+1+1+1:=⟨bM - 5,by rw [bO]⟩
 rw [hm]
 have st:∀ (m:Nat) (n:Int),1≤n→n≤5→bC (fC b a fun _=>some (0,0)) (m+1) n=if n≤4∧n≤(b.length:Int) - a then (if enc (vl b a n)=bN b a (a+n) then some (vl b a n,n) else bC (fC b a fun _=>some (0,0)) m (n+1)) else some (0,0):=by
  intro m n h1 h2
  simp only [bC]
  exact aTk h0 hl _ _ n h1 h2 ha
 rw [st _ 1 (by omega) (by omega),st _ (1+1) (by omega) (by omega),st _ (1+1+1) (by omega) (by omega),st _ (1+1+1+1) (by omega) (by omega),st _ (1+1+1+1+1) (by omega) (by omega)]
 rw [tA h0 (by omega),tA h0 (by omega),tA h0 (by omega),tA h0 (by omega)]
 unfold vl
 rw [aL0 h0,xF h0 1 (by omega),xF h0 2 (by omega),xF h0 3 (by omega)]
 have hL:(b.length:Int) - a=((b.drop a.toNat).length:Int):=by simp;omega
 rw [hL]
 have hne:0<(b.drop a.toNat).length:=by simp;omega
 generalize b.drop a.toNat=s at *
 clear st hL hm
 have ai:∀ (c:Prop) [Decidable c] (x y:Int×Int),(if c then some x else some y)=some (if c then x else y):=fun c _ x y=>by split <;> rfl
 simp only [aD1]
 rcases s with _ | ⟨x,_ | ⟨y,_ | ⟨z,_ | ⟨v,t⟩⟩⟩⟩
 ·
  simp at hne
 ·
  have b0:=eI x
  have e1:=aOi b0.1 b0.2
  simp [at',rd_1,e1,ai]
 ·
  have b0:=eI x
  have b1:=eI y
  have e1:=aOi b0.1 b0.2
  have e2:=aOh (x:=x.toNat) (y:=y.toNat) (by omega)
  simp [at',rd_2,e1,e2,ai]
 ·
  have b0:=eI x
  have b1:=eI y
  have b2:=eI z
  have e1:=aOi b0.1 b0.2
  have e2:=aOh (x:=x.toNat) (y:=y.toNat) (by omega)
  have e3:=aRh (x:=x.toNat) (y:=y.toNat) (z:=z.toNat) (by omega)
  simp [at',rd_3,e1,e2,e3,ai]
 ·
  have b0:=eI x
  have b1:=eI y
  have b2:=eI z
  have b3:=eI v
  have e1:=aOi b0.1 b0.2
  have e2:=aOh (x:=x.toNat) (y:=y.toNat) (by omega)
  have e3:=aRh (x:=x.toNat) (y:=y.toNat) (z:=z.toNat) (by omega)
  have e4:=aTc (x:=x.toNat) (y:=y.toNat) (z:=z.toNat) (v:=v.toNat) (by omega)
  have l1:(1:Int)≤((t.length:Int)+1+1+1+1):=by omega
  have l2:(2:Int)≤((t.length:Int)+1+1+1+1):=by omega
  have l3:(3:Int)≤((t.length:Int)+1+1+1+1):=by omega
  have l4:(4:Int)≤((t.length:Int)+1+1+1+1):=by omega
  simp [at',rd_4,e1,e2,e3,e4,l1,l2,l3,l4,ai]
end
theorem aQr (r:Int):lS r=some (decide (0≤r∧r≤1114111∧(r<55296∨57343<r))):=by
 unfold lS
 simp only [aFf,aG,bU]
 by_cases h1:0≤r∧r≤1114111
 ·
  rw [decide_eq_true h1]
  simp only [cond_true,if_true]
  by_cases h2:r<55296
  ·
   have:¬ (55296≤r∧r≤57343):=by omega
   simp [h1,h2,this]
  ·
   by_cases h3:57343<r
   ·
    have:¬ (55296≤r∧r≤57343):=by omega
    simp [h1,h2,h3,this]
   ·
    have:(55296≤r∧r≤57343):=by omega
    simp [h1,h2,h3,this]
 ·
  have:¬ (0≤r∧r≤1114111∧(r<55296∨57343<r)):=fun h=>h1 ⟨h.1,h.2.1⟩
  rw [decide_eq_false h1,decide_eq_false this]
  simp
theorem aJ7 (r:Int):kC r=some (enc r):=by
 unfold kC enc aB0
 rw [aO (aQr r)]
 by_cases h:0≤r∧r≤1114111∧(r<55296∨57343<r)
 ·
  have h0:=h.1
  have h00:0≤r / 64:=by omega
  have h01:0≤r / 4096:=by omega
  simp only [h,decide_true,Bool.not_true,cond_false,not_true,if_false,Bool.cond_decide,td h0,tm h0]
  rw [bP (x:=r / 64) (by omega) (by omega),bP (x:=r / 4096) (by omega) (by omega),bP (x:=r / 262144) (by omega) (by omega),tm h00,tm h01]
  rw [bP (x:=192+r / 64) (by omega) (by omega),bP (x:=128+r % 64) (by omega) (by omega),bP (x:=224+r / 4096) (by omega) (by omega),bP (x:=128+r / 64 % 64) (by omega) (by omega),bP (x:=240+r / 262144) (by omega) (by omega),bP (x:=128+r / 4096 % 64) (by omega) (by omega)]
  split
  ·
   rfl
  ·
   split
   ·
    rfl
   ·
    split <;> rfl
 ·
  simp only [h,decide_false,Bool.not_false,cond_true,not_false_eq_true,if_true,List.map_nil]
section
variable {b:List UInt8} {a:Int} (h0:0≤a) (hl:(b.length:Int)≤100000000)
include h0 hl
theorem sE (n:Int) (hn:2≤n) (hn4:n≤4) (han:a+n≤(b.length:Int)) (j:Int→Option (Int×Int)) (m:Nat):∀ (r i:Int),0≤i→i≤n - 1→(-100000000≤r∧r≤100000000) →
  bC (eB b a n j) (m+1) (r,i)=if i<n - 1 then bC (eB b a n j) m (r*64+((at' b (a+1+i)).toNat:Int) - 128,i+1) else j r:=by
 intro r i hi hin hr
 have e1:W (a+1)=a+1:=bP (by omega) (by omega)
 have e2:W (a+n)=a+n:=bP (by omega) (by omega)
 have hsl:((bN b (a+1) (a+n)).length:Int)=n - 1:=by rw [lW (by omega)];omega
 simp only [bC,eB,aN,Bool.cond_decide,e1,e2,hsl]
 by_cases h:i<n - 1
 ·
  have ea:at' (bN b (a+1) (a+n)) i=at' b (a+1+i):=by
   unfold at' bN
   have q:(a+1+i).toNat=(a+1).toNat+i.toNat:=by omega
   rw [q]
   simp only [List.getD_eq_getElem?_getD,List.getElem?_take,List.getElem?_drop]
   rw [if_pos (by omega)]
  have hb:=eI (at' b (a+1+i))
  rw [if_pos h,if_pos h,if_pos ⟨hi,h⟩,ea]
  rw [bP (x:=r*64) (by omega) (by omega),bP (x:=r*64+_) (by omega) (by omega),bP (x:=r*64+_ - 128) (by omega) (by omega),bP (x:=i+1) (by omega) (by omega)]
 ·
  rw [if_neg h,if_neg h]
theorem aTm (n v0:Int) (hn:2≤n) (hn4:n≤4) (han:a+n≤(b.length:Int)) (hv:v0=(at' b a).toNat - (if n=2 then 192 else if n=3 then 224 else 240)) (j:Int→Option (Int×Int)) :
  bC (eB b a n j) bM (v0,0)=j (vl b a n):=by
 obtain ⟨m,hm⟩:∃ m,bM=m+1+1+1+1:=⟨bM - 4,by rw [bO]⟩
 rw [hm]
 subst hv
 have b0:=eI (at' b a)
 have b1:=eI (at' b (a+1))
 have b2:=eI (at' b (a+2))
 have b3:=eI (at' b (a+3))
 have b4:=eI (at' b (a+1+0))
 have b5:=eI (at' b (a+1+1))
 have b6:=eI (at' b (a+1+2))
 have q0:a+1+0=a+1:=by omega
 have q1:a+1+1=a+2:=by omega
 have q2:a+1+2=a+3:=by omega
 have z1:(0:Int)+1=1:=rfl
 have z2:(1:Int)+1=2:=rfl
 have z3:(2:Int)+1=3:=rfl
 have hc:n=2∨n=3∨n=4:=by omega
 rcases hc with rfl | rfl | rfl
 ·
  rw [if_pos rfl,sE h0 hl _ hn hn4 han _ _ _ _ (by omega) (by omega) (by omega),if_pos (by omega),z1,sE h0 hl _ hn hn4 han _ _ _ _ (by omega) (by omega) (by omega),if_neg (by omega),q0]
  rfl
 ·
  rw [if_neg (by omega),if_pos rfl,sE h0 hl _ hn hn4 han _ _ _ _ (by omega) (by omega) (by omega),if_pos (by omega),z1,sE h0 hl _ hn hn4 han _ _ _ _ (by omega) (by omega) (by omega),if_pos (by omega),z2,sE h0 hl _ hn hn4 han _ _ _ _ (by omega) (by omega) (by omega),if_neg (by omega),q0,q1]
  rfl
 ·
  rw [if_neg (by omega),if_neg (by omega),sE h0 hl _ hn hn4 han _ _ _ _ (by omega) (by omega) (by omega),if_pos (by omega),z1,sE h0 hl _ hn hn4 han _ _ _ _ (by omega) (by omega) (by omega),if_pos (by omega),z2,sE h0 hl _ hn hn4 han _ _ _ _ (by omega) (by omega) (by omega),if_pos (by omega),z3,sE h0 hl _ hn hn4 han _ _ _ _ (by omega) (by omega) (by omega),if_neg (by omega),q0,q1,q2]
  rfl
theorem aQv (n v0:Int) (hn:2≤n) (hn4:n≤4) (ha:a<(b.length:Int)) (hv:v0=(at' b a).toNat - (if n=2 then 192 else if n=3 then 224 else 240)) :
  (bif (decide ((W ((b.length:Int) - n))<a)) then
   some ((0:Int),(0:Int))
   else
   (aN (0≤(W (a+1))∧(W (a+1))≤(W (a+n))∧(W (a+n))≤(b.length:Int)) <|
   (aU (fun (x38:Int)=>
   (aG (kC x38) fun (y42:List UInt8)=>
   (aN (0≤a∧a≤(W (a+n))∧(W (a+n))≤(b.length:Int)) <|
   (bif (!(decide (y42=(bN b a (W (a+n)))))) then
   some (0,0)
   else
   some (x38,n))))) fun j39=>
   (bC (eB b a n j39) bM (v0,0)))))=some (if a+n≤(b.length:Int)∧enc (vl b a n)=bN b a (a+n) then (vl b a n,n) else (0,0)):=by
 rw [bP (x:=(b.length:Int) - n) (by omega) (by omega),bP (x:=a+1) (by omega) (by omega),bP (x:=a+n) (by omega) (by omega)]
 by_cases c:(b.length:Int) - n<a
 ·
  rw [decide_eq_true c,if_neg (by omega)];rfl
 ·
  rw [decide_eq_false c,cond_false]
  simp only [aN,aU,aJ7,aG]
  rw [if_pos (by omega),aTm h0 hl n v0 hn hn4 (by omega) hv,if_pos (by omega)]
  by_cases h:enc (vl b a n)=bN b a (a+n)
  ·
   rw [if_pos ⟨by omega,h⟩];simp [h]
  ·
   rw [if_neg (fun q=>h q.2)];simp [h]
theorem aMq (ha:a<(b.length:Int)):qB b a=some (rd (b.drop a.toNat)):=by
 unfold qB
 have e0:decide (a<0)=false:=by simp;omega
 have e1:decide ((b.length:Int)≤a)=false:=by simp;omega
 have b0:=eI (at' b a)
 rw [e0,e1]
 simp only [cond_false,aFf]
 have g:0≤a∧a<(b.length:Int):=⟨h0,ha⟩
 rw [show ∀ k:Option (Int×Int),aN (0≤a∧a<(b.length:Int)) k=k from fun k=>if_pos g]
 have j1:∀ (f:Int×Int→Option (Int×Int)) (B:(Int×Int→Option (Int×Int))→Option (Int×Int)),aU f B=B f:=fun _ _=>rfl
 rw [j1]
 rw [bP (x:=((at' b a).toNat:Int) - 192) (by omega) (by omega),bP (x:=((at' b a).toNat:Int) - 224) (by omega) (by omega),bP (x:=((at' b a).toNat:Int) - 240) (by omega) (by omega)]
 have bS:∀ (x:Bool) (k:Bool→Option (Int×Int)),aG (some x) k=k x:=fun _ _=>rfl
 simp only [bS]
 have m2:=fun v=>aQv h0 hl 2 v (by omega) (by omega) ha
 have m3:=fun v=>aQv h0 hl 3 v (by omega) (by omega) ha
 have m4:=fun v=>aQv h0 hl 4 v (by omega) (by omega) ha
 have hL:(b.length:Int)=a+((b.drop a.toNat).length:Int):=by simp;omega
 have s2:=tA (b:=b) (n:=2) h0 (by omega)
 have s3:=tA (b:=b) (n:=3) h0 (by omega)
 have s4:=tA (b:=b) (n:=4) h0 (by omega)
 have t0:=aL0 (b:=b) h0
 have t1:=xF (b:=b) h0 1 (by omega)
 have t2:=xF (b:=b) h0 2 (by omega)
 have t3:=xF (b:=b) h0 3 (by omega)
 have v2:vl b a 2=r2 (at' b a).toNat (at' b (a+1)).toNat:=rfl
 have v3:vl b a 3=r3 (at' b a).toNat (at' b (a+1)).toNat (at' b (a+2)).toNat:=rfl
 have v4:vl b a 4=r4 (at' b a).toNat (at' b (a+1)).toNat (at' b (a+2)).toNat (at' b (a+3)).toNat:=rfl
 have hne:0<(b.drop a.toNat).length:=by simp;omega
 by_cases c0:((at' b a).toNat:Int)<128
 ·
  rw [decide_eq_true c0,cond_true]
  rw [t0] at c0 ⊢
  unfold rd bi
  rw [if_neg (show ¬ (List.drop a.toNat b).length<1 by omega),if_pos c0]
 ·
  rw [decide_eq_false c0,cond_false]
  by_cases c2:192≤((at' b a).toNat:Int)∧((at' b a).toNat:Int)≤223
  ·
   rw [decide_eq_true c2,cond_true,m2 _ (by simp),s2,v2,t1]
   rw [t0] at c0 c2 ⊢
   rw [hL]
   generalize b.drop a.toNat=s at *
   congr 1
   unfold rd bi
   rw [if_neg (show ¬ s.length<1 by omega),if_neg c0]
   by_cases l2:s.length<2
   ·
    rw [if_pos l2,if_neg (show ¬ (a+2≤a+(s.length:Int)∧_) from fun h=>by omega)]
   ·
    rw [if_neg l2]
    obtain ⟨x,y,t,rfl⟩:∃ x y t,s=x :: y :: t:=by
     rcases s with _ | ⟨x,_ | ⟨y,t⟩⟩
     ·
      simp at l2
     ·
      simp at l2
     ·
      exact ⟨x,y,t,rfl⟩
    have e:=aOh (x:=x.toNat) (y:=y.toNat) (by have:=eI x;have:=eI y;omega)
    have a0:at' (x :: y :: t) 0=x:=rfl
    have a1:at' (x :: y :: t) 1=y:=rfl
    have tk:(x :: y :: t).take (Int.toNat 2)=[x,y]:=rfl
    rw [a0] at c0 c2
    rw [tk,a0,a1]
    have ee:(a+2≤a+((x :: y :: t).length:Int)∧enc (r2 x.toNat y.toNat)=[x,y]) ↔ E2 x.toNat y.toNat:=by
     rw [aD1]
     simp only [List.map_cons,List.map_nil,e]
     exact ⟨fun h=>h.2,fun h=>⟨by simp;omega,h⟩⟩
    by_cases q:E2 x.toNat y.toNat
    ·
     rw [if_pos (ee.2 q),if_pos q]
    ·
     rw [if_neg (fun h=>q (ee.1 h)),if_neg q]
     have n3:∀ u v,¬ E3 (x.toNat:Int) u v:=fun u v h=>by unfold E3 at h;omega
     have n4:∀ u v w,¬ E4 (x.toNat:Int) u v w:=fun u v w h=>by unfold E4 at h;omega
     simp only [n3,n4,if_false,ite_self]
  ·
   rw [decide_eq_false c2,cond_false]
   by_cases c3:224≤((at' b a).toNat:Int)∧((at' b a).toNat:Int)≤239
   ·
    rw [decide_eq_true c3,cond_true,m3 _ (by simp),s3,v3,t1,t2]
    rw [t0] at c0 c2 c3 ⊢
    rw [hL]
    generalize b.drop a.toNat=s at *
    congr 1
    unfold rd bi
    have n2:∀ u,¬ E2 ((at' s 0).toNat:Int) u:=fun u h=>by unfold E2 at h;omega
    have n4:∀ u v w,¬ E4 ((at' s 0).toNat:Int) u v w:=fun u v w h=>by unfold E4 at h;omega
    rw [if_neg (show ¬ s.length<1 by omega),if_neg c0]
    simp only [n2,n4,if_false,ite_self]
    by_cases l2:s.length<3
    ·
     rw [if_pos l2,ite_self,if_neg (show ¬ (a+3≤a+(s.length:Int)∧_) from fun h=>by omega)]
    ·
     rw [if_neg l2,if_neg (show ¬ s.length<2 by omega)]
     obtain ⟨x,y,z,t,rfl⟩:∃ x y z t,s=x :: y :: z :: t:=by
      rcases s with _ | ⟨x,_ | ⟨y,_ | ⟨z,t⟩⟩⟩
      ·
       simp at l2
      ·
       simp at l2
      ·
       simp at l2
      ·
       exact ⟨x,y,z,t,rfl⟩
     have e:=aRh (x:=x.toNat) (y:=y.toNat) (z:=z.toNat) (by have:=eI x;have:=eI y;have:=eI z;omega)
     have a0:at' (x :: y :: z :: t) 0=x:=rfl
     have a1:at' (x :: y :: z :: t) 1=y:=rfl
     have a2:at' (x :: y :: z :: t) 2=z:=rfl
     have tk:(x :: y :: z :: t).take (Int.toNat 3)=[x,y,z]:=rfl
     rw [tk,a0,a1,a2]
     have ee:(a+3≤a+((x :: y :: z :: t).length:Int)∧enc (r3 x.toNat y.toNat z.toNat)=[x,y,z]) ↔ E3 x.toNat y.toNat z.toNat:=by
      rw [aD1]
      simp only [List.map_cons,List.map_nil,e]
      exact ⟨fun h=>h.2,fun h=>⟨by simp;omega,h⟩⟩
     by_cases q:E3 x.toNat y.toNat z.toNat
     ·
      rw [if_pos (ee.2 q),if_pos q]
     ·
      rw [if_neg (fun h=>q (ee.1 h)),if_neg q]
   ·
    rw [decide_eq_false c3,cond_false]
    by_cases c4:240≤((at' b a).toNat:Int)∧((at' b a).toNat:Int)≤247
    ·
     rw [decide_eq_true c4,cond_true,m4 _ (by simp),s4,v4,t1,t2,t3]
     rw [t0] at c0 c2 c3 c4 ⊢
     rw [hL]
     generalize b.drop a.toNat=s at *
     congr 1
     unfold rd bi
     have n2:∀ u,¬ E2 ((at' s 0).toNat:Int) u:=fun u h=>by unfold E2 at h;omega
     have n3:∀ u v,¬ E3 ((at' s 0).toNat:Int) u v:=fun u v h=>by unfold E3 at h;omega
     rw [if_neg (show ¬ s.length<1 by omega),if_neg c0]
     simp only [n2,n3,if_false,ite_self]
     by_cases l2:s.length<4
     ·
      rw [if_pos l2,ite_self,ite_self,if_neg (show ¬ (a+4≤a+(s.length:Int)∧_) from fun h=>by omega)]
     ·
      rw [if_neg l2,if_neg (show ¬ s.length<2 by omega),if_neg (show ¬ s.length<3 by omega)]
      obtain ⟨x,y,z,v,t,rfl⟩:∃ x y z v t,s=x :: y :: z :: v :: t:=by
       rcases s with _ | ⟨x,_ | ⟨y,_ | ⟨z,_ | ⟨v,t⟩⟩⟩⟩
       ·
        simp at l2
       ·
        simp at l2
       ·
        simp at l2
       ·
        simp at l2
       ·
        exact ⟨x,y,z,v,t,rfl⟩
      have e:=aTc (x:=x.toNat) (y:=y.toNat) (z:=z.toNat) (v:=v.toNat) (by have:=eI x;have:=eI y;have:=eI z;have:=eI v;omega)
      have a0:at' (x :: y :: z :: v :: t) 0=x:=rfl
      have a1:at' (x :: y :: z :: v :: t) 1=y:=rfl
      have a2:at' (x :: y :: z :: v :: t) 2=z:=rfl
      have a3:at' (x :: y :: z :: v :: t) 3=v:=rfl
      have tk:(x :: y :: z :: v :: t).take (Int.toNat 4)=[x,y,z,v]:=rfl
      rw [tk,a0,a1,a2,a3]
      have ee:(a+4≤a+((x :: y :: z :: v :: t).length:Int)∧enc (r4 x.toNat y.toNat z.toNat v.toNat)=[x,y,z,v]) ↔ E4 x.toNat y.toNat z.toNat v.toNat:=by
       rw [aD1]
       simp only [List.map_cons,List.map_nil,e]
       exact ⟨fun h=>h.2,fun h=>⟨by simp;omega,h⟩⟩
      by_cases q:E4 x.toNat y.toNat z.toNat v.toNat
      ·
       rw [if_pos (ee.2 q),if_pos q]
      ·
       rw [if_neg (fun h=>q (ee.1 h)),if_neg q]
    ·
     rw [decide_eq_false c4,cond_false]
     rw [t0] at c0 c2 c3 c4
     unfold rd bi
     generalize b.drop a.toNat=s at *
     have n2:∀ u,¬ E2 ((at' s 0).toNat:Int) u:=fun u h=>by unfold E2 at h;omega
     have n3:∀ u v,¬ E3 ((at' s 0).toNat:Int) u v:=fun u v h=>by unfold E3 at h;omega
     have n4:∀ u v w,¬ E4 ((at' s 0).toNat:Int) u v w:=fun u v w h=>by unfold E4 at h;omega
     simp only [n2,n3,n4,c0,if_false,ite_self]
end
theorem aEn (s:List UInt8):0≤(rd s).2∧(rd s).2≤4∧(rd s).2≤(s.length:Int):=by
 unfold rd
 repeat' split
 all_goals simp only
 all_goals omega
def tF:Nat→List UInt8→Option (List Int)
 | 0,_=>some []
 | m+1,s=>if s.length=0 then some [] else if (rd s).2=0 then none else (tF m (s.drop (rd s).2.toNat)).map ((rd s).1 :: ·)
def qH (s:List UInt8):List Int×Bool:=if 65536<(s.length:Int) then ([],false) else match tF s.length s with
 | some l=>(l,true)
 | none=>([],false)
theorem aG8:∀ (m:Nat) (s:List UInt8) (l:List Int),tF m s=some l→l.length≤s.length
 | 0,s,l,h=>by simp only [tF,Option.some.injEq] at h;subst h;simp
 | m+1,s,l,h=>by
  simp only [tF] at h
  split at h
  ·
   simp only [Option.some.injEq] at h;subst h;simp
  ·
   split at h
   ·
    cases h
   ·
    rename_i h0 h1
    obtain ⟨q,hq,rfl⟩:=Option.map_eq_some_iff.1 h
    have:=aG8 m _ q hq
    have b:=aEn s
    simp only [List.length_drop,List.length_cons] at this ⊢
    omega
theorem aEh (s:List UInt8):((qH s).1.length:Int)≤65536:=by
 unfold qH
 split
 ·
  simp
 ·
  split
  ·
   rename_i l hl
   have:=aG8 _ _ _ hl
   simp only;omega
  ·
   simp
theorem aJ4 (s:List UInt8) (hs:(s.length:Int)≤65536) (j:List Int→Option (List Int×Bool)):∀ (f m:Nat) (o:List Int) (k:Int),0≤k→k≤(s.length:Int)→(s.length:Int) - k≤f→(s.length:Int) - k<m→(o.length:Int)≤k →
  bC (iK s j) m (o,k)=match tF f (s.drop k.toNat) with
   | some l=>j (o ++ l)
   | none=>some ([],false):=by
 intro f
 induction f with
 | zero=>
  intro m o k hk hk' hf hm ho
  cases m with
  | zero=>omega
  | succ m=>
   have h1:¬ k<(s.length:Int):=by omega
   simp only [bC,iK,h1,decide_false,cond_false,tF,List.append_nil]
 | succ f ih=>
  intro m o k hk hk' hf hm ho
  cases m with
  | zero=>omega
  | succ m=>
   simp only [bC,iK,aN,tF,Bool.cond_decide]
   by_cases h1:k<(s.length:Int)
   ·
    have hne:¬ (s.drop k.toNat).length=0:=by simp;omega
    rw [if_pos h1,aO (aMp hk (by omega) h1),if_neg hne]
    have hb:=aEn (s.drop k.toNat)
    simp only [List.length_drop] at hb
    by_cases h2:(rd (s.drop k.toNat)).2=0
    ·
     rw [if_pos h2,if_pos h2]
    ·
     rw [if_neg h2,if_neg h2,if_pos (by simp;omega),bP (by omega) (by omega),ih m _ _ (by omega) (by omega) (by omega) (by omega) (by simp;omega)]
     have e:s.drop (k+(rd (s.drop k.toNat)).2).toNat=(s.drop k.toNat).drop (rd (s.drop k.toNat)).2.toNat:=by
      rw [List.drop_drop];congr 1;omega
     rw [e]
     cases tF f ((s.drop k.toNat).drop (rd (s.drop k.toNat)).2.toNat) with
     | none=>rfl
     | some l=>simp
   ·
    have hne:(s.drop k.toNat).length=0:=by simp;omega
    rw [if_neg h1,if_pos hne];simp
theorem aJ5 (s:List UInt8) (hs:(s.length:Int)≤65536) (j:List Int→Option (List Int×Bool)):∀ (f m:Nat) (o:List Int) (k:Int),0≤k→k≤(s.length:Int)→(s.length:Int) - k≤f→(s.length:Int) - k<m→(o.length:Int)≤k →
  bC (iP s j) m (o,k)=match tF f (s.drop k.toNat) with
   | some l=>j (o ++ l)
   | none=>some ([],false):=by
 intro f
 induction f with
 | zero=>
  intro m o k hk hk' hf hm ho
  cases m with
  | zero=>omega
  | succ m=>
   have h1:¬ k<(s.length:Int):=by omega
   simp only [bC,iP,h1,decide_false,cond_false,tF,List.append_nil]
 | succ f ih=>
  intro m o k hk hk' hf hm ho
  cases m with
  | zero=>omega
  | succ m=>
   simp only [bC,iP,aN,tF,Bool.cond_decide]
   by_cases h1:k<(s.length:Int)
   ·
    have hne:¬ (s.drop k.toNat).length=0:=by simp;omega
    rw [if_pos h1,aO (aMq hk (by omega) h1),if_neg hne]
    have hb:=aEn (s.drop k.toNat)
    simp only [List.length_drop] at hb
    by_cases h2:(rd (s.drop k.toNat)).2=0
    ·
     rw [if_pos h2,if_pos h2]
    ·
     rw [if_neg h2,if_neg h2,if_pos (by simp;omega),bP (by omega) (by omega),ih m _ _ (by omega) (by omega) (by omega) (by omega) (by simp;omega)]
     have e:s.drop (k+(rd (s.drop k.toNat)).2).toNat=(s.drop k.toNat).drop (rd (s.drop k.toNat)).2.toNat:=by
      rw [List.drop_drop];congr 1;omega
     rw [e]
     cases tF f ((s.drop k.toNat).drop (rd (s.drop k.toNat)).2.toNat) with
     | none=>rfl
     | some l=>simp
   ·
    have hne:(s.drop k.toNat).length=0:=by simp;omega
    rw [if_neg h1,if_pos hne];simp
theorem aPk (s:List UInt8):rO s=some (qH s):=by
 unfold rO qH
 simp only [aU,Bool.cond_decide]
 by_cases h:65536<(s.length:Int)
 ·
  rw [if_pos h,if_pos h]
 ·
  rw [if_neg h,if_neg h,aJ4 s (by omega) _ s.length bM [] 0 (by omega) (by omega) (by omega) (by rw [bO];omega) (by simp)]
  simp only [Int.toNat_zero,List.drop_zero,List.nil_append]
  cases tF s.length s <;> rfl
theorem aPl (s:List UInt8):rW s=some (qH s):=by
 unfold rW qH
 simp only [aU,Bool.cond_decide]
 by_cases h:65536<(s.length:Int)
 ·
  rw [if_pos h,if_pos h]
 ·
  rw [if_neg h,if_neg h,aJ5 s (by omega) _ s.length bM [] 0 (by omega) (by omega) (by omega) (by rw [bO];omega) (by simp)]
  simp only [Int.toNat_zero,List.drop_zero,List.nil_append]
  cases tF s.length s <;> rfl
def qJ (s:List UInt8):(List Int×Int)×Bool:=if (qH s).2 && bK ((qH s).1,((qH s).1.length:Int)) then (((qH s).1,((qH s).1.length:Int)),true) else (([],0),false)
theorem aK2 (s:List UInt8):tQ s=some (qJ s):=by
 unfold tQ mF qJ
 have hl:=aEh s
 rw [aO (aPk s)]
 generalize qH s=r at *
 obtain ⟨l,b⟩:=r
 simp only at hl ⊢
 rw [iF (l,(l.length:Int)) (by simp only;omega),cB]
 cases b
 ·
  simp [aG]
 ·
  cases hk:bK (l,(l.length:Int)) <;> simp [aG,hk]
theorem aK3 (s:List UInt8):uC s=some (qJ s):=by
 unfold uC qJ
 have hl:=aEh s
 rw [aO (aPl s)]
 generalize qH s=r at *
 obtain ⟨l,b⟩:=r
 simp only at hl ⊢
 rw [mP (l,(l.length:Int)) (by simp only;omega),cB]
 cases b
 ·
  simp
 ·
  cases hk:bK (l,(l.length:Int)) <;> simp [hk]
theorem aIy (s:List UInt8):(qJ s).1.1.length≤400:=by
 unfold qJ
 split
 ·
  rename_i h
  simp only [Bool.and_eq_true] at h
  have h2:=h.2
  unfold bK cO at h2
  simp only [Bool.and_eq_true,decide_eq_true_eq] at h2
  exact h2.1.2
 ·
  simp
def tB (h:Int×List (List UInt8)) (st:Int):EdT→EdT×Bool
 | (vi,mode,line,count,op,opc,wait,fr,fh,last,ring,undo,nav,own,query,hit,back)=>
  if cG (vi,mode,line,count,op,opc,wait,fr,fh,last,ring,undo,nav,own,query,hit,back) && decide (st=1∨st = -1) then
   if nav≠0∧st=1∧nav=eH h then ((vi,mode,(own.1,mM mode own),0,0,0,0,fr,fh,0,ring,[],0,([],0),query,hit,back),true)
   else if (aAa h ((if nav=0 then eH h+1 else nav)+st)).2 && (qJ (aAa h ((if nav=0 then eH h+1 else nav)+st)).1).2 then
    ((vi,mode,((qJ (aAa h ((if nav=0 then eH h+1 else nav)+st)).1).1.1,if mode=2 then 0 else (qJ (aAa h ((if nav=0 then eH h+1 else nav)+st)).1).1.2),0,0,0,0,fr,fh,0,ring,[],(if nav=0 then eH h+1 else nav)+st,(if nav=0 then line else own),query,hit,back),true)
   else (zEd,false)
  else (zEd,false)
theorem aDg (h:Int×List (List UInt8)):0≤eH h∧eH h≤2000000000:=by
 unfold eH
 split
 ·
  rename_i q
  obtain ⟨q1,q2,q3,_⟩:=aFh q.1
  omega
 ·
  omega
theorem aHt {vi:Bool} {mode:Int} {line:List Int×Int} {count op opc wait fr fh last:Int} {ring:List (List Int)} {undo:List (List Int×Int)} {nav:Int} {own:List Int×Int} {query:List Int} {hit:Int} {back:List Int×Int} (h:cG (vi,mode,line,count,op,opc,wait,fr,fh,last,ring,undo,nav,own,query,hit,back)=true):(0≤nav∧nav≤1000000060)∧bK own=true:=by
 unfold cG at h
 simp only [Bool.and_eq_true,decide_eq_true_eq] at h
 exact ⟨h.1.1.1.1.1.2,h.1.1.1.1.1.1.1.1.1.1.1.1.1.1.2⟩
section
variable (vi:Bool) (mode:Int) (line:List Int×Int) (count op opc wait fr fh last:Int) (ring:List (List Int)) (undo:List (List Int×Int)) (nav:Int) (own:List Int×Int) (query:List Int) (hit:Int) (back:List Int×Int)
  (hs:eJ 1048576 (vi,mode,line,count,op,opc,wait,fr,fh,last,ring,undo,nav,own,query,hit,back)) (h:Int×List (List UInt8)) (hl:(h.2.length:Int)≤1048576) (st:Int)
include hs hl
theorem aRk:qN (vi,mode,line,count,op,opc,wait,fr,fh,last,ring,undo,nav,own,query,hit,back) h st=some (tB h st (vi,mode,line,count,op,opc,wait,fr,fh,last,ring,undo,nav,own,query,hit,back)):=by
 unfold qN
 simp only [tB]
 have hparts:cG (vi,mode,line,count,op,opc,wait,fr,fh,last,ring,undo,nav,own,query,hit,back)=true→(0≤nav∧nav≤1000000060)∧bK own=true:=fun h=>aHt h
 rw [aO (aNo vi mode line count op opc wait fr fh last ring undo nav own query hit back (cR (by omega) hs))]
 have hc:=aFq vi mode line count op opc wait fr fh last ring undo nav own query hit back
 obtain ⟨h1,⟨h2,h3⟩,⟨h4,h5⟩,h6,h7,h8⟩:=hs
 have hc:=hc h1 h2 h3 h4 h5 h6 h7 h8
 generalize cG (vi,mode,line,count,op,opc,wait,fr,fh,last,ring,undo,nav,own,query,hit,back)=K at *
 cases K
 ·
  simp [zEd]
 ·
  obtain ⟨⟨n0,n1⟩,hown⟩:=hparts rfl
  obtain ⟨o0,o1,o2⟩:=bG hown
  obtain ⟨b0,b1⟩:=aDg h
  by_cases hst:st=1∨st = -1
  ·
   have hb:(bif (!(decide (st=1))) then (!(decide (st=(-1)))) else false)=false:=by
    rcases hst with rfl | rfl <;> simp
   have hn:-2≤st∧st≤2:=by omega
   obtain ⟨g1,g2⟩:=aDf h hl
   have hc':cH (vi,mode,(line.1,line.2),count,op,opc,wait,fr,fh,last,ring,undo,nav,(own.1,own.2),query,hit,(back.1,back.2))=_:=hc
   have hcl:=aNp vi mode (own.1,own.2) 0 0 0 0 fr fh 0 ring [] 0 ([],0) query hit (back.1,back.2) (by simp only;omega)
   have cl1:=iW (own.1,own.2) (by simp only;omega)
   have cl2:=iW (line.1,line.2) (by simp only;omega)
   have hW0:W (eH h+1)=eH h+1:=bP (by omega) (by omega)
   rw [hb,decide_eq_true hst]
   simp only [Bool.not_true,cond_false,hW0,g1,aU,hc',aG,eQ,cl1,cl2,hcl,Bool.and_self,if_true]
   by_cases hnv:nav=0
   ·
    subst hnv
    have hW:W (eH h+1+st)=eH h+1+st:=bP (by omega) (by omega)
    obtain ⟨k1,k2⟩:=xC h hl (eH h+1+st) (by omega)
    have k1':lC (h.1,h.2) (eH h+1+st)=_:=k1
    simp only [decide_true,Bool.not_true,cond_false,cond_true,hW,k1',aK2,ne_eq,not_true_eq_false,false_and,if_false,if_true]
    cases (aAa h (eH h+1+st)).2
    ·
     simp [zEd]
    ·
     cases (qJ (aAa h (eH h+1+st)).1).2
     ·
      simp [zEd]
     ·
      by_cases hm:mode=2 <;> simp [hm]
   ·
    have hW:W (nav+st)=nav+st:=bP (by omega) (by omega)
    obtain ⟨k1,k2⟩:=xC h hl (nav+st) (by omega)
    have k1':lC (h.1,h.2) (nav+st)=_:=k1
    simp only [hnv,decide_false,Bool.not_false,cond_false,cond_true,hW,k1',aK2,ne_eq,not_false_eq_true,true_and,if_false]
    by_cases he:st=1∧nav=eH h
    ·
     obtain ⟨rfl,rfl⟩:=he
     simp [Int.add_assoc]
    ·
     have hq:(bif decide (st=1) then decide (nav+st=eH h+1) else false)=false:=by
      by_cases e1:st=1
      ·
       have:¬ (nav+st=eH h+1):=by omega
       rw [decide_eq_false this];simp
      ·
       simp [e1]
     rw [hq,if_neg he]
     simp only [cond_false]
     cases (aAa h (nav+st)).2
     ·
      simp [zEd]
     ·
      cases (qJ (aAa h (nav+st)).1).2
      ·
       simp [zEd]
      ·
       by_cases hm:mode=2 <;> simp [hm]
  ·
   have hb:(bif (!(decide (st=1))) then (!(decide (st=(-1)))) else false)=true:=by
    have a:¬ st=1:=fun h=>hst (.inl h)
    have b:¬ st = -1:=fun h=>hst (.inr h)
    simp [a,b]
   rw [hb,decide_eq_false hst]
   simp [zEd]
theorem aRl:qP (vi,mode,line,count,op,opc,wait,fr,fh,last,ring,undo,nav,own,query,hit,back) h st=some (tB h st (vi,mode,line,count,op,opc,wait,fr,fh,last,ring,undo,nav,own,query,hit,back)):=by
 unfold qP
 simp only [tB]
 have hparts:cG (vi,mode,line,count,op,opc,wait,fr,fh,last,ring,undo,nav,own,query,hit,back)=true→(0≤nav∧nav≤1000000060)∧bK own=true:=fun h=>aHt h
 rw [aO (aRm vi mode line count op opc wait fr fh last ring undo nav own query hit back (cR (by omega) hs))]
 have hc:=aLu vi mode line count op opc wait fr fh last ring undo nav own query hit back
 obtain ⟨h1,⟨h2,h3⟩,⟨h4,h5⟩,h6,h7,h8⟩:=hs
 have hc:=hc h1 h2 h3 h4 h5 h6 h7 h8
 generalize cG (vi,mode,line,count,op,opc,wait,fr,fh,last,ring,undo,nav,own,query,hit,back)=K at *
 cases K
 ·
  simp [zEd]
 ·
  obtain ⟨⟨n0,n1⟩,hown⟩:=hparts rfl
  obtain ⟨o0,o1,o2⟩:=bG hown
  obtain ⟨b0,b1⟩:=aDg h
  by_cases hst:st=1∨st = -1
  ·
   have hb:(bif (!(decide (st=1))) then (!(decide (st=(-1)))) else false)=false:=by
    rcases hst with rfl | rfl <;> simp
   have hn:-2≤st∧st≤2:=by omega
   obtain ⟨g1,g2⟩:=aDf h hl
   have hcl:=yN (own.1,own.2) mode (by simp only;omega)
   have cl1:=gZ (own.1,own.2) (by simp only;omega)
   have cl2:=gZ (line.1,line.2) (by simp only;omega)
   have hW0:W (eH h+1)=eH h+1:=bP (by omega) (by omega)
   rw [hb,decide_eq_true hst]
   simp only [Bool.not_true,cond_false,hW0,eA,hc,aG,g2,aU,cl1,cl2,hcl,Bool.and_self,if_true]
   by_cases hnv:nav=0
   ·
    subst hnv
    have hW:W (eH h+1+st)=eH h+1+st:=bP (by omega) (by omega)
    obtain ⟨k1,k2⟩:=xC h hl (eH h+1+st) (by omega)
    have k2':lV (h.1,h.2) (eH h+1+st)=_:=k2
    have hx:(bif decide (st=1) then (!decide ((0:Int)=0)) else false)=false:=by cases decide (st=1) <;> simp
    simp only [hx,decide_true,cond_false,cond_true,hW,k2',aK3,ne_eq,not_true_eq_false,false_and,if_false,if_true]
    cases (aAa h (eH h+1+st)).2
    ·
     simp [zEd]
    ·
     cases (qJ (aAa h (eH h+1+st)).1).2
     ·
      simp [zEd]
     ·
      by_cases hm:mode=2 <;> simp [hm]
   ·
    have hW:W (nav+st)=nav+st:=bP (by omega) (by omega)
    have hW1:W (nav+1)=nav+1:=bP (by omega) (by omega)
    obtain ⟨k1,k2⟩:=xC h hl (nav+st) (by omega)
    have k2':lV (h.1,h.2) (nav+st)=_:=k2
    simp only [hnv,decide_false,Bool.not_false,cond_false,cond_true,hW,hW1,k2',aK3,ne_eq,not_false_eq_true,true_and,if_false]
    by_cases he:st=1∧nav=eH h
    ·
     obtain ⟨rfl,rfl⟩:=he
     simp
    ·
     have hq:(bif bif decide (st=1) then true else false then decide (nav+1=eH h+1) else false)=false:=by
      by_cases e1:st=1
      ·
       have:¬ (nav+1=eH h+1):=by omega
       rw [decide_eq_false this];simp
      ·
       simp [e1]
     rw [hq,if_neg he]
     simp only [cond_false]
     cases (aAa h (nav+st)).2
     ·
      simp [zEd]
     ·
      cases (qJ (aAa h (nav+st)).1).2
      ·
       simp [zEd]
      ·
       by_cases hm:mode=2 <;> simp [hm]
  ·
   have hb:(bif (!(decide (st=1))) then (!(decide (st=(-1)))) else false)=true:=by
    have a:¬ st=1:=fun h=>hst (.inl h)
    have b:¬ st = -1:=fun h=>hst (.inr h)
    simp [a,b]
   rw [hb,decide_eq_false hst]
   simp [zEd]
end
def aBk (l:List Int×Int) (t:List Int):List Int×Int:=(bN l.1 0 l.2 ++ t ++ bN l.1 l.2 (l.1.length:Int),l.2+(t.length:Int))
def uG (l:List Int×Int) (t:List Int):(List Int×Int)×Bool:=if bK (aBk l t) then (aBk l t,true) else (([],0),false)
theorem gV {α:Type} (l:List α) (a b:Int):(bN l a b).length≤l.length:=by
 unfold bN
 simp only [List.length_take,List.length_drop]
 omega
theorem wN {α:Type} (l:List α) (a b:Int) (h:0≤a∧a≤b∧b≤(l.length:Int)):((bN l a b).length:Int)=b - a:=by
 unfold bN
 simp only [List.length_take,List.length_drop]
 omega
theorem aEo {l:List Int×Int} (h:bK l=true) (t:List Int):(aBk l t).1.length=l.1.length+t.length:=by
 obtain ⟨p0,p1,p2⟩:=bG h
 have a:=wN l.1 0 l.2 (by omega)
 have b:=wN l.1 l.2 (l.1.length:Int) (by omega)
 simp only [aBk,List.length_append]
 omega
theorem zN {l:List Int×Int} {t:List Int} (h:(uG l t).2=true):bK (uG l t).1=true:=by
 unfold uG at h ⊢
 split at h
 ·
  rename_i hq;rw [if_pos hq];exact hq
 ·
  cases h
theorem aHl (l:List Int×Int) (t:List Int) (h:bK l=true) (ht:t.length≤1000):oN l t=some (uG l t):=by
 obtain ⟨p0,p1,p2⟩:=bG h
 have hx:=aEo h t
 have e1:=mP (aBk l t) (by omega)
 have s1:=gV l.1 0 l.2
 have s2:=gV l.1 l.2 (l.1.length:Int)
 unfold oN uG
 rw [aO (mP l (by omega)),h,bP (by omega) (by omega)]
 by_cases hc:400<(t.length:Int)
 ·
  have:bK (aBk l t)=false:=by
   cases hq:bK (aBk l t)
   ·
    rfl
   ·
    have:=(bG hq).2.2;omega
  rw [this,decide_eq_true hc];rfl
 ·
  rw [decide_eq_false hc]
  simp only [Bool.not_true,cond_false,aU,aN]
  rw [if_pos (by omega),aO (kO _ (by omega)),if_pos (by omega),if_pos (by omega),if_pos (by rw [List.length_append];omega)]
  have e1':dJ (bN l.1 0 l.2 ++ t ++ bN l.1 l.2 (l.1.length:Int),l.2+(t.length:Int))=some (bK (aBk l t)):=e1
  rw [aO e1']
  cases bK (aBk l t) <;> rfl
theorem aHk (l:List Int×Int) (t:List Int) (h:bK l=true) (ht:t.length≤1000):oJ l t=some (uG l t):=by
 obtain ⟨p0,p1,p2⟩:=bG h
 have hx:=aEo h t
 have e1:=iF (aBk l t) (by omega)
 have s1:=gV l.1 0 l.2
 have s2:=gV l.1 l.2 (l.1.length:Int)
 unfold oJ uG
 rw [aO (iF l (by omega)),h,bP (by omega) (by omega)]
 simp only [Bool.not_true,cond_false,aU,aN]
 rw [if_pos (by omega),if_pos (by omega),aO (xB _ _ _ (by omega))]
 have e2:mF (bN l.1 0 l.2 ++ t ++ bN l.1 l.2 (l.1.length:Int),l.2+(t.length:Int)) true=some (if bK (aBk l t) then (aBk l t,true) else (([],0),false)):=by
  have e1':dE (bN l.1 0 l.2 ++ t ++ bN l.1 l.2 (l.1.length:Int),l.2+(t.length:Int))=some (bK (aBk l t)):=e1
  unfold mF
  rw [e1',cB]
  cases bK (aBk l t) <;> rfl
 rw [aO e2]
theorem aKa (r:Int) (k:Int) (h:0≤k):List.replicate k.toNat r ++ [r]=List.replicate (k+1).toNat r:=by
  rw [show (k+1).toNat=k.toNat+1 by omega,List.replicate_succ']
theorem aMf (r n:Int) (hn:n≤1000) (j:List Int→Option (List Int)):∀ (m:Nat) (k:Int),0≤k→k≤n→k≤401→n - k<m →
  bC (pY [r] n j) m (List.replicate k.toNat r,k)=j (List.replicate (min n 401).toNat r):=by
 intro m
 induction m with
 | zero=>intro k _ _ _ h;omega
 | succ m ih=>
  intro k h0 h1 h2 hm
  simp only [bC,pY,aN,Bool.cond_decide]
  rw [bP (x:=k+1) (by omega) (by omega),aKa r k h0]
  have hl:((List.replicate k.toNat r).length:Int)=k:=by rw [List.length_replicate];omega
  by_cases hc:k<n∧k≤400
  ·
   rw [hl,show (if k<n then decide (k≤400) else false)=true by simp [hc],cond_true,if_pos (by simp;omega)]
   exact ih _ (by omega) (by omega) (by omega) (by omega)
  ·
   rw [hl,show (if k<n then decide (k≤400) else false)=false by by_cases h3:k<n <;> simp [h3];omega,cond_false,show min n 401=k by omega]
theorem aNz (r n:Int) (h0:0≤n) (hn:n≤1000):sZ [r] n=some (List.replicate (min n 401).toNat r):=by
 unfold sZ
 simp only [aU]
 exact aMf r n hn _ bM 0 (by omega) h0 (by omega) (by rw [bO];omega)
theorem aPx (r n:Int) (hn:n≤1000) (j:List Int→Option (List Int)):∀ (m:Nat) (k:Int),0≤k→k≤n→n - k<m →
  bC (kQ r n j) m (List.replicate k.toNat r,k)=j (List.replicate n.toNat r):=by
 intro m
 induction m with
 | zero=>intro k _ _ h;omega
 | succ m ih=>
  intro k h0 h1 hm
  simp only [bC,kQ,aN,Bool.cond_decide]
  rw [bP (x:=k+1) (by omega) (by omega),aKa r k h0]
  by_cases hc:k<n
  ·
   rw [if_pos hc,if_pos (by simp;omega)]
   exact ih _ (by omega) (by omega) (by omega)
  ·
   rw [if_neg hc,show n=k by omega]
theorem aQ4 (r n:Int) (h0:0≤n) (hn:n≤1000):oH r n=some (List.replicate n.toNat r):=by
 unfold oH
 simp only [aU]
 exact aPx r n hn _ bM 0 (by omega) h0 (by rw [bO];omega)
theorem aHc {l:List Int×Int} (h:bK l=true) {t:List Int} (ht:400<t.length):uG l t=(([],0),false):=by
 unfold uG
 have hx:=aEo h t
 rw [if_neg]
 intro hq
 have:=(bG hq).2.2
 omega
theorem aQz {l:List Int×Int} (h:bK l=true) (r n:Int):uG l (List.replicate (min n 401).toNat r)=uG l (List.replicate n.toNat r):=by
 by_cases hc:n≤401
 ·
  rw [show min n 401=n by omega]
 ·
  rw [aHc h (by rw [List.length_replicate];omega),aHc h (by rw [List.length_replicate];omega)]
theorem aJ {α β:Type} {m:Option α} {k:α→Option β} {y:α} {z:Option β} (h:m=some y) (hk:k y=z):aG m k=z:=(aO h).trans hk
def jI (e:EdT):EdT×Int:=(oQ 0 e,1)
def aCx (a b:Int) (e:EdT):EdT×Int:=if a=b then jI e else (xN (vJ e.2.2.1 a b) 0 e,0)
def tM (a b how:Int) (e:EdT):EdT×Int:=
  if a=b then jI e else (aN7 (tH e.2.2.2.2.2.2.2.2.2.2.1 (bN e.2.2.1.1 a b) (if e.2.2.2.2.2.2.2.2.2.1=2 then how else 0)) (xN (vJ e.2.2.1 a b) 2 e),0)
def zZ (t:List Int) (nl:Int) (e:EdT):EdT×Int:=if (uG e.2.2.1 t).2=true then (xN (uG e.2.2.1 t).1 nl e,0) else jI e
def aAc (h:Int×List (List UInt8)) (st:Int) (e:EdT):EdT×Int:=if (tB h st e).2=true then ((tB h st e).1,0) else jI e
def goE (a:Int) (e:EdT):EdT×Int:=(xN (goL e.2.2.1 a) 0 e,0)
section
variable (e:EdT) (hv:cG e=true)
include hv
theorem eOk:bK e.2.2.1=true∧(0≤e.2.2.2.1∧e.2.2.2.1≤999)∧dT e.2.2.2.2.2.2.2.2.2.2.1=true∧(0≤e.2.2.2.2.2.2.2.2.2.1∧e.2.2.2.2.2.2.2.2.2.1≤3):=by
 obtain ⟨vi,mode,line,count,op,opc,wait,fr,fh,last,ring,undo,nav,own,query,hit,back⟩:=e
 obtain ⟨h1,h2,h3,h4,h5,h6,h7,h8,h9,h10,h11,h12,h13,h14,h15,h16⟩:=iH hv
 exact ⟨h1,h4,h9,h8⟩
theorem aAp:eJ 400 e:=by
 obtain ⟨vi,mode,line,count,op,opc,wait,fr,fh,last,ring,undo,nav,own,query,hit,back⟩:=e
 exact tD hv
theorem iX:eC e=some (jI e):=by
 obtain ⟨vi,mode,line,count,op,opc,wait,fr,fh,last,ring,undo,nav,own,query,hit,back⟩:=e
 exact aT4 vi mode line count op opc wait fr fh last ring undo nav own query hit back hv
theorem nM:dG e=some (jI e):=by
 obtain ⟨vi,mode,line,count,op,opc,wait,fr,fh,last,ring,undo,nav,own,query,hit,back⟩:=e
 exact aT3 vi mode line count op opc wait fr fh last ring undo nav own query hit back hv
theorem aIb (l:List Int×Int) (hl:bK l=true) (nl:Int):sQ e l nl=some (xN l nl e):=by
 obtain ⟨vi,mode,line,count,op,opc,wait,fr,fh,last,ring,undo,nav,own,query,hit,back⟩:=e
 exact aS4 vi mode line count op opc wait fr fh last ring undo nav own query hit back hv l hl nl
theorem aCj (l:List Int×Int) (hl:bK l=true):fY e l=some (xN l 0 e,0):=by
 obtain ⟨vi,mode,line,count,op,opc,wait,fr,fh,last,ring,undo,nav,own,query,hit,back⟩:=e
 exact aT6 vi mode line count op opc wait fr fh last ring undo nav own query hit back hv l hl
theorem aAh (a:Int):eF e a=some (goE a e):=by
 obtain ⟨vi,mode,line,count,op,opc,wait,fr,fh,last,ring,undo,nav,own,query,hit,back⟩:=e
 exact go_s vi mode line count op opc wait fr fh last ring undo nav own query hit back hv a
theorem aB2:fX e=some e:=by
 obtain ⟨vi,mode,line,count,op,opc,wait,fr,fh,last,ring,undo,nav,own,query,hit,back⟩:=e
 exact aOq vi mode line count op opc wait fr fh last ring undo nav own query hit back hv
theorem rE:cH e=some e:=by
 obtain ⟨vi,mode,line,count,op,opc,wait,fr,fh,last,ring,undo,nav,own,query,hit,back⟩:=e
 exact aOp vi mode line count op opc wait fr fh last ring undo nav own query hit back hv
theorem aCd (l:List Int×Int) (hl:bK l=true) (nl:Int) (hn:0≤nl∧nl≤3):dX e l true nl=some (xN l nl e,0):=by
 obtain ⟨vi,mode,line,count,op,opc,wait,fr,fh,last,ring,undo,nav,own,query,hit,back⟩:=e
 exact aK4 vi mode line count op opc wait fr fh last ring undo nav own query hit back hv l hl nl hn
theorem aIc (l:List Int×Int) (hl:l.1.length≤1048576) (wl:l.2≤9223372036854775807) (nl:Int):dX e l false nl=some (jI e):=by
 obtain ⟨vi,mode,line,count,op,opc,wait,fr,fh,last,ring,undo,nav,own,query,hit,back⟩:=e
 unfold dX
 refine aJ (aOl vi mode line count op opc wait fr fh last ring undo nav own query hit back (cR (by omega) (tD hv)) l hl nl wl) ?_
 exact aJ (nM _ hv) rfl
theorem aB7:cG (jI e).1=true:=by
 obtain ⟨vi,mode,line,count,op,opc,wait,fr,fh,last,ring,undo,nav,own,query,hit,back⟩:=e
 exact aJy vi mode line count op opc wait fr fh last ring undo nav own query hit back hv 0 (by omega)
theorem tE (l:List Int×Int) (hl:bK l=true) (nl:Int) (hn:0≤nl∧nl≤3):cG (xN l nl e)=true:=by
 obtain ⟨vi,mode,line,count,op,opc,wait,fr,fh,last,ring,undo,nav,own,query,hit,back⟩:=e
 exact aSf vi mode line count op opc wait fr fh last ring undo nav own query hit back hv l hl nl hn
theorem zL (r:List (List Int)) (hr:dT r=true):cG (aN7 r e)=true:=by
 obtain ⟨vi,mode,line,count,op,opc,wait,fr,fh,last,ring,undo,nav,own,query,hit,back⟩:=e
 exact aQu vi mode line count op opc wait fr fh last ring undo nav own query hit back hv r hr
theorem zT (a b:Int) (hr:0≤a∧a≤b∧b≤(e.2.2.1.1.length:Int)):aQb e.2.2.1 a b=(vJ e.2.2.1 a b,bN e.2.2.1.1 a b,true):=by
  unfold aQb;rw [(eOk e hv).1,decide_eq_true hr];rfl
theorem aRt (a b:Int) (hr:0≤a∧a≤b∧b≤(e.2.2.1.1.length:Int)):xH e a b=some (aCx a b e):=by
 obtain ⟨hl,_⟩:=eOk e hv
 obtain ⟨p0,p1,p2⟩:=bG hl
 have hcut:=aCs e.2.2.1 a b (by omega)
 rw [zT e hv a b hr] at hcut
 obtain ⟨c1,c2⟩:=uT hl hr
 have hsl:=wN e.2.2.1.1 a b hr
 unfold xH aCx
 rw [aO hcut]
 simp only [Bool.not_true,cond_true]
 by_cases hab:a=b
 ·
  rw [if_pos hab,decide_eq_true (by omega)]
  exact aJ (iX e hv) rfl
 ·
  rw [if_neg hab,decide_eq_false (by omega)]
  exact aJ (aCj e hv _ c1) rfl
theorem aFe (a b how:Int) (hr:0≤a∧a≤b∧b≤(e.2.2.1.1.length:Int)) (hh:0≤how∧how≤2):nI e a b how=some (tM a b how e):=by
 obtain ⟨hl,_,hro,_⟩:=eOk e hv
 obtain ⟨p0,p1,p2⟩:=bG hl
 have hcut:=aCs e.2.2.1 a b (by omega)
 rw [zT e hv a b hr] at hcut
 obtain ⟨c1,c2⟩:=uT hl hr
 have hsl:=wN e.2.2.1.1 a b hr
 unfold nI tM
 rw [aO hcut]
 simp only [Bool.not_true,cond_true]
 by_cases hab:a=b
 ·
  rw [if_pos hab,decide_eq_true (by omega)]
  exact aJ (iX e hv) rfl
 ·
  rw [if_neg hab,decide_eq_false (by omega)]
  simp only [cond_false,aU]
  by_cases hk:e.2.2.2.2.2.2.2.2.2.1=2
  ·
   rw [if_pos hk,decide_eq_true hk]
   exact aJ (aIb e hv _ c1 2) (aJ (aHb _ _ how hro (qM (mB hl) a b) hh) rfl)
  ·
   rw [if_neg hk,decide_eq_false hk]
   exact aJ (aIb e hv _ c1 2) (aJ (aHb _ _ 0 hro (qM (mB hl) a b) (by omega)) rfl)
theorem aRs (a' b':Int) (hab':a'≤b'):nV e a' b'=some (aCx (max 0 (min a' (e.2.2.1.1.length:Int))) (max 0 (min b' (e.2.2.1.1.length:Int))) e):=by
 obtain ⟨hl,_⟩:=eOk e hv
 obtain ⟨p0,p1,p2⟩:=bG hl
 unfold nV aCx
 simp only [aU]
 rw [aO (oZ a' _ (by omega)),aO (oZ b' _ (by omega))]
 have hr:0≤max 0 (min a' (e.2.2.1.1.length:Int))∧max 0 (min a' (e.2.2.1.1.length:Int))≤max 0 (min b' (e.2.2.1.1.length:Int))∧max 0 (min b' (e.2.2.1.1.length:Int))≤(e.2.2.1.1.length:Int):=by omega
 generalize max 0 (min a' (e.2.2.1.1.length:Int))=a at *
 generalize max 0 (min b' (e.2.2.1.1.length:Int))=b at *
 have hcut:=aCr e.2.2.1 a b (by omega)
 rw [zT e hv a b hr] at hcut
 obtain ⟨c1,c2⟩:=uT hl hr
 rw [aO hcut]
 simp only [cond_true]
 by_cases hab:a=b
 ·
  rw [if_pos hab,decide_eq_false (by omega)]
  have:=(bG c1)
  exact aJ (aIc e hv (vJ e.2.2.1 a b) (by omega) (by omega) 0) rfl
 ·
  rw [if_neg hab,decide_eq_true (by omega)]
  exact aJ (aCd e hv (vJ e.2.2.1 a b) c1 0 (by omega)) rfl
theorem aFd (a' b' how:Int) (hab':a'≤b') (hh:0≤how∧how≤2):gF e a' b' how=some (tM (max 0 (min a' (e.2.2.1.1.length:Int))) (max 0 (min b' (e.2.2.1.1.length:Int))) how e):=by
 obtain ⟨hl,_,hro,_⟩:=eOk e hv
 obtain ⟨p0,p1,p2⟩:=bG hl
 unfold gF tM
 simp only [aU]
 rw [aO (oZ a' _ (by omega)),aO (oZ b' _ (by omega))]
 have hr:0≤max 0 (min a' (e.2.2.1.1.length:Int))∧max 0 (min a' (e.2.2.1.1.length:Int))≤max 0 (min b' (e.2.2.1.1.length:Int))∧max 0 (min b' (e.2.2.1.1.length:Int))≤(e.2.2.1.1.length:Int):=by omega
 generalize max 0 (min a' (e.2.2.1.1.length:Int))=a at *
 generalize max 0 (min b' (e.2.2.1.1.length:Int))=b at *
 have hcut:=aCr e.2.2.1 a b (by omega)
 rw [zT e hv a b hr] at hcut
 obtain ⟨c1,c2⟩:=uT hl hr
 have hsub:=qM (mB hl) a b
 rw [aO hcut]
 simp only [cond_true]
 by_cases hab:a=b
 ·
  rw [if_pos hab,decide_eq_false (show ¬ ((vJ e.2.2.1 a b).1.length:Int)<(e.2.2.1.1.length:Int) by omega)]
  have:=(bG c1)
  have hf:=aIc e hv (vJ e.2.2.1 a b) (by omega) (by omega) 2
  cases decide (e.2.2.2.2.2.2.2.2.2.1=2)
  ·
   exact aJ hf rfl
  ·
   exact aJ hf rfl
 ·
  rw [if_neg hab,decide_eq_true (show ((vJ e.2.2.1 a b).1.length:Int)<(e.2.2.1.1.length:Int) by omega)]
  have hs:=aCd e hv (vJ e.2.2.1 a b) c1 2 (by omega)
  by_cases hk:e.2.2.2.2.2.2.2.2.2.1=2
  ·
   rw [if_pos hk,decide_eq_true hk]
   refine aJ hs ?_
   exact aJ (aHa _ _ how hro hsub hh) rfl
  ·
   rw [if_neg hk,decide_eq_false hk]
   refine aJ hs ?_
   exact aJ (aHa _ _ 0 hro hsub (by omega)) rfl
theorem aRd (t:List Int) (ht:t.length≤1000) (nl:Int):oB e t nl=some (zZ t nl e):=by
 obtain ⟨hl,_⟩:=eOk e hv
 have hp:=aHl e.2.2.1 t hl ht
 have ho:=@zN e.2.2.1 t
 unfold oB zZ
 rw [aO hp]
 generalize uG e.2.2.1 t=q at ho
 obtain ⟨l,b⟩:=q
 cases b
 ·
  exact aJ (iX e hv) rfl
 ·
  exact aJ (aIb e hv l (ho rfl) nl) rfl
theorem aRc (t:List Int) (ht:t.length≤1000) (nl:Int) (hn:0≤nl∧nl≤3):nU e t nl=some (zZ t nl e):=by
 obtain ⟨hl,_⟩:=eOk e hv
 have hp:=aHk e.2.2.1 t hl ht
 have ho:=@zN e.2.2.1 t
 have hz:(uG e.2.2.1 t).2=false→(uG e.2.2.1 t).1=([],0):=by
  unfold uG
  split
  ·
   intro h;cases h
  ·
   intro _;rfl
 unfold nU zZ
 rw [aO hp]
 generalize uG e.2.2.1 t=q at ho hz
 obtain ⟨l,b⟩:=q
 cases b
 ·
  obtain rfl:l=([],0):=hz rfl
  exact aJ (aIc e hv _ (by simp) (by simp) nl) rfl
 ·
  exact aJ (aCd e hv l (ho rfl) nl hn) rfl
end
theorem aEe (h:Int×List (List UInt8)) (st:Int) (e:EdT) (hk:(tB h st e).2=true):(tB h st e).1.2.2.2.2.2.2.2.2.2.2.2.1=[]:=by
 obtain ⟨vi,mode,line,count,op,opc,wait,fr,fh,last,ring,undo,nav,own,query,hit,back⟩:=e
 simp only [tB] at hk ⊢
 generalize (if nav=0 then eH h+1 else nav)+st=N at *
 split at hk
 ·
  rename_i c1
  rw [if_pos c1]
  split
  ·
   rfl
  ·
   rename_i c2
   rw [if_neg c2] at hk
   split
   ·
    rfl
   ·
    rename_i c3
    rw [if_neg c3] at hk
    cases hk
 ·
  cases hk
section
variable (e:EdT) (hv:cG e=true) (h:Int×List (List UInt8)) (hl:(h.2.length:Int)≤1048576)
include hv hl
theorem aN3 (st:Int):wE e h st=some (aAc h st e):=by
 have hu:=aEe h st e
 have hs:qP e h st=some (tB h st e):=by
  obtain ⟨vi,mode,line,count,op,opc,wait,fr,fh,last,ring,undo,nav,own,query,hit,back⟩:=e
  exact aRl vi mode line count op opc wait fr fh last ring undo nav own query hit back (cR (by omega) (tD hv)) h hl st
 unfold wE aAc
 rw [aO hs]
 generalize tB h st e=q at hu
 obtain ⟨z,b⟩:=q
 cases b
 ·
  exact aJ (iX e hv) rfl
 ·
  obtain ⟨vi,mode,line,count,op,opc,wait,fr,fh,last,ring,undo,nav,own,query,hit,back⟩:=z
  obtain rfl:undo=[]:=hu rfl
  rfl
theorem aD0 (st:Int):iT e h st=some (aAc h st e):=by
 have hu:=aEe h st e
 have hs:qN e h st=some (tB h st e):=by
  obtain ⟨vi,mode,line,count,op,opc,wait,fr,fh,last,ring,undo,nav,own,query,hit,back⟩:=e
  exact aRk vi mode line count op opc wait fr fh last ring undo nav own query hit back (cR (by omega) (tD hv)) h hl st
 unfold iT aAc
 rw [aO hs]
 generalize tB h st e=q at hu
 obtain ⟨z,b⟩:=q
 cases b
 ·
  exact aJ (nM e hv) rfl
 ·
  obtain ⟨vi,mode,line,count,op,opc,wait,fr,fh,last,ring,undo,nav,own,query,hit,back⟩:=z
  obtain rfl:undo=[]:=hu rfl
  rfl
end
theorem aJb {α β:Type} {c:Prop} [Decidable c] {m:Option α} {x d:α} {k:α→Option β} (h:m=some x) (hc:c):bU c m d k=k x:=by
  rw [h,sW hc]
def aJp (l:List Int×Int):List Int×Int:=
 let a:=min l.2 ((l.1.length:Int) - 1)
 ((l.1.set (a - 1).toNat (at' l.1 a)).set a.toNat (at' l.1 (a - 1)),a+1)
def aBc (l:List Int×Int):(List Int×Int)×Bool:=if (l.1.length:Int)<2∨l.2=0 then (([],0),false) else (aJp l,true)
theorem aA7 {t:List Int} (h:cO t=true) (i:Nat) (x:Int) (hx:adm x=true):cO (t.set i x)=true:=by
 unfold cO at h ⊢
 simp only [Bool.and_eq_true,List.all_eq_true,decide_eq_true_eq,List.length_set] at h ⊢
 refine ⟨fun y hy=>?_,h.2⟩
 rcases List.mem_or_eq_of_mem_set hy with hy | rfl
 ·
  exact h.1 y hy
 ·
  exact hx
theorem aHv {t:List Int} (h:cO t=true) {i:Int} (h0:0≤i) (h1:i<(t.length:Int)):adm (at' t i)=true:=by
 unfold cO at h
 simp only [Bool.and_eq_true,List.all_eq_true] at h
 exact h.1 _ (List.mem_of_getElem? (bD ⟨h0,h1⟩))
theorem aEd {l:List Int×Int} (h:bK l=true) (h2:¬ ((l.1.length:Int)<2∨l.2=0)):bK (aJp l)=true:=by
 obtain ⟨p0,p1,_⟩:=bG h
 have ha:=mB h
 unfold aJp
 refine vU (aA7 (aA7 ha _ _ (aHv ha (by omega) (by omega))) _ _ (aHv ha (by omega) (by omega))) (by omega) ?_
 simp only [List.length_set]
 omega
theorem aPb (p q:List Int) (a b:Int) (n:Int) (hn:n=(p.length:Int)+1) (L:Int) (hL:L=((p ++ a :: b :: q).length:Int)) :
  bN (p ++ a :: b :: q) 0 (n - 1) ++ bN (p ++ a :: b :: q) n (n+1) ++ bN (p ++ a :: b :: q) (n - 1) n ++ bN (p ++ a :: b :: q) (n+1) L ++ [] =
   ((p ++ a :: b :: q).set (n - 1).toNat (at' (p ++ a :: b :: q) n)).set n.toNat (at' (p ++ a :: b :: q) (n - 1)):=by
 subst hn hL
 have e1:((p.length:Int)+1 - 1).toNat=p.length:=by omega
 have e2:((p.length:Int)+1).toNat=p.length+1:=by omega
 have e3:((p.length:Int)+1+1).toNat=p.length+2:=by omega
 have e4:(((p ++ a :: b :: q).length:Int)).toNat=p.length+(q.length+2):=by simp;omega
 unfold bN at'
 rw [e1,e2,e3,e4]
 simp [List.set_append,List.drop_append,List.getD_eq_getElem?_getD,List.take_append,Nat.sub_self]
 have e5:p.length+(q.length+2) - (p.length+2)=q.length:=by omega
 have e6:p.length+2 - (p.length+1)=1:=by omega
 have e7:p.length+1 - p.length=1:=by omega
 have e8:List.drop (p.length+2) p=[]:=List.drop_eq_nil_of_le (by omega)
 have e9:List.drop (p.length+1) p=[]:=List.drop_eq_nil_of_le (by omega)
 simp [e5,e6,e7,e8,e9]
theorem aTh (t:List Int) (n:Nat) (h:n+1<t.length):∃ p a b q,t=p ++ a :: b :: q∧p.length=n:=by
 refine ⟨t.take n,t[n],t[n+1],t.drop (n+2),?_,by simp;omega⟩
 conv=>lhs;rw [← List.take_append_drop n t]
 congr 1
 rw [List.drop_eq_getElem_cons (by omega),List.drop_eq_getElem_cons (by omega)]
theorem aNf (l:List Int×Int) (h:bK l=true):qC l=some (aBc l):=by
 obtain ⟨p0,p1,p2⟩:=bG h
 unfold qC aBc aJp
 rw [aO (mP l (by omega)),h]
 by_cases c1:(l.1.length:Int)<2
 ·
  rw [if_pos (.inl c1),decide_eq_true c1];rfl
 by_cases c2:l.2=0
 ·
  rw [if_pos (.inr c2),decide_eq_false c1,decide_eq_true c2];rfl
 rw [if_neg (by omega),decide_eq_false c1,decide_eq_false c2,bP (x:=(l.1.length:Int) - 1) (by omega) (by omega)]
 simp only [Bool.not_true,cond_false]
 generalize ha:min l.2 ((l.1.length:Int) - 1)=a
 rw [bP (x:=a+1) (by omega) (by omega),bP (x:=a - 1) (by omega) (by omega),aO ((aFi l _ (by omega)).trans (show some (goL l (a+1))=some (l.1,a+1) by unfold goL;rw [show max 0 (min (a+1) (l.1.length:Int))=a+1 by omega]))]
 simp only [aN]
 rw [if_pos (by omega),if_pos (by omega),if_pos (by omega),if_pos (by omega)]
theorem aNe (l:List Int×Int) (h:bK l=true):pF l=some (aBc l):=by
 obtain ⟨p0,p1,p2⟩:=bG h
 unfold pF aBc aJp
 rw [aO (iF l (by omega)),h]
 by_cases c1:(l.1.length:Int)<2
 ·
  rw [if_pos (.inl c1),decide_eq_true c1];rfl
 by_cases c2:l.2=0
 ·
  rw [if_pos (.inr c2),decide_eq_false c1,decide_eq_true c2];rfl
 rw [if_neg (by omega),decide_eq_false c1,decide_eq_false c2]
 simp only [Bool.not_true,cond_false,aU,Bool.cond_decide]
 have key:∀ a:Int,a=min l.2 ((l.1.length:Int) - 1) →
   (aN (0≤(0:Int)∧(0:Int)≤(W (a - 1))∧(W (a - 1))≤(l.1.length:Int)) <|
 (aN (0≤a∧a≤(W (a+1))∧(W (a+1))≤(l.1.length:Int)) <|
 (aN (0≤(W (a - 1))∧(W (a - 1))≤a∧a≤(l.1.length:Int)) <|
 (aG (cW (bN l.1 (0:Int) (W (a - 1))) (bN l.1 a (W (a+1))) (bN l.1 (W (a - 1)) a)) fun (y25:List Int)=>
 (aN (0≤(W (a+1))∧(W (a+1))≤(l.1.length:Int)∧(l.1.length:Int)≤(l.1.length:Int)) <|
 (aG (cW y25 (bN l.1 (W (a+1)) (l.1.length:Int)) ([]:List Int)) fun (y33:List Int)=>
 some ((y33,(W (a+1))),true)))))))=some (((l.1.set (min l.2 ((l.1.length:Int) - 1) - 1).toNat (at' l.1 (min l.2 ((l.1.length:Int) - 1)))).set (min l.2 ((l.1.length:Int) - 1)).toNat (at' l.1 (min l.2 ((l.1.length:Int) - 1) - 1)),min l.2 ((l.1.length:Int) - 1)+1),true):=by
  intro a ha
  rw [← ha,bP (x:=a+1) (by omega) (by omega),bP (x:=a - 1) (by omega) (by omega)]
  have l1:=gV l.1 0 (a - 1)
  have l2:=gV l.1 a (a+1)
  have l3:=gV l.1 (a - 1) a
  have l4:=gV l.1 (a+1) (l.1.length:Int)
  simp only [aN]
  rw [if_pos (by omega),if_pos (by omega),if_pos (by omega),aO (xB _ _ _ (by omega)),if_pos (by omega),aO (xB _ _ _ (by simp only [List.length_append,List.length_nil];omega))]
  obtain ⟨p,x,y,q,ht,hp⟩:=aTh l.1 (a - 1).toNat (by omega)
  rw [ht,aPb p q x y a (by omega) _ rfl]
 by_cases c3:l.2=(l.1.length:Int)
 ·
  rw [if_pos c3]
  have:=key (W (l.2 - 1)) (by rw [bP (by omega) (by omega)];omega)
  exact this
 ·
  rw [if_neg c3]
  exact key l.2 (by omega)
def isL (c:Int):Prop:=97≤c∧c≤122
def isU (c:Int):Prop:=65≤c∧c≤90
instance (c:Int):Decidable (isL c):=inferInstanceAs (Decidable (_∧_))
instance (c:Int):Decidable (isU c):=inferInstanceAs (Decidable (_∧_))
def upI (c:Int):Int:=if isL c then c - 32 else c
def loI (c:Int):Int:=if isU c then c+32 else c
def aAi (how:Int):Nat→Int→Bool→List Int→List Int
 | 0,_,_,xs=>xs
 | r+1,i,f,xs=>if isL (at' xs i)∨isU (at' xs i) then aAi how r (i+1) false (xs.set i.toNat (if how=1∨(how=2∧f=true) then upI (at' xs i) else loI (at' xs i))) else aAi how r (i+1) f xs
def aLy (l:List Int×Int) (a b how:Int):List Int×Int:=(aAi how (b - a).toNat a true l.1,b)
theorem aHp (c:Int):fN c=some (decide (isL c)):=by
 unfold fN cT isL
 simp only [aG]
 by_cases a:97≤c <;> by_cases b:c≤122 <;> simp [a,b]
theorem aHo (c:Int):iU c=some (decide (isU c)):=by
 unfold iU cT isU
 simp only [aG]
 by_cases a:65≤c <;> by_cases b:c≤90 <;> simp [a,b]
theorem aR5 (c:Int):wD c=some (upI c):=by
 unfold wD upI
 rw [aO (aHp c)]
 by_cases a:isL c
 ·
  rw [if_pos a,decide_eq_true a,cond_true,bP (by unfold isL at a;omega) (by unfold isL at a;omega)]
 ·
  rw [if_neg a,decide_eq_false a,cond_false]
theorem aSk (c:Int):wF c=some (loI c):=by
 unfold wF loI
 rw [aO (aHo c)]
 by_cases a:isU c
 ·
  rw [if_pos a,decide_eq_true a,cond_true,bP (by unfold isU at a;omega) (by unfold isU at a;omega)]
 ·
  rw [if_neg a,decide_eq_false a,cond_false]
theorem xG {c:Int} (h:65≤c∧c≤122):adm c=true:=by
 unfold adm pr
 simp only [Bool.or_eq_true,decide_eq_true_eq]
 omega
theorem aRw {c:Int} (h:isL c∨isU c):adm (upI c)=true∧adm (loI c)=true:=by
 unfold upI loI
 constructor
 ·
  split
  ·
   rename_i a;exact xG (by unfold isL at a;omega)
  ·
   exact xG (by unfold isL isU at h;omega)
 ·
  split
  ·
   rename_i a;exact xG (by unfold isU at a;omega)
  ·
   exact xG (by unfold isL isU at h;omega)
theorem aFs (how:Int):∀ (r:Nat) (i:Int) (f:Bool) (xs:List Int),cO xs=true→cO (aAi how r i f xs)=true∧(aAi how r i f xs).length=xs.length
 | 0,_,_,_,h=>⟨h,rfl⟩
 | r+1,i,f,xs,h=>by
  simp only [aAi]
  split
  ·
   rename_i c
   obtain ⟨k1,k2⟩:=aRw c
   have:=aFs how r (i+1) false (xs.set i.toNat (if how=1∨(how=2∧f=true) then upI (at' xs i) else loI (at' xs i))) (aA7 h _ _ (by split <;> assumption))
   rw [List.length_set] at this
   exact this
  ·
   exact aFs how r (i+1) f xs h
theorem aFt {l:List Int×Int} (h:bK l=true) (a b how:Int) (hr:0≤a∧a≤b∧b≤(l.1.length:Int)):bK (aLy l a b how)=true:=by
 obtain ⟨k1,k2⟩:=aFs how (b - a).toNat a true l.1 (mB h)
 exact vU k1 (by omega) (by rw [k2];omega)
theorem aLx (b how:Int) (j:List Int→Option ((List Int×Int)×Bool)):∀ (m r:Nat) (i:Int) (f:Bool) (xs:List Int),0≤i→i+r=b→b≤(xs.length:Int)→b≤1000000→r<m →
  bC (jY b how j) m (f,i,xs)=j (aAi how r i f xs):=by
 intro m
 induction m with
 | zero=>intro r i f xs _ _ _ _ h;omega
 | succ m ih=>
  intro r i f xs h0 hr hb hB hm
  simp only [bC,jY,Bool.cond_decide,aU,aN]
  cases r with
  | zero=>rw [if_neg (by omega)];rfl
  | succ r=>
   rw [if_pos (by omega),if_pos ⟨h0,by omega⟩,aO (aHp _),aHo,bP (x:=i+1) (by omega) (by omega)]
   simp only [aAi]
   generalize hc:at' xs i=c
   have hU:(if how=1 then true else if how=2 then f else false)=decide (how=1∨(how=2∧f=true)):=by
    by_cases a:how=1 <;> by_cases b:how=2 <;> cases f <;> simp [a,b]
   by_cases a:isL c∨isU c
   ·
    have hn:(bif !decide (isL c) then !decide (isU c) else false)=false:=by
     by_cases a1:isL c <;> by_cases a2:isU c <;> simp_all
    have hcall:∀ k:Bool→Option ((List Int×Int)×Bool),(∀ z,(bif !decide (isL c) then !z else false)=false→k z=k true) →
      bU ((!decide (isL c))=true) (some (decide (isU c))) false k=k true:=by
     intro k hk
     by_cases a1:isL c
     ·
      rw [qK (by simp [a1])];exact hk _ (by simp [a1])
     ·
      rw [sW (by simp [a1])];exact hk _ (by simpa [a1] using hn)
    rw [hcall _ (fun z hz=>by rw [hz];simp),if_pos a,aR5,aSk,hU]
    simp only [Bool.not_true,Bool.cond_false_right,Bool.and_false,cond_false,aG,Bool.cond_decide]
    by_cases u:how=1∨(how=2∧f=true)
    ·
     rw [if_pos u,if_pos u,if_pos ⟨h0,by omega⟩]
     exact ih r (i+1) false _ (by omega) (by omega) (by rw [List.length_set];omega) hB (by omega)
    ·
     rw [if_neg u,if_neg u,if_pos ⟨h0,by omega⟩]
     exact ih r (i+1) false _ (by omega) (by omega) (by rw [List.length_set];omega) hB (by omega)
   ·
    have a1:¬ isL c:=fun h=>a (.inl h)
    have a2:¬ isU c:=fun h=>a (.inr h)
    rw [sW (by simp [a1]),if_neg a]
    simp only [a1,a2,decide_false,Bool.not_false,cond_true]
    exact ih r (i+1) f xs (by omega) (by omega) hb hB (by omega)
theorem aQo (xs:List Int) (i:Int) (h0:0≤i) (h1:i<(xs.length:Int)):xs.set i.toNat (at' xs i)=xs:=by
 have h:=bD (xs:=xs) ⟨h0,h1⟩
 apply List.ext_getElem?
 intro k
 rw [List.getElem?_set]
 split
 ·
  rename_i e
  subst e
  rw [if_pos (by omega),← h]
 ·
  rfl
theorem aLw (b how:Int) (j:List Int→Option ((List Int×Int)×Bool)):∀ (m r:Nat) (i:Int) (f:Bool) (xs:List Int),0≤i→i+r=b→b≤(xs.length:Int)→b≤1000000→r<m →
  bC (jN b how j) m (xs,f,i)=j (aAi how r i f xs):=by
 intro m
 induction m with
 | zero=>intro r i f xs _ _ _ _ h;omega
 | succ m ih=>
  intro r i f xs h0 hr hb hB hm
  simp only [bC,jN,aU,aN]
  cases r with
  | zero=>rw [decide_eq_false (show ¬ i<b by omega)];rfl
  | succ r=>
   have hi:0≤i∧i<(xs.length:Int):=by omega
   have hL:∀ c:Int,(bif decide (97≤c) then decide (c≤122) else false)=decide (isL c):=by
    intro c;unfold isL;by_cases x:97≤c <;> by_cases y:c≤122 <;> simp [x,y]
   have hUp:∀ c:Int,(bif decide (65≤c) then decide (c≤90) else false)=decide (isU c):=by
    intro c;unfold isU;by_cases x:65≤c <;> by_cases y:c≤90 <;> simp [x,y]
   have hU:(bif decide (how=1) then true else bif decide (how=2) then f else false)=decide (how=1∨(how=2∧f=true)):=by
    by_cases a:how=1 <;> by_cases b:how=2 <;> cases f <;> simp [a,b]
   rw [decide_eq_true (show i<b by omega),cond_true,if_pos hi,if_pos (fun _=>hi),if_pos hi,if_pos (fun _=>hi),bP (x:=i+1) (by omega) (by omega)]
   simp only [hL,hUp,hU,aAi]
   have hss:=aQo xs i hi.1 hi.2
   have step:=fun f' xs' (hx:xs'.length=xs.length)=>ih r (i+1) f' xs' (by omega) (by omega) (by omega) hB (by omega)
   by_cases a1:isL (at' xs i)
   ·
    have a2:¬ isU (at' xs i):=by unfold isL at a1;unfold isU;omega
    have w1:W (at' xs i - 32)=at' xs i - 32:=bP (by unfold isL at a1;omega) (by unfold isL at a1;omega)
    simp only [a1,a2,decide_true,decide_false,Bool.not_true,Bool.not_false,cond_true,cond_false,true_or,if_true,upI,loI,if_false,Bool.cond_false_right,Bool.and_false,w1]
    by_cases u:how=1∨(how=2∧f=true)
    ·
     simp only [u,decide_true,Bool.and_true,cond_true,if_true]
     rw [if_pos hi,if_pos hi]
     exact step false _ (by rw [List.length_set])
    ·
     simp only [u,decide_false,cond_false,if_false,Bool.false_and]
     rw [hss]
     exact step false xs rfl
   ·
    by_cases a2:isU (at' xs i)
    ·
     have w1:W (at' xs i+32)=at' xs i+32:=bP (by unfold isU at a2;omega) (by unfold isU at a2;omega)
     simp only [a1,a2,decide_true,decide_false,Bool.not_true,Bool.not_false,cond_true,cond_false,or_true,if_true,upI,loI,if_false,Bool.cond_false_right,Bool.and_false,Bool.and_true,w1]
     by_cases u:how=1∨(how=2∧f=true)
     ·
      simp only [u,decide_true,Bool.not_true,cond_false,if_true]
      rw [hss]
      exact step false xs rfl
     ·
      simp only [u,decide_false,Bool.not_false,cond_true,if_false]
      rw [if_pos hi,if_pos hi]
      exact step false _ (by rw [List.length_set])
    ·
     simp only [a1,a2,decide_false,Bool.not_false,cond_true,or_self,if_false]
     exact step f xs rfl
theorem aNh (l:List Int×Int) (h:bK l=true) (a b how:Int) (hr:0≤a∧a≤b∧b≤(l.1.length:Int)) (hh:0≤how∧how≤2):mI l a b how=some (aLy l a b how,true):=by
 obtain ⟨p0,p1,p2⟩:=bG h
 have hi:cT how 0 2=some true:=by
  unfold cT
  rw [decide_eq_true hh.1,decide_eq_true hh.2];rfl
 unfold mI
 rw [aO (aK8 l a b (by omega)),h,decide_eq_true hr,hi,sW (by rfl)]
 simp only [Bool.and_self,Bool.not_true,cond_false,aU]
 rw [aO (aFi l b (by omega))]
 rw [aLx b how _ bM (b - a).toNat a true (goL l b).1 hr.1 (by omega) (by unfold goL;simp only;omega) (by omega) (by rw [bO];omega)]
 unfold goL aLy
 rw [show max 0 (min b (l.1.length:Int))=b by omega]
theorem aNg (l:List Int×Int) (h:bK l=true) (a b how:Int) (hr:0≤a∧a≤b∧b≤(l.1.length:Int)) (hh:0≤how∧how≤2):pG l a b how=some (aLy l a b how,true):=by
 obtain ⟨p0,p1,p2⟩:=bG h
 unfold pG
 rw [aO (aQm l a b (by omega)),h,decide_eq_true hr,decide_eq_false (show ¬ how<0 by omega),decide_eq_false (show ¬ 2<how by omega),show (true && true)=true from rfl]
 simp only [Bool.not_true,cond_false,aU]
 rw [aO (xB _ _ _ (by simp only [List.length_nil];omega)),List.append_nil,List.append_nil]
 rw [aLw b how _ bM (b - a).toNat a true l.1 hr.1 (by omega) hr.2.2 (by omega) (by rw [bO];omega)]
 rfl
section
variable (t:List Int) (hl:(t.length:Int)≤1048576) (big:Bool)
include hl
theorem aLa (j:Int→Option Int):∀ (m k:Nat),(k:Int)≤(t.length:Int)→k<m →
  bC (gP t big j) m (k:Int)=j (bwd (fun i=>vX big (at' t i)=0) k:Nat):=by
 intro m
 induction m with
 | zero=>intro k _ h;omega
 | succ m ih=>
  intro k hk hm
  simp only [bC,gP,bU,Bool.cond_decide]
  cases k with
  | zero=>simp [bwd]
  | succ k=>
   have h1:(0:Int)<((k+1:Nat):Int):=by omega
   have e:((k+1:Nat):Int) - 1=(k:Int):=by omega
   simp only [h1,decide_true,if_true]
   rw [bP (by omega) (by omega),e,aO (aA0 t k big (by omega) (by omega)),ih k (by omega) (by omega)]
   simp only [bwd,Bool.cond_decide]
   split <;> rfl
theorem aK9 (c:Int) (j:Int→Option Int):∀ (m k:Nat),(k:Int)≤(t.length:Int)→k<m →
  bC (gO t big c j) m (k:Int)=j (bwd (fun i=>vX big (at' t i)=c) k:Nat):=by
 intro m
 induction m with
 | zero=>intro k _ h;omega
 | succ m ih=>
  intro k hk hm
  simp only [bC,gO,bU,Bool.cond_decide]
  cases k with
  | zero=>simp [bwd]
  | succ k=>
   have h1:(0:Int)<((k+1:Nat):Int):=by omega
   have e:((k+1:Nat):Int) - 1=(k:Int):=by omega
   simp only [h1,decide_true,if_true]
   rw [bP (by omega) (by omega),e,aO (aA0 t k big (by omega) (by omega)),ih k (by omega) (by omega)]
   simp only [bwd,Bool.cond_decide]
   split <;> rfl
omit hl in
def aAb (k:Nat):Int:=
 let x:=bwd (fun i=>vX big (at' t i)=0) k
 if x=0 then 0 else (bwd (fun i=>vX big (at' t i)=vX big (at' t ((x:Int) - 1))) x:Nat)
omit hl in
theorem xQ (k:Nat) (h1:(k:Int)≤(t.length:Int)):0≤aAb t big k∧aAb t big k≤k:=by
 unfold aAb
 simp only
 have a:=yV (fun i=>vX big (at' t i)=0) k
 split
 ·
  omega
 ·
  have b:=yV (fun i=>vX big (at' t i)=vX big (at' t ((bwd (fun i=>vX big (at' t i)=0) k:Nat) - 1:Int))) (bwd (fun i=>vX big (at' t i)=0) k)
  omega
theorem aRf (k:Nat) (h1:(k:Int)≤(t.length:Int)):lR t (k:Int) big=some (aAb t big k):=by
 unfold lR hD aAb
 have e:max (0:Int) (min (k:Int) (t.length:Int))=k:=by omega
 simp only [aG,aU,Bool.cond_decide,e]
 rw [aLa t hl big _ bM k h1 (by rw [bO];omega)]
 have a:=yV (fun i=>vX big (at' t i)=0) k
 generalize bwd (fun i=>vX big (at' t i)=0) k=x at *
 by_cases h2:x=0
 ·
  simp [h2]
 ·
  have h2':¬ ((x:Int)=0):=by omega
  simp only [h2,h2',if_false]
  rw [bP (by omega) (by omega),aA0 t ((x:Int) - 1) big (by omega) (by omega)]
  simp only
  rw [aK9 t hl big _ _ bM x (by omega) (by rw [bO];omega)]
end
section
variable (t:List Int) (hl:(t.length:Int)≤1048576) (big:Bool)
include hl
theorem aJ3 (j:Int→Option Int):∀ (m k:Nat),(k:Int)≤(t.length:Int)→k<m →
  bC (gI t big j) m (k:Int)=j (bwd (fun i=>vX big (at' t i)=0) k:Nat):=by
 intro m
 induction m with
 | zero=>intro k _ h;omega
 | succ m ih=>
  intro k hk hm
  simp only [bC,gI,bU,Bool.cond_decide,aN]
  cases k with
  | zero=>simp [bwd]
  | succ k=>
   have h1:(0:Int)<((k+1:Nat):Int):=by omega
   have e:((k+1:Nat):Int) - 1=(k:Int):=by omega
   have g:(0:Int)≤k∧(k:Int)<(t.length:Int):=by omega
   simp only [h1,decide_true,if_true]
   rw [bP (by omega) (by omega),e,if_pos (fun _=>g),aO (aAq _ big),ih k (by omega) (by omega)]
   simp only [bwd,Bool.cond_decide]
   split <;> rfl
theorem aJ2 (c:Int) (j:Int→Option Int):∀ (m k:Nat),(k:Int)≤(t.length:Int)→k<m →
  bC (gH t big c j) m (k:Int)=j (bwd (fun i=>vX big (at' t i)=c) k:Nat):=by
 intro m
 induction m with
 | zero=>intro k _ h;omega
 | succ m ih=>
  intro k hk hm
  simp only [bC,gH,bU,Bool.cond_decide,aN]
  cases k with
  | zero=>simp [bwd]
  | succ k=>
   have h1:(0:Int)<((k+1:Nat):Int):=by omega
   have e:((k+1:Nat):Int) - 1=(k:Int):=by omega
   have g:(0:Int)≤k∧(k:Int)<(t.length:Int):=by omega
   simp only [h1,decide_true,if_true]
   rw [bP (by omega) (by omega),e,if_pos (fun _=>g),aO (aAq _ big),ih k (by omega) (by omega)]
   simp only [bwd,Bool.cond_decide]
   split <;> rfl
theorem aQp (k:Nat) (h1:(k:Int)≤(t.length:Int)):kX t (k:Int) big=some (aAb t big k):=by
 unfold kX
 rw [oZ _ _ (by omega)]
 have e:max (0:Int) (min (k:Int) (t.length:Int))=k:=by omega
 simp only [aG,aU,Bool.cond_decide,e,aN]
 unfold aAb
 rw [aJ3 t hl big _ bM k h1 (by rw [bO];omega)]
 have a:=yV (fun i=>vX big (at' t i)=0) k
 generalize bwd (fun i=>vX big (at' t i)=0) k=x at *
 by_cases h2:x=0
 ·
  simp [h2]
 ·
  have h2':¬ ((x:Int)=0):=by omega
  simp only [h2,h2',if_false]
  rw [bP (by omega) (by omega),if_pos ⟨by omega,by omega⟩,aAq]
  simp only
  rw [aJ2 t hl big _ _ bM x (by omega) (by rw [bO];omega)]
end
def kOk (k:Int×Int):Bool:=
 if k.1=1 then pr k.2
 else if k.1=2 then decide (k.2=95∨(97≤k.2∧k.2≤122∧k.2≠104∧k.2≠105∧k.2≠106∧k.2≠109))
 else if k.1=3 then decide (33≤k.2∧k.2≤126)
 else decide (4≤k.1∧k.1≤16∧k.2=0)
theorem aSl (k:Int×Int):wG k=some (kOk k):=by
 unfold wG kOk
 simp only [uI,aG,Bool.cond_decide,fN,cT,cB]
 by_cases h1:k.1=1
 ·
  rw [if_pos h1,if_pos h1]
 rw [if_neg h1,if_neg h1]
 by_cases h2:k.1=2
 ·
  rw [if_pos h2,if_pos h2]
  congr 1
  by_cases q1:k.2=95
  ·
   simp [q1]
  ·
   by_cases q2:97≤k.2 <;> by_cases q3:k.2≤122 <;> simp [q1,q2,q3,Bool.and_assoc]
 rw [if_neg h2,if_neg h2]
 by_cases h3:k.1=3
 ·
  rw [if_pos h3,if_pos h3]
  congr 1
  by_cases q2:33≤k.2 <;> simp [q2]
 rw [if_neg h3,if_neg h3]
 congr 1
 by_cases q2:4≤k.1 <;> by_cases q3:k.1≤16 <;> simp [q2,q3]
theorem aOd (k:Int×Int):sX k=some (kOk k):=by
 unfold sX kOk
 simp only [uH,aG,Bool.cond_decide]
 by_cases h1:k.1=1
 ·
  rw [if_pos h1,if_pos h1]
 rw [if_neg h1,if_neg h1]
 by_cases h2:k.1=2
 ·
  rw [if_pos h2,if_pos h2]
  congr 1
  by_cases q1:k.2=95
  ·
   simp [q1]
  ·
   by_cases q2:97≤k.2 <;> by_cases q3:k.2≤122 <;> simp [q1,q2,q3,Bool.and_assoc]
 rw [if_neg h2,if_neg h2]
 by_cases h3:k.1=3
 ·
  rw [if_pos h3,if_pos h3]
  congr 1
  by_cases q2:33≤k.2 <;> simp [q2]
 rw [if_neg h3,if_neg h3]
 congr 1
 by_cases q2:4≤k.1 <;> by_cases q3:k.1≤16 <;> simp [q2,q3]
def zW (p:EdT×Int):EdT×Int×Bool:=(p.1,p.2,true)
def aHu (r:Int) (e:EdT):EdT×Int×Bool:=
 if r=99 then (e,3,true) else if r=108 then (e,5,true)
 else if r=100 then (if 0<(e.2.2.1.1.length:Int) then zW (aCx e.2.2.1.2 (min (e.2.2.1.2+max e.2.2.2.1 1) (e.2.2.1.1.length:Int)) e) else (e,4,true))
 else if r=117 then zW (tM 0 e.2.2.1.2 2 e)
 else if r=119 then zW (tM (aAb e.2.2.1.1 true e.2.2.1.2.toNat) e.2.2.1.2 2 e)
 else (zEd,0,false)
def gA (h:Int×List (List UInt8)) (k:Int×Int) (e:EdT):EdT×Int×Bool:=
 if k.1=1 then zW (zZ (List.replicate (max e.2.2.2.1 1).toNat k.2) 1 e)
 else if k.1=6 then zW (zZ (List.replicate (max e.2.2.2.1 1).toNat 9) 1 e)
 else if k.1=4 then (e,2,true)
 else if k.1=2 then aHu k.2 e
 else if k.1=5 then zW (aCx (max (e.2.2.1.2 - max e.2.2.2.1 1) 0) e.2.2.1.2 e)
 else if k.1=14 then zW (aCx e.2.2.1.2 (min (e.2.2.1.2+max e.2.2.2.1 1) (e.2.2.1.1.length:Int)) e)
 else if k.1=11 then zW (goE (e.2.2.1.2 - max e.2.2.2.1 1) e)
 else if k.1=10 then zW (goE (e.2.2.1.2+max e.2.2.2.1 1) e)
 else if k.1=12 then zW (goE 0 e)
 else if k.1=13 then zW (goE (e.2.2.1.1.length:Int) e)
 else if k.1=8 then zW (aAc h (-1) e)
 else if k.1=9 then zW (aAc h 1 e)
 else (zEd,0,false)
theorem aK7 (e:EdT) (hv:cG e=true) (r n nl:Int):zZ (List.replicate (min n 401).toNat r) nl e=zZ (List.replicate n.toNat r) nl e:=by
 unfold zZ
 rw [aQz (eOk e hv).1]
theorem n_s (e:EdT):rJ e=some (max e.2.2.2.1 1):=by
 unfold rJ
 rw [Bool.cond_decide]
 split
 ·
  rw [show max e.2.2.2.1 1=1 by omega]
 ·
  rw [show max e.2.2.2.1 1=e.2.2.2.1 by omega]
section
variable (e:EdT) (hv:cG e=true)
include hv
theorem aT2 (r:Int):nH e r=some (aHu r e):=by
 obtain ⟨hl,hc,_⟩:=eOk e hv
 obtain ⟨p0,p1,p2⟩:=bG hl
 unfold nH aHu
 rw [aO (aB2 e hv),bP (x:=e.2.2.1.2+max e.2.2.2.1 1) (by omega) (by omega)]
 simp only [aU,Bool.cond_decide]
 by_cases c1:r=99
 ·
  rw [if_pos c1,if_pos c1]
 rw [if_neg c1,if_neg c1]
 by_cases c1:r=108
 ·
  rw [if_pos c1,if_pos c1]
 rw [if_neg c1,if_neg c1]
 by_cases c1:r=100
 ·
  rw [if_pos c1,if_pos c1]
  by_cases c2:0<(e.2.2.1.1.length:Int)
  ·
   rw [if_pos c2,if_pos c2]
   exact aJ (aRt e hv _ _ (by omega)) rfl
  ·
   rw [if_neg c2,if_neg c2]
 rw [if_neg c1,if_neg c1]
 by_cases c1:r=117
 ·
  rw [if_pos c1,if_pos c1]
  exact aJ (aFe e hv _ _ _ (by omega) (by omega)) rfl
 rw [if_neg c1,if_neg c1]
 by_cases c1:r=119
 ·
  rw [if_pos c1,if_pos c1]
  obtain ⟨n,hn⟩:∃ n:Nat,e.2.2.1.2=(n:Int):=⟨e.2.2.1.2.toNat,by omega⟩
  have hb:=xQ e.2.2.1.1 true n (by omega)
  have hw:=aRf e.2.2.1.1 (by omega) true n (by omega)
  rw [hn,Int.toNat_natCast]
  refine aJ hw ?_
  exact aJ (aFe e hv _ _ _ (by omega) (by omega)) rfl
 rw [if_neg c1,if_neg c1]
 rfl
variable (h:Int×List (List UInt8)) (hh:(h.2.length:Int)≤1048576)
include hh
theorem aN8 (k:Int×Int):oK e h k=some (gA h k e):=by
 obtain ⟨hl,hc,_⟩:=eOk e hv
 obtain ⟨p0,p1,p2⟩:=bG hl
 have hgo:∀ a:Int,aG (fW e.2.2.1 a) (fun l=>fY e l)=some (goE a e):=by
  intro a
  exact aJ (aFi _ a (by omega)) (aCj e hv _ (aCu hl a))
 have hput:∀ a:Int,fW e.2.2.1 a=some (goL e.2.2.1 a):=fun a=>aFi _ a (by omega)
 have hput2:∀ a:Int,fY e (goL e.2.2.1 a)=some (goE a e):=fun a=>aCj e hv _ (aCu hl a)
 unfold oK gA
 rw [bP (x:=e.2.2.1.2+max e.2.2.2.1 1) (by omega) (by omega),bP (x:=e.2.2.1.2 - max e.2.2.2.1 1) (by omega) (by omega)]
 simp only [aU,Bool.cond_decide]
 by_cases c1:k.1=1
 ·
  rw [if_pos c1,if_pos c1,← aK7 e hv]
  exact aJ (aNz _ _ (by omega) (by omega)) (aJ (aRd e hv _ (by rw [List.length_replicate];omega) 1) rfl)
 rw [if_neg c1,if_neg c1]
 by_cases c1:k.1=6
 ·
  rw [if_pos c1,if_pos c1,← aK7 e hv]
  exact aJ (aNz _ _ (by omega) (by omega)) (aJ (aRd e hv _ (by rw [List.length_replicate];omega) 1) rfl)
 rw [if_neg c1,if_neg c1]
 by_cases c1:k.1=4
 ·
  rw [if_pos c1,if_pos c1]
  exact aJ (aB2 e hv) rfl
 rw [if_neg c1,if_neg c1]
 by_cases c1:k.1=2
 ·
  rw [if_pos c1,if_pos c1]
  exact aJ (aT2 e hv _) rfl
 rw [if_neg c1,if_neg c1]
 by_cases c1:k.1=5
 ·
  rw [if_pos c1,if_pos c1]
  exact aJ (aRt e hv _ _ (by omega)) rfl
 rw [if_neg c1,if_neg c1]
 by_cases c1:k.1=14
 ·
  rw [if_pos c1,if_pos c1]
  exact aJ (aRt e hv _ _ (by omega)) rfl
 rw [if_neg c1,if_neg c1]
 by_cases c1:k.1=11
 ·
  rw [if_pos c1,if_pos c1]
  exact aJ (hput _) (aJ (hput2 _) rfl)
 rw [if_neg c1,if_neg c1]
 by_cases c1:k.1=10
 ·
  rw [if_pos c1,if_pos c1]
  exact aJ (hput _) (aJ (hput2 _) rfl)
 rw [if_neg c1,if_neg c1]
 by_cases c1:k.1=12
 ·
  rw [if_pos c1,if_pos c1]
  exact aJ (hput _) (aJ (hput2 _) rfl)
 rw [if_neg c1,if_neg c1]
 by_cases c1:k.1=13
 ·
  rw [if_pos c1,if_pos c1]
  exact aJ (hput _) (aJ (hput2 _) rfl)
 rw [if_neg c1,if_neg c1]
 by_cases c1:k.1=8
 ·
  rw [if_pos c1,if_pos c1]
  exact aJ (aN3 e hv h hh _) rfl
 rw [if_neg c1,if_neg c1]
 by_cases c1:k.1=9
 ·
  rw [if_pos c1,if_pos c1]
  exact aJ (aN3 e hv h hh _) rfl
 rw [if_neg c1,if_neg c1]
 rfl
def aOo (q:EdT×Int×Bool):EdT×Int:=if q.2.2=true then (q.1,q.2.1) else (zEd,-1)
theorem aSi (k:Int×Int):mC e h k=some (aOo (gA h k e)):=by
 obtain ⟨hl,hc,_⟩:=eOk e hv
 obtain ⟨p0,p1,p2⟩:=bG hl
 obtain ⟨kk,kr⟩:=k
 unfold mC gA
 rw [aO (n_s e),bP (x:=e.2.2.1.2+max e.2.2.2.1 1) (by omega) (by omega),bP (x:=e.2.2.1.2 - max e.2.2.2.1 1) (by omega) (by omega)]
 simp only [aU,Bool.cond_decide]
 by_cases c1:kk=1
 ·
  subst c1
  simp only [Int.reduceEq,if_true,if_false]
  exact aJ (aQ4 _ _ (by omega) (by omega)) (aJ (aRc e hv _ (by rw [List.length_replicate];omega) 1 (by omega)) rfl)
 by_cases c2:kk=6
 ·
  subst c2
  simp only [Int.reduceEq,if_true,if_false]
  exact aJ (aQ4 _ _ (by omega) (by omega)) (aJ (aRc e hv _ (by rw [List.length_replicate];omega) 1 (by omega)) rfl)
 by_cases c3:kk=4
 ·
  subst c3
  simp only [Int.reduceEq,if_true,if_false]
  exact aJ (rE e hv) rfl
 by_cases c5:kk=5
 ·
  subst c5
  simp only [Int.reduceEq,if_true,if_false]
  refine aJ (aRs e hv _ _ (by omega)) ?_
  rw [show max 0 (min (e.2.2.1.2 - max e.2.2.2.1 1) (e.2.2.1.1.length:Int))=max (e.2.2.1.2 - max e.2.2.2.1 1) 0 by omega,show max 0 (min e.2.2.1.2 (e.2.2.1.1.length:Int))=e.2.2.1.2 by omega]
  rfl
 by_cases c6:kk=14
 ·
  subst c6
  simp only [Int.reduceEq,if_true,if_false]
  refine aJ (aRs e hv _ _ (by omega)) ?_
  rw [show max 0 (min (e.2.2.1.2+max e.2.2.2.1 1) (e.2.2.1.1.length:Int))=min (e.2.2.1.2+max e.2.2.2.1 1) (e.2.2.1.1.length:Int) by omega,show max 0 (min e.2.2.1.2 (e.2.2.1.1.length:Int))=e.2.2.1.2 by omega]
  rfl
 by_cases c7:kk=11
 ·
  subst c7
  simp only [Int.reduceEq,if_true,if_false]
  exact aJ (aAh e hv _) rfl
 by_cases c8:kk=10
 ·
  subst c8
  simp only [Int.reduceEq,if_true,if_false]
  exact aJ (aAh e hv _) rfl
 by_cases c9:kk=12
 ·
  subst c9
  simp only [Int.reduceEq,if_true,if_false]
  exact aJ (aAh e hv _) rfl
 by_cases c10:kk=13
 ·
  subst c10
  simp only [Int.reduceEq,if_true,if_false]
  exact aJ (aAh e hv _) rfl
 by_cases c11:kk=8
 ·
  subst c11
  simp only [Int.reduceEq,if_true,if_false]
  exact aJ (aD0 e hv h hh _) rfl
 by_cases c12:kk=9
 ·
  subst c12
  simp only [Int.reduceEq,if_true,if_false]
  exact aJ (aD0 e hv h hh _) rfl
 by_cases c13:kk=2
 ·
  subst c13
  simp only [Int.reduceEq,if_true,if_false,aHu]
  by_cases d1:kr=99
  ·
   rw [if_pos d1,if_pos d1]
   exact aJ (rE e hv) rfl
  rw [if_neg d1,if_neg d1]
  by_cases d1:kr=108
  ·
   rw [if_pos d1,if_pos d1]
   exact aJ (rE e hv) rfl
  rw [if_neg d1,if_neg d1]
  by_cases d1:kr=100
  ·
   rw [if_pos d1,if_pos d1]
   by_cases c2:0<(e.2.2.1.1.length:Int)
   ·
    rw [if_pos c2,if_neg (by omega)]
    refine aJ (aRs e hv _ _ (by omega)) ?_
    rw [show max 0 (min (e.2.2.1.2+max e.2.2.2.1 1) (e.2.2.1.1.length:Int))=min (e.2.2.1.2+max e.2.2.2.1 1) (e.2.2.1.1.length:Int) by omega,show max 0 (min e.2.2.1.2 (e.2.2.1.1.length:Int))=e.2.2.1.2 by omega]
    rfl
   ·
    rw [if_neg c2,if_pos (by omega)]
    exact aJ (rE e hv) rfl
  rw [if_neg d1,if_neg d1]
  by_cases d1:kr=117
  ·
   rw [if_pos d1,if_pos d1]
   refine aJ (aFd e hv _ _ _ (by omega) (by omega)) ?_
   rw [show max 0 (min 0 (e.2.2.1.1.length:Int))=0 by omega,show max 0 (min e.2.2.1.2 (e.2.2.1.1.length:Int))=e.2.2.1.2 by omega]
   rfl
  rw [if_neg d1,if_neg d1]
  by_cases d1:kr=119
  ·
   rw [if_pos d1,if_pos d1]
   obtain ⟨n,hn⟩:∃ n:Nat,e.2.2.1.2=(n:Int):=⟨e.2.2.1.2.toNat,by omega⟩
   have hb:=xQ e.2.2.1.1 true n (by omega)
   have hw:=aQp e.2.2.1.1 (by omega) true n (by omega)
   rw [hn,Int.toNat_natCast]
   refine aJ hw ?_
   refine aJ (aFd e hv _ _ _ (by omega) (by omega)) ?_
   rw [show max 0 (min (aAb e.2.2.1.1 true n) (e.2.2.1.1.length:Int))=aAb e.2.2.1.1 true n by omega,show max 0 (min (n:Int) (e.2.2.1.1.length:Int))=n by omega]
   rfl
  rw [if_neg d1,if_neg d1]
  rfl
 simp only [c1,c2,c3,c5,c6,c7,c8,c9,c10,c11,c12,c13,if_false]
 rfl
end
def aG4 (q:EdT×Int):Prop:=eJ 1048576 q.1∧0≤q.2
def aL4 (q:EdT×Int×Bool):Prop:=aG4 (q.1,q.2.1)
theorem kF {c:Prop} [Decidable c] {a b:EdT×Int×Bool} (ha:c→aL4 a) (hb:¬ c→aL4 b):aL4 (if c then a else b):=by
 by_cases h:c
 ·
  rw [if_pos h];exact ha h
 ·
  rw [if_neg h];exact hb h
theorem sM {e:EdT} {a:Int} (h:cG e=true) (ha:0≤a):aG4 (e,a):=⟨cR (by omega) (aAp e h),ha⟩
theorem aJr (h:Int×List (List UInt8)) (st:Int) (e:EdT) (hs:eJ 1048576 e):eJ 1048576 (tB h st e).1:=by
 obtain ⟨vi,mode,line,count,op,opc,wait,fr,fh,last,ring,undo,nav,own,query,hit,back⟩:=e
 obtain ⟨h1,⟨h2,h3⟩,⟨h4,h5⟩,h6,h7,h8⟩:=hs
 simp only [tB]
 have zs:eJ 1048576 zEd:=⟨by simp,⟨by simp,by simp⟩,⟨by simp,by simp⟩,by simp,by simp,by simp⟩
 have ho:(if nav=0 then line else own).1.length≤1048576:=by split <;> omega
 generalize (if nav=0 then line else own)=oo at *
 generalize (if nav=0 then eH h+1 else nav)+st=N
 have hN:=aIy (aAa h N).1
 split
 ·
  split
  ·
   exact ⟨h6,⟨h2,h3⟩,⟨by simp,by simp⟩,by simp,h7,h8⟩
  ·
   split
   ·
    exact ⟨Nat.le_trans hN (by omega),⟨h2,h3⟩,⟨by simp,by simp⟩,ho,h7,h8⟩
   ·
    exact zs
 ·
  exact zs
theorem aRu (e:EdT) (a b:Int):0≤(aCx a b e).2:=by
 unfold aCx;split
 ·
  exact (by decide:(0:Int)≤1)
 ·
  exact Int.le_refl 0
theorem aPz (e:EdT) (a b how:Int):0≤(tM a b how e).2:=by
 unfold tM;split
 ·
  exact (by decide:(0:Int)≤1)
 ·
  exact Int.le_refl 0
theorem aRe (e:EdT) (t:List Int) (nl:Int):0≤(zZ t nl e).2:=by
 unfold zZ;split
 ·
  exact Int.le_refl 0
 ·
  exact (by decide:(0:Int)≤1)
theorem aJf:aG4 (zEd,0):=⟨cR (by omega) aG6,Int.le_refl 0⟩
section
variable (e:EdT) (hv:cG e=true)
include hv
theorem aA5:aG4 (jI e):=sM (aB7 e hv) (by decide)
theorem aSw (a b:Int) (hr:0≤a∧a≤b∧b≤(e.2.2.1.1.length:Int)):cG (aCx a b e).1=true:=by
 unfold aCx
 split
 ·
  exact aB7 e hv
 ·
  exact tE e hv _ (uT (eOk e hv).1 hr).1 0 (by omega)
theorem aQ7 (a b how:Int) (hr:0≤a∧a≤b∧b≤(e.2.2.1.1.length:Int)) (hh:0≤how∧how≤2):cG (tM a b how e).1=true:=by
 obtain ⟨hl,_,hro,_⟩:=eOk e hv
 unfold tM
 split
 ·
  exact aB7 e hv
 ·
  exact zL _ (tE e hv _ (uT hl hr).1 2 (by omega)) _ (aJ9 hro (qM (mB hl) a b))
theorem aSm (t:List Int) (nl:Int) (hn:0≤nl∧nl≤3):cG (zZ t nl e).1=true:=by
 unfold zZ
 split
 ·
  rename_i hp
  exact tE e hv _ (zN hp) nl hn
 ·
  exact aB7 e hv
theorem aTz (a:Int):cG (goE a e).1=true:=tE e hv _ (aCu (eOk e hv).1 a) 0 (by omega)
theorem wQ (h:Int×List (List UInt8)) (st:Int):aG4 (aAc h st e):=by
 unfold aAc
 split
 ·
  exact ⟨aJr h st e (cR (by omega) (aAp e hv)),Int.le_refl 0⟩
 ·
  exact aA5 e hv
theorem aCw (a b:Int) (hr:0≤a∧a≤b∧b≤(e.2.2.1.1.length:Int)):aG4 (aCx a b e):=sM (a:=(aCx a b e).2) (aSw e hv a b hr) (aRu e a b)
theorem tL (a b how:Int) (hr:0≤a∧a≤b∧b≤(e.2.2.1.1.length:Int)) (hh:0≤how∧how≤2):aG4 (tM a b how e):=sM (a:=(tM a b how e).2) (aQ7 e hv a b how hr hh) (aPz e a b how)
theorem aCt (t:List Int) (nl:Int) (hn:0≤nl∧nl≤3):aG4 (zZ t nl e):=sM (a:=(zZ t nl e).2) (aSm e hv t nl hn) (aRe e t nl)
theorem mS (a:Int):aG4 (goE a e):=sM (a:=0) (aTz e hv a) (by omega)
theorem aC7 (h:Int×List (List UInt8)) (k:Int×Int):aL4 (gA h k e):=by
 obtain ⟨hl,hc,_⟩:=eOk e hv
 obtain ⟨p0,p1,p2⟩:=bG hl
 have he:=sM (a:=3) hv (by omega)
 have he5:=sM (a:=5) hv (by omega)
 have he4:=sM (a:=4) hv (by omega)
 have he2:=sM (a:=2) hv (by omega)
 have hf:∀ q:EdT×Int,aG4 q→aL4 (zW q):=fun q h=>h
 unfold gA aHu
 refine kF (fun _=>hf _ (aCt e hv _ 1 (by omega))) fun _=>?_
 refine kF (fun _=>hf _ (aCt e hv _ 1 (by omega))) fun _=>?_
 refine kF (fun _=>he2) fun _=>?_
 refine kF (fun _=>?_) fun _=>?_
 ·
  refine kF (fun _=>he) fun _=>?_
  refine kF (fun _=>he5) fun _=>?_
  refine kF (fun _=>kF (fun _=>hf _ (aCw e hv _ _ (by omega))) fun _=>he4) fun _=>?_
  refine kF (fun _=>hf _ (tL e hv _ _ _ (by omega) (by omega))) fun _=>?_
  refine kF (fun _=>hf _ (tL e hv _ _ _ ?_ (by omega))) fun _=>aJf
  have hb:=xQ e.2.2.1.1 true e.2.2.1.2.toNat (by omega)
  omega
 refine kF (fun _=>hf _ (aCw e hv _ _ (by omega))) fun _=>?_
 refine kF (fun _=>hf _ (aCw e hv _ _ (by omega))) fun _=>?_
 refine kF (fun _=>hf _ (mS e hv _)) fun _=>?_
 refine kF (fun _=>hf _ (mS e hv _)) fun _=>?_
 refine kF (fun _=>hf _ (mS e hv _)) fun _=>?_
 refine kF (fun _=>hf _ (mS e hv _)) fun _=>?_
 refine kF (fun _=>hf _ (wQ e hv h _)) fun _=>?_
 exact kF (fun _=>hf _ (wQ e hv h _)) fun _=>aJf
end
theorem kE {c:Prop} [Decidable c] {a b:EdT×Int×Bool} (ha:a.2.2=false→a=(zEd,0,false)) (hb:b.2.2=false→b=(zEd,0,false)) :
  (if c then a else b).2.2=false→(if c then a else b)=(zEd,0,false):=by
 by_cases h:c
 ·
  rw [if_pos h];exact ha
 ·
  rw [if_neg h];exact hb
theorem aPq (h:Int×List (List UInt8)) (k:Int×Int) (e:EdT):(gA h k e).2.2=false→gA h k e=(zEd,0,false):=by
 have ht:∀ q:EdT×Int,(zW q).2.2=false→zW q=(zEd,0,false):=fun q h=>by cases h
 have hn:∀ n:Int,((e,n,true):EdT×Int×Bool).2.2=false→((e,n,true):EdT×Int×Bool)=(zEd,0,false):=fun n h=>by cases h
 unfold gA aHu
 refine kE (ht _) (kE (ht _) (kE (hn _) (kE ?_ (kE (ht _) (kE (ht _) (kE (ht _) (kE (ht _) (kE (ht _) (kE (ht _) (kE (ht _) (kE (ht _) fun _=>rfl)))))))))))
 exact kE (hn _) (kE (hn _) (kE (kE (ht _) (hn _)) (kE (ht _) (kE (ht _) fun _=>rfl))))
def dC (e:EdT):List (List Int):=e.2.2.2.2.2.2.2.2.2.2.1
def qF (r:List (List Int)):List Int:=r.headD []
def oE (r:List (List Int)):List (List Int):=r.drop 1 ++ r.take 1
def aG5 (e:EdT):EdT×Int:=if ((qF (dC e)).length:Int)=0 then jI e else zZ (qF (dC e)) 3 e
def sA (e:EdT) (top:List Int) (f:Int):EdT×Int:=
 if e.2.2.2.2.2.2.2.2.2.1≠3∨(top.length:Int)=0∨f<0∨bN e.2.2.1.1 f e.2.2.1.2≠top then jI e
 else if (uG (vJ e.2.2.1 f e.2.2.1.2) (qF (oE (dC e)))).2=true then (xN (uG (vJ e.2.2.1 f e.2.2.1.2) (qF (oE (dC e)))).1 3 (aN7 (oE (dC e)) e),0) else jI e
def aCy (e:EdT):EdT×Int:=sA e (qF (dC e)) (e.2.2.1.2 - ((qF (dC e)).length:Int))
def aQ5 (l:List Int×Int) (u:List (List Int×Int)):EdT→EdT
  | (vi,mode,_,count,op,opc,wait,fr,fh,last,ring,_,nav,own,query,hit,back)=>(vi,mode,l,count,op,opc,wait,fr,fh,last,ring,u,nav,own,query,hit,back)
def eM (e:EdT):List (List Int×Int):=e.2.2.2.2.2.2.2.2.2.2.2.1
def aD7 (e:EdT):EdT×Int:=
 let u:=eM e
 if (u.length:Int)=0 then jI e
 else (aQ5 ((at' u ((u.length:Int) - 1)).1,mM e.2.1 (at' u ((u.length:Int) - 1))) (u.take (u.length - 1)) (oQ 0 e),0)
def aN6:EdT→EdT×Int
  | (vi,_,line,_,_,_,_,fr,fh,_,ring,undo,nav,own,_,_,_)=>((vi,3,line,0,0,0,0,fr,fh,0,ring,undo,nav,own,[],0,line),0)
theorem zG {r:List (List Int)} (h:dT r=true):cO (qF r)=true∧(qF r).length≤400:=by
 obtain ⟨h1,h2⟩:=fJ h
 cases r with
 | nil=>exact ⟨rfl,by simp [qF]⟩
 | cons a r=>
  have:=(h2 a List.mem_cons_self).1
  exact ⟨this,dW this⟩
theorem aD8 {r:List (List Int)} (h:dT r=true):dT (oE r)=true:=by
 obtain ⟨h1,h2⟩:=fJ h
 refine aCi (by unfold oE;simp;omega) fun s hs=>?_
 unfold oE at hs
 rcases List.mem_append.1 hs with hs | hs
 ·
  exact h2 s (List.mem_of_mem_drop hs)
 ·
  exact h2 s (List.mem_of_mem_take hs)
theorem aCh (r:List (List Int)) (h:dT r=true):gQ r=some (qF r):=by
 obtain ⟨h1,h2⟩:=fJ h
 unfold gQ
 rw [aO (aBh r (by omega) (fun s hs=>by have:=dW (h2 s hs).1;omega)),h]
 cases r with
 | nil=>rfl
 | cons a r=>
  have ha:=dW (h2 a List.mem_cons_self).1
  have e0:at' (a :: r) 0=a:=rfl
  rw [e0,decide_eq_false (by simp only [List.length_cons];omega)]
  simp only [Bool.not_true,cond_false,aN]
  rw [if_pos (by simp only [List.length_cons];omega),aO (kO a (by omega))]
  rfl
theorem aCg (r:List (List Int)) (h:dT r=true):gJ r=some (qF r):=by
 obtain ⟨h1,h2⟩:=fJ h
 unfold gJ
 rw [aO (aBg r (by omega) (fun s hs=>by have:=dW (h2 s hs).1;omega)),h]
 cases r with
 | nil=>rfl
 | cons a r=>
  have ha:=dW (h2 a List.mem_cons_self).1
  have e0:at' (a :: r) 0=a:=rfl
  rw [e0,decide_eq_false (by simp only [List.length_cons];omega)]
  simp only [Bool.not_true,cond_false,aN]
  rw [if_pos (by simp only [List.length_cons];omega),if_pos (by simp only [List.length_nil];omega)]
  rfl
theorem aMt (r:List (List Int)) (h:dT r=true):mH r=some (oE r):=by
 obtain ⟨h1,h2⟩:=fJ h
 unfold mH
 rw [aO (aBh r (by omega) (fun s hs=>by have:=dW (h2 s hs).1;omega)),h]
 simp only [Bool.not_true,cond_false,aU,aN]
 rw [aO (aA4 r (by omega) (fun s hs=>by have:=dW (h2 s hs).1;omega))]
 cases r with
 | nil=>rfl
 | cons a r=>
  have e0:at' (a :: r) 0=a:=rfl
  rw [e0,decide_eq_true (by simp only [List.length_cons];omega),cond_true,if_pos (by simp only [List.length_cons] at h1 ⊢;omega),if_pos (by omega),if_pos (by simp only [List.length_cons];omega),if_pos (by omega)]
  rfl
theorem aMs (r:List (List Int)) (h:dT r=true):mG r=some (oE r):=by
 obtain ⟨h1,h2⟩:=fJ h
 unfold mG
 rw [aO (aBg r (by omega) (fun s hs=>by have:=dW (h2 s hs).1;omega)),h]
 simp only [Bool.not_true,cond_false,aU,aN]
 rw [aO (aA3 r (by omega) (fun s hs=>by have:=dW (h2 s hs).1;omega))]
 cases r with
 | nil=>rfl
 | cons a r=>
  have e0:at' (a :: r) 0=a:=rfl
  rw [e0,decide_eq_false (by simp only [List.length_cons];omega),cond_false,if_pos (by simp only [List.length_cons] at h1 ⊢;omega),if_pos (by omega),if_pos (by simp only [List.length_cons];omega),if_pos (by omega)]
  rfl
section
variable (e:EdT) (hv:cG e=true)
include hv
theorem aTe:yZ e=some (aG5 e):=by
 obtain ⟨hl,_,hro,_⟩:=eOk e hv
 obtain ⟨t1,t2⟩:=zG hro
 unfold yZ aG5
 rw [aO (aCh _ hro),Bool.cond_decide]
 show (if ((qF (dC e)).length:Int)=0 then _ else _)=_
 split
 ·
  exact aJ (iX e hv) rfl
 ·
  exact aJ (aRd e hv _ (by omega) 3) rfl
theorem aTd:rH e=some (aG5 e):=by
 obtain ⟨hl,_,hro,_⟩:=eOk e hv
 obtain ⟨t1,t2⟩:=zG hro
 unfold rH aG5
 rw [aO (aCg _ hro),Bool.cond_decide]
 show (if ((qF (dC e)).length:Int)=0 then _ else _)=_
 split
 ·
  exact aJ (nM e hv) rfl
 ·
  exact aJ (aRc e hv _ (by omega) 3 (by omega)) rfl
theorem aL6:pX e=some (aCy e):=by
 obtain ⟨hl,_,hro,_⟩:=eOk e hv
 obtain ⟨p0,p1,p2⟩:=bG hl
 obtain ⟨t1,t2⟩:=zG hro
 have hro2:=aD8 hro
 obtain ⟨u1,u2⟩:=zG hro2
 have hv2:=zL e hv _ hro2
 have hset:=aIb _ hv2
 have htop:=aCh _ hro
 have hturn:=aMt _ hro
 have htop2:=aCh _ hro2
 change dT (dC e)=true at hro
 change gQ (dC e)=some (qF (dC e)) at htop
 change mH (dC e)=some (oE (dC e)) at hturn
 change gQ (oE (dC e))=some (qF (oE (dC e))) at htop2
 change (qF (oE (dC e))).length≤400 at u2
 unfold pX aCy
 refine aJ htop ?_
 simp only
 change (qF (dC e)).length≤400 at t2
 generalize qF (dC e)=top at t2 ⊢
 rw [bP (x:=e.2.2.1.2 - (top.length:Int)) (by omega) (by omega)]
 generalize hf:e.2.2.1.2 - (top.length:Int)=f
 simp only [aN]
 by_cases c1:e.2.2.2.2.2.2.2.2.2.1=3
 ·
  by_cases c2:(top.length:Int)=0
  ·
   rw [show sA e top f=jI e from if_pos (.inr (.inl c2)),decide_eq_true c1,decide_eq_true c2]
   simp only [Bool.not_true,cond_false,cond_true,Bool.true_eq_false,false_implies,if_true]
   rw [qK (by simp)]
   exact aJ (iX e hv) rfl
  ·
   by_cases c3:f<0
   ·
    rw [show sA e top f=jI e from if_pos (.inr (.inr (.inl c3))),decide_eq_true c1,decide_eq_false c2,decide_eq_true c3]
    simp only [Bool.not_true,cond_false,cond_true,Bool.true_eq_false,false_implies,if_true]
    rw [qK (by simp)]
    exact aJ (iX e hv) rfl
   ·
    rw [decide_eq_true c1,decide_eq_false c2,decide_eq_false c3]
    have hs:=gV e.2.2.1.1 f e.2.2.1.2
    simp only [Bool.not_true,cond_false,cond_true,forall_const]
    rw [if_pos (by omega),aMo _ _ (by omega),sW trivial]
    by_cases c4:bN e.2.2.1.1 f e.2.2.1.2=top
    ·
     rw [show sA e top f=_ from if_neg (fun h=>h.elim (fun h=>h c1) fun h=>h.elim c2 fun h=>h.elim c3 fun h=>h c4),decide_eq_true c4]
     have hcut:=aCs e.2.2.1 f e.2.2.1.2 (by omega)
     rw [zT e hv f e.2.2.1.2 (by omega)] at hcut
     obtain ⟨k1,k2⟩:=uT hl (a:=f) (b:=e.2.2.1.2) (by omega)
     simp only [Bool.not_true,cond_false]
     refine aJ hcut (aJ hturn ?_)
     simp only [aU]
     refine aJ htop2 (aJ (aHl _ _ k1 (by omega)) ?_)
     have ho:=@zN (vJ e.2.2.1 f e.2.2.1.2) (qF (oE (dC e)))
     generalize uG (vJ e.2.2.1 f e.2.2.1.2) (qF (oE (dC e)))=q at ho ⊢
     obtain ⟨l,b⟩:=q
     cases b
     ·
      exact aJ (iX e hv) rfl
     ·
      refine aJ (aB2 e hv) ?_
      exact aJ (hset l (ho rfl) 3) rfl
    ·
     rw [show sA e top f=jI e from if_pos (.inr (.inr (.inr c4))),decide_eq_false c4]
     exact aJ (iX e hv) rfl
 ·
  rw [show sA e top f=jI e from if_pos (.inl c1),decide_eq_false c1]
  simp only [Bool.not_false,cond_true,Bool.true_eq_false,false_implies,if_true]
  rw [qK (by simp)]
  exact aJ (iX e hv) rfl
theorem aL5:iI e=some (aCy e):=by
 obtain ⟨hl,_,hro,_⟩:=eOk e hv
 obtain ⟨p0,p1,p2⟩:=bG hl
 obtain ⟨t1,t2⟩:=zG hro
 have hro2:=aD8 hro
 obtain ⟨u1,u2⟩:=zG hro2
 have hv2:=zL e hv _ hro2
 have hset:=fun l hl=>aCd _ hv2 l hl 3 (by omega)
 have htop:=aCg _ hro
 have hturn:=aMs _ hro
 have htop2:=aCg _ hro2
 change dT (dC e)=true at hro
 change gJ (dC e)=some (qF (dC e)) at htop
 change mG (dC e)=some (oE (dC e)) at hturn
 change gJ (oE (dC e))=some (qF (oE (dC e))) at htop2
 change (qF (oE (dC e))).length≤400 at u2
 unfold iI aCy
 refine aJ htop ?_
 simp only
 change (qF (dC e)).length≤400 at t2
 generalize qF (dC e)=top at t2 ⊢
 rw [bP (x:=e.2.2.1.2 - (top.length:Int)) (by omega) (by omega)]
 rw [show decide (e.2.2.1.2<(top.length:Int))=decide (e.2.2.1.2 - (top.length:Int)<0) from decide_eq_decide.2 (by omega)]
 generalize hf:e.2.2.1.2 - (top.length:Int)=f
 simp only [aN]
 by_cases c1:e.2.2.2.2.2.2.2.2.2.1=3
 ·
  by_cases c2:(top.length:Int)=0
  ·
   rw [show sA e top f=jI e from if_pos (.inr (.inl c2)),decide_eq_true c1,decide_eq_true c2]
   simp only [Bool.not_true,cond_false,cond_true,Bool.true_eq_false,false_implies,if_true]
   rw [qK (by simp)]
   exact aJ (nM e hv) rfl
  ·
   by_cases c3:f<0
   ·
    rw [show sA e top f=jI e from if_pos (.inr (.inr (.inl c3))),decide_eq_true c1,decide_eq_false c2,decide_eq_true c3]
    simp only [Bool.not_true,cond_false,cond_true,Bool.true_eq_false,false_implies,if_true]
    rw [qK (by simp)]
    exact aJ (nM e hv) rfl
   ·
    rw [decide_eq_true c1,decide_eq_false c2,decide_eq_false c3]
    have hs:=gV e.2.2.1.1 f e.2.2.1.2
    simp only [Bool.not_true,cond_false,cond_true,forall_const]
    rw [if_pos (by omega),aMn _ _ (by omega),sW trivial]
    by_cases c4:bN e.2.2.1.1 f e.2.2.1.2=top
    ·
     rw [show sA e top f=_ from if_neg (fun h=>h.elim (fun h=>h c1) fun h=>h.elim c2 fun h=>h.elim c3 fun h=>h c4),decide_eq_true c4]
     have hcut:=aCr e.2.2.1 f e.2.2.1.2 (by omega)
     rw [zT e hv f e.2.2.1.2 (by omega)] at hcut
     obtain ⟨k1,k2⟩:=uT hl (a:=f) (b:=e.2.2.1.2) (by omega)
     simp only [Bool.not_true,cond_false]
     refine aJ hcut (aJ hturn ?_)
     simp only [aU]
     refine aJ htop2 (aJ (aHk _ _ k1 (by omega)) ?_)
     have ho:=@zN (vJ e.2.2.1 f e.2.2.1.2) (qF (oE (dC e)))
     generalize uG (vJ e.2.2.1 f e.2.2.1.2) (qF (oE (dC e)))=q at ho ⊢
     obtain ⟨l,b⟩:=q
     cases b
     ·
      exact aJ (nM e hv) rfl
     ·
      refine aJ (rE e hv) ?_
      exact aJ (hset l (ho rfl)) rfl
    ·
     rw [show sA e top f=jI e from if_pos (.inr (.inr (.inr c4))),decide_eq_false c4]
     exact aJ (nM e hv) rfl
 ·
  rw [show sA e top f=jI e from if_pos (.inl c1),decide_eq_false c1]
  simp only [Bool.not_false,cond_true,Bool.true_eq_false,false_implies,if_true]
  rw [qK (by simp)]
  exact aJ (nM e hv) rfl
theorem aT1:fA (eM e)=true∧(0≤e.2.1∧e.2.1≤3):=by
 obtain ⟨vi,mode,line,count,op,opc,wait,fr,fh,last,ring,undo,nav,own,query,hit,back⟩:=e
 obtain ⟨h1,h2,h3,h4,h5,h6,h7,h8,h9,h10,h11,h12,h13,h14,h15,h16⟩:=iH hv
 refine ⟨h10,?_⟩
 unfold vT at h6
 simp only [Bool.and_eq_true,decide_eq_true_eq] at h6
 exact ⟨h6.1.1.1,h6.1.1.2.1⟩
end
theorem aSb (u:List (List Int×Int)) (h:fA u=true):qA u=some (if (u.length:Int)=0 then ([],([],0),false) else (u.take (u.length - 1),at' u ((u.length:Int) - 1),true)):=by
 obtain ⟨h1,h2⟩:=iQ h
 have hs:∀ s ∈ u,(s.1.length:Int)≤1048576:=fun s hs=>by have:=(bG (h2 s hs)).2.2;omega
 unfold qA
 rw [aO (aD6 u (by omega) (fun s hs=>by have:=(bG (h2 s hs)).2.2;omega)),h]
 by_cases c:(u.length:Int)=0
 ·
  rw [if_pos c,decide_eq_true c];rfl
 rw [if_neg c,decide_eq_false c,bP (x:=(u.length:Int) - 1) (by omega) (by omega)]
 have hsub:bN u 0 ((u.length:Int) - 1)=u.take (u.length - 1):=by
  unfold bN
  rw [show ((u.length:Int) - 1).toNat=u.length - 1 by omega]
  simp
 have hm:=List.mem_of_getElem? (bD (xs:=u) (i:=(u.length:Int) - 1) ⟨by omega,by omega⟩)
 simp only [Bool.not_true,cond_false,aN]
 rw [if_pos (by omega),hsub,aO (aA2 _ (by rw [List.length_take];omega) (fun s q=>hs s (List.mem_of_mem_take q))),if_pos (by omega)]
 rw [aO (gZ ((at' u ((u.length:Int) - 1)).1,(at' u ((u.length:Int) - 1)).2) (hs _ hm))]
theorem aSa (u:List (List Int×Int)) (h:fA u=true):pC u=some (if (u.length:Int)=0 then ([],([],0),false) else (u.take (u.length - 1),at' u ((u.length:Int) - 1),true)):=by
 obtain ⟨h1,h2⟩:=iQ h
 have hs:∀ s ∈ u,(s.1.length:Int)≤1048576:=fun s hs=>by have:=(bG (h2 s hs)).2.2;omega
 unfold pC
 rw [aO (aD5 u (by omega) (fun s hs=>by have:=(bG (h2 s hs)).2.2;omega)),h]
 by_cases c:(u.length:Int)=0
 ·
  rw [if_pos c,decide_eq_true c];rfl
 rw [if_neg c,decide_eq_false c,bP (x:=(u.length:Int) - 1) (by omega) (by omega)]
 simp only [Bool.not_true,cond_false,aN]
 rw [aO (aA1 u (by omega) hs),if_pos (by omega),if_pos (by omega),show ((u.length:Int) - 1).toNat=u.length - 1 by omega]
section
variable (e:EdT) (hv:cG e=true)
include hv
theorem aTg:zA e=some (aD7 e):=by
 obtain ⟨hu,hm⟩:=aT1 e hv
 obtain ⟨h1,h2⟩:=iQ hu
 have ht:=aSb _ hu
 have hset:eA e 0=some (oQ 0 e):=by
  obtain ⟨vi,mode,line,count,op,opc,wait,fr,fh,last,ring,undo,nav,own,query,hit,back⟩:=e
  exact zK vi mode line count op opc wait fr fh last ring undo nav own query hit back hv 0
 unfold zA aD7
 refine aJ ht ?_
 simp only
 by_cases c:((eM e).length:Int)=0
 ·
  rw [if_pos c,if_pos c]
  exact aJ (iX e hv) rfl
 rw [if_neg c,if_neg c]
 have hmem:=List.mem_of_getElem? (bD (xs:=eM e) (i:=((eM e).length:Int) - 1) ⟨by omega,by omega⟩)
 have hlo:=bG (h2 _ hmem)
 generalize at' (eM e) (((eM e).length:Int) - 1)=l at hlo ⊢
 generalize (eM e).take ((eM e).length - 1)=u
 refine aJ hset (aJ (yN l e.2.1 (by omega)) ?_)
 obtain ⟨vi,mode,line,count,op,opc,wait,fr,fh,last,ring,undo,nav,own,query,hit,back⟩:=e
 rfl
theorem aTf:rI e=some (aD7 e):=by
 obtain ⟨hu,hm⟩:=aT1 e hv
 obtain ⟨h1,h2⟩:=iQ hu
 have ht:=aSa _ hu
 unfold rI aD7
 refine aJ ht ?_
 simp only
 by_cases c:((eM e).length:Int)=0
 ·
  rw [if_pos c,if_pos c]
  exact aJ (nM e hv) rfl
 rw [if_neg c,if_neg c]
 have hmem:=List.mem_of_getElem? (bD (xs:=eM e) (i:=((eM e).length:Int) - 1) ⟨by omega,by omega⟩)
 have hlo:=bG (h2 _ hmem)
 generalize at' (eM e) (((eM e).length:Int) - 1)=l at hlo ⊢
 generalize (eM e).take ((eM e).length - 1)=u
 refine aJ (rE e hv) ?_
 obtain ⟨vi,mode,line,count,op,opc,wait,fr,fh,last,ring,undo,nav,own,query,hit,back⟩:=e
 unfold eQ
 have hcl:=aNp vi mode l 0 0 0 0 fr fh 0 ring u nav own query hit back (by omega)
 exact aJ rfl (aJ hcl rfl)
theorem aTj:zB e=some (aN6 e):=by
 have hl:=eOk e hv
 have hset:eA e 0=some (oQ 0 e):=by
  obtain ⟨vi,mode,line,count,op,opc,wait,fr,fh,last,ring,undo,nav,own,query,hit,back⟩:=e
  exact zK vi mode line count op opc wait fr fh last ring undo nav own query hit back hv 0
 have hl2:=(bG hl.1).2.2
 unfold zB
 refine aJ hset (aJ (gZ e.2.2.1 (by omega)) ?_)
 obtain ⟨vi,mode,line,count,op,opc,wait,fr,fh,last,ring,undo,nav,own,query,hit,back⟩:=e
 rfl
theorem aTi (hm:e.2.1≠3):mU e=some (aN6 e):=by
 have hl:=eOk e hv
 have hl2:=(bG hl.1).2.2
 unfold mU
 refine aJ (rE e hv) ?_
 obtain ⟨vi,mode,line,count,op,opc,wait,fr,fh,last,ring,undo,nav,own,query,hit,back⟩:=e
 obtain ⟨h1,h2,h3,h4,h5,h6,h7,h8,h9,h10,h11,h12,h13,h14,h15,h16⟩:=iH hv
 unfold qR at h16
 rw [decide_eq_false hm] at h16
 simp only [Bool.false_or,Bool.and_eq_true,decide_eq_true_eq] at h16
 obtain rfl:query=[]:=List.eq_nil_of_length_eq_zero (by omega)
 obtain rfl:hit=0:=h16.1.2
 exact aJ rfl (aJ (iW line (by simp only at hl2;omega)) rfl)
end
theorem aSt (e:EdT) (hs:eJ 100000000 e):uD e=some (cG e):=by
 obtain ⟨vi,mode,line,count,op,opc,wait,fr,fh,last,ring,undo,nav,own,query,hit,back⟩:=e
 exact aRm vi mode line count op opc wait fr fh last ring undo nav own query hit back hs
theorem aOm (e:EdT) (hs:eJ 100000000 e):pJ e=some (cG e):=by
 obtain ⟨vi,mode,line,count,op,opc,wait,fr,fh,last,ring,undo,nav,own,query,hit,back⟩:=e
 exact aNo vi mode line count op opc wait fr fh last ring undo nav own query hit back hs
section
variable (h:Int×List (List UInt8)) (hh:(h.2.length:Int)≤1048576) (k:Int×Int) (e:EdT) (hs:eJ 1048576 e)
include hh hs
theorem aRx:uB e h k=some (cG e && hOk h && kOk k):=by
 unfold uB
 rw [aO (aSt e (cR (by omega) hs)),aAz h hh,cB,aSl,cB]
 cases cG e <;> cases hOk h <;> cases kOk k <;> rfl
end
theorem aG0 (j:List UInt8→Option (List UInt8)) (hj:∀ l:List UInt8,(l.length:Int)≤9000000000000000→∃ v,j l=some v):∀ (m:Nat) (x:Int) (l:List UInt8),0≤x→x<m→(l.length:Int)+x≤9000000000000000→∃ v,bC (jQ j) m (x,l)=some v:=by
 intro m
 induction m with
 | zero=>intro x l h0 h _;omega
 | succ m ih=>
  intro x l h0 hm hl
  simp only [bC,jQ,aN,Bool.cond_decide]
  by_cases h:0<x
  ·
   rw [if_pos h]
   have hd:Int.tdiv x 10=x / 10:=Int.tdiv_eq_ediv_of_nonneg h0
   rw [hd,bP (x:=x / 10) (by omega) (by omega)]
   rw [if_pos (by simp;omega)]
   exact ih _ _ (by omega) (by omega) (by simp;omega)
  ·
   rw [if_neg h]
   exact hj l (by omega)
theorem aKw (k:Int) (hk:k≤8000000000000000):∃ t,pP k=some t:=by
 unfold pP
 simp only [aU,Bool.cond_decide]
 by_cases h:k≤0
 ·
  rw [if_pos h];exact ⟨_,rfl⟩
 ·
  rw [if_neg h]
  refine aG0 _ (fun l hl=>?_) bM k [] (by omega) (by rw [bO];omega) (by simp;omega)
  simp only [aN]
  rw [if_pos (by simp;omega)]
  exact ⟨_,rfl⟩
theorem aCq (xs:List (List UInt8)) (hl:(xs.length:Int)≤1048576) (k0:Int) (hk0:0≤k0∧k0≤5000000000000000) (j:List (List UInt8)×Int→Option (Int×List (List UInt8))):∀ (m:Nat) (ys:List (List UInt8)) (i:Int),0≤i→i≤(xs.length:Int)→ys.length=xs.length→(xs.length:Int) - i<m →
  ∃ zs,bC (fV xs j) m (ys,k0+i,i)=j (zs,k0+xs.length)∧zs.length=xs.length:=by
 intro m
 induction m with
 | zero=>intro ys i _ _ _ h;omega
 | succ m ih=>
  intro ys i h0 h1 hy hm
  simp only [bC,fV,aN,Bool.cond_decide]
  by_cases h:i<(xs.length:Int)
  ·
   rw [if_pos h]
   obtain ⟨t,ht⟩:=aKw (k0+i) (by omega)
   rw [aO ht,if_pos ⟨h0,h⟩,bP (x:=k0+i+1) (by omega) (by omega),bP (x:=i+1) (by omega) (by omega)]
   have:=ih (List.set ys i.toNat t) (i+1) (by omega) (by omega) (by simpa using hy) (by omega)
   rw [← Int.add_assoc] at this
   exact this
  ·
   rw [if_neg h]
   have:i=(xs.length:Int):=by omega
   subst this
   exact ⟨ys,rfl,hy⟩
theorem aFa (xs:List (List UInt8)) (hl:(xs.length:Int)≤1048576) (k0:Int) (hk0:0≤k0∧k0≤5000000000000000):∃ zs,jR xs k0=some (k0+xs.length,zs):=by
 unfold jR
 simp only [aU]
 obtain ⟨zs,h,_⟩:=aCq xs hl k0 hk0 (fun x=>some (x.2,x.1)) bM xs 0 (by omega) (by omega) rfl (by rw [bO];omega)
 refine ⟨zs,?_⟩
 rw [Int.add_zero] at h
 exact h
theorem aO7 (h:Int×List (List UInt8)) (hl:(h.2.length:Int)≤100000000):lF h=some h:=by
  unfold lF;rw [aO (aH4 h.2 hl)]
theorem aLo (h:Int×List (List UInt8)) (hl:(h.2.length:Int)≤100000000):tZ h h=some true:=by
  unfold tZ;rw [aO (aFm h.2 hl)];simp
theorem aPa (h:Int×List (List UInt8)) (wh:WfT (.pair (.int .i64) (.sl .str)) h) (left:Int) (h0:0≤left) (h1:left≤1048576) :
  ∃ v,tW h left=some v∧(v = -1∨(0≤v∧v≤left∧(h.2.length:Int)≤1048576∧∀ s ∈ h.2,(s.length:Int)≤1048576)):=by
 obtain ⟨w1,w2,w3⟩:=wh
 obtain ⟨v,e,hv⟩:=aH7 h.2 w2 w3 left h0 h1
 unfold tW
 rw [aO e]
 rcases hv with rfl | ⟨v0,v1,v2,v3⟩
 ·
  exact ⟨-1,rfl,.inl rfl⟩
 ·
  have nv:¬ (v<0):=by omega
  exact ⟨v,by simp [nv],.inr ⟨v0,v1,by omega,fun s hs=>by have:=v3 s hs;omega⟩⟩
theorem aKy (h:Int×List (List UInt8)) (hl:(h.2.length:Int)≤1048576) (k0:Int) (hk0:0≤k0∧k0≤5000000000000000):∃ zs,pT h k0=some (k0+h.2.length,zs):=by
 obtain ⟨zs,e⟩:=aFa h.2 hl k0 hk0
 exact ⟨zs,by unfold pT;rw [aO e]⟩
def MkI (ys:List Int) (k:Int):Prop:=∀ i:Nat,i<ys.length→ys[i]?=some (k+i)
theorem aG1 (xs:List Int) (hl:(xs.length:Int)≤100000000) (k0:Int) (hk0:0≤k0∧k0≤4000000000000000000) (j:List Int×Int→Option (Int×List Int)):∀ (m:Nat) (ys:List Int) (i:Int),0≤i→i≤(xs.length:Int)→ys.length=xs.length→(∀ q:Nat,(q:Int)<i→ys[q]?=some (k0+q))→(xs.length:Int) - i<m→0<m →
  ∃ zs,bC (jS xs j) m (ys,k0+i,i)=j (zs,k0+xs.length)∧zs.length=xs.length∧MkI zs k0:=by
 intro m
 induction m with
 | zero=>intro ys k _ _ _ _ h h';omega
 | succ m ih=>
  intro ys k hk hk' hy hyx hm _
  simp only [bC,jS,aN,Bool.cond_decide]
  by_cases h1:k<(xs.length:Int)
  ·
   simp only [h1,hk,if_true,and_self]
   rw [bP (x:=k+1) (by omega) (by omega),bP (x:=k0+k+1) (by omega) (by omega)]
   have e:k0+k+1=k0+(k+1):=by omega
   rw [e]
   refine ih _ _ (by omega) (by omega) (by simpa using hy) (fun q hq=>?_) (by omega) (by omega)
   rw [List.getElem?_set]
   by_cases he:k.toNat=q
   ·
    subst he
    rw [if_pos rfl,if_pos (by omega)]
    congr 1;omega
   ·
    rw [if_neg he]
    exact hyx q (by omega)
  ·
   simp only [h1,if_false]
   have:k=(xs.length:Int):=by omega
   subst this
   exact ⟨ys,rfl,hy,fun q hq=>hyx q (by omega)⟩
theorem uP (xs:List Int) (hl:(xs.length:Int)≤100000000) (k:Int) (hk0:0≤k∧k≤4000000000000000000):∃ ys,gK xs k=some (k+xs.length,ys)∧ys.length=xs.length∧MkI ys k:=by
 obtain ⟨zs,h1,h2,h3⟩:=aG1 xs hl k hk0 (fun x=>some (x.2,x.1)) bM xs 0 (by omega) (by omega) rfl (fun q hq=>by omega) (by rw [bO];omega) (by rw [bO];omega)
 refine ⟨zs,?_,h2,h3⟩
 unfold gK aU
 have e:k+0=k:=by omega
 rw [e] at h1
 exact h1
theorem aG2 (xs:List Int) (hl:(xs.length:Int)≤100000000) (k0:Int) (hk0:0≤k0∧k0≤4000000000000000000) (hM:MkI xs k0) (j:Int→Option Int):∀ (m:Nat) (i:Int),0≤i→i≤(xs.length:Int)→(xs.length:Int) - i<m→0<m →
  bC (jT xs j) m (k0+i,i)=j (k0+xs.length):=by
 intro m
 induction m with
 | zero=>intro k _ _ h h';omega
 | succ m ih=>
  intro k hk hk' hm _
  simp only [bC,jT,aN,Bool.cond_decide]
  by_cases h1:k<(xs.length:Int)
  ·
   have h2:=hM k.toNat (by omega)
   rw [bD ⟨hk,h1⟩] at h2
   have h3:at' xs k=k0+k:=by
    injection h2 with h2
    rw [h2];omega
   simp only [h1,hk,if_true,and_self,h3,decide_true,Bool.not_true,cond_false]
   rw [bP (x:=k+1) (by omega) (by omega),bP (x:=k0+k+1) (by omega) (by omega)]
   have e:k0+k+1=k0+(k+1):=by omega
   rw [e]
   exact ih _ (by omega) (by omega) (by omega) (by omega)
  ·
   simp only [h1,if_false]
   congr 1;omega
theorem uQ (xs:List Int) (hl:(xs.length:Int)≤100000000) (k:Int) (hk0:0≤k∧k≤4000000000000000000) (hM:MkI xs k):gM xs k=some (k+xs.length):=by
 have h:=aG2 xs hl k hk0 hM (fun x=>some x) bM 0 (by omega) (by omega) (by rw [bO];omega) (by rw [bO];omega)
 unfold gM aU
 have e:k+0=k:=by omega
 rw [e] at h
 exact h
def iA:List (List Int)→Int
 | []=>0
 | p :: t=>(p.length:Int)+iA t
def MkP:List (List Int)→Int→Prop
 | [],_=>True
 | p :: t,k=>MkI p k∧MkP t (k+p.length)
theorem aQj (a b:List (List Int)):iA (a ++ b)=iA a+iA b:=by
 induction a with
 | nil=>simp [iA]
 | cons p t ih=>simp only [List.cons_append,iA,ih];omega
theorem aSy (a b:List (List Int)):∀ k,MkP (a ++ b) k ↔ MkP a k∧MkP b (k+iA a):=by
 induction a with
 | nil=>intro k;simp [MkP,iA]
 | cons p t ih=>
  intro k
  simp only [List.cons_append,MkP,ih,iA,and_assoc]
  have:k+↑p.length+iA t=k+(↑p.length+iA t):=by omega
  rw [this]
theorem wL (xs:List (List Int)) (N:Int) (hN:0≤N) (hs:∀ s ∈ xs,(s.length:Int)≤N):0≤iA xs∧iA xs≤N*xs.length:=by
 induction xs with
 | nil=>simp [iA]
 | cons p t ih=>
  have h1:=hs p (by simp)
  have h2:=ih (fun s h=>hs s (by simp [h]))
  simp only [iA,List.length_cons]
  have e:N*((t.length+1:Nat):Int)=N*t.length+N:=by rw [Int.natCast_add,Int.mul_add];simp
  omega
theorem aJk {xs ys:List (List Int)} (h:xs.map List.length=ys.map List.length):iA xs=iA ys:=by
 induction xs generalizing ys with
 | nil=>cases ys with
  | nil=>rfl
  | cons _ _=>simp at h
 | cons p t ih=>cases ys with
  | nil=>simp at h
  | cons q u=>
   simp only [List.map_cons,List.cons.injEq] at h
   simp only [iA,ih h.2,h.1]
theorem aCo {a b:Int} (ha:0≤a) (hb:0≤b) (ha':a≤1048576) (hb':b≤1048576):a*b≤1099511627776:=by
 have h1:a*b≤1048576*b:=Int.mul_le_mul_of_nonneg_right ha' hb
 omega
theorem aDx (xs:List (List Int)) (hl:(xs.length:Int)≤1048576) (hs:∀ s ∈ xs,(s.length:Int)≤1048576) (k0:Int) (hk0:0≤k0∧k0≤1000000000000000000) (j:List (List Int)×Int→Option (Int×List (List Int))):∀ (rest:List (List Int)) (m:Nat) (ds:List (List Int)),xs.length=ds.length+rest.length→xs.map List.length=(ds ++ rest).map List.length→MkP ds k0→rest.length<m →
  ∃ zs,bC (eX xs j) m (ds ++ rest,k0+iA ds,(ds.length:Int))=j (zs,k0+iA xs)∧zs.map List.length=xs.map List.length∧MkP zs k0:=by
 intro rest
 induction rest with
 | nil=>
  intro m ds h1 h2 h3 hm
  obtain ⟨m,rfl⟩:∃ q,m=q+1:=⟨m - 1,by simp at hm;omega⟩
  simp only [List.append_nil,List.length_nil,Nat.add_zero] at h1 h2 ⊢
  simp only [bC,eX,Bool.cond_decide]
  rw [if_neg (by omega)]
  exact ⟨ds,by rw [aJk h2],h2.symm,h3⟩
 | cons p rest ih=>
  intro m ds h1 h2 h3 hm
  obtain ⟨m,rfl⟩:∃ q,m=q+1:=⟨m - 1,by simp at hm;omega⟩
  simp only [List.length_cons] at h1 hm
  have hlt:(ds.length:Int)<(xs.length:Int):=by omega
  have hp:(p.length:Int)≤1048576:=by
   have hm':p.length ∈ xs.map List.length:=by rw [h2];simp
   obtain ⟨s,q1,q2⟩:=List.mem_map.1 hm'
   have:=hs s q1
   omega
  have hds:=wL ds 1048576 (by omega) (fun s h=>by
   have hm':s.length ∈ xs.map List.length:=by rw [h2];simp;exact .inl ⟨s,h,rfl⟩
   obtain ⟨s',q1,q2⟩:=List.mem_map.1 hm'
   have:=hs s' q1
   omega)
  have hb:iA ds≤1099511627776:=by
   have:=aCo (a:=1048576) (b:=ds.length) (by omega) (by omega) (by omega) (by omega)
   omega
  have hat:at' (ds ++ p :: rest) (ds.length:Int)=p:=by
   unfold at'
   simp [List.getD_eq_getElem?_getD]
  obtain ⟨ys,y1,y2,y3⟩:=uP p (by omega) (k0+iA ds) (by omega)
  simp only [bC,eX,aN,Bool.cond_decide]
  rw [if_pos hlt,if_pos ⟨by omega,hlt⟩,hat,aO y1,bP (by omega) (by omega)]
  have hset:(ds ++ p :: rest).set (Int.toNat (ds.length:Int)) ys=(ds ++ [ys]) ++ rest:=by
   simp [List.set_append]
  have hk:k0+iA ds+(p.length:Int)=k0+iA (ds ++ [ys]):=by
   rw [aQj];simp only [iA];omega
  have hi:(ds.length:Int)+1=((ds ++ [ys]).length:Int):=by simp
  rw [hset,hi]
  simp only
  rw [hk]
  refine ih m (ds ++ [ys]) (by simp;omega) (by rw [h2];simp [y2]) ?_ (by omega)
  rw [aSy]
  exact ⟨h3,y3,trivial⟩
theorem aKx (xs:List (List Int)) (hl:(xs.length:Int)≤1048576) (hs:∀ s ∈ xs,(s.length:Int)≤1048576) (k:Int) (hk0:0≤k∧k≤1000000000000000000):∃ zs,pQ xs k=some (k+iA xs,zs)∧zs.map List.length=xs.map List.length∧MkP zs k:=by
 obtain ⟨zs,h1,h2,h3⟩:=aDx xs hl hs k hk0 (fun x=>some (x.2,x.1)) xs bM [] (by simp) (by simp) trivial (by rw [bO];omega)
 refine ⟨zs,?_,h2,h3⟩
 unfold pQ pS aU
 simp only [List.nil_append,iA,Int.add_zero,List.length_nil] at h1
 have e:((0:Nat):Int)=0:=rfl
 rw [e] at h1
 exact aO h1
theorem aDy (xs:List (List Int)) (hl:(xs.length:Int)≤1048576) (hs:∀ s ∈ xs,(s.length:Int)≤1048576) (j:Int→Option Int):∀ (m:Nat) (k i:Int),0≤i→i≤(xs.length:Int)→0≤k→k+iA (xs.drop i.toNat)≤2000000000000000000→MkP (xs.drop i.toNat) k→(xs.length:Int) - i<m →
  bC (gL xs j) m (k,i)=j (k+iA (xs.drop i.toNat)):=by
 intro m
 induction m with
 | zero=>intro k i _ _ _ _ _ h;omega
 | succ m ih=>
  intro k i hi hi' hk hk' hM hm
  simp only [bC,gL,aN,Bool.cond_decide]
  by_cases h1:i<(xs.length:Int)
  ·
   rw [dI hi h1] at hM hk' ⊢
   have hb:=hs (at' xs i) (List.mem_of_getElem? (bD ⟨hi,h1⟩))
   have htb:=wL (xs.drop (i+1).toNat) 1048576 (by omega) (fun s h=>hs s (List.mem_of_mem_drop h))
   simp only [iA] at hk' ⊢
   obtain ⟨hM1,hM2⟩:=hM
   rw [if_pos h1,if_pos ⟨hi,h1⟩,aO (uQ _ (by omega) k (by omega) hM1),if_neg (by omega),bP (by omega) (by omega)]
   rw [ih _ (i+1) (by omega) (by omega) (by omega) (by omega) hM2 (by omega)]
   congr 1;omega
  ·
   rw [if_neg h1,List.drop_eq_nil_of_le (by omega)]
   simp [iA]
theorem aLc (xs:List (List Int)) (hl:(xs.length:Int)≤1048576) (hs:∀ s ∈ xs,(s.length:Int)≤1048576) (k:Int) (hk0:0≤k∧k≤1000000000000000000) (hM:MkP xs k):pV xs k=some (k+iA xs):=by
 have hb:=wL xs 1048576 (by omega) hs
 have:=aCo (a:=1048576) (b:=xs.length) (by omega) (by omega) (by omega) (by omega)
 unfold pV pW
 simp only [aU]
 rw [aDy xs hl hs _ bM k 0 (by omega) (by omega) (by omega) (by simp only [Int.toNat_zero,List.drop_zero];omega) (by simpa using hM) (by rw [bO];omega)]
 simp only [Int.toNat_zero,List.drop_zero,aG]
 have:¬ (k+iA xs<0):=by omega
 simp [this]
def fZ:List (List Int×Int)→Int
 | []=>0
 | p :: t=>(p.1.length:Int)+1+fZ t
def MkL:List (List Int×Int)→Int→Prop
 | [],_=>True
 | p :: t,k=>(MkI p.1 k∧p.2=k+p.1.length)∧MkL t (k+p.1.length+1)
theorem aQk (a b:List (List Int×Int)):fZ (a ++ b)=fZ a+fZ b:=by
 induction a with
 | nil=>simp [fZ]
 | cons p t ih=>simp only [List.cons_append,fZ,ih];omega
theorem aSz (a b:List (List Int×Int)):∀ k,MkL (a ++ b) k ↔ MkL a k∧MkL b (k+fZ a):=by
 induction a with
 | nil=>intro k;simp [MkL,fZ]
 | cons p t ih=>
  intro k
  simp only [List.cons_append,MkL,ih,fZ,and_assoc]
  have:k+↑p.1.length+1+fZ t=k+(↑p.1.length+1+fZ t):=by omega
  rw [this]
theorem wM (xs:List (List Int×Int)) (N:Int) (hN:0≤N) (hs:∀ s ∈ xs,(s.1.length:Int)+1≤N):0≤fZ xs∧fZ xs≤N*xs.length:=by
 induction xs with
 | nil=>simp [fZ]
 | cons p t ih=>
  have h1:=hs p (by simp)
  have h2:=ih (fun s h=>hs s (by simp [h]))
  simp only [fZ,List.length_cons]
  have e:N*((t.length+1:Nat):Int)=N*t.length+N:=by rw [Int.natCast_add,Int.mul_add];simp
  omega
def vH (p:List Int×Int):Nat:=p.1.length
theorem aJl {xs ys:List (List Int×Int)} (h:xs.map vH=ys.map vH):fZ xs=fZ ys:=by
 induction xs generalizing ys with
 | nil=>cases ys with
  | nil=>rfl
  | cons _ _=>simp at h
 | cons p t ih=>cases ys with
  | nil=>simp at h
  | cons q u=>
   simp only [List.map_cons,List.cons.injEq,vH] at h
   simp only [fZ,ih h.2,h.1]
theorem aAy {b:Int} (hb:0≤b) (hb':b≤1048576):1048577*b≤1099512676352:=by omega
theorem aFb (xs:List (List Int×Int)) (hl:(xs.length:Int)≤1048576) (hs:∀ s ∈ xs,(s.1.length:Int)≤1048576) (k0:Int) (hk0:0≤k0∧k0≤1000000000000000000) (j:List (List Int×Int)×Int→Option (Int×List (List Int×Int))):∀ (rest:List (List Int×Int)) (m:Nat) (ds:List (List Int×Int)),xs.length=ds.length+rest.length→xs.map vH=(ds ++ rest).map vH→MkL ds k0→rest.length<m →
  ∃ zs,bC (fR xs j) m (ds ++ rest,k0+fZ ds,(ds.length:Int))=j (zs,k0+fZ xs)∧zs.map vH=xs.map vH∧MkL zs k0:=by
 intro rest
 induction rest with
 | nil=>
  intro m ds h1 h2 h3 hm
  obtain ⟨m,rfl⟩:∃ q,m=q+1:=⟨m - 1,by simp at hm;omega⟩
  simp only [List.append_nil,List.length_nil,Nat.add_zero] at h1 h2 ⊢
  simp only [bC,fR,Bool.cond_decide]
  rw [if_neg (by omega)]
  exact ⟨ds,by rw [aJl h2],h2.symm,h3⟩
 | cons p rest ih=>
  intro m ds h1 h2 h3 hm
  obtain ⟨m,rfl⟩:∃ q,m=q+1:=⟨m - 1,by simp at hm;omega⟩
  simp only [List.length_cons] at h1 hm
  have hlt:(ds.length:Int)<(xs.length:Int):=by omega
  have hp:(p.1.length:Int)≤1048576:=by
   have hm':vH p ∈ xs.map vH:=by rw [h2];simp
   obtain ⟨s,q1,q2⟩:=List.mem_map.1 hm'
   have:=hs s q1
   unfold vH at q2
   omega
  have hds:=wM ds 1048577 (by omega) (fun s h=>by
   have hm':vH s ∈ xs.map vH:=by rw [h2];exact List.mem_map.2 ⟨s,List.mem_append_left _ h,rfl⟩
   obtain ⟨s',q1,q2⟩:=List.mem_map.1 hm'
   have:=hs s' q1
   unfold vH at q2
   omega)
  have hb:fZ ds≤1099512676352:=by
   have:=aAy (b:=ds.length) (by omega) (by omega)
   omega
  have hat:at' (ds ++ p :: rest) (ds.length:Int)=p:=by
   unfold at'
   simp [List.getD_eq_getElem?_getD]
  obtain ⟨ys,y1,y2,y3⟩:=uP p.1 (by omega) (k0+fZ ds) (by omega)
  simp only [bC,fR,aN,Bool.cond_decide]
  rw [if_pos hlt,if_pos ⟨by omega,hlt⟩,hat,aO y1]
  have hset:∀ v,(ds ++ p :: rest).set (Int.toNat (ds.length:Int)) v=ds ++ v :: rest:=by
   intro v;simp [List.set_append]
  have hset2:∀ u v,(ds ++ u :: rest).set (Int.toNat (ds.length:Int)) v=ds ++ v :: rest:=by
   intro u v;simp [List.set_append]
  have hat2:∀ u:List Int×Int,at' (ds ++ u :: rest) (ds.length:Int)=u:=by
   intro u;unfold at';simp [List.getD_eq_getElem?_getD]
  simp only [hset,hset2,hat2]
  rw [if_pos ⟨by omega,hlt⟩,bP (x:=(ds.length:Int)+1) (by omega) (by omega),bP (x:=k0+fZ ds+(p.1.length:Int)+1) (by omega) (by omega)]
  have hk:k0+fZ ds+(p.1.length:Int)+1=k0+fZ (ds ++ [(ys,k0+fZ ds+(p.1.length:Int))]):=by
   rw [aQk];simp only [fZ];omega
  have hi:(ds.length:Int)+1=((ds ++ [(ys,k0+fZ ds+(p.1.length:Int))]).length:Int):=by simp
  rw [hi,hk]
  have ha:ds ++ (ys,k0+fZ ds+(p.1.length:Int)) :: rest=(ds ++ [(ys,k0+fZ ds+(p.1.length:Int))]) ++ rest:=by simp
  rw [ha]
  refine ih m _ (by simp;omega) (by rw [h2];simp [vH,y2]) ?_ (by omega)
  rw [aSz]
  exact ⟨h3,⟨y3,by rw [y2]⟩,trivial⟩
theorem aKv (xs:List (List Int×Int)) (hl:(xs.length:Int)≤1048576) (hs:∀ s ∈ xs,(s.1.length:Int)≤1048576) (k:Int) (hk0:0≤k∧k≤1000000000000000000):∃ zs,pM xs k=some (k+fZ xs,zs)∧zs.map vH=xs.map vH∧MkL zs k:=by
 obtain ⟨zs,h1,h2,h3⟩:=aFb xs hl hs k hk0 (fun x=>some (x.2,x.1)) xs bM [] (by simp) (by simp) trivial (by rw [bO];omega)
 refine ⟨zs,?_,h2,h3⟩
 unfold pM qY aU
 simp only [List.nil_append,fZ,Int.add_zero,List.length_nil] at h1
 have e:((0:Nat):Int)=0:=rfl
 rw [e] at h1
 exact aO h1
theorem aFg (xs:List (List Int×Int)) (hl:(xs.length:Int)≤1048576) (hs:∀ s ∈ xs,(s.1.length:Int)≤1048576) (j:Int→Option Int):∀ (m:Nat) (k i:Int),0≤i→i≤(xs.length:Int)→0≤k→k+fZ (xs.drop i.toNat)≤2000000000000000000→MkL (xs.drop i.toNat) k→(xs.length:Int) - i<m →
  bC (iN xs j) m (k,i)=j (k+fZ (xs.drop i.toNat)):=by
 intro m
 induction m with
 | zero=>intro k i _ _ _ _ _ h;omega
 | succ m ih=>
  intro k i hi hi' hk hk' hM hm
  simp only [bC,iN,aN,Bool.cond_decide]
  by_cases h1:i<(xs.length:Int)
  ·
   rw [dI hi h1] at hM hk' ⊢
   have hb:=hs (at' xs i) (List.mem_of_getElem? (bD ⟨hi,h1⟩))
   have htb:=wM (xs.drop (i+1).toNat) 1048577 (by omega) (fun s h=>by have:=hs s (List.mem_of_mem_drop h);omega)
   simp only [fZ] at hk' ⊢
   obtain ⟨⟨hM1,hM3⟩,hM2⟩:=hM
   rw [if_pos h1,if_pos ⟨hi,h1⟩,aO (uQ _ (by omega) k (by omega) hM1),if_neg (by omega),if_pos ⟨hi,h1⟩]
   rw [decide_eq_true hM3]
   simp only [Bool.not_true,cond_false]
   rw [bP (x:=i+1) (by omega) (by omega),bP (x:=k+_+1) (by omega) (by omega)]
   rw [ih _ (i+1) (by omega) (by omega) (by omega) (by omega) hM2 (by omega)]
   congr 1;omega
  ·
   rw [if_neg h1,List.drop_eq_nil_of_le (by omega)]
   simp [fZ]
theorem aLb (xs:List (List Int×Int)) (hl:(xs.length:Int)≤1048576) (hs:∀ s ∈ xs,(s.1.length:Int)≤1048576) (k:Int) (hk0:0≤k∧k≤1000000000000000000) (hM:MkL xs k):pU xs k=some (k+fZ xs):=by
 have hb:=wM xs 1048577 (by omega) (fun s h=>by have:=hs s h;omega)
 have:=aAy (b:=xs.length) (by omega) (by omega)
 unfold pU qZ
 simp only [aU]
 rw [aFg xs hl hs _ bM k 0 (by omega) (by omega) (by omega) (by simp only [Int.toNat_zero,List.drop_zero];omega) (by simpa using hM) (by rw [bO];omega)]
 simp only [Int.toNat_zero,List.drop_zero,aG]
 have:¬ (k+fZ xs<0):=by omega
 simp [this]
theorem yK (l:List Int×Int) (hl:(l.1.length:Int)≤100000000) (k:Int) (hk0:0≤k∧k≤4000000000000000000):∃ ys,jA l k=some (k+l.1.length,ys)∧ys.length=l.1.length∧MkI ys k:=by
 obtain ⟨ys,h1,h2,h3⟩:=uP l.1 hl k hk0
 exact ⟨ys,by unfold jA;rw [aO h1],h2,h3⟩
theorem yO (l:List Int×Int) (hl:(l.1.length:Int)≤100000000) (k:Int) (hk0:0≤k∧k≤4000000000000000000) (hM:MkI l.1 k):jB l k=some (k+l.1.length):=by
 unfold jB
 rw [aO (uQ l.1 hl k hk0 hM)]
 have:¬ (k+(l.1.length:Int)<0):=by omega
 simp [this]
theorem aOc {xs ys:List (List Int)} (h:xs.map List.length=ys.map List.length):xs.length=ys.length:=by
  have:=congrArg List.length h;simpa using this
theorem aKz {xs ys:List (List Int×Int)} (h:xs.map vH=ys.map vH):xs.length=ys.length:=by
  have:=congrArg List.length h;simpa using this
theorem aHi (vi:Bool) (mode:Int) (line:List Int×Int) (count op opc wait fr fh last:Int) (ring:List (List Int)) (undo:List (List Int×Int)) (nav:Int) (own:List Int×Int) (query:List Int) (hit:Int) (back:List Int×Int)
  (hs:eJ 1048576 (vi,mode,line,count,op,opc,wait,fr,fh,last,ring,undo,nav,own,query,hit,back)) :
  ∃ n l r u o q b,lI (vi,mode,line,count,op,opc,wait,fr,fh,last,ring,undo,nav,own,query,hit,back) 1=some (n,l,r,u,o,q,b)∧(0≤n∧n≤4000000000000) ∧
   l.length=line.1.length∧r.length=ring.length∧u.length=undo.length∧o.length=own.1.length∧q.length=query.length∧b.length=back.1.length ∧
   nZ (vi,mode,(l,line.2),count,op,opc,wait,fr,fh,last,r,u,nav,(o,own.2),q,hit,(b,back.2)) 1=some n:=by
 obtain ⟨h1,⟨h2,h3⟩,⟨h4,h5⟩,h6,h7,h8⟩:=hs
 have h3':∀ s ∈ ring,(s.length:Int)≤1048576:=fun s h=>by have:=h3 s h;omega
 have h5':∀ s ∈ undo,(s.1.length:Int)≤1048576:=fun s h=>by have:=h5 s h;omega
 have tr:=wL ring 1048576 (by omega) h3'
 have tr':=aCo (a:=1048576) (b:=ring.length) (by omega) (by omega) (by omega) (by omega)
 have tu:=wM undo 1048577 (by omega) (fun s h=>by have:=h5' s h;omega)
 have tu':=aAy (b:=undo.length) (by omega) (by omega)
 obtain ⟨l,a1,a2,a3⟩:=yK line (by omega) 1 (by omega)
 obtain ⟨r,b1,b2,b3⟩:=aKx ring (by omega) h3' (1+line.1.length) (by omega)
 obtain ⟨u,c1,c2,c3⟩:=aKv undo (by omega) h5' (1+line.1.length+iA ring) (by omega)
 obtain ⟨o,d1,d2,d3⟩:=yK own (by omega) (1+line.1.length+iA ring+fZ undo) (by omega)
 obtain ⟨q,e1,e2,e3⟩:=uP query (by omega) (1+line.1.length+iA ring+fZ undo+own.1.length) (by omega)
 obtain ⟨b,f1,f2,f3⟩:=yK back (by omega) (1+line.1.length+iA ring+fZ undo+own.1.length+query.length) (by omega)
 refine ⟨1+line.1.length+iA ring+fZ undo+own.1.length+query.length+back.1.length,l,r,u,o,q,b,?_,?_,a2,aOc b2,aKz c2,d2,e2,f2,?_⟩
 ·
  unfold lI
  rw [aO a1]
  simp only
  rw [aO b1]
  simp only
  rw [aO c1]
  simp only
  rw [aO d1]
  simp only
  rw [aO e1]
  simp only
  rw [aO f1]
 ·
  omega
 ·
  have rl:=aOc b2
  have ul:=aKz c2
  have r3:∀ s ∈ r,(s.length:Int)≤1048576:=fun s h=>by
   have hm':s.length ∈ ring.map List.length:=by rw [← b2];exact List.mem_map.2 ⟨s,h,rfl⟩
   obtain ⟨s',q1,q2⟩:=List.mem_map.1 hm'
   have:=h3' s' q1
   omega
  have u3:∀ s ∈ u,(s.1.length:Int)≤1048576:=fun s h=>by
   have hm':vH s ∈ undo.map vH:=by rw [← c2];exact List.mem_map.2 ⟨s,h,rfl⟩
   obtain ⟨s',q1,q2⟩:=List.mem_map.1 hm'
   have:=h5' s' q1
   unfold vH at q2
   omega
  have g1:=yO (l,line.2) (by simp only;omega) 1 (by omega) a3
  have g2:=aLc r (by omega) r3 (1+line.1.length) (by omega) b3
  have g3:=aLb u (by omega) u3 (1+line.1.length+iA ring) (by omega) c3
  have g4:=yO (o,own.2) (by simp only;omega) (1+line.1.length+iA ring+fZ undo) (by omega) d3
  have g5:=uQ q (by omega) (1+line.1.length+iA ring+fZ undo+own.1.length) (by omega) e3
  have g6:=yO (b,back.2) (by simp only;omega) (1+line.1.length+iA ring+fZ undo+own.1.length+query.length) (by omega) f3
  simp only [a2,aJk b2,aJl c2,d2,e2,f2] at g1 g2 g3 g4 g5 g6
  unfold nZ
  simp only [Bool.cond_decide]
  rw [aO g1,if_neg (by omega),aO g2,if_neg (by omega),aO g3,if_neg (by omega),aO g4,if_neg (by omega),aO g5,if_neg (by omega),aO g6,if_neg (by omega)]
theorem aT8 (z:EdT) (hS:eJ 1048576 z):nG z z=some true∧∃ n l r u o q b,lI z 1=some (n,l,r,u,o,q,b)∧¬ n<0 ∧
  nZ (z.1,z.2.1,(l,z.2.2.1.2),z.2.2.2.1,z.2.2.2.2.1,z.2.2.2.2.2.1,z.2.2.2.2.2.2.1,z.2.2.2.2.2.2.2.1,z.2.2.2.2.2.2.2.2.1,z.2.2.2.2.2.2.2.2.2.1,r,u,z.2.2.2.2.2.2.2.2.2.2.2.2.1,(o,z.2.2.2.2.2.2.2.2.2.2.2.2.2.1.2),q,z.2.2.2.2.2.2.2.2.2.2.2.2.2.2.2.1,(b,z.2.2.2.2.2.2.2.2.2.2.2.2.2.2.2.2.2)) 1=some n∧n≤4000000000000:=by
 obtain ⟨vi',mode',line',count',op',opc',wait',fr',fh',last',ring',undo',nav',own',query',hit',back'⟩:=z
 have ez:=aHs vi' mode' line' count' op' opc' wait' fr' fh' last' ring' undo' nav' own' query' hit' back' (cR (by omega) hS)
 obtain ⟨n,x1,x2,x3,x4,x5,x6,g1,g2,g3,g4,g5,g6,g7,g8,g9⟩:=aHi vi' mode' line' count' op' opc' wait' fr' fh' last' ring' undo' nav' own' query' hit' back' hS
 exact ⟨ez,n,x1,x2,x3,x4,x5,x6,g1,by omega,g9,by omega⟩
theorem aSu (e:EdT) (hs:eJ 1048576 e):pK e=some e∧nG e e=some true∧∃ n l r u o q b,lI e 1=some (n,l,r,u,o,q,b)∧0≤n∧n≤4000000000000:=by
 obtain ⟨vi,mode,line,count,op,opc,wait,fr,fh,last,ring,undo,nav,own,query,hit,back⟩:=e
 have te:=aR9 vi mode line count op opc wait fr fh last ring undo nav own query hit back (cR (by omega) hs)
 have ee:=aHs vi mode line count op opc wait fr fh last ring undo nav own query hit back (cR (by omega) hs)
 obtain ⟨n0,l0,r0,u0,o0,q0,b0,m1,m2,m3⟩:=aHi vi mode line count op opc wait fr fh last ring undo nav own query hit back hs
 exact ⟨te,ee,n0,l0,r0,u0,o0,q0,b0,m1,by omega,by omega⟩
def pkR (h:Int×List (List UInt8)) (k:Int×Int) (e:EdT):EdT×Int×Bool:=
  if (cG e && hOk h && kOk k)=true∧(e.2.1=0∨e.2.1=1) then gA h k e else (zEd,0,false)
theorem aT7 (m:Int):(bif (!(decide (m=0))) then (!(decide (m=1))) else false)=!decide (m=0∨m=1):=by
  by_cases h0:m=0 <;> by_cases h1:m=1 <;> simp [h0,h1]
theorem aQa:∀ q:EdT×Int×Bool,(q.2.2=true→0≤q.2.1)→(q.2.2=false→q=(zEd,0,false)) →
  (match aOo q with | (a,b)=>bif decide (b<0) then some (zEd,(0:Int),false) else some (a,b,true))=some q:=by
 intro q h1 h2
 obtain ⟨z,n,b⟩:=q
 cases b
 ·
  have:=h2 rfl
  cases this
  rfl
 ·
  have:=h1 rfl
  simp only at this
  simp only [aOo,if_true]
  rw [decide_eq_false (by omega)]
  rfl
section
variable (h:Int×List (List UInt8)) (hh:(h.2.length:Int)≤1048576) (k:Int×Int) (e:EdT) (hs:eJ 1048576 e)
include hh hs
theorem pk_s:pE e h k=some (pkR h k e):=by
 unfold pE pkR
 rw [aO (aOm e (cR (by omega) hs)),wR h hh,cB,aOd,cB,aT7]
 have hp:cG e=true→mC e h k=some (aOo (gA h k e)):=fun hv=>aSi e hv h hh k
 have hd:cG e=true→(gA h k e).2.2=true→0≤(gA h k e).2.1:=fun hv _=>(aC7 e hv h k).2
 have hz:(gA h k e).2.2=false→gA h k e=(zEd,0,false):=aPq h k e
 cases hv:cG e
 ·
  rfl
 have hp:=hp hv
 have hd:=hd hv
 generalize gA h k e=q at hp hd hz ⊢
 cases hOk h
 ·
  rfl
 cases kOk k
 ·
  rfl
 by_cases hm:e.2.1=0∨e.2.1=1
 ·
  rw [decide_eq_true hm,show (if (true && true && true)=true∧(e.2.1=0∨e.2.1=1) then q else (zEd,0,false))=q from if_pos ⟨rfl,hm⟩]
  exact (aJ hp rfl).trans (aQa q hd hz)
 ·
  rw [decide_eq_false hm,show (if (true && true && true)=true∧(e.2.1=0∨e.2.1=1) then q else (zEd,0,false))=(zEd,0,false) from if_neg (fun h=>hm h.2)]
  rfl
end
def aRv (n:Int):EdT→EdT
  | (vi,mode,line,_,op,opc,wait,fr,fh,last,ring,undo,nav,own,query,hit,back)=>(vi,mode,line,n,op,opc,wait,fr,fh,last,ring,undo,nav,own,query,hit,back)
def onE (e:EdT):Int:=again (eOn e.2.2.1.1) (max e.2.2.2.1 1).toNat e.2.2.1.2
def aFv (e:EdT):Int:=again (fun k=>(vW e.2.2.1.1 k.toNat:Int)) (max e.2.2.2.1 1).toNat e.2.2.1.2
def aFu (how:Int) (e:EdT):EdT×Int:=(xN (aLy e.2.2.1 e.2.2.1.2 (eOn e.2.2.1.1 e.2.2.1.2) how) 0 e,0)
def aN0 (e:EdT):EdT×Int:=if (aBc e.2.2.1).2=true then (xN (aBc e.2.2.1).1 0 e,0) else jI e
def aHh (r:Int) (e:EdT):EdT×Int:=
 if 48≤r∧r≤57 then (aRv (min (10*e.2.2.2.1+r - 48) 999) e,0)
 else if r=98 then goE (aFv e) e
 else if r=102 then goE (onE e) e
 else if r=100 then tM e.2.2.1.2 (onE e) 1 e
 else if r=121 then aCy e
 else if r=117 then aFu 1 e
 else if r=108 then aFu 0 e
 else if r=99 then aFu 2 e
 else jI e
def aQc (h:Int×List (List UInt8)) (r:Int) (e:EdT):EdT×Int:=
 if r=97 then goE 0 e
 else if r=101 then goE (e.2.2.1.1.length:Int) e
 else if r=98 then goE (e.2.2.1.2 - max e.2.2.2.1 1) e
 else if r=102 then goE (e.2.2.1.2+max e.2.2.2.1 1) e
 else if r=112 then aAc h (-1) e
 else if r=110 then aAc h 1 e
 else if r=107 then tM e.2.2.1.2 (e.2.2.1.1.length:Int) 1 e
 else if r=121 then aG5 e
 else if r=116 then aN0 e
 else if r=95 then aD7 e
 else if r=114 then aN6 e
 else jI e
def xE (h:Int×List (List UInt8)) (k:Int×Int) (e:EdT):EdT×Int:=
 if (gA h k e).2.2=true then ((gA h k e).1,(gA h k e).2.1)
 else if k.1=3 then aHh k.2 e
 else if k.1=15 then tM (aFv e) e.2.2.1.2 2 e
 else if k.1=2 then aQc h k.2 e
 else jI e
def emR (h:Int×List (List UInt8)) (k:Int×Int) (e:EdT):EdT×Int:=
  if (cG e && hOk h && kOk k)=true∧e.2.1=0 then xE h k e else (zEd,0)
section
variable (e:EdT) (hv:cG e=true)
include hv
theorem aCl:e.2.2.1.2≤onE e∧onE e≤(e.2.2.1.1.length:Int):=by
 obtain ⟨p0,p1,p2⟩:=bG (eOk e hv).1
 exact aBv _ _ _ (by omega) (by omega)
theorem rG:0≤aFv e∧aFv e≤e.2.2.1.2:=by
 obtain ⟨p0,p1,p2⟩:=bG (eOk e hv).1
 exact yL _ _ _ (by omega) (by omega)
theorem aRq:e.2.2.1.2≤eOn e.2.2.1.1 e.2.2.1.2∧eOn e.2.2.1.1 e.2.2.1.2≤(e.2.2.1.1.length:Int):=by
 obtain ⟨p0,p1,p2⟩:=bG (eOk e hv).1
 exact zS _ _ (by omega) (by omega)
theorem aO1 (q:Int) (on:Bool) (j:Int→Option Int):∀ (m r:Nat) (k i:Int),0≤k→k≤(e.2.2.1.1.length:Int)→0≤i→i≤2000→q≤2000→r=(q - i).toNat→r<m →
  bC (kP e q on j) m (k,i)=j (if on=true then again (eOn e.2.2.1.1) r k else again (fun k=>(vW e.2.2.1.1 k.toNat:Int)) r k):=by
 obtain ⟨p0,p1,p2⟩:=bG (eOk e hv).1
 intro m
 induction m with
 | zero=>intro r k i _ _ _ _ _ _ h;omega
 | succ m ih=>
  intro r k i h0 h1 hi hi' hq hr hm
  simp only [bC,kP,aU]
  cases r with
  | zero=>
   rw [decide_eq_false (show ¬ i<q by omega)]
   cases on <;> rfl
  | succ r=>
   rw [decide_eq_true (show i<q by omega),cond_true]
   cases on
   ·
    have hk:((k.toNat:Nat):Int)=k:=by omega
    have hb:=aFp e.2.2.1.1 k.toNat
    have he:=aSv e.2.2.1.1 (by omega) k.toNat (by omega)
    rw [hk] at he
    rw [cond_false,aO he,bP (by omega) (by omega)]
    exact ih r _ (i+1) (by omega) (by omega) (by omega) (by omega) hq (by omega) (by omega)
   ·
    have hb:=zS e.2.2.1.1 k h0 h1
    rw [cond_true,aO (aT9 e.2.2.1.1 (by omega) k h0 h1),bP (by omega) (by omega)]
    exact ih r _ (i+1) (by omega) hb.2 (by omega) (by omega) hq (by omega) (by omega)
theorem aH0 (n:Int) (hn:n≤1000) (on:Bool):gE e n on=some (if on=true then again (eOn e.2.2.1.1) n.toNat e.2.2.1.2 else again (fun k=>(vW e.2.2.1.1 k.toNat:Int)) n.toNat e.2.2.1.2):=by
 obtain ⟨p0,p1,p2⟩:=bG (eOk e hv).1
 unfold gE
 simp only [aU]
 exact aO1 e hv n on _ bM n.toNat e.2.2.1.2 0 p0 p1 (by omega) (by omega) (by omega) (by omega) (by rw [bO];omega)
theorem aNs (how:Int) (hh:0≤how∧how≤2):kR e how=some (aFu how e):=by
 obtain ⟨hl,_⟩:=eOk e hv
 obtain ⟨p0,p1,p2⟩:=bG hl
 obtain ⟨b1,b2⟩:=aRq e hv
 have hw:=aH0 e hv 1 (by omega) true
 unfold kR aFu
 simp only [aU]
 refine aJ hw ?_
 exact aJ (aNg _ hl _ _ how (by exact ⟨p0,b1,b2⟩) hh) (aJ (aCd e hv _ (aFt hl _ _ how ⟨p0,b1,b2⟩) 0 (by omega)) rfl)
theorem aTw (r:Int) (hr:-1000000≤r∧r≤10000000000):kA e r=some (aHh r e):=by
 obtain ⟨hl,hc,_⟩:=eOk e hv
 obtain ⟨p0,p1,p2⟩:=bG hl
 obtain ⟨b1,b2⟩:=aRq e hv
 have ho:=aCl e hv
 have hb:=rG e hv
 have hput2:∀ a:Int,fY e (goL e.2.2.1 a)=some (goE a e):=fun a=>aCj e hv _ (aCu hl a)
 have hgo:∀ a:Int,fW e.2.2.1 a=some (goL e.2.2.1 a):=fun a=>aFi _ a (by omega)
 have hon:=aSg e.2.2.1.1 (by omega) e.2.2.1.2 (max e.2.2.2.1 1) p0 p1 (by omega)
 have hba:=aPp e.2.2.1.1 (by omega) e.2.2.1.2 (max e.2.2.2.1 1) p0 p1 (by omega)
 unfold kA aHh
 have hd:lL r=some (decide (48≤r∧r≤57)):=by
  unfold lL
  rw [aO (aFf r 48 57)]
 rw [aO hd]
 simp only [Bool.cond_decide,aU]
 by_cases c1:48≤r∧r≤57
 ·
  rw [if_pos c1,if_pos c1,bP (x:=10*e.2.2.2.1) (by omega) (by omega),bP (x:=10*e.2.2.2.1+r) (by omega) (by omega),bP (x:=10*e.2.2.2.1+r - 48) (by omega) (by omega)]
  exact aJ (aB2 e hv) rfl
 rw [if_neg c1,if_neg c1]
 by_cases c2:r=98
 ·
  rw [if_pos c2,if_pos c2]
  exact aJ hba (aJ (hgo _) (aJ (hput2 _) rfl))
 rw [if_neg c2,if_neg c2]
 by_cases c3:r=102
 ·
  rw [if_pos c3,if_pos c3]
  exact aJ hon (aJ (hgo _) (aJ (hput2 _) rfl))
 rw [if_neg c3,if_neg c3]
 by_cases c4:r=100
 ·
  rw [if_pos c4,if_pos c4]
  exact aJ hon (aJ (aFe e hv _ _ 1 ⟨p0,ho⟩ (by omega)) rfl)
 rw [if_neg c4,if_neg c4]
 by_cases c5:r=121
 ·
  rw [if_pos c5,if_pos c5]
  exact aJ (aL6 e hv) rfl
 rw [if_neg c5,if_neg c5]
 have hcase:∀ how:Int,0≤how∧how≤2→(aG (lQ e.2.2.1.1 e.2.2.1.2) fun (y138:Int)=>
   (aG (mI e.2.2.1 e.2.2.1.2 y138 how) fun (y140,y141)=>
   (aG (fY e (y140.1,y140.2)) fun (y151,y152)=>some (y151,y152))))=some (aFu how e):=by
  intro how hh
  exact aJ (aRp _ (by omega) _ p0 p1) (aJ (aNh _ hl _ _ how ⟨p0,b1,b2⟩ hh) (aJ (aCj e hv _ (aFt hl _ _ how ⟨p0,b1,b2⟩)) rfl))
 by_cases c6:r=117
 ·
  subst c6
  exact hcase 1 (by omega)
 by_cases c7:r=108
 ·
  subst c7
  exact hcase 0 (by omega)
 by_cases c8:r=99
 ·
  subst c8
  exact hcase 2 (by omega)
 have hm:zX [(117,1),(108,0),(99,2)] r=false:=by simp [zX,aBt,c6,c7,c8]
 rw [hm,if_neg c6,if_neg c7,if_neg c8]
 exact aJ (iX e hv) rfl
theorem aTv (r:Int) (hr:-1000000≤r∧r≤10000000000):rK e r=some (aHh r e):=by
 obtain ⟨hl,hc,_⟩:=eOk e hv
 obtain ⟨p0,p1,p2⟩:=bG hl
 have ho:=aCl e hv
 have hb:=rG e hv
 have hon:=aH0 e hv (max e.2.2.2.1 1) (by omega) true
 have hba:=aH0 e hv (max e.2.2.2.1 1) (by omega) false
 unfold rK aHh
 rw [show (bif decide (48≤r) then decide (r≤57) else false)=decide (48≤r∧r≤57) by by_cases x:48≤r <;> by_cases y:r≤57 <;> simp [x,y]]
 rw [aO (n_s e)]
 simp only [Bool.cond_decide]
 by_cases c1:48≤r∧r≤57
 ·
  rw [if_pos c1,if_pos c1,bP (x:=e.2.2.2.1*10) (by omega) (by omega),bP (x:=e.2.2.2.1*10+r) (by omega) (by omega),bP (x:=e.2.2.2.1*10+r - 48) (by omega) (by omega)]
  refine aJ (rE e hv) (aJ (oZ _ 999 (by omega)) ?_)
  rw [show max 0 (min (e.2.2.2.1*10+r - 48) 999)=min (10*e.2.2.2.1+r - 48) 999 by omega]
  rfl
 rw [if_neg c1,if_neg c1]
 by_cases c2:r=98
 ·
  rw [if_pos c2,if_pos c2]
  exact aJ hba (aJ (aAh e hv _) rfl)
 rw [if_neg c2,if_neg c2]
 by_cases c3:r=102
 ·
  rw [if_pos c3,if_pos c3]
  exact aJ hon (aJ (aAh e hv _) rfl)
 rw [if_neg c3,if_neg c3]
 by_cases c4:r=100
 ·
  rw [if_pos c4,if_pos c4]
  refine aJ hon ?_
  have hk:=aFd e hv e.2.2.1.2 (onE e) 1 ho.1 (by omega)
  rw [show max 0 (min e.2.2.1.2 (e.2.2.1.1.length:Int))=e.2.2.1.2 by omega,show max 0 (min (onE e) (e.2.2.1.1.length:Int))=onE e by omega] at hk
  exact aJ hk rfl
 rw [if_neg c4,if_neg c4]
 by_cases c5:r=121
 ·
  rw [if_pos c5,if_pos c5]
  exact aJ (aL5 e hv) rfl
 rw [if_neg c5,if_neg c5]
 by_cases c6:r=117
 ·
  rw [if_pos c6,if_pos c6]
  exact aJ (aNs e hv 1 (by omega)) rfl
 rw [if_neg c6,if_neg c6]
 by_cases c7:r=108
 ·
  rw [if_pos c7,if_pos c7]
  exact aJ (aNs e hv 0 (by omega)) rfl
 rw [if_neg c7,if_neg c7]
 by_cases c8:r=99
 ·
  rw [if_pos c8,if_pos c8]
  exact aJ (aNs e hv 2 (by omega)) rfl
 rw [if_neg c8,if_neg c8]
 exact aJ (nM e hv) rfl
variable (h:Int×List (List UInt8)) (hh:(h.2.length:Int)≤1048576)
include hh
theorem aUb (r:Int):kB e h r=some (aQc h r e):=by
 obtain ⟨hl,hc,_⟩:=eOk e hv
 obtain ⟨p0,p1,p2⟩:=bG hl
 unfold kB aQc
 have hp:∀ k:Int,oK e h (k,0)=some (gA h (k,0) e):=fun k=>aN8 e hv h hh (k,0)
 by_cases c1:r=97
 ·
  subst c1;exact aJ (hp 12) rfl
 by_cases c2:r=101
 ·
  subst c2;exact aJ (hp 13) rfl
 by_cases c3:r=98
 ·
  subst c3;exact aJ (hp 11) rfl
 by_cases c4:r=102
 ·
  subst c4;exact aJ (hp 10) rfl
 by_cases c5:r=112
 ·
  subst c5;exact aJ (hp 8) rfl
 by_cases c6:r=110
 ·
  subst c6;exact aJ (hp 9) rfl
 have hm:zX [(97,12),(101,13),(98,11),(102,10),(112,8),(110,9)] r=false:=by simp [zX,aBt,c1,c2,c3,c4,c5,c6]
 rw [hm,if_neg c1,if_neg c2,if_neg c3,if_neg c4,if_neg c5,if_neg c6]
 simp only [Bool.cond_decide,cond_false]
 by_cases c7:r=107
 ·
  rw [if_pos c7,if_pos c7]
  exact aJ (aFe e hv _ _ 1 (by omega) (by omega)) rfl
 rw [if_neg c7,if_neg c7]
 by_cases c8:r=121
 ·
  rw [if_pos c8,if_pos c8]
  exact aJ (aTe e hv) rfl
 rw [if_neg c8,if_neg c8]
 by_cases c9:r=116
 ·
  rw [if_pos c9,if_pos c9]
  refine aJ (aNf _ hl) ?_
  have hk:=@aEd _ hl
  unfold aN0 aBc
  split
  ·
   exact aJ (iX e hv) rfl
  ·
   rename_i c
   exact aJ (aCj e hv _ (hk c)) rfl
 rw [if_neg c9,if_neg c9]
 by_cases c10:r=95
 ·
  rw [if_pos c10,if_pos c10]
  exact aJ (aTg e hv) rfl
 rw [if_neg c10,if_neg c10]
 by_cases c11:r=114
 ·
  rw [if_pos c11,if_pos c11]
  refine aJ (aTj e hv) ?_
  obtain ⟨vi,mode,line,count,op,opc,wait,fr,fh,last,ring,undo,nav,own,query,hit,back⟩:=e
  rfl
 rw [if_neg c11,if_neg c11]
 exact aJ (iX e hv) rfl
theorem aUa (hm:e.2.1≠3) (r:Int):rL e h r=some (aQc h r e):=by
 obtain ⟨hl,hc,_⟩:=eOk e hv
 obtain ⟨p0,p1,p2⟩:=bG hl
 unfold rL aQc
 rw [aO (n_s e),bP (x:=e.2.2.1.2+max e.2.2.2.1 1) (by omega) (by omega),bP (x:=e.2.2.1.2 - max e.2.2.2.1 1) (by omega) (by omega)]
 simp only [Bool.cond_decide]
 by_cases c1:r=97
 ·
  rw [if_pos c1,if_pos c1];exact aJ (aAh e hv _) rfl
 rw [if_neg c1,if_neg c1]
 by_cases c2:r=101
 ·
  rw [if_pos c2,if_pos c2];exact aJ (aAh e hv _) rfl
 rw [if_neg c2,if_neg c2]
 by_cases c3:r=98
 ·
  rw [if_pos c3,if_pos c3];exact aJ (aAh e hv _) rfl
 rw [if_neg c3,if_neg c3]
 by_cases c4:r=102
 ·
  rw [if_pos c4,if_pos c4];exact aJ (aAh e hv _) rfl
 rw [if_neg c4,if_neg c4]
 by_cases c5:r=112
 ·
  rw [if_pos c5,if_pos c5];exact aJ (aD0 e hv h hh _) rfl
 rw [if_neg c5,if_neg c5]
 by_cases c6:r=110
 ·
  rw [if_pos c6,if_pos c6];exact aJ (aD0 e hv h hh _) rfl
 rw [if_neg c6,if_neg c6]
 by_cases c7:r=107
 ·
  rw [if_pos c7,if_pos c7]
  have hk:=aFd e hv e.2.2.1.2 (e.2.2.1.1.length:Int) 1 p1 (by omega)
  rw [show max 0 (min e.2.2.1.2 (e.2.2.1.1.length:Int))=e.2.2.1.2 by omega,show max 0 (min (e.2.2.1.1.length:Int) (e.2.2.1.1.length:Int))=(e.2.2.1.1.length:Int) by omega] at hk
  exact aJ hk rfl
 rw [if_neg c7,if_neg c7]
 by_cases c8:r=121
 ·
  rw [if_pos c8,if_pos c8];exact aJ (aTd e hv) rfl
 rw [if_neg c8,if_neg c8]
 by_cases c9:r=116
 ·
  rw [if_pos c9,if_pos c9]
  refine aJ (aNe _ hl) ?_
  have hk:=@aEd _ hl
  unfold aN0 aBc
  split
  ·
   exact aJ (aIc e hv _ (by simp) (by simp) 0) rfl
  ·
   rename_i c
   exact aJ (aCd e hv _ (hk c) 0 (by omega)) rfl
 rw [if_neg c9,if_neg c9]
 by_cases c10:r=95
 ·
  rw [if_pos c10,if_pos c10];exact aJ (aTf e hv) rfl
 rw [if_neg c10,if_neg c10]
 by_cases c11:r=114
 ·
  rw [if_pos c11,if_pos c11];exact aJ (aTi e hv hm) rfl
 rw [if_neg c11,if_neg c11]
 exact aJ (nM e hv) rfl
theorem aSq (k:Int×Int) (hk:-1000000≤k.2∧k.2≤10000000000):(aG (oK e h k) fun (y34,y35,y36)=>
 (bif y36 then
 some (y34,y35)
 else
 (bif (decide (k.1=3)) then
 (aG (kA e k.2) fun (y50,y51)=>
 some (y50,y51))
 else
 (bif (decide (k.1=15)) then
 (aG (eZ e.2.2.1.2 (max e.2.2.2.1 1) e.2.2.1.1) fun (y66,y67)=>
 (aG (nI e y66 e.2.2.1.2 2) fun (y69,y70)=>
 some (y69,y70)))
 else
 (bif (decide (k.1=2)) then
 (aG (kB e h k.2) fun (y84,y85)=>
 some (y84,y85))
 else
 (aG (eC e) fun (y99,y100)=>
 some (y99,y100)))))))=some (xE h k e):=by
 obtain ⟨hl,hc,_⟩:=eOk e hv
 obtain ⟨p0,p1,p2⟩:=bG hl
 have hb:=rG e hv
 unfold xE
 refine aJ (aN8 e hv h hh k) ?_
 generalize gA h k e=q
 obtain ⟨z,n,b⟩:=q
 cases b
 ·
  simp only [cond_false,Bool.cond_decide,Bool.false_eq_true,if_false]
  by_cases c1:k.1=3
  ·
   rw [if_pos c1,if_pos c1];exact aJ (aTw e hv k.2 hk) rfl
  rw [if_neg c1,if_neg c1]
  by_cases c2:k.1=15
  ·
   rw [if_pos c2,if_pos c2]
   exact aJ (aM1 e.2.2.1.1 (by omega) e.2.2.1.2 (max e.2.2.2.1 1) p0 p1 (by omega)) (aJ (aFe e hv _ _ 2 ⟨hb.1,hb.2,p1⟩ (by omega)) rfl)
  rw [if_neg c2,if_neg c2]
  by_cases c3:k.1=2
  ·
   rw [if_pos c3,if_pos c3];exact aJ (aUb e hv h hh k.2) rfl
  rw [if_neg c3,if_neg c3]
  exact aJ (iX e hv) rfl
 ·
  rfl
end
theorem aS9 {k:Int×Int} (h:kOk k=true):-1000000≤k.2∧k.2≤10000000000:=by
 unfold kOk pr at h
 split at h
 ·
  have:=of_decide_eq_true h;omega
 ·
  split at h
  ·
   have:=of_decide_eq_true h;omega
  ·
   split at h
   ·
    have:=of_decide_eq_true h;omega
   ·
    have:=of_decide_eq_true h;omega
theorem aI8 {N:Nat} (n:Int) (e:EdT) (h:eJ N e):eJ N (aRv n e):=by
 obtain ⟨vi,mode,line,count,op,opc,wait,fr,fh,last,ring,undo,nav,own,query,hit,back⟩:=e
 exact h
theorem aJz {N:Nat} (e:EdT) (h:eJ N e):eJ N (aN6 e).1:=by
 obtain ⟨vi,mode,line,count,op,opc,wait,fr,fh,last,ring,undo,nav,own,query,hit,back⟩:=e
 obtain ⟨h1,h2,h3,h4,h5,h6⟩:=h
 exact ⟨h1,h2,h3,h4,Nat.zero_le _,h1⟩
theorem aJi (e:EdT) (hv:cG e=true):eJ 1048576 (aD7 e).1:=by
 obtain ⟨hu,hm⟩:=aT1 e hv
 obtain ⟨u1,u2⟩:=iQ hu
 unfold aD7
 simp only
 split
 ·
  exact (aA5 e hv).1
 ·
  rename_i c
  have hmem:=List.mem_of_getElem? (bD (xs:=eM e) (i:=((eM e).length:Int) - 1) ⟨by omega,by omega⟩)
  have hlo:=(bG (u2 _ hmem)).2.2
  have hs:=aAp e hv
  generalize at' (eM e) (((eM e).length:Int) - 1)=l at hlo ⊢
  have hu':((eM e).take ((eM e).length - 1)).length≤1048576∧∀ s ∈ (eM e).take ((eM e).length - 1),s.1.length≤1048576:=
   ⟨by rw [List.length_take];omega,fun s hs=>by have:=(bG (u2 s (List.mem_of_mem_take hs))).2.2;omega⟩
  generalize (eM e).take ((eM e).length - 1)=u at hu' ⊢
  obtain ⟨vi,mode,line,count,op,opc,wait,fr,fh,last,ring,undo,nav,own,query,hit,back⟩:=e
  obtain ⟨h1,⟨h2,h3⟩,⟨h4,h5⟩,h6,h7,h8⟩:=cR (M:=1048576) (by omega) hs
  exact ⟨Nat.le_trans hlo (by omega),⟨h2,h3⟩,hu',h6,h7,h8⟩
theorem iG {c:Prop} [Decidable c] {a b:EdT×Int} (ha:c→eJ 1048576 a.1) (hb:¬ c→eJ 1048576 b.1):eJ 1048576 (if c then a else b).1:=by
 by_cases h:c
 ·
  rw [if_pos h];exact ha h
 ·
  rw [if_neg h];exact hb h
theorem aI7 (e:EdT) (hv:cG e=true) (h:Int×List (List UInt8)) (k:Int×Int):eJ 1048576 (xE h k e).1:=by
 obtain ⟨hl,hc,hro,_⟩:=eOk e hv
 obtain ⟨p0,p1,p2⟩:=bG hl
 have ho:=aCl e hv
 have hb:=rG e hv
 have hw:=aRq e hv
 have hs:=cR (M:=1048576) (by omega) (aAp e hv)
 have hbell:=(aA5 e hv).1
 have hcase:∀ how,eJ 1048576 (aFu how e).1:=fun how=>cR (by omega) (aAp _ (tE e hv _ (aFt hl _ _ how ⟨p0,hw⟩) 0 (by omega)))
 unfold xE aHh aQc
 refine iG (fun _=>(aC7 e hv h k).1) fun _=>?_
 refine iG (fun _=>?_) fun _=>?_
 ·
  refine iG (fun _=>aI8 _ e hs) fun _=>?_
  refine iG (fun _=>(mS e hv _).1) fun _=>?_
  refine iG (fun _=>(mS e hv _).1) fun _=>?_
  refine iG (fun _=>(tL e hv _ _ _ ⟨p0,ho⟩ (by omega)).1) fun _=>?_
  refine iG (fun _=>?_) fun _=>?_
  ·
   unfold aCy sA
   refine iG (fun _=>hbell) fun _=>iG (fun hq=>?_) fun _=>hbell
   exact cR (by omega) (aAp _ (tE _ (zL e hv _ (aD8 hro)) _ (zN hq) 3 (by omega)))
  refine iG (fun _=>hcase _) fun _=>?_
  refine iG (fun _=>hcase _) fun _=>?_
  exact iG (fun _=>hcase _) fun _=>hbell
 refine iG (fun _=>(tL e hv _ _ _ ⟨hb.1,hb.2,p1⟩ (by omega)).1) fun _=>?_
 refine iG (fun _=>?_) fun _=>hbell
 refine iG (fun _=>(mS e hv _).1) fun _=>?_
 refine iG (fun _=>(mS e hv _).1) fun _=>?_
 refine iG (fun _=>(mS e hv _).1) fun _=>?_
 refine iG (fun _=>(mS e hv _).1) fun _=>?_
 refine iG (fun _=>(wQ e hv h _).1) fun _=>?_
 refine iG (fun _=>(wQ e hv h _).1) fun _=>?_
 refine iG (fun _=>(tL e hv _ _ _ (by omega) (by omega)).1) fun _=>?_
 refine iG (fun _=>?_) fun _=>?_
 ·
  unfold aG5
  exact iG (fun _=>hbell) fun _=>(aCt e hv _ 3 (by omega)).1
 refine iG (fun _=>?_) fun _=>?_
 ·
  unfold aN0 aBc
  refine iG (fun hq=>?_) fun _=>hbell
  split at hq
  ·
   cases hq
  ·
   rename_i c
   rw [if_neg c]
   exact cR (by omega) (aAp _ (tE e hv _ (aEd hl c) 0 (by omega)))
 refine iG (fun _=>aJi e hv) fun _=>?_
 exact iG (fun _=>aJz e hs) fun _=>hbell
section
variable (h:Int×List (List UInt8)) (hh:(h.2.length:Int)≤1048576) (k:Int×Int) (e:EdT) (hs:eJ 1048576 e)
include hh hs
theorem em_i:mJ e h k=some (emR h k e):=by
 unfold mJ emR
 rw [aO (aRx h hh k e hs)]
 have hp:cG e=true→kOk k=true→_:=fun hv hk=>aSq e hv h hh k (aS9 hk)
 cases hv:cG e
 ·
  rfl
 have hp:=hp hv
 cases hOk h
 ·
  rfl
 cases hk:kOk k
 ·
  rfl
 have hp:=hp hk
 by_cases hm:e.2.1=0
 ·
  rw [decide_eq_true hm,if_pos ⟨rfl,hm⟩]
  exact hp
 ·
  rw [decide_eq_false hm,if_neg (fun h=>hm h.2)]
  rfl
theorem em_s:pI e h k=some (emR h k e):=by
 have hpk:=pk_s h hh k e hs
 unfold pI emR
 rw [aO (aOm e (cR (by omega) hs)),wR h hh,cB,aOd,cB]
 unfold pkR at hpk
 cases hv:cG e
 ·
  rfl
 cases ho:hOk h
 ·
  rfl
 cases hk:kOk k
 ·
  rfl
 by_cases hm:e.2.1=0
 ·
  obtain ⟨hl,hc,_⟩:=eOk e hv
  obtain ⟨p0,p1,p2⟩:=bG hl
  have hb:=rG e hv
  rw [hv,ho,hk,if_pos ⟨rfl,.inl hm⟩] at hpk
  rw [decide_eq_true hm,show (if (true && true && true)=true∧e.2.1=0 then xE h k e else (zEd,0))=xE h k e from if_pos ⟨rfl,hm⟩]
  refine aJ hpk ?_
  unfold xE
  generalize gA h k e=q
  obtain ⟨z,n,b⟩:=q
  cases b
  ·
   simp only [cond_false,Bool.cond_decide,Bool.false_eq_true,if_false]
   by_cases c1:k.1=3
   ·
    rw [if_pos c1,if_pos c1];exact aJ (aTv e hv k.2 (aS9 hk)) rfl
   rw [if_neg c1,if_neg c1]
   by_cases c2:k.1=15
   ·
    rw [if_pos c2,if_pos c2]
    have hk2:=aFd e hv (aFv e) e.2.2.1.2 2 hb.2 (by omega)
    rw [show max 0 (min (aFv e) (e.2.2.1.1.length:Int))=aFv e by omega,show max 0 (min e.2.2.1.2 (e.2.2.1.1.length:Int))=e.2.2.1.2 by omega] at hk2
    exact aJ (n_s e) (aJ (aH0 e hv (max e.2.2.2.1 1) (by omega) false) (aJ hk2 rfl))
   rw [if_neg c2,if_neg c2]
   by_cases c3:k.1=2
   ·
    rw [if_pos c3,if_pos c3];exact aJ (aUa e hv h hh (by omega) k.2) rfl
   rw [if_neg c3,if_neg c3]
   exact aJ (nM e hv) rfl
  ·
   rfl
 ·
  rw [decide_eq_false hm,show (if (true && true && true)=true∧e.2.1=0 then xE h k e else (zEd,0))=(zEd,0) from if_neg (fun h=>hm h.2)]
  rfl
end
theorem law_EmacsKey (e:EdT) (h:Int×List (List UInt8)) (k:Int×Int) (w:WfT (.pair .bool (.pair (.int .i64) (.pair (.pair (.sl (.int .i64)) (.int .i64)) (.pair (.int .i64) (.pair (.int .i64) (.pair (.int .i64) (.pair (.int .i64) (.pair (.int .i64) (.pair (.int .i64) (.pair (.int .i64) (.pair (.sl (.sl (.int .i64))) (.pair (.sl (.pair (.sl (.int .i64)) (.int .i64))) (.pair (.int .i64) (.pair (.pair (.sl (.int .i64)) (.int .i64)) (.pair (.sl (.int .i64)) (.pair (.int .i64) (.pair (.sl (.int .i64)) (.int .i64)))))))))))))))))) e) (wh:WfT (.pair (.int .i64) (.sl .str)) h) (wk:WfT (.pair (.int .i64) (.int .i64)) k):iB e h k=some true:=by
 have e1:∃ v,wC e 1048576=some v∧(v = -1∨0≤v∧v≤1048576∧eJ 1048576 e):=by
  obtain ⟨vi,mode,line,count,op,opc,wait,fr,fh,last,ring,undo,nav,own,query,hit,back⟩:=e
  exact aSc vi mode line count op opc wait fr fh last ring undo nav own query hit back w 1048576 (by omega) (by omega)
 obtain ⟨v,e1,hv⟩:=e1
 unfold iB
 rw [aO e1]
 rcases hv with rfl | ⟨v0,v1,hs⟩
 ·
  rfl
 have nv:¬ (v<0):=by omega
 rw [decide_eq_false nv,cond_false]
 obtain ⟨v',e2,hv'⟩:=aPa h wh v (by omega) (by omega)
 rw [aO e2]
 rcases hv' with rfl | ⟨v2,v3,hl,_⟩
 ·
  rfl
 have nv':¬ (v'<0):=by omega
 rw [decide_eq_false nv',cond_false]
 have th:=aO7 h (by omega)
 have eh:=aLo h (by omega)
 have ts:=em_s h hl k e hs
 have ti:=em_i h hl k e hs
 have hS:eJ 1048576 (emR h k e).1:=by
  unfold emR
  split
  ·
   rename_i hc
   have hv:cG e=true:=by have:=hc.1;simp only [Bool.and_eq_true] at this;exact this.1.1
   exact aI7 e hv h k
  ·
   exact cR (by omega) aG6
 generalize emR h k e=z at ts ti hS
 obtain ⟨te,ee,n0,l0,r0,u0,o0,q0,b0,m1,m2,m3⟩:=aSu e hs
 obtain ⟨hz,mh⟩:=aKy h hl n0 (by omega)
 obtain ⟨ez,n,x1,x2,x3,x4,x5,x6,g1,nn,g9,_⟩:=aT8 z.1 hS
 have nk:¬ (n0+(h.2.length:Int)<0):=by omega
 simp only [aU]
 refine aJ te (aJ th (aJ rfl (aJ ts (aJ te (aJ th (aJ rfl (aJ ti (aJ ez ?_))))))))
 rw [decide_eq_true rfl]
 refine aJ te (aJ ee (aJ th (aJ eh (aJ m1 (aJ mh ?_)))))
 rw [decide_eq_false nk,aJb ez rfl]
 refine aJ g1 (aJ g9 ?_)
 rw [decide_eq_false nn,decide_eq_true rfl]
 refine aJ te (aJ th (aJ rfl (aJ ti (aJ ez ?_))))
 rw [decide_eq_true rfl]
 refine aJ g9 ?_
 rw [decide_eq_false nn,decide_eq_true rfl]
 rfl
end Go.Eng
namespace Go.Proofs.YtlpgcohnjhomgaaGreat.fnExactEmacsKey
open Go.ChangeShapes Go.WideShapes Go.ChangeAt Go.RowKit Go.Eng
open Go.ChangeMaps (open_string shut_string)
theorem own:ownKnob Tryz.prog.godebug=none:=by kernel_rfl
theorem laidOut:laidOutB Tryz.prog=true:=by kernel_rfl
set_option maxRecDepth 100000 in
theorem lifted (os:Os) (started:os.Started) (H:Type) (enc:TypeId×Value→H) :
  ReturnsInHanded {} Tryz.checked os 8 .any (Rows.fnExactEmacsKeySpec.pre6 enc Tryz.prog Tryz.f8 Rows.fnExactEmacsKeyRow.domain false) (Rows.fnExactEmacsKeySpec.post enc Tryz.prog Tryz.f8 false true false false):=by
 refine returnsInHanded_of_change (C:=Tryz.checked) own started (by kernel_rfl) Tryz.func8
  (ChangeSpec.witness6 (enc:=enc) (C:=Tryz.checked) false ⟨#[],#[.agg #[.bool false,.int .i64 0,.slice none 0 0,.int .i64 0,.int .i64 0,.int .i64 0,.int .i64 0,.int .i64 0,.int .i64 0,.int .i64 0,.int .i64 0,.slice none 0 0,.slice none 0 0,.int .i64 0,.slice none 0 0,.int .i64 0,.slice none 0 0,.int .i64 0,.slice none 0 0,.int .i64 0],.agg #[.int .i64 0,.slice none 0 0],.agg #[.int .i64 0,.int .i64 0]],[]⟩ 8 (by kernel_rfl) (by kernel_rfl) (by kernel_rfl) (by kernel_rfl)) ?_
 intro W base args ds gs before hval0 hW hcnd _
 have hval:∀ (j:Nat) t v,Tryz.f8.params[j]?=some t→args[j]?=some v→Value.okWide Tryz.prog W .any base t v:=hval0
 have hW':=hW
 obtain ⟨p,q,hA0,hV,rfl,hfz,hnd⟩:=hW
 have hA:DataW.TrodAll enc Tryz.prog W 0 (fun _=>true) true Tryz.f8.params.toList args.toList ds p:=hA0
 rw [Tryz.params8] at hA hval
 obtain ⟨v0,vs0,d0,ds0,p0,q0,hargs,rfl,rfl,h0,r0⟩:=trodAll_cons hA
 obtain ⟨v1,vs1,d1,ds1,p1,q1,rfl,rfl,rfl,h1,r1⟩:=trodAll_cons r0
 obtain ⟨v2,vs2,d2,ds2,p2,q2,rfl,rfl,rfl,h2,r2⟩:=trodAll_cons r1
 obtain ⟨rfl,rfl,rfl⟩:=trodAll_nil r2
 obtain rfl:args=#[v0,v1,v2]:=by cases args;simp_all
 obtain ⟨rfl,rfl⟩:=trodVars_none hV
 have k0:=h0
 have lt0:∀ x ∈ p0,x.block<W.heap.size:=by obtain ⟨m,hm⟩:=k0;exact DataW.trod_lt m _ _ _ hm
 obtain ⟨cs0,rfl,-⟩:=okWide_struct Tryz.underlying32 (hval 0 32 v0 rfl rfl)
 obtain ⟨m0,hm0⟩:=h0
 obtain ⟨x0,L0,rep0,wf0⟩:=aD9 16 m0 32 (.pair .bool (.pair (.int .i64) (.pair (.pair (.sl (.int .i64)) (.int .i64)) (.pair (.int .i64) (.pair (.int .i64) (.pair (.int .i64) (.pair (.int .i64) (.pair (.int .i64) (.pair (.int .i64) (.pair (.int .i64) (.pair (.sl (.sl (.int .i64))) (.pair (.sl (.pair (.sl (.int .i64)) (.int .i64))) (.pair (.int .i64) (.pair (.pair (.sl (.int .i64)) (.int .i64)) (.pair (.sl (.int .i64)) (.pair (.int .i64) (.pair (.sl (.int .i64)) (.int .i64)))))))))))))))))) _ _ (by kernel_rfl) hm0
 refine aEm rep0 ?_
 intro b0_0 c0_0 b0_1 c0_1 b0_2 c0_2 b0_3 c0_3 b0_4 c0_4 b0_5 c0_5 e0 f0
 have e0':some [.bool x0.1,.int .i64 x0.2.1,.slice b0_0 x0.2.2.1.1.length c0_0,.int .i64 x0.2.2.1.2,.int .i64 x0.2.2.2.1,.int .i64 x0.2.2.2.2.1,.int .i64 x0.2.2.2.2.2.1,.int .i64 x0.2.2.2.2.2.2.1,.int .i64 x0.2.2.2.2.2.2.2.1,.int .i64 x0.2.2.2.2.2.2.2.2.1,.int .i64 x0.2.2.2.2.2.2.2.2.2.1,.slice b0_1 x0.2.2.2.2.2.2.2.2.2.2.1.length c0_1,.slice b0_2 x0.2.2.2.2.2.2.2.2.2.2.2.1.length c0_2,.int .i64 x0.2.2.2.2.2.2.2.2.2.2.2.2.1,.slice b0_3 x0.2.2.2.2.2.2.2.2.2.2.2.2.2.1.1.length c0_3,.int .i64 x0.2.2.2.2.2.2.2.2.2.2.2.2.2.1.2,.slice b0_4 x0.2.2.2.2.2.2.2.2.2.2.2.2.2.2.1.length c0_4,.int .i64 x0.2.2.2.2.2.2.2.2.2.2.2.2.2.2.2.1,.slice b0_5 x0.2.2.2.2.2.2.2.2.2.2.2.2.2.2.2.2.1.length c0_5,.int .i64 x0.2.2.2.2.2.2.2.2.2.2.2.2.2.2.2.2.2]=some cs0.toList:=e0
 obtain rfl:cs0=#[.bool x0.1,.int .i64 x0.2.1,.slice b0_0 x0.2.2.1.1.length c0_0,.int .i64 x0.2.2.1.2,.int .i64 x0.2.2.2.1,.int .i64 x0.2.2.2.2.1,.int .i64 x0.2.2.2.2.2.1,.int .i64 x0.2.2.2.2.2.2.1,.int .i64 x0.2.2.2.2.2.2.2.1,.int .i64 x0.2.2.2.2.2.2.2.2.1,.int .i64 x0.2.2.2.2.2.2.2.2.2.1,.slice b0_1 x0.2.2.2.2.2.2.2.2.2.2.1.length c0_1,.slice b0_2 x0.2.2.2.2.2.2.2.2.2.2.2.1.length c0_2,.int .i64 x0.2.2.2.2.2.2.2.2.2.2.2.2.1,.slice b0_3 x0.2.2.2.2.2.2.2.2.2.2.2.2.2.1.1.length c0_3,.int .i64 x0.2.2.2.2.2.2.2.2.2.2.2.2.2.1.2,.slice b0_4 x0.2.2.2.2.2.2.2.2.2.2.2.2.2.2.1.length c0_4,.int .i64 x0.2.2.2.2.2.2.2.2.2.2.2.2.2.2.2.1,.slice b0_5 x0.2.2.2.2.2.2.2.2.2.2.2.2.2.2.2.2.1.length c0_5,.int .i64 x0.2.2.2.2.2.2.2.2.2.2.2.2.2.2.2.2.2]:=Array.ext' (Option.some.inj e0').symm
 have f0':∀ f ∈ ([⟨(.int .i64),⟨b0_0,x0.2.2.1.1.length,c0_0⟩,x0.2.2.1.1⟩,⟨(.sl (.int .i64)),⟨b0_1,x0.2.2.2.2.2.2.2.2.2.2.1.length,c0_1⟩,x0.2.2.2.2.2.2.2.2.2.2.1⟩,⟨(.pair (.sl (.int .i64)) (.int .i64)),⟨b0_2,x0.2.2.2.2.2.2.2.2.2.2.2.1.length,c0_2⟩,x0.2.2.2.2.2.2.2.2.2.2.2.1⟩,⟨(.int .i64),⟨b0_3,x0.2.2.2.2.2.2.2.2.2.2.2.2.2.1.1.length,c0_3⟩,x0.2.2.2.2.2.2.2.2.2.2.2.2.2.1.1⟩,⟨(.int .i64),⟨b0_4,x0.2.2.2.2.2.2.2.2.2.2.2.2.2.2.1.length,c0_4⟩,x0.2.2.2.2.2.2.2.2.2.2.2.2.2.2.1⟩,⟨(.int .i64),⟨b0_5,x0.2.2.2.2.2.2.2.2.2.2.2.2.2.2.2.2.1.length,c0_5⟩,x0.2.2.2.2.2.2.2.2.2.2.2.2.2.2.2.2.1⟩]:List Fact),∃ L,f.rep false W L:=f0
 have k1:=h1
 have lt1:∀ x ∈ p1,x.block<W.heap.size:=by obtain ⟨m,hm⟩:=k1;exact DataW.trod_lt m _ _ _ hm
 obtain ⟨cs1,rfl,-⟩:=okWide_struct Tryz.underlying35 (hval 1 35 v1 rfl rfl)
 obtain ⟨m1,hm1⟩:=h1
 obtain ⟨x1,L1,rep1,wf1⟩:=aD9 16 m1 35 (.pair (.int .i64) (.sl .str)) _ _ (by kernel_rfl) hm1
 refine aEm rep1 ?_
 intro b1_0 c1_0 e1 f1
 have e1':some [.int .i64 x1.1,.slice b1_0 x1.2.length c1_0]=some cs1.toList:=e1
 obtain rfl:cs1=#[.int .i64 x1.1,.slice b1_0 x1.2.length c1_0]:=Array.ext' (Option.some.inj e1').symm
 have f1':∀ f ∈ ([⟨.str,⟨b1_0,x1.2.length,c1_0⟩,x1.2⟩]:List Fact),∃ L,f.rep false W L:=f1
 have k2:=h2
 have lt2:∀ x ∈ p2,x.block<W.heap.size:=by obtain ⟨m,hm⟩:=k2;exact DataW.trod_lt m _ _ _ hm
 obtain ⟨cs2,rfl,-⟩:=okWide_struct Tryz.underlying61 (hval 2 61 v2 rfl rfl)
 obtain ⟨m2,hm2⟩:=h2
 obtain ⟨x2,L2,rep2,wf2⟩:=aD9 16 m2 61 (.pair (.int .i64) (.int .i64)) _ _ (by kernel_rfl) hm2
 refine aEm rep2 ?_
 intro  e2 f2
 have e2':some [.int .i64 x2.1,.int .i64 x2.2]=some cs2.toList:=e2
 obtain rfl:cs2=#[.int .i64 x2.1,.int .i64 x2.2]:=Array.ext' (Option.some.inj e2').symm
 have f2':∀ f ∈ ([]:List Fact),∃ L,f.rep false W L:=f2
 clear hA0 hval0
 simp only [List.append_nil] at hW'
 have walk:Calls Tryz.prog 8 #[.agg #[.bool x0.1,.int .i64 x0.2.1,.slice b0_0 x0.2.2.1.1.length c0_0,.int .i64 x0.2.2.1.2,.int .i64 x0.2.2.2.1,.int .i64 x0.2.2.2.2.1,.int .i64 x0.2.2.2.2.2.1,.int .i64 x0.2.2.2.2.2.2.1,.int .i64 x0.2.2.2.2.2.2.2.1,.int .i64 x0.2.2.2.2.2.2.2.2.1,.int .i64 x0.2.2.2.2.2.2.2.2.2.1,.slice b0_1 x0.2.2.2.2.2.2.2.2.2.2.1.length c0_1,.slice b0_2 x0.2.2.2.2.2.2.2.2.2.2.2.1.length c0_2,.int .i64 x0.2.2.2.2.2.2.2.2.2.2.2.2.1,.slice b0_3 x0.2.2.2.2.2.2.2.2.2.2.2.2.2.1.1.length c0_3,.int .i64 x0.2.2.2.2.2.2.2.2.2.2.2.2.2.1.2,.slice b0_4 x0.2.2.2.2.2.2.2.2.2.2.2.2.2.2.1.length c0_4,.int .i64 x0.2.2.2.2.2.2.2.2.2.2.2.2.2.2.2.1,.slice b0_5 x0.2.2.2.2.2.2.2.2.2.2.2.2.2.2.2.2.1.length c0_5,.int .i64 x0.2.2.2.2.2.2.2.2.2.2.2.2.2.2.2.2.2],.agg #[.int .i64 x1.1,.slice b1_0 x1.2.length c1_0],.agg #[.int .i64 x2.1,.int .i64 x2.2]] W fun e w'=>e=.returned (.bool true)∧Below W.heap.size W w':=by
  have h:=ok_l_FnExactEmacsKey x0 x1 x2 b0_0 c0_0 _ rfl b0_1 c0_1 _ rfl b0_2 c0_2 _ rfl b0_3 c0_3 _ rfl b0_4 c0_4 _ rfl b0_5 c0_5 _ rfl b1_0 c1_0 _ rfl true (law_EmacsKey x0 x1 x2 wf0 wf1 wf2)
  refine Calls.mono (h.calls W ?_) ?_
  ·
   intro x hx
   rcases List.mem_cons.1 hx with rfl | hx
   ·
    exact f0' _ List.mem_cons_self
   rcases List.mem_cons.1 hx with rfl | hx
   ·
    exact f0' _ (List.mem_cons_of_mem _ List.mem_cons_self)
   rcases List.mem_cons.1 hx with rfl | hx
   ·
    exact f0' _ (List.mem_cons_of_mem _ (List.mem_cons_of_mem _ List.mem_cons_self))
   rcases List.mem_cons.1 hx with rfl | hx
   ·
    exact f0' _ (List.mem_cons_of_mem _ (List.mem_cons_of_mem _ (List.mem_cons_of_mem _ List.mem_cons_self)))
   rcases List.mem_cons.1 hx with rfl | hx
   ·
    exact f0' _ (List.mem_cons_of_mem _ (List.mem_cons_of_mem _ (List.mem_cons_of_mem _ (List.mem_cons_of_mem _ List.mem_cons_self))))
   rcases List.mem_cons.1 hx with rfl | hx
   ·
    exact f0' _ (List.mem_cons_of_mem _ (List.mem_cons_of_mem _ (List.mem_cons_of_mem _ (List.mem_cons_of_mem _ (List.mem_cons_of_mem _ List.mem_cons_self)))))
   rcases List.mem_cons.1 hx with rfl | hx
   ·
    exact f1' _ List.mem_cons_self
   cases hx
  ·
   rintro e w' ⟨r,-,he,hk,-⟩
   exact ⟨he,hk.below⟩
 refine walk.mono fun e W' ⟨he,bel⟩=>?_
 subst he
 exact ⟨_,rfl,_,_,_,[],_,[],hW',trodAll_mk1 (shut_bool Tryz.underlying4 _),(trodAll_cons_mk (Below.trod laidOut (by kernel_rfl) (of_decide_eq_true (by kernel_rfl)) k0 bel lt0) (trodAll_cons_mk (Below.trod laidOut (by kernel_rfl) (of_decide_eq_true (by kernel_rfl)) k1 bel lt1) (trodAll_cons_mk (Below.trod laidOut (by kernel_rfl) (of_decide_eq_true (by kernel_rfl)) k2 bel lt2) trodAll_mk0))),rfl,bel.frame _,fun h=>by cases h⟩
theorem andI {a b:Bool} (ha:a=true) (hb:b=true):(a && b)=true:=by rw [ha,hb];rfl
set_option maxHeartbeats 8000000 in
theorem closed:joinedFacts Tryz.checked.prog 8 Tryz.f8 Rows.fnExactEmacsKeySpec Rows.fnExactEmacsKeyRow=true:=by
 unfold joinedFacts
 (repeat' with_reducible refine andI ?_ ?_) <;> as_aux_lemma=>kernel_rfl
theorem over:Rows.fnExactEmacsKeyRow.holds Tryz.pinned (OpenSpec.ofChange Rows.fnExactEmacsKeySpec):=
 OpenClaim.holds_of_wide 8 Tryz.f8 rfl rfl rfl rfl rfl rfl rfl ⟨rfl,rfl,rfl,rfl,rfl⟩ rfl rfl rfl rfl rfl (by kernel_rfl) Tryz.func8 closed
  (of_decide_eq_true (by kernel_rfl)) (by unfold Func.isWrapper;first | (rw [if_pos (by decide +kernel)];kernel_rfl) | (rw [if_neg (by decide +kernel)];exact ⟨rfl,rfl⟩))
  (fun os started H enc _=>lifted os started H enc)
theorem proved:Rows.FnExactEmacsKeySaid:=over
#print axioms proved
end Go.Proofs.YtlpgcohnjhomgaaGreat.fnExactEmacsKey
