/- FnYank: for every input the given law returns true and leaves its arguments as they were. No condition. -/
import Derived.Test.YtlpgcohnjhomgaaGreatDoorFnYankWalkC
import Derived.Test.YtlpgcohnjhomgaaGreatDoorRows
import Derived.WalkKit
import Derived.ProofKit
import Derived.OpenShut
import Derived.ShutString
import Derived.Test.YtlpgcohnjhomgaaGreatDoorTie
import Derived.Test.YtlpgcohnjhomgaaGreatDoorCards
import Derived.Handy
import Derived.Lay
import Derived.SevenTiedAt
set_option linter.unusedVariables false
set_option linter.unusedSimpArgs false
namespace Go.Eng
open Go Go.Proofs
theorem aM {α β:Type} {m:Option α} {k:α→Option β} {y:α} (h:m=some y):aH m k=k y:=by rw [h];rfl
theorem nK {α β:Type} {c:Prop} [Decidable c] {x d:α} {k:α→Option β} (h:c):bU c (some x) d k=k x:=by
  unfold bU;rw [if_pos h];rfl
theorem pF {α β:Type} {c:Prop} [Decidable c] {m:Option α} {d:α} {k:α→Option β} (h:¬ c):bU c m d k=k d:=by
  unfold bU;rw [if_neg h]
def nY (r:Int):Int:=
 if r=9∨r=10∨r=32 then 0
 else if (97≤r∧r≤122)∨(65≤r∧r≤90)∨(48≤r∧r≤57)∨r=95∨(159<r∧r≤1114111∧(r<55296∨57343<r)) then 1 else 2
theorem pD (r:Int):fF r=some (nY r):=by
 unfold fF dK iH eM fT iA cN nY bU
 simp only [aH,Bool.cond_decide]
 by_cases h0:r=9
 ·
  simp [h0]
 by_cases h1:r=10
 ·
  simp [h1]
 by_cases h2:r=32
 ·
  simp [h2]
 simp only [h0,h1,h2,if_false,decide_false,or_self,cond_false,Bool.false_eq_true]
 by_cases a1:97≤r∧r≤122
 ·
  have:¬ (159<r):=by omega
  simp [a1,this]
 by_cases a2:65≤r∧r≤90
 ·
  have:¬ (159<r):=by omega
  have a1':¬ (97≤r):=by omega
  simp [a2,a1',this]
 by_cases a3:48≤r∧r≤57
 ·
  have:¬ (159<r):=by omega
  have a1':¬ (97≤r):=by omega
  have a2':¬ (65≤r):=by omega
  simp [a3,a1',a2',this]
 by_cases a4:r=95
 ·
  subst a4;decide
 have e1:(if 97≤r then decide (r≤122) else false)=false:=by split <;> simp <;> omega
 have e2:(if 65≤r then decide (r≤90) else false)=false:=by split <;> simp <;> omega
 have e3:(if 48≤r then decide (r≤57) else false)=false:=by split <;> simp <;> omega
 simp only [e1,e2,e3,a1,a2,a3,a4,cond_false,decide_false,false_or,if_false,if_true,and_true,decide_eq_true_eq,Bool.false_eq_true]
 by_cases a5:159<r
 ·
  by_cases a6:r≤1114111
  ·
   by_cases a7:r<55296
   ·
    have b1:0≤r:=by omega
    have b2:32≤r:=by omega
    have b3:¬ (r≤159):=by omega
    have b4:¬ (55296≤r):=by omega
    have b5:127≤r:=by omega
    simp [a5,a6,a7,b1,b2,b3,b4,b5]
   ·
    by_cases a8:57343<r
    ·
     have b1:0≤r:=by omega
     have b2:32≤r:=by omega
     have b3:¬ (r≤159):=by omega
     have b4:55296≤r:=by omega
     have b5:127≤r:=by omega
     have b6:¬ (r≤57343):=by omega
     simp [a5,a6,a7,a8,b1,b2,b3,b4,b5,b6]
    ·
     have b1:0≤r:=by omega
     have b4:55296≤r:=by omega
     have b6:r≤57343:=by omega
     simp [a5,a6,a7,a8,b1,b4,b6]
  ·
   simp [a5,a6]
 ·
  simp [a5]
def uW (big:Bool) (r:Int):Int:=if big=true∧nY r=2 then 1 else nY r
theorem tK (t:List Int) (i:Int) (big:Bool) (h0:0≤i) (h1:i<(t.length:Int)):iD t i big=some (uW big (at' t i)):=by
 unfold iD uW aI
 rw [if_pos ⟨h0,h1⟩,aM (pD _)]
 cases big
 ·
  simp
 ·
  by_cases h:nY (at' t i)=2 <;> simp [h]
def fwd (f:Int→Prop) [DecidablePred f]:Nat→Int→Int
 | 0,k=>k
 | r+1,k=>if f k then fwd f r (k+1) else k
theorem sI (f:Int→Prop) [DecidablePred f]:∀ (r:Nat) (k:Int),k≤fwd f r k∧fwd f r k≤k+r
 | 0,k=>by simp [fwd]
 | r+1,k=>by
  have:=sI f r (k+1)
  simp only [fwd]
  split <;> omega
def bwd (f:Int→Prop) [DecidablePred f]:Nat→Nat
 | 0=>0
 | r+1=>if f (r:Int) then bwd f r else r+1
theorem tO (f:Int→Prop) [DecidablePred f]:∀ (r:Nat),bwd f r≤r
 | 0=>Nat.le_refl _
 | r+1=>by
  have:=tO f r
  simp only [bwd]
  split <;> omega
def again (g:Int→Int):Nat→Int→Int
 | 0,k=>k
 | n+1,k=>again g n (g k)
def eOn (t:List Int) (k:Int):Int:=
 let x:=fwd (fun i=>¬ nY (at' t i)=1) ((t.length:Int) - k).toNat k
 fwd (fun i=>nY (at' t i)=1) ((t.length:Int) - x).toNat x
def sV (t:List Int) (k:Nat):Nat:=bwd (fun i=>nY (at' t i)=1) (bwd (fun i=>¬ nY (at' t i)=1) k)
theorem vT (t:List Int) (k:Int) (h0:0≤k) (h1:k≤(t.length:Int)):k≤eOn t k∧eOn t k≤(t.length:Int):=by
 unfold eOn
 have a:=sI (fun i=>¬ nY (at' t i)=1) ((t.length:Int) - k).toNat k
 generalize fwd (fun i=>¬ nY (at' t i)=1) ((t.length:Int) - k).toNat k=x at *
 have b:=sI (fun i=>nY (at' t i)=1) ((t.length:Int) - x).toNat x
 simp only
 omega
theorem aDx (t:List Int) (k:Nat):sV t k≤k:=Nat.le_trans (tO _ _) (tO _ _)
section
variable (t:List Int) (hl:(t.length:Int)≤1048576)
include hl
theorem aHi (j:Int→Option Int):∀ (m r:Nat) (k:Int),0≤k→k+r=(t.length:Int)→r<m →
  bI (jN t j) m k=j (fwd (fun i=>¬ nY (at' t i)=1) r k):=by
 intro m
 induction m with
 | zero=>intro r k _ _ h;omega
 | succ m ih=>
  intro r k hk hr hm
  simp only [bI,jN,bU,aI,Bool.cond_decide]
  cases r with
  | zero=>
   have:¬ (k<(t.length:Int)):=by omega
   simp [this,fwd]
  | succ r=>
   have h1:k<(t.length:Int):=by omega
   simp only [h1,decide_true,if_true,hk,and_self,implies_true]
   rw [aM (pD _),bR (by omega) (by omega),ih r (k+1) (by omega) (by omega) (by omega)]
   simp only [fwd]
   by_cases c:nY (at' t k)=1 <;> simp [c]
theorem aHh (j:Int→Option Int):∀ (m r:Nat) (k:Int),0≤k→k+r=(t.length:Int)→r<m →
  bI (jM t j) m k=j (fwd (fun i=>nY (at' t i)=1) r k):=by
 intro m
 induction m with
 | zero=>intro r k _ _ h;omega
 | succ m ih=>
  intro r k hk hr hm
  simp only [bI,jM,bU,aI,Bool.cond_decide]
  cases r with
  | zero=>
   have:¬ (k<(t.length:Int)):=by omega
   simp [this,fwd]
  | succ r=>
   have h1:k<(t.length:Int):=by omega
   simp only [h1,decide_true,if_true,hk,and_self,implies_true]
   rw [aM (pD _),bR (by omega) (by omega),ih r (k+1) (by omega) (by omega) (by omega)]
   simp only [fwd]
   by_cases c:nY (at' t k)=1 <;> simp [c]
theorem aDw (j:Int→Option Int):∀ (m k:Nat),(k:Int)≤(t.length:Int)→k<m →
  bI (gJ t j) m (k:Int)=j (bwd (fun i=>¬ nY (at' t i)=1) k:Nat):=by
 intro m
 induction m with
 | zero=>intro k _ h;omega
 | succ m ih=>
  intro k hk hm
  simp only [bI,gJ,bU,aI,Bool.cond_decide]
  cases k with
  | zero=>simp [bwd]
  | succ k=>
   have h1:(0:Int)<((k+1:Nat):Int):=by omega
   have e:((k+1:Nat):Int) - 1=(k:Int):=by omega
   rw [bR (by omega) (by omega),e,if_pos (fun _=>by omega)]
   simp only [h1,decide_true,if_true]
   rw [aM (pD _),ih k (by omega) (by omega)]
   simp only [bwd]
   by_cases c:nY (at' t (k:Int))=1 <;> simp [c]
theorem aDv (j:Int→Option Int):∀ (m k:Nat),(k:Int)≤(t.length:Int)→k<m →
  bI (gI t j) m (k:Int)=j (bwd (fun i=>nY (at' t i)=1) k:Nat):=by
 intro m
 induction m with
 | zero=>intro k _ h;omega
 | succ m ih=>
  intro k hk hm
  simp only [bI,gI,bU,aI,Bool.cond_decide]
  cases k with
  | zero=>simp [bwd]
  | succ k=>
   have h1:(0:Int)<((k+1:Nat):Int):=by omega
   have e:((k+1:Nat):Int) - 1=(k:Int):=by omega
   rw [bR (by omega) (by omega),e,if_pos (fun _=>by omega)]
   simp only [h1,decide_true,if_true]
   rw [aM (pD _),ih k (by omega) (by omega)]
   simp only [bwd]
   by_cases c:nY (at' t (k:Int))=1 <;> simp [c]
theorem aKx (k:Int) (h0:0≤k) (h1:k≤(t.length:Int)):kB t k=some (eOn t k):=by
 unfold kB hZ eOn
 have e:max (0:Int) (min k (t.length:Int))=k:=by omega
 simp only [aH,aY,e]
 rw [aHi t hl _ bO ((t.length:Int) - k).toNat k h0 (by omega) (by rw [bW];omega)]
 have a:=sI (fun i=>¬ nY (at' t i)=1) ((t.length:Int) - k).toNat k
 generalize fwd (fun i=>¬ nY (at' t i)=1) ((t.length:Int) - k).toNat k=x at *
 rw [aHh t hl _ bO ((t.length:Int) - x).toNat x (by omega) (by omega) (by rw [bW];omega)]
theorem aKg (k:Nat) (h1:(k:Int)≤(t.length:Int)):iW t (k:Int)=some ((sV t k:Nat):Int):=by
 unfold iW hZ sV
 have e:max (0:Int) (min (k:Int) (t.length:Int))=k:=by omega
 simp only [aH,aY,e]
 rw [aDw t hl _ bO k h1 (by rw [bW];omega)]
 have a:=tO (fun i=>¬ nY (at' t i)=1) k
 rw [aDv t hl _ bO _ (by omega) (by rw [bW];omega)]
omit hl in
theorem uQ:∀ (n:Nat) (k:Int),0≤k→k≤(t.length:Int)→k≤again (eOn t) n k∧again (eOn t) n k≤(t.length:Int)
 | 0,k,h0,h1=>by simp only [again];omega
 | n+1,k,h0,h1=>by
  have a:=vT t k h0 h1
  have b:=uQ n (eOn t k) (by omega) a.2
  simp only [again]
  omega
omit hl in
theorem rI:∀ (n:Nat) (k:Int),0≤k→k≤(t.length:Int)→0≤again (fun k=>(sV t k.toNat:Int)) n k∧again (fun k=>(sV t k.toNat:Int)) n k≤k
 | 0,k,h0,h1=>by simp only [again];omega
 | n+1,k,h0,h1=>by
  have a:=aDx t k.toNat
  have b:=rI n (sV t k.toNat:Int) (by omega) (by omega)
  simp only [again]
  omega
theorem aEz (q:Int) (j:Int→Option (Int×List Int)):∀ (m r:Nat) (k i:Int),0≤k→k≤(t.length:Int)→0≤i→i≤2000→q≤2000→r=(q - i).toNat→r<m →
  bI (cQ q t j) m (k,i)=j (again (eOn t) r k):=by
 intro m
 induction m with
 | zero=>intro r k i _ _ _ _ _ _ h;omega
 | succ m ih=>
  intro r k i h0 h1 hi hi' hq hr hm
  simp only [bI,cQ,lL,Bool.cond_decide]
  cases r with
  | zero=>rw [if_neg (by omega)];rfl
  | succ r=>
   have hb:=vT t k h0 h1
   rw [if_pos (by omega),aKx t hl k h0 h1]
   simp only [aH]
   rw [bR (by omega) (by omega)]
   exact ih r _ (i+1) (by omega) hb.2 (by omega) (by omega) hq (by omega) (by omega)
theorem uF (q:Int) (j:Int→Option (Int×List Int)):∀ (m r:Nat) (k i:Int),0≤k→k≤(t.length:Int)→0≤i→i≤2000→q≤2000→r=(q - i).toNat→r<m →
  bI (cB q t j) m (k,i)=j (again (fun k=>(sV t k.toNat:Int)) r k):=by
 intro m
 induction m with
 | zero=>intro r k i _ _ _ _ _ _ h;omega
 | succ m ih=>
  intro r k i h0 h1 hi hi' hq hr hm
  simp only [bI,cB,iC,Bool.cond_decide]
  cases r with
  | zero=>rw [if_neg (by omega)];rfl
  | succ r=>
   have hk:((k.toNat:Nat):Int)=k:=by omega
   have hb:=aDx t k.toNat
   have he:=aKg t hl k.toNat (by omega)
   rw [hk] at he
   rw [if_pos (by omega),he]
   simp only [aH]
   rw [bR (by omega) (by omega)]
   exact ih r _ (i+1) (by omega) (by omega) (by omega) (by omega) hq (by omega) (by omega)
omit hl in
theorem aK3:cV=cB:=by funext a b c d;unfold cV cB mI iC;rfl
theorem aJ1 (k n:Int) (h0:0≤k) (h1:k≤(t.length:Int)) (hn:n≤1000):cO k n t=some (again (eOn t) n.toNat k,t):=by
 unfold cO
 simp only [aY]
 exact aEz t hl n _ bO n.toNat k 0 h0 h1 (by omega) (by omega) (by omega) (by omega) (by rw [bW];omega)
theorem aG0 (k n:Int) (h0:0≤k) (h1:k≤(t.length:Int)) (hn:n≤1000):dD k n t=some (again (fun k=>(sV t k.toNat:Int)) n.toNat k,t):=by
 unfold dD
 simp only [aY]
 exact uF t hl n _ bO n.toNat k 0 h0 h1 (by omega) (by omega) (by omega) (by omega) (by rw [bW];omega)
theorem aE0 (k n:Int) (h0:0≤k) (h1:k≤(t.length:Int)) (hn:n≤1000):cU k n t=some (again (fun k=>(sV t k.toNat:Int)) n.toNat k,t):=by
 unfold cU
 rw [aK3]
 simp only [aY]
 exact uF t hl n _ bO n.toNat k 0 h0 h1 (by omega) (by omega) (by omega) (by omega) (by rw [bW];omega)
end
theorem fU {α:Type} [Inhabited α] {l:List α} {k:Int} (h0:0≤k) (h:k<(l.length:Int)):l.drop k.toNat=at' l k :: l.drop (k+1).toNat:=by
 have hlt:k.toNat<l.length:=by omega
 rw [List.drop_eq_getElem_cons hlt]
 have:(k+1).toNat=k.toNat+1:=by omega
 rw [this]
 congr 1
 simp [at',List.getD_eq_getElem?_getD,hlt]
theorem aA4 {α:Type} {l:List α} {k:Int} (h0:0≤k):bC l k (l.length:Int)=l.drop k.toNat:=by
 unfold bC
 rw [List.take_of_length_le]
 simp
theorem aEv (xs:List (List Int)) (hl:(xs.length:Int)≤1048576) (hs:∀ s ∈ xs,(s.length:Int)≤1048576) (j:List (List Int)→Option (List (List Int))):∀ (m:Nat) (i:Int) (ds:List (List Int)),0≤i→i≤(xs.length:Int)→(ds.length:Int)=i→(xs.length:Int) - i<m →
  bI (hY xs j) m (i,ds)=j (ds ++ xs.drop i.toNat):=by
 intro m
 induction m with
 | zero=>intro i ds _ _ _ h;omega
 | succ m ih=>
  intro i ds hi hi' hd hm
  simp only [bI,hY,aI,Bool.cond_decide,List.nil_append]
  by_cases h1:i<(xs.length:Int)
  ·
   have hb:=hs (at' xs i) (List.mem_of_getElem? (bD ⟨hi,h1⟩))
   rw [if_pos h1,if_pos ⟨hi,h1⟩,if_pos (by simp;omega),if_pos (by simp;omega),bR (by omega) (by omega),ih (i+1) _ (by omega) (by omega) (by simp;omega) (by omega),fU hi h1]
   simp
  ·
   rw [if_neg h1,List.drop_eq_nil_of_le (by omega)]
   simp
theorem aEw (xs:List (List Int)) (hl:(xs.length:Int)≤1048576) (hs:∀ s ∈ xs,(s.length:Int)≤1048576) (j:List (List Int)→Option (List (List Int))):∀ (m:Nat) (i:Int) (ds:List (List Int)),0≤i→i≤(xs.length:Int)→(ds.length:Int)=i→(xs.length:Int) - i<m →
  bI (gH xs j) m (i,ds)=j (ds ++ xs.drop i.toNat):=by
 intro m
 induction m with
 | zero=>intro i ds _ _ _ h;omega
 | succ m ih=>
  intro i ds hi hi' hd hm
  simp only [bI,gH,aI,Bool.cond_decide]
  by_cases h1:i<(xs.length:Int)
  ·
   have hb:=hs (at' xs i) (List.mem_of_getElem? (bD ⟨hi,h1⟩))
   have ec:cG (at' xs i)=some (at' xs i):=by
    unfold cG aI
    rw [if_pos (by simp;omega)];simp
   rw [if_pos h1,if_pos ⟨hi,h1⟩,aM ec,if_pos (by simp;omega),bR (by omega) (by omega),ih (i+1) _ (by omega) (by omega) (by simp;omega) (by omega),fU hi h1]
   simp
  ·
   rw [if_neg h1,List.drop_eq_nil_of_le (by omega)]
   simp
theorem aFn (xs:List (List Int)) (hl:(xs.length:Int)≤1048576) (hs:∀ s ∈ xs,(s.length:Int)≤1048576):mO xs=some xs:=by
 unfold mO
 simp only [aY]
 rw [aEv xs hl hs _ bO 0 [] (by omega) (by omega) (by simp) (by rw [bW];omega)]
 simp
theorem tN (xs:List (List Int)) (hl:(xs.length:Int)≤1048576) (hs:∀ s ∈ xs,(s.length:Int)≤1048576):gA xs=some xs:=by
 unfold gA
 simp only [aY]
 rw [aEw xs hl hs _ bO 0 [] (by omega) (by omega) (by simp) (by rw [bW];omega)]
 simp
theorem gZ (x:List Int) (h:(x.length:Int)≤1048576):cG x=some x:=by
 unfold cG aI
 rw [if_pos (by simp;omega)];simp
theorem fJ (x:List Int×Int) (h:(x.1.length:Int)≤1048576):cM x=some x:=by
 unfold cM
 rw [aM (gZ x.1 h)]
theorem aEc (xs:List (List Int×Int)) (hl:(xs.length:Int)≤1048576) (hs:∀ s ∈ xs,(s.1.length:Int)≤1048576) (j:List (List Int×Int)→Option (List (List Int×Int))):∀ (m:Nat) (i:Int) (ds:List (List Int×Int)),0≤i→i≤(xs.length:Int)→(ds.length:Int)=i→(xs.length:Int) - i<m →
  bI (gG xs j) m (i,ds)=j (ds ++ xs.drop i.toNat):=by
 intro m
 induction m with
 | zero=>intro i ds _ _ _ h;omega
 | succ m ih=>
  intro i ds hi hi' hd hm
  simp only [bI,gG,aI,Bool.cond_decide]
  by_cases h1:i<(xs.length:Int)
  ·
   have hb:=hs (at' xs i) (List.mem_of_getElem? (bD ⟨hi,h1⟩))
   rw [if_pos h1,if_pos ⟨hi,h1⟩,aM (fJ (at' xs i) hb),if_pos (by simp;omega),bR (by omega) (by omega),ih (i+1) _ (by omega) (by omega) (by simp;omega) (by omega),fU hi h1]
   simp
  ·
   rw [if_neg h1,List.drop_eq_nil_of_le (by omega)]
   simp
theorem tM (xs:List (List Int×Int)) (hl:(xs.length:Int)≤1048576) (hs:∀ s ∈ xs,(s.1.length:Int)≤1048576):fZ xs=some xs:=by
 unfold fZ
 simp only [aY]
 rw [aEc xs hl hs _ bO 0 [] (by omega) (by omega) (by simp) (by rw [bW];omega)]
 simp
section
variable (vi:Bool) (mode:Int) (line:List Int×Int) (count op opc wait fr fh last:Int) (ring:List (List Int)) (undo:List (List Int×Int)) (nav:Int) (own:List Int×Int) (query:List Int) (hit:Int) (back:List Int×Int)
  (h1:line.1.length≤1048576) (h2:ring.length≤1048576) (h3:∀ s ∈ ring,s.length≤1048576) (h4:undo.length≤1048576) (h5:∀ s ∈ undo,s.1.length≤1048576) (h6:own.1.length≤1048576) (h7:query.length≤1048576) (h8:back.1.length≤1048576)
include h1 h2 h3 h4 h5 h6 h7 h8
theorem aDy:eK (vi,mode,line,count,op,opc,wait,fr,fh,last,ring,undo,nav,own,query,hit,back)=some (vi,mode,line,count,op,opc,wait,fr,fh,last,ring,undo,nav,own,query,hit,back):=by
 unfold eK
 simp only [fJ line (by omega),fJ own (by omega),fJ back (by omega),tN ring (by omega) (fun s h=>by have:=h3 s h;omega),tM undo (by omega) (fun s h=>by have:=h5 s h;omega),gZ query (by omega),aH]
end
theorem yH (a b c:Int):cN a b c=some (decide (b≤a∧a≤c)):=by
 unfold cN
 congr 1
 by_cases h1:b≤a <;> by_cases h2:a≤c <;> simp [h1,h2]
def pr (r:Int):Bool:=decide ((0≤r∧r≤1114111∧(r<55296∨57343<r))∧32≤r∧(r<127∨159<r))
theorem dN {α β:Type} {c:Prop} [Decidable c] {x d:α} {k:α→Option β}:bU c (some x) d k=k (if c then x else d):=by
 unfold bU
 split <;> simp [aH, *]
theorem aCy (r:Int):jH r=some (pr r):=by
 unfold jH pr qH
 simp only [aH]
 congr 1
 by_cases h1:0≤r <;> by_cases h2:r≤1114111 <;> by_cases h3:r<55296 <;> by_cases h4:57343<r <;> by_cases h5:32≤r <;> by_cases h6:r<127 <;> simp [h1,h2,h3,h4,h5,h6]
theorem oI (r:Int):dK r=some (pr r):=by
 unfold dK pr iH
 simp only [yH,dN,aH]
 congr 1
 by_cases h1:0≤r∧r≤1114111
 ·
  by_cases h2:55296≤r∧r≤57343
  ·
   have:¬ (r<55296∨57343<r):=by omega
   simp [h1,h2,this]
  ·
   have:(r<55296∨57343<r):=by omega
   by_cases h5:32≤r
   ·
    by_cases h6:127≤r∧r≤159
    ·
     have:¬ (r<127∨159<r):=by omega
     simp [h1,h2,h5,h6,this]
    ·
     have:(r<127∨159<r):=by omega
     simp [h1,h2,h5,h6, *]
   ·
    simp [h1,h2,h5]
 ·
  have:¬ (0≤r∧r≤1114111∧(r<55296∨57343<r)):=fun h=>h1 ⟨h.1,h.2.1⟩
  simp [h1,this]
def adm (r:Int):Bool:=pr r || decide (r=9) || decide (r=10)
theorem aJr (r:Int):lI r=some (adm r):=by
 unfold lI adm
 rw [aM (aCy r)]
 cases pr r <;> by_cases h:r=9 <;> by_cases h':r=10 <;> simp [h,h']
theorem aB9 (r:Int):iE r=some (adm r):=by
 unfold iE adm
 rw [aM (oI r)]
 cases pr r <;> by_cases h:r=9 <;> by_cases h':r=10 <;> simp [h,h']
theorem zT (t:List Int) (ht:t.length≤100000000) (j:Unit→Option Bool):∀ (m:Nat) (k:Int),0≤k→k≤(t.length:Int)→(t.length:Int) - k<m→bI (eB t j) m k=if (t.drop k.toNat).all adm then j () else some false:=by
 intro m
 induction m with
 | zero=>intro k _ _ h;omega
 | succ m ih=>
  intro k hk hk' hm
  simp only [bI,eB,aI,Bool.cond_decide,aJr,aH]
  by_cases h1:k<(t.length:Int)
  ·
   rw [if_pos h1,if_pos ⟨hk,h1⟩,bR (by omega) (by omega),fU hk h1]
   by_cases h2:adm (at' t k)
   ·
    rw [ih (k+1) (by omega) (by omega) (by omega)]
    simp [h2]
   ·
    simp [h2]
  ·
   rw [if_neg h1,List.drop_eq_nil_of_le (by omega)]
   simp
theorem yR (t:List Int) (ht:t.length≤100000000):gC t=some (t.all adm):=by
 unfold gC aY
 show bI (eB t fun _=>some true) bO 0=_
 rw [zT t ht _ bO 0 (by omega) (by omega) (by rw [bW];omega)]
 simp only [Int.toNat_zero,List.drop_zero]
 cases t.all adm <;> simp
theorem aD4 (t:List Int) (ht:t.length≤100000000) (j:Unit→Option Bool):∀ (m:Nat) (k:Int),0≤k→k≤(t.length:Int)→(k=0∨k≤400)→(t.length:Int) - k<m→bI (dE t j) m k=if (t.drop k.toNat).all adm∧t.length≤400 then j () else some false:=by
 intro m
 induction m with
 | zero=>intro k _ _ _ h;omega
 | succ m ih=>
  intro k hk hk' h4 hm
  simp only [bI,dE,aI,Bool.cond_decide,aB9,dN]
  by_cases h1:k<(t.length:Int)
  ·
   rw [if_pos h1,if_pos ⟨hk,h1⟩,bR (by omega) (by omega),fU hk h1]
   by_cases h3:400≤k
   ·
    have:¬ t.length≤400:=by omega
    simp [h3,this]
   ·
    by_cases h2:adm (at' t k)
    ·
     rw [ih (k+1) (by omega) (by omega) (by omega) (by omega)]
     simp [h2,h3]
    ·
     simp [h2,h3]
  ·
   rw [if_neg h1,List.drop_eq_nil_of_le (by omega)]
   have:t.length≤400:=by omega
   simp [this]
def cC (t:List Int):Bool:=t.all adm && decide (t.length≤400)
theorem yQ (t:List Int) (ht:t.length≤100000000):dQ t=some (cC t):=by
 unfold dQ aY cC
 show bI (dE t fun _=>some true) bO 0=_
 rw [aD4 t ht _ bO 0 (by omega) (by omega) (.inl rfl) (by rw [bW];omega)]
 simp only [Int.toNat_zero,List.drop_zero]
 by_cases h:t.length≤400 <;> cases t.all adm <;> simp [h]
def bL (l:List Int×Int):Bool:=cC l.1 && decide (0≤l.2∧l.2≤(l.1.length:Int))
theorem jD (l:List Int×Int) (hl:l.1.length≤100000000):dB l=some (bL l):=by
 unfold dB bL
 rw [aM (yQ _ hl)]
 simp only [yH,dN]
 congr 1
 cases cC l.1 <;> simp
def iQ (p:List Int):Bool:=cC p && !(decide (p.length=0))
theorem aEt (r:List (List Int)) (hr:r.length≤100000000) (hp:∀ p ∈ r,p.length≤100000000) (j:Unit→Option Bool):∀ (m:Nat) (k:Int),0≤k→k≤(r.length:Int)→(r.length:Int) - k<m→bI (jG r j) m k=if (r.drop k.toNat).all iQ then j () else some false:=by
 intro m
 induction m with
 | zero=>intro k _ _ h;omega
 | succ m ih=>
  intro k hk hk' hm
  simp only [bI,jG,aI,Bool.cond_decide]
  by_cases h1:k<(r.length:Int)
  ·
   have hq:=hp (at' r k) (List.mem_of_getElem? (bD ⟨hk,h1⟩))
   have e:fB (at' r k)=some (cC (at' r k)):=by
    unfold fB cC
    rw [yR _ hq,dN]
    congr 1
    by_cases h:(at' r k).length≤400
    ·
     have h':((at' r k).length:Int)≤400:=by omega
     simp [h,h']
    ·
     have h':¬ ((at' r k).length:Int)≤400:=by omega
     simp [h,h']
   rw [if_pos h1,if_pos ⟨hk,h1⟩,bR (by omega) (by omega),fU hk h1,e,dN,ih (k+1) (by omega) (by omega) (by omega)]
   have hb:(if ((at' r k).length:Int)=0 then true else !(if decide (((at' r k).length:Int)=0)=false then cC (at' r k) else false))=!(iQ (at' r k)):=by
    unfold iQ
    by_cases hz:(at' r k).length=0
    ·
     have hz':((at' r k).length:Int)=0:=by omega
     rw [if_pos hz',decide_eq_true hz];simp
    ·
     have hz':¬ ((at' r k).length:Int)=0:=by omega
     rw [if_neg hz',decide_eq_false hz,decide_eq_false hz'];simp
   rw [hb]
   by_cases hz:iQ (at' r k)=true <;> simp [hz]
  ·
   rw [if_neg h1,List.drop_eq_nil_of_le (by omega)]
   simp
theorem aEu (r:List (List Int)) (hr:r.length≤100000000) (hp:∀ p ∈ r,p.length≤100000000) (j:Unit→Option Bool):∀ (m:Nat) (k:Int),0≤k→k≤(r.length:Int)→(r.length:Int) - k<m→bI (jP r j) m k=if (r.drop k.toNat).all iQ then j () else some false:=by
 intro m
 induction m with
 | zero=>intro k _ _ h;omega
 | succ m ih=>
  intro k hk hk' hm
  simp only [bI,jP,aI,Bool.cond_decide]
  by_cases h1:k<(r.length:Int)
  ·
   have hq:=hp (at' r k) (List.mem_of_getElem? (bD ⟨hk,h1⟩))
   rw [if_pos h1,if_pos ⟨hk,h1⟩,bR (by omega) (by omega),fU hk h1,yQ _ hq,dN,ih (k+1) (by omega) (by omega) (by omega)]
   have hb:(if ((at' r k).length:Int)=0 then true else !(if decide (((at' r k).length:Int)=0)=false then cC (at' r k) else false))=!(iQ (at' r k)):=by
    unfold iQ
    by_cases hz:(at' r k).length=0
    ·
     have hz':((at' r k).length:Int)=0:=by omega
     rw [if_pos hz',decide_eq_true hz];simp
    ·
     have hz':¬ ((at' r k).length:Int)=0:=by omega
     rw [if_neg hz',decide_eq_false hz,decide_eq_false hz'];simp
   rw [hb]
   by_cases hz:iQ (at' r k)=true <;> simp [hz]
  ·
   rw [if_neg h1,List.drop_eq_nil_of_le (by omega)]
   simp
def dA (r:List (List Int)):Bool:=r.all iQ && decide (r.length≤6)
theorem aB4 {n m:Nat}:decide ((n:Int)≤(m:Int))=decide (n≤m):=by
 by_cases h:n≤m
 ·
  rw [decide_eq_true h,decide_eq_true (by omega)]
 ·
  rw [decide_eq_false h,decide_eq_false (by omega)]
theorem aH2 (r:List (List Int)) (hr:r.length≤100000000) (hp:∀ p ∈ r,p.length≤100000000):oB r=some (dA r):=by
 unfold oB dA
 simp only [aY]
 rw [aEt r hr hp _ bO 0 (by omega) (by omega) (by rw [bW];omega)]
 have:=aB4 (n:=r.length) (m:=6)
 simp only [Int.toNat_zero,List.drop_zero] at this ⊢
 have e6:((6:Nat):Int)=6:=rfl
 rw [e6] at this
 rw [this]
 cases r.all iQ <;> simp
theorem uC (r:List (List Int)) (hr:r.length≤100000000) (hp:∀ p ∈ r,p.length≤100000000):iI r=some (dA r):=by
 unfold iI dA
 simp only [aY]
 rw [aEu r hr hp _ bO 0 (by omega) (by omega) (by rw [bW];omega)]
 have:=aB4 (n:=r.length) (m:=6)
 simp only [Int.toNat_zero,List.drop_zero] at this ⊢
 have e6:((6:Nat):Int)=6:=rfl
 rw [e6] at this
 rw [this]
 cases r.all iQ <;> simp
theorem aEb (r:List (List Int×Int)) (hr:r.length≤100000000) (hp:∀ p ∈ r,p.1.length≤100000000) (j:Unit→Option Bool):∀ (m:Nat) (k:Int),0≤k→k≤(r.length:Int)→(r.length:Int) - k<m→bI (jO r j) m k=if (r.drop k.toNat).all bL then j () else some false:=by
 intro m
 induction m with
 | zero=>intro k _ _ h;omega
 | succ m ih=>
  intro k hk hk' hm
  simp only [bI,jO,aI,Bool.cond_decide]
  by_cases h1:k<(r.length:Int)
  ·
   have hq:=hp (at' r k) (List.mem_of_getElem? (bD ⟨hk,h1⟩))
   rw [if_pos h1,if_pos ⟨hk,h1⟩,bR (by omega) (by omega),fU hk h1,aM (jD (at' r k) hq),ih (k+1) (by omega) (by omega) (by omega)]
   obtain ⟨x,hx⟩:∃ x,x=bL (at' r k):=⟨_,rfl⟩
   rw [List.all_cons,← hx]
   cases x <;> rfl
  ·
   rw [if_neg h1,List.drop_eq_nil_of_le (by omega)]
   simp
def gP (r:List (List Int×Int)):Bool:=r.all bL && decide (r.length≤20)
theorem xB (r:List (List Int×Int)) (hr:r.length≤100000000) (hp:∀ p ∈ r,p.1.length≤100000000):kC r=some (gP r):=by
 unfold kC gP
 simp only [aY]
 rw [aEb r hr hp _ bO 0 (by omega) (by omega) (by rw [bW];omega)]
 have:=aB4 (n:=r.length) (m:=20)
 simp only [Int.toNat_zero,List.drop_zero] at this ⊢
 have e6:((20:Nat):Int)=20:=rfl
 rw [e6] at this
 rw [this]
 cases r.all bL <;> simp
def nZ (n:Int) (l:List Int):Bool:=l.any (fun x=>decide (x=n))
theorem aBt (l:List UInt8) (n:Int) (hl:l.length≤100000000):∀ (m:Nat) (k:Int),0≤k→k≤(l.length:Int)→(l.length:Int) - k<m→bI (iB n l fun _=>some false) m k=some (nZ n ((l.drop k.toNat).map (fun b=>(b.toNat:Int)))):=by
 intro m
 induction m with
 | zero=>intro k _ _ h;omega
 | succ m ih=>
  intro k hk hk' hm
  simp only [bI,iB,aI,Bool.cond_decide]
  by_cases h1:k<(l.length:Int)
  ·
   rw [if_pos h1,if_pos ⟨hk,h1⟩,bR (by omega) (by omega),fU hk h1,ih (k+1) (by omega) (by omega) (by omega)]
   unfold nZ
   by_cases h2:((at' l k).toNat:Int)=n
   ·
    simp [h2]
   ·
    simp [h2]
  ·
   rw [if_neg h1,List.drop_eq_nil_of_le (by omega)]
   simp [nZ]
theorem aGg (n:Int) (l:List UInt8) (hl:l.length≤100000000):kU n l=some (nZ n (l.map (fun b=>(b.toNat:Int)))):=by
 unfold kU
 simp only [aY]
 rw [aBt l n hl bO 0 (by omega) (by omega) (by rw [bW];omega)]
 simp
def nX (l:List Int×Int):Bool:=decide ((l.1.length:Int)=0) && decide (l.2=0)
theorem aJ8 (l:List Int×Int):gL l=some (nX l):=by
  unfold gL nX;cases decide ((l.1.length:Int)=0) <;> rfl
def yP (l:List Int×Int):Bool:=decide (0<(l.1.length:Int)) && decide (l.2=(l.1.length:Int))
theorem aGf (l:List Int×Int):kT l=some (yP l):=by
  unfold kT yP;cases decide (0<(l.1.length:Int)) <;> rfl
abbrev EdT:=Bool×Int×(List Int×Int)×Int×Int×Int×Int×Int×Int×Int×List (List Int)×(List (List Int×Int))×Int×(List Int×Int)×List Int×Int×List Int×Int
def rH (vi:Bool) (mode:Int) (line:List Int×Int) (op opc wait:Int):Bool:=
  decide (0≤mode∧mode≤3∧(mode=0→vi=false)∧(mode=1→vi=true)∧(mode=2→vi=true)∧(mode=2→yP line=false)∧(mode≠2→op=0∧opc=0∧wait=0)∧(op=0→opc=0)) && nZ op [0,100,99,121] && nZ wait [0,102,70,116,84,114]
def sF (mode:Int) (query:List Int) (hit:Int) (back:List Int×Int):Bool:=
  decide (mode=3) || (decide ((query.length:Int)=0) && decide (hit=0) && nX back)
theorem aJd (op:Int):nZ op [0,100,99,121]=(decide (op=0) || nZ op [100,99,121]):=by
 have e:decide (0=op)=decide (op=0):=by simp [eq_comm]
 simp only [nZ,List.any_cons,e]
theorem aJc (op:Int):nZ op [0,102,70,116,84,114]=(decide (op=0) || nZ op [102,70,116,84,114]):=by
 have e:decide (0=op)=decide (op=0):=by simp [eq_comm]
 simp only [nZ,List.any_cons,e]
set_option maxHeartbeats 4000000 in
theorem aLb (vi:Bool) (mode:Int) (line:List Int×Int) (count op opc wait fr fh last:Int) (ring:List (List Int)) (undo:List (List Int×Int)) (nav:Int) (own:List Int×Int) (query:List Int) (hit:Int) (back:List Int×Int) :
  oC (vi,mode,line,count,op,opc,wait,fr,fh,last,ring,undo,nav,own,query,hit,back)=some (rH vi mode line op opc wait):=by
 unfold oC rH
 have e1:([100,99,121]:List UInt8).map (fun b=>(b.toNat:Int))=[100,99,121]:=rfl
 have e2:([102,70,116,84,114]:List UInt8).map (fun b=>(b.toNat:Int))=[102,70,116,84,114]:=rfl
 simp only [aGf,aGg _ _ (show ([100,99,121]:List UInt8).length≤100000000 by simp),aGg _ _ (show ([102,70,116,84,114]:List UInt8).length≤100000000 by simp),dN,aY,e1,e2,aJd,aJc]
 generalize nZ op [100,99,121]=A
 generalize nZ wait [102,70,116,84,114]=Bw
 generalize yP line=T
 by_cases m0:mode<0
 ·
  have h1:¬ 0≤mode:=by omega
  have h2:¬ mode=0:=by omega
  have h3:¬ mode=1:=by omega
  have h4:¬ mode=2:=by omega
  have h5:¬ mode=3:=by omega
  simp [h1,h2,h3,h4,h5]
 by_cases m3:3<mode
 ·
  have h1:¬ mode≤3:=by omega
  have h2:¬ mode=0:=by omega
  have h3:¬ mode=1:=by omega
  have h4:¬ mode=2:=by omega
  have h5:¬ mode=3:=by omega
  simp [h1,h2,h3,h4,h5]
 have hm:mode=0∨mode=1∨mode=2∨mode=3:=by omega
 rcases hm with rfl | rfl | rfl | rfl <;> cases vi <;> cases A <;> cases Bw <;> cases T <;> by_cases o:op=0 <;> by_cases oc:opc=0 <;> by_cases w:wait=0 <;> simp [o,oc,w]
def aAq (fr fh:Int):Bool:=decide ((fr=0→fh=0)∧(fr≠0→0≤fh∧fh≤3)) && (decide (fr=0) || pr fr)
def cX (e:EdT):Bool:=match e with
 | (vi,mode,line,count,op,opc,wait,fr,fh,last,ring,undo,nav,own,query,hit,back)=>
  bL line && bL own && bL back && decide (0≤count∧count≤999) && decide (0≤opc∧opc≤999) && rH vi mode line op opc wait && aAq fr fh && decide (0≤last∧last≤3) && dA ring && gP undo && decide (0≤nav∧nav≤1000000060) && decide (0≤hit∧hit≤1000000060) && (!decide (nav=0) || nX own) && decide ((query.length:Int)≤40) && query.all pr && sF mode query hit back
def wM (N:Nat) (e:EdT):Prop:=match e with
 | (_,_,line,_,_,_,_,_,_,_,ring,undo,_,own,query,_,back)=>
  line.1.length≤N∧(ring.length≤N∧∀ s ∈ ring,s.length≤N)∧(undo.length≤N∧∀ s ∈ undo,s.1.length≤N)∧own.1.length≤N∧query.length≤N∧back.1.length≤N
theorem aLp (c hi:Int):decide (hi<c)=!decide (c≤hi):=by
 by_cases h:hi<c
 ·
  rw [decide_eq_true h,decide_eq_false (by omega)];rfl
 ·
  rw [decide_eq_false h,decide_eq_true (by omega)];rfl
section
variable (vi:Bool) (mode:Int) (line:List Int×Int) (count op opc wait fr fh last:Int) (ring:List (List Int)) (undo:List (List Int×Int)) (nav:Int) (own:List Int×Int) (query:List Int) (hit:Int) (back:List Int×Int)
theorem aI0 (hq:query.length≤100000000) (j:Unit→Option Bool):∀ (m:Nat) (k:Int),0≤k→k≤(query.length:Int)→(query.length:Int) - k<m→bI (mU (vi,mode,line,count,op,opc,wait,fr,fh,last,ring,undo,nav,own,query,hit,back) j) m k=if (query.drop k.toNat).all pr then j () else some false:=by
 intro m
 induction m with
 | zero=>intro k _ _ h;omega
 | succ m ih=>
  intro k hk hk' hm
  simp only [bI,mU,aI,Bool.cond_decide,oI,aH]
  by_cases h1:k<(query.length:Int)
  ·
   rw [if_pos h1,if_pos ⟨hk,h1⟩,bR (by omega) (by omega),fU hk h1]
   by_cases h2:pr (at' query k)=true
   ·
    rw [ih (k+1) (by omega) (by omega) (by omega)]
    simp [h2]
   ·
    simp [h2]
  ·
   rw [if_neg h1,List.drop_eq_nil_of_le (by omega)]
   simp
theorem aIz (hs:wM 100000000 (vi,mode,line,count,op,opc,wait,fr,fh,last,ring,undo,nav,own,query,hit,back)):lR (vi,mode,line,count,op,opc,wait,fr,fh,last,ring,undo,nav,own,query,hit,back)=some (cX (vi,mode,line,count,op,opc,wait,fr,fh,last,ring,undo,nav,own,query,hit,back)):=by
 obtain ⟨h1,⟨h2,h3⟩,⟨h4,h5⟩,h6,h7,h8⟩:=hs
 unfold lR cX
 simp only [jD line h1,jD own h6,jD back h8,aLb,uC ring h2 h3,xB undo h4 h5,oI,aJ8,dN,aY,yH,aLp]
 rw [aI0 vi mode line count op opc wait fr fh last ring undo nav own query hit back h7 _ bO 0 (by omega) (by omega) (by rw [bW];omega)]
 simp only [aH,Int.toNat_zero,List.drop_zero]
 have hF:(bif (bif (decide (fr=0)) then (!(decide (fh=0))) else false) then true else (bif (!(decide (fr=0))) then (bif (!(if (!decide (fr=0))=true∧(bif decide (fr=0) then !decide (fh=0) else false)=false then pr fr else false)) then true else (!(if (!if (!decide (fr=0))=true∧(bif decide (fr=0) then !decide (fh=0) else false)=false then pr fr else false)=false∧(!decide (fr=0))=true∧(bif decide (fr=0) then !decide (fh=0) else false)=false then decide (0≤fh∧fh≤3) else false))) else false))=!(aAq fr fh):=by
  unfold aAq
  by_cases a:fr=0
  ·
   by_cases b:fh=0 <;> simp [a,b]
  ·
   by_cases b:0≤fh∧fh≤3
   ·
    cases pr fr <;> simp [a,b]
   ·
    cases pr fr <;> simp [a,b]
 rw [hF]
 have hS:(bif (decide (mode=3)) then true else (bif (bif (decide ((query.length:Int)=0)) then (decide (hit=0)) else false) then (if (bif (decide ((query.length:Int)=0)) then (decide (hit=0)) else false)=true∧(decide (mode=3))=false then nX back else false) else false))=sF mode query hit back:=by
  unfold sF
  by_cases a:mode=3 <;> by_cases b:(query.length:Int)=0 <;> by_cases c:hit=0 <;> cases nX back <;> simp [a,b,c]
 have hS':nX (back.1,back.2)=nX back:=rfl
 rw [hS',hS]
 generalize bL line=A1
 generalize bL own=A2
 generalize bL back=A3
 generalize rH vi mode line op opc wait=M
 generalize sF mode query hit back=S
 generalize decide (0≤count∧count≤999)=C
 generalize decide (0≤opc∧opc≤999)=OC
 generalize decide (0≤last∧last≤3)=L
 generalize dA ring=R
 generalize gP undo=U
 generalize aAq fr fh=F
 generalize decide (0≤nav∧nav≤1000000060)=N
 generalize decide (0≤hit∧hit≤1000000060)=H
 generalize decide (nav=0)=N0
 generalize nX own=EO
 generalize decide ((query.length:Int)≤40)=Q
 generalize query.all pr=P
 cases A1
 ·
  simp
 cases A2
 ·
  simp
 cases A3
 ·
  simp
 cases C
 ·
  simp
 cases OC
 ·
  simp
 cases M
 ·
  simp
 cases F
 ·
  simp
 cases L
 ·
  simp
 cases R
 ·
  simp
 cases U
 ·
  simp
 cases N
 ·
  simp
 cases H
 ·
  simp
 cases N0 <;> cases EO <;> cases Q <;> cases P <;> cases S <;> rfl
end
def jZ (mode:Int) (l:List Int×Int):Int:=if mode=2∧l.2=(l.1.length:Int)∧0<l.2 then l.2 - 1 else l.2
def zEd:EdT:=(false,0,([],0),0,0,0,0,0,0,0,[],[],0,([],0),[],0,([],0))
theorem rL (l:List Int×Int) (mode:Int) (wl:l.2≤9223372036854775807):fL l mode=some (l.1,jZ mode l):=by
 unfold fL jZ
 simp only [aY,aGf,dN]
 unfold yP
 by_cases a:mode=2
 ·
  by_cases b:l.2=(l.1.length:Int)
  ·
   by_cases c:0<l.2
   ·
    have c':0<(l.1.length:Int):=by omega
    rw [bR (x:=l.2 - 1) (by omega) (by omega),if_pos (show mode=2∧l.2=(l.1.length:Int)∧0<l.2 from ⟨a,b,c⟩),decide_eq_true a,decide_eq_true b,decide_eq_true c']
    rfl
   ·
    have c':¬ 0<(l.1.length:Int):=by omega
    rw [if_neg (show ¬ (mode=2∧l.2=(l.1.length:Int)∧0<l.2) from fun h=>c h.2.2),decide_eq_true a,decide_eq_false c']
    rfl
  ·
   rw [if_neg (show ¬ (mode=2∧l.2=(l.1.length:Int)∧0<l.2) from fun h=>b h.2.1),decide_eq_true a,decide_eq_false b]
   simp
 ·
  rw [if_neg (show ¬ (mode=2∧l.2=(l.1.length:Int)∧0<l.2) from fun h=>a h.1),decide_eq_false a]
  rfl
theorem aIl (a b c:List Int) (h:a.length+b.length+c.length≤536870912):kO a b c=some (a ++ b ++ c):=by
 unfold kO aI
 rw [if_pos (by simp;omega),if_pos (by simp;omega),if_pos (by simp;omega)]
 simp
theorem aJ3 (t:List Int) (h:t.length≤100000000):fB t=some (cC t):=by
 unfold fB cC
 rw [yR t h,dN]
 by_cases c:t.length≤400
 ·
  have c':(t.length:Int)≤400:=by omega
  simp [c,c']
 ·
  have c':¬ (t.length:Int)≤400:=by omega
  simp [c,c']
def cZ (r:List (List Int)) (t:List Int) (how:Int):List (List Int):=
 if t.length=0 then r
 else if how=0∨r.length=0∨400<(at' r 0).length+t.length then ([t] ++ r).take 6
 else r.set 0 (if how=1 then at' r 0 ++ t else t ++ at' r 0)
theorem fK {t:List Int} (h:cC t=true):t.length≤400:=by
 unfold cC at h
 simp only [Bool.and_eq_true,decide_eq_true_eq] at h
 exact h.2
theorem eX {r:List (List Int)} (h:dA r=true):r.length≤6∧∀ s ∈ r,cC s=true∧0<s.length:=by
 unfold dA at h
 simp only [Bool.and_eq_true,decide_eq_true_eq,List.all_eq_true] at h
 refine ⟨h.2,fun s hs=>?_⟩
 have:=h.1 s hs
 unfold iQ at this
 simp only [Bool.and_eq_true,Bool.not_eq_true',decide_eq_false_iff_not] at this
 exact ⟨this.1,by omega⟩
theorem vJ {r:List (List Int)} (h1:r.length≤6) (h2:∀ s ∈ r,cC s=true∧0<s.length):dA r=true:=by
 unfold dA
 simp only [Bool.and_eq_true,decide_eq_true_eq,List.all_eq_true]
 refine ⟨fun s hs=>?_,h1⟩
 obtain ⟨a,b⟩:=h2 s hs
 unfold iQ
 simp only [Bool.and_eq_true,Bool.not_eq_true',decide_eq_false_iff_not]
 exact ⟨a,by omega⟩
theorem tQ {a b:List Int} (ha:cC a=true) (hb:cC b=true) (hl:a.length+b.length≤400):cC (a ++ b)=true:=by
 unfold cC at *
 simp only [Bool.and_eq_true,decide_eq_true_eq,List.all_append,List.length_append] at *
 exact ⟨⟨ha.1,hb.1⟩,hl⟩
theorem qX {r:List (List Int)} {t:List Int} {how:Int} (hr:dA r=true) (ht:cC t=true):dA (cZ r t how)=true:=by
 obtain ⟨h1,h2⟩:=eX hr
 unfold cZ
 split
 ·
  exact hr
 ·
  rename_i h0
  split
  ·
   refine vJ (by simp;omega) fun s hs=>?_
   have:=List.mem_of_mem_take hs
   simp only [List.singleton_append,List.mem_cons] at this
   rcases this with rfl | hm
   ·
    exact ⟨ht,by omega⟩
   ·
    exact h2 s hm
  ·
   rename_i h3
   simp only [not_or] at h3
   have hm:at' r 0 ∈ r:=List.mem_of_getElem? (bD (xs:=r) (i:=0) ⟨by omega,by omega⟩)
   obtain ⟨k1,k2⟩:=h2 _ hm
   refine vJ (by simp;omega) fun s hs=>?_
   rcases List.mem_or_eq_of_mem_set hs with hs | rfl
   ·
    exact h2 s hs
   ·
    split
    ·
     exact ⟨tQ k1 ht (by omega),by simp;omega⟩
    ·
     exact ⟨tQ ht k1 (by omega),by simp;omega⟩
theorem aA3 (x:List (List Int)) (hx:(x.length:Int)≤1000) (j:List (List Int)→Option (List (List Int)×Bool)) :
  (bif decide (6<(x.length:Int)) then (aI (0≤(0:Int)∧(0:Int)≤(6:Int)∧(6:Int)≤(x.length:Int)) <| j (bC x 0 (6:Int))) else j x)=j (x.take 6):=by
 by_cases h:6<(x.length:Int)
 ·
  rw [decide_eq_true h,cond_true,aI,if_pos (by omega)]
  simp [bC]
 ·
  rw [decide_eq_false h,cond_false,List.take_of_length_le (by omega)]
theorem aGy (r:List (List Int)) (t:List Int) (how:Int) (hr:dA r=true) (ht:cC t=true) (hh:0≤how∧how≤2):mP r t how=some (cZ r t how,true):=by
 obtain ⟨r1,r2⟩:=eX hr
 have r3:∀ s ∈ r,s.length≤400:=fun s hs=>fK (r2 s hs).1
 have tl:=fK ht
 have c1:¬ how<0:=by omega
 have c2:¬ 2<how:=by omega
 unfold mP cZ
 rw [aM (aH2 r (by omega) (fun s hs=>by have:=r3 s hs;omega)),aJ3 t (by omega),dN,hr,ht,aFn r (by omega) (fun s hs=>by have:=r3 s hs;omega)]
 simp only [c1,c2,decide_false,Bool.not_true,cond_false,if_true,aH]
 by_cases h0:t.length=0
 ·
  have h0':(t.length:Int)=0:=by omega
  simp [h0]
 ·
  have h0':¬ (t.length:Int)=0:=by omega
  rw [if_neg h0,decide_eq_false h0',cond_false]
  have hat:0<r.length→(at' r 0).length≤400:=fun hp=>r3 _ (List.mem_of_getElem? (bD (xs:=r) (i:=0) ⟨by omega,by omega⟩))
  simp only [aI]
  rw [if_pos (fun h=>by
   by_cases hp:0<(r.length:Int)
   ·
    exact ⟨by omega,hp⟩
   ·
    rw [decide_eq_false hp] at h;simp at h)]
  by_cases hp:0<r.length
  ·
   have hp':0<(r.length:Int):=by omega
   have:=hat hp
   rw [decide_eq_true hp',bR (by omega) (by omega)]
   by_cases hz:how=0
   ·
    rw [if_pos (Or.inl hz)]
    have e0:(!decide (how=0))=false:=by simp [hz]
    simp only [e0,cond_false,aY,List.nil_append]
    rw [if_pos (by simp;omega),if_pos (by simp;omega)]
    have:=aA3 ([t] ++ r) (by simp;omega) (fun x=>some (x,true))
    simp only [aI] at this
    exact this
   ·
    have e0:(!decide (how=0))=true:=by simp [hz]
    by_cases h4:400<(at' r 0).length+t.length
    ·
     rw [if_pos (Or.inr (Or.inr h4))]
     have e1:¬ (((at' r 0).length:Int)+(t.length:Int)≤400):=by omega
     simp only [e0,e1,decide_false,cond_false,cond_true,aY,List.nil_append]
     rw [if_pos (by simp;omega),if_pos (by simp;omega)]
     have:=aA3 ([t] ++ r) (by simp;omega) (fun x=>some (x,true))
     simp only [aI] at this
     exact this
    ·
     rw [if_neg (show ¬ (how=0∨r.length=0∨400<(at' r 0).length+t.length) by omega)]
     have e1:(((at' r 0).length:Int)+(t.length:Int)≤400):=by omega
     have g:(0≤(0:Int)∧0<(r.length:Int)):=⟨by omega,hp'⟩
     have j1:=aIl (at' r 0) t [] (by simp;omega)
     have j2:=aIl t (at' r 0) [] (by simp;omega)
     simp only [List.append_nil] at j1 j2
     simp only [e0,e1,decide_true,cond_true,aY,if_pos g,j1,j2]
     by_cases h2:how=2
     ·
      have:¬ how=1:=by omega
      simp [h2]
     ·
      have:how=1:=by omega
      simp [this]
  ·
   have hp':¬ 0<(r.length:Int):=by omega
   have hz:r.length=0:=by omega
   rw [decide_eq_false hp',if_pos (Or.inr (Or.inl hz))]
   have e0:(bif (!decide (how=0)) then false else false)=false:=by cases (!decide (how=0)) <;> rfl
   simp only [e0,cond_false,aY,List.nil_append]
   rw [if_pos (by simp;omega),if_pos (by simp;omega)]
   have:=aA3 ([t] ++ r) (by simp;omega) (fun x=>some (x,true))
   simp only [aI] at this
   exact this
theorem aAb (r:List (List Int)) (t:List Int) (how:Int) (hr:dA r=true) (ht:cC t=true) (hh:0≤how∧how≤2):mT r t how=some (cZ r t how,true):=by
 obtain ⟨r1,r2⟩:=eX hr
 have r3:∀ s ∈ r,s.length≤400:=fun s hs=>fK (r2 s hs).1
 have tl:=fK ht
 unfold mT cZ
 rw [aM (uC r (by omega) (fun s hs=>by have:=r3 s hs;omega)),yH,dN,yQ t (by omega),dN,hr,ht,tN r (by omega) (fun s hs=>by have:=r3 s hs;omega),decide_eq_true hh]
 simp only [Bool.not_true,cond_false,if_true,aH,aY,gZ t (by omega)]
 by_cases h0:t.length=0
 ·
  have h0':(t.length:Int)=0:=by omega
  simp [h0]
 ·
  have h0':¬ (t.length:Int)=0:=by omega
  rw [if_neg h0,decide_eq_false h0',cond_false]
  have hat:0<r.length→(at' r 0).length≤400:=fun hp=>r3 _ (List.mem_of_getElem? (bD (xs:=r) (i:=0) ⟨by omega,by omega⟩))
  simp only [aI]
  rw [if_pos (fun h=>by
   by_cases hp:(r.length:Int)=0
   ·
    rw [decide_eq_true hp] at h;simp at h
   ·
    exact ⟨by omega,by omega⟩)]
  have T:(if [t].length+r.length≤536870912 then if 0≤(0:Int)∧(0:Int)≤min (([t] ++ r).length:Int) 6∧min (([t] ++ r).length:Int) 6≤(([t] ++ r).length:Int) then some (bC ([t] ++ r) 0 (min (([t] ++ r).length:Int) 6),true) else none else none)=some (([t] ++ r).take 6,true):=by
   rw [if_pos (by simp;omega),if_pos (by omega)]
   congr 2
   unfold bC
   simp only [Int.toNat_zero,List.drop_zero,Int.sub_zero]
   by_cases h:([t] ++ r).length≤6
   ·
    have e:(min (([t] ++ r).length:Int) 6).toNat=([t] ++ r).length:=by omega
    rw [Nat.sub_zero,e,List.take_length,List.take_of_length_le h]
   ·
    have e:(min (([t] ++ r).length:Int) 6).toNat=6:=by omega
    rw [Nat.sub_zero,e]
  by_cases hp:0<r.length
  ·
   have hp':¬ (r.length:Int)=0:=by omega
   have:=hat hp
   rw [decide_eq_false hp',bR (by omega) (by omega)]
   by_cases hz:how=0
   ·
    rw [if_pos (Or.inl hz)]
    simp only [hz,decide_true,cond_true]
    exact T
   ·
    by_cases h4:400<(at' r 0).length+t.length
    ·
     rw [if_pos (Or.inr (Or.inr h4))]
     have e1:400<((at' r 0).length:Int)+(t.length:Int):=by omega
     simp only [hz,e1,decide_false,decide_true,cond_false,cond_true]
     exact T
    ·
     rw [if_neg (show ¬ (how=0∨r.length=0∨400<(at' r 0).length+t.length) by omega)]
     have e1:¬ 400<((at' r 0).length:Int)+(t.length:Int):=by omega
     have g:(0≤(0:Int)∧0<(r.length:Int)):=⟨by omega,by omega⟩
     simp only [hz,e1,decide_false,cond_false,if_pos g]
     by_cases h2:how=1
     ·
      simp only [h2,decide_true,cond_true,if_true]
      rw [if_pos (by omega)];rfl
     ·
      simp only [h2,decide_false,cond_false,if_false]
      rw [if_pos (by omega)];rfl
  ·
   have hp':(r.length:Int)=0:=by omega
   have hz:r.length=0:=by omega
   rw [decide_eq_true hp',if_pos (Or.inr (Or.inl hz))]
   have e0:(bif bif decide (how=0) then true else true then true else decide (400<W (((at' r 0).length:Int)+(t.length:Int))))=true:=by cases decide (how=0) <;> rfl
   rw [e0,cond_true]
   exact T
theorem bN {l:List Int×Int} (h:bL l=true):0≤l.2∧l.2≤(l.1.length:Int)∧l.1.length≤400:=by
 unfold bL cC at h
 simp only [Bool.and_eq_true,decide_eq_true_eq] at h
 exact ⟨h.2.1,h.2.2,h.1.2⟩
def goL (l:List Int×Int) (at_:Int):List Int×Int:=(l.1,max 0 (min at_ (l.1.length:Int)))
theorem yJ (l:List Int×Int) (a:Int) (hl:l.1.length≤1048576):eS l a=some (goL l a):=by
 unfold eS goL
 rw [aM (gZ l.1 (by omega))]
theorem lZ {l:List Int×Int} (h:bL l=true):cC l.1=true:=by
 unfold bL at h
 simp only [Bool.and_eq_true] at h
 exact h.1
theorem kK {t:List Int} {a:Int} (h:cC t=true) (h0:0≤a) (h1:a≤(t.length:Int)):bL (t,a)=true:=by
 unfold bL
 simp only [h,Bool.true_and,decide_eq_true_eq]
 exact ⟨h0,h1⟩
theorem aBx {l:List Int×Int} (h:bL l=true) (a:Int):bL (goL l a)=true:=kK (lZ h) (by omega) (by omega)
theorem aDh (l:List Int×Int) (a b:Int) (hl:l.1.length≤100000000):mA l a b=some (bL l && decide (0≤a∧a≤b∧b≤(l.1.length:Int))):=by
 unfold mA
 rw [aM (jD l hl)]
 congr 1
 by_cases h1:0≤a <;> by_cases h2:a≤b <;> by_cases h3:b≤(l.1.length:Int) <;> cases bL l <;> simp [h1,h2,h3]
def sQ (l:List Int×Int) (a b:Int):List Int×Int:=
  (bC l.1 0 a ++ bC l.1 b (l.1.length:Int),if b≤l.2 then l.2 - (b - a) else if a<l.2 then a else l.2)
def aKh (l:List Int×Int) (a b:Int):(List Int×Int)×List Int×Bool:=
  if bL l && decide (0≤a∧a≤b∧b≤(l.1.length:Int)) then (sQ l a b,bC l.1 a b,true) else (([],0),[],false)
theorem vR (l:List Int×Int) (a b:Int) (hl:l.1.length≤1048576):iJ l a b=some (aKh l a b):=by
 unfold iJ aKh
 rw [aM (aDh l a b (by omega))]
 by_cases h:bL l=true∧(0≤a∧a≤b∧b≤(l.1.length:Int))
 ·
  obtain ⟨h1,h2⟩:=h
  obtain ⟨p0,p1,p2⟩:=bN h1
  rw [h1,decide_eq_true h2]
  simp only [Bool.and_self,Bool.not_true,cond_false,if_true,aY,aI]
  have s1:(bC l.1 0 a).length≤400:=by have:=nC (xs:=l.1) (lo:=0) (hi:=a) (by omega);omega
  have s2:(bC l.1 b (l.1.length:Int)).length≤400:=by have:=nC (xs:=l.1) (lo:=b) (hi:=(l.1.length:Int)) (by omega);omega
  have s3:(bC l.1 a b).length≤400:=by have:=nC (xs:=l.1) (lo:=a) (hi:=b) (by omega);omega
  have g1:(0≤(0:Int)∧(0:Int)≤a∧a≤(l.1.length:Int)):=by omega
  have g2:(0≤b∧b≤(l.1.length:Int)∧(l.1.length:Int)≤(l.1.length:Int)):=by omega
  have g3:(bC l.1 0 a).length+(bC l.1 b (l.1.length:Int)).length≤536870912:=by omega
  simp only [if_pos g1,gZ (bC l.1 0 a) (by omega),gZ (bC l.1 a b) (by omega),aH,if_pos g2,if_pos g3,if_pos h2,Bool.cond_decide]
  have hW:b≤l.2→W (l.2 - W (b - a))=l.2 - (b - a):=fun hb=>by
   rw [bR (x:=b - a) (by omega) (by omega),bR (by omega) (by omega)]
  unfold sQ
  by_cases c1:b≤l.2
  ·
   rw [if_pos c1,if_pos c1,hW c1]
  ·
   rw [if_neg c1,if_neg c1]
   by_cases c2:a<l.2
   ·
    rw [if_pos c2,if_pos c2]
   ·
    rw [if_neg c2,if_neg c2]
 ·
  have:(bL l && decide (0≤a∧a≤b∧b≤(l.1.length:Int)))=false:=by
   cases hq:(bL l && decide (0≤a∧a≤b∧b≤(l.1.length:Int)))
   ·
    rfl
   ·
    simp only [Bool.and_eq_true,decide_eq_true_eq] at hq
    exact absurd hq h
  rw [this]
  simp
theorem aJv {α:Type} {xs:List α} {a b:Int} {x:α} (h:x ∈ bC xs a b):x ∈ xs:=List.mem_of_mem_drop (List.mem_of_mem_take h)
theorem qF {t:List Int} (h:cC t=true) (a b:Int):cC (bC t a b)=true:=by
 unfold cC at *
 simp only [Bool.and_eq_true,decide_eq_true_eq,List.all_eq_true] at *
 refine ⟨fun x hx=>h.1 x (aJv hx),?_⟩
 have:(bC t a b).length≤t.length:=by unfold bC;simp only [List.length_take,List.length_drop];omega
 omega
theorem aB5 {l:List Int×Int} {a b:Int} (h:bL l=true) (hr:0≤a∧a≤b∧b≤(l.1.length:Int)):bL (sQ l a b)=true∧((sQ l a b).1.length:Int)=l.1.length - (b - a):=by
 obtain ⟨p0,p1,p2⟩:=bN h
 have ha:=lZ h
 have s1:=nC (xs:=l.1) (lo:=0) (hi:=a) (by omega)
 have s2:=nC (xs:=l.1) (lo:=b) (hi:=(l.1.length:Int)) (by omega)
 have hlen:((bC l.1 0 a ++ bC l.1 b (l.1.length:Int)).length:Int)=l.1.length - (b - a):=by simp only [List.length_append];omega
 refine ⟨?_,hlen⟩
 unfold sQ
 refine kK (tQ (qF ha _ _) (qF ha _ _) (by omega)) ?_ ?_
 ·
  split
  ·
   omega
  ·
   split <;> omega
 ·
  rw [hlen]
  split
  ·
   omega
  ·
   split <;> omega
theorem aCq (a b:List Int) (hl:a.length=b.length) (ha:(a.length:Int)≤100000000):∀ (m:Nat) (k:Int),0≤k→k≤(a.length:Int)→(a.length:Int) - k<m→bI (gF a b fun _=>some true) m k=some (decide (a.drop k.toNat=b.drop k.toNat)):=by
 intro m
 induction m with
 | zero=>intro k _ _ h;omega
 | succ m ih=>
  intro k hk hk' hm
  simp only [bI,gF,aI,Bool.cond_decide]
  by_cases h1:k<(a.length:Int)
  ·
   have h2:k<(b.length:Int):=by omega
   rw [if_pos h1,if_pos ⟨hk,h1⟩,if_pos ⟨hk,h2⟩,fU hk h1,fU hk h2,bR (by omega) (by omega),ih (k+1) (by omega) (by omega) (by omega)]
   by_cases h3:at' a k=at' b k
   ·
    simp [h3]
   ·
    simp [h3]
  ·
   rw [if_neg h1,List.drop_eq_nil_of_le (by omega),List.drop_eq_nil_of_le (by omega)]
   simp
theorem aEn (a b:List Int) (ha:(a.length:Int)≤100000000):fY a b=some (decide (a=b)):=by
 unfold fY
 by_cases h:a.length=b.length
 ·
  have h':(a.length:Int)=(b.length:Int):=by omega
  rw [decide_eq_true h']
  simp only [Bool.not_true,cond_false,aY]
  rw [aCq a b h ha bO 0 (by omega) (by omega) (by rw [bW];omega)]
  simp
 ·
  have h':¬ (a.length:Int)=(b.length:Int):=by omega
  have h2:a≠b:=fun e=>h (by rw [e])
  rw [decide_eq_false h',decide_eq_false h2];rfl
def aH9 (u:List (List Int×Int)) (l:List Int×Int):List (List Int×Int):=
 if 0<u.length∧(at' u ((u.length:Int) - 1)).1=l.1 then u
 else if u.length=20 then (u ++ [l]).drop 1 else u ++ [l]
theorem aGn (u:List (List Int×Int)) (l:List Int×Int) (hu:gP u=true) (hl:bL l=true) (h1:(u.length:Int)≤1048576) (h2:∀ s ∈ u,(s.1.length:Int)≤1048576) (h3:(l.1.length:Int)≤1048576) :
  mR u l=some (aH9 u l,true):=by
 unfold mR aH9
 rw [aM (xB u (by omega) (fun s h=>by have:=h2 s h;omega)),jD l (by omega),dN,hu,hl]
 simp only [Bool.not_true,cond_false,if_true]
 rw [aM (tM u h1 h2),aM (fJ l h3),bR (by omega) (by omega)]
 have hg:(decide (0<(u.length:Int))=true→0≤(u.length:Int) - 1∧(u.length:Int) - 1<(u.length:Int)):=by
  intro h;have:=of_decide_eq_true h;omega
 have hu20:u.length≤20:=by
  unfold gP at hu
  simp only [Bool.and_eq_true,decide_eq_true_eq] at hu
  exact hu.2
 simp only [aI]
 rw [if_pos hg]
 have hlen:(at' u ((u.length:Int) - 1)).1.length≤100000000:=by
  by_cases h0:0<u.length
  ·
   have:=h2 _ (List.mem_of_getElem? (bD (xs:=u) (i:=(u.length:Int) - 1) ⟨by omega,by omega⟩))
   omega
  ·
   have:u=[]:=List.length_eq_zero_iff.1 (by omega)
   subst this;simp [at'];decide
 rw [aEn _ _ (by omega),dN,if_pos (show u.length+([l]:List (List Int×Int)).length≤536870912 by simp;omega)]
 have hd:decide (20<((u ++ [l]).length:Int))=decide (u.length=20):=by
  by_cases h20:u.length=20
  ·
   rw [decide_eq_true h20,decide_eq_true (by simp;omega)]
  ·
   rw [decide_eq_false h20,decide_eq_false (by simp;omega)]
 have gT:(0≤(1:Int)∧(1:Int)≤((u ++ [l]).length:Int)∧((u ++ [l]).length:Int)≤((u ++ [l]).length:Int)):=⟨by omega,by simp only [List.length_append,List.length_singleton];omega,by omega⟩
 simp only [if_pos gT,aY,aA4 (show (0:Int)≤1 by omega)]
 have e1:Int.toNat 1=1:=rfl
 rw [e1]
 by_cases h0:0<u.length
 ·
  have h0':0<(u.length:Int):=by omega
  by_cases hs:(at' u ((u.length:Int) - 1)).1=l.1
  ·
   rw [if_pos (show 0<u.length∧(at' u ((u.length:Int) - 1)).1=l.1 from ⟨h0,hs⟩)]
   simp only [h0',hs,decide_true,if_true,cond_true]
  ·
   rw [if_neg (show ¬ (0<u.length∧(at' u ((u.length:Int) - 1)).1=l.1) from fun h=>hs h.2)]
   simp only [h0',hs,decide_true,decide_false,if_true,cond_true,cond_false]
   by_cases h20:u.length=20
   ·
    have h20':(u.length:Int)=20:=by omega
    rw [if_pos h20]
    simp only [hd,h20,decide_true,cond_true]
   ·
    have h20':¬ (u.length:Int)=20:=by omega
    rw [if_neg h20]
    simp only [hd,h20,decide_false,cond_false]
 ·
  have h0':¬ 0<(u.length:Int):=by omega
  have h20:¬ u.length=20:=by omega
  have h20':¬ (u.length:Int)=20:=by omega
  rw [if_neg (show ¬ (0<u.length∧(at' u ((u.length:Int) - 1)).1=l.1) from fun h=>h0 h.1),if_neg h20]
  simp only [h0',hd,h20,decide_false,cond_false]
theorem nO {N M:Nat} (h:N≤M) {e:EdT} (hs:wM N e):wM M e:=by
 obtain ⟨vi,mode,line,count,op,opc,wait,fr,fh,last,ring,undo,nav,own,query,hit,back⟩:=e
 obtain ⟨h1,⟨h2,h3⟩,⟨h4,h5⟩,h6,h7,h8⟩:=hs
 exact ⟨by omega,⟨by omega,fun s hs=>by have:=h3 s hs;omega⟩,⟨by omega,fun s hs=>by have:=h5 s hs;omega⟩,by omega,by omega,by omega⟩
def aJx (line:List Int×Int) (l:List Int×Int) (undo:List (List Int×Int)) (last nl:Int):List (List Int×Int):=
  if line.1≠l.1∧¬ (nl=1∧last=1) then aH9 undo line else undo
def jB (nl:Int):EdT→EdT
  | (vi,mode,line,_,_,_,_,fr,fh,_,ring,undo,nav,own,query,hit,back)=>(vi,mode,line,0,0,0,0,fr,fh,nl,ring,undo,nav,own,query,hit,back)
def mL (l:List Int×Int) (nl:Int):EdT→EdT
  | (vi,mode,line,_,_,_,_,fr,fh,last,ring,undo,nav,own,query,hit,back)=>(vi,mode,(l.1,jZ mode l),0,0,0,0,fr,fh,nl,ring,aJx line l undo last nl,nav,own,query,hit,back)
def oX (r:List (List Int)):EdT→EdT
  | (vi,mode,line,count,op,opc,wait,fr,fh,last,_,undo,nav,own,query,hit,back)=>(vi,mode,line,count,op,opc,wait,fr,fh,last,r,undo,nav,own,query,hit,back)
section
variable {vi:Bool} {mode:Int} {line:List Int×Int} {count op opc wait fr fh last:Int} {ring:List (List Int)} {undo:List (List Int×Int)} {nav:Int} {own:List Int×Int} {query:List Int} {hit:Int} {back:List Int×Int}
theorem iT (h:cX (vi,mode,line,count,op,opc,wait,fr,fh,last,ring,undo,nav,own,query,hit,back)=true) :
  bL line=true∧bL own=true∧bL back=true∧(0≤count∧count≤999)∧(0≤opc∧opc≤999)∧rH vi mode line op opc wait=true∧aAq fr fh=true∧(0≤last∧last≤3)∧dA ring=true∧gP undo=true∧(0≤nav∧nav≤1000000060)∧(0≤hit∧hit≤1000000060)∧(!decide (nav=0) || nX own)=true∧(query.length:Int)≤40∧query.all pr=true∧sF mode query hit back=true:=by
 unfold cX at h
 simp only [Bool.and_eq_true,decide_eq_true_eq] at h
 obtain ⟨⟨⟨⟨⟨⟨⟨⟨⟨⟨⟨⟨⟨⟨⟨h1,h2⟩,h3⟩,h4⟩,h5⟩,h6⟩,h7⟩,h8⟩,h9⟩,h10⟩,h11⟩,h12⟩,h13⟩,h14⟩,h15⟩,h16⟩:=h
 exact ⟨h1,h2,h3,h4,h5,h6,h7,h8,h9,h10,h11,h12,h13,h14,h15,h16⟩
theorem uV (h:bL line=true∧bL own=true∧bL back=true∧(0≤count∧count≤999)∧(0≤opc∧opc≤999)∧rH vi mode line op opc wait=true∧aAq fr fh=true∧(0≤last∧last≤3)∧dA ring=true∧gP undo=true∧(0≤nav∧nav≤1000000060)∧(0≤hit∧hit≤1000000060)∧(!decide (nav=0) || nX own)=true∧(query.length:Int)≤40∧query.all pr=true∧sF mode query hit back=true) :
  cX (vi,mode,line,count,op,opc,wait,fr,fh,last,ring,undo,nav,own,query,hit,back)=true:=by
 obtain ⟨h1,h2,h3,h4,h5,h6,h7,h8,h9,h10,h11,h12,h13,h14,h15,h16⟩:=h
 unfold cX
 simp only [Bool.and_eq_true,decide_eq_true_eq]
 exact ⟨⟨⟨⟨⟨⟨⟨⟨⟨⟨⟨⟨⟨⟨⟨h1,h2⟩,h3⟩,h4⟩,h5⟩,h6⟩,h7⟩,h8⟩,h9⟩,h10⟩,h11⟩,h12⟩,h13⟩,h14⟩,h15⟩,h16⟩
theorem mJ {u:List (List Int×Int)} (h:gP u=true):u.length≤20∧∀ s ∈ u,bL s=true:=by
 unfold gP at h
 simp only [Bool.and_eq_true,decide_eq_true_eq,List.all_eq_true] at h
 exact ⟨h.2,h.1⟩
theorem xF (h:cX (vi,mode,line,count,op,opc,wait,fr,fh,last,ring,undo,nav,own,query,hit,back)=true):wM 400 (vi,mode,line,count,op,opc,wait,fr,fh,last,ring,undo,nav,own,query,hit,back):=by
 obtain ⟨h1,h2,h3,h4,h5,h6,h7,h8,h9,h10,h11,h12,h13,h14,h15,h16⟩:=iT h
 obtain ⟨r1,r2⟩:=eX h9
 obtain ⟨u1,u2⟩:=mJ h10
 exact ⟨(bN h1).2.2,⟨by omega,fun s hs=>fK (r2 s hs).1⟩,⟨by omega,fun s hs=>(bN (u2 s hs)).2.2⟩,(bN h2).2.2,by omega,(bN h3).2.2⟩
end
theorem aJ2 {u:List (List Int×Int)} {l:List Int×Int} (hu:gP u=true) (hl:bL l=true):gP (aH9 u l)=true:=by
 obtain ⟨u1,u2⟩:=mJ hu
 have hm:∀ s ∈ u ++ [l],bL s=true:=by
  intro s hs
  rcases List.mem_append.1 hs with hs | hs
  ·
   exact u2 s hs
  ·
   simp only [List.mem_singleton] at hs;subst hs;exact hl
 unfold aH9
 split
 ·
  exact hu
 ·
  split
  ·
   unfold gP
   simp only [Bool.and_eq_true,decide_eq_true_eq,List.all_eq_true]
   exact ⟨fun s hs=>hm s (List.mem_of_mem_drop hs),by simp;omega⟩
  ·
   unfold gP
   simp only [Bool.and_eq_true,decide_eq_true_eq,List.all_eq_true]
   exact ⟨hm,by simp;omega⟩
theorem aJw {line l:List Int×Int} {undo:List (List Int×Int)} {last nl:Int} (hu:gP undo=true) (hl:bL line=true):gP (aJx line l undo last nl)=true:=by
 unfold aJx
 split
 ·
  exact aJ2 hu hl
 ·
  exact hu
theorem uY {mode:Int} {l:List Int×Int} (h:bL l=true):0≤jZ mode l∧jZ mode l≤(l.1.length:Int):=by
 obtain ⟨a,b,_⟩:=bN h
 unfold jZ
 split <;> omega
theorem aKi {mode:Int} {l:List Int×Int} (h:bL l=true):bL (l.1,jZ mode l)=true:=kK (lZ h) (uY h).1 (uY h).2
section
variable (vi:Bool) (mode:Int) (line:List Int×Int) (count op opc wait fr fh last:Int) (ring:List (List Int)) (undo:List (List Int×Int)) (nav:Int) (own:List Int×Int) (query:List Int) (hit:Int) (back:List Int×Int)
  (hv:cX (vi,mode,line,count,op,opc,wait,fr,fh,last,ring,undo,nav,own,query,hit,back)=true)
include hv
theorem yC (l:List Int×Int) (hl:bL l=true):rH vi mode (l.1,jZ mode l) 0 0 0=true:=by
 obtain ⟨h1,h2,h3,h4,h5,h6,h7,h8,h9,h10,h11,h12,h13,h14,h15,h16⟩:=iT hv
 obtain ⟨p0,p1,p2⟩:=bN hl
 unfold rH at h6 ⊢
 simp only [Bool.and_eq_true,decide_eq_true_eq] at h6 ⊢
 obtain ⟨⟨⟨a1,a2,a3,a4,a5,a6,a7,a8⟩,_⟩,_⟩:=h6
 refine ⟨⟨⟨a1,a2,a3,a4,a5,fun hm=>?_,by simp,by simp⟩,by decide⟩,by decide⟩
 unfold yP jZ
 by_cases c:mode=2∧l.2=(l.1.length:Int)∧0<l.2
 ·
  rw [if_pos c]
  have:¬ (l.2 - 1=(l.1.length:Int)):=by omega
  simp [this]
 ·
  rw [if_neg c]
  by_cases e:l.2=(l.1.length:Int)
  ·
   have:¬ 0<(l.1.length:Int):=by
    intro hp;exact c ⟨hm,e,by omega⟩
   rw [decide_eq_false this];rfl
  ·
   rw [decide_eq_false e];simp
theorem aHk:jZ mode line=line.2:=by
 obtain ⟨h1,h2,h3,h4,h5,h6,h7,h8,h9,h10,h11,h12,h13,h14,h15,h16⟩:=iT hv
 obtain ⟨p0,p1,p2⟩:=bN h1
 unfold rH at h6
 simp only [Bool.and_eq_true,decide_eq_true_eq] at h6
 obtain ⟨⟨⟨a1,a2,a3,a4,a5,a6,a7,a8⟩,_⟩,_⟩:=h6
 unfold jZ
 split
 ·
  rename_i c
  have:=a6 c.1
  unfold yP at this
  have e1:0<(line.1.length:Int):=by omega
  rw [decide_eq_true e1,decide_eq_true c.2.1] at this
  cases this
 ·
  rfl
theorem aCp (nl:Int) (hn:0≤nl∧nl≤3):cX (jB nl (vi,mode,line,count,op,opc,wait,fr,fh,last,ring,undo,nav,own,query,hit,back))=true:=by
 obtain ⟨h1,h2,h3,h4,h5,h6,h7,h8,h9,h10,h11,h12,h13,h14,h15,h16⟩:=iT hv
 have:=yC vi mode line count op opc wait fr fh last ring undo nav own query hit back hv line h1
 rw [aHk vi mode line count op opc wait fr fh last ring undo nav own query hit back hv] at this
 exact uV ⟨h1,h2,h3,by omega,by omega,this,h7,hn,h9,h10,h11,h12,h13,h14,h15,h16⟩
theorem aJy (l:List Int×Int) (hl:bL l=true) (nl:Int) (hn:0≤nl∧nl≤3):cX (mL l nl (vi,mode,line,count,op,opc,wait,fr,fh,last,ring,undo,nav,own,query,hit,back))=true:=by
 obtain ⟨h1,h2,h3,h4,h5,h6,h7,h8,h9,h10,h11,h12,h13,h14,h15,h16⟩:=iT hv
 exact uV ⟨aKi hl,h2,h3,by omega,by omega,yC vi mode line count op opc wait fr fh last ring undo nav own query hit back hv l hl,h7,hn,h9,aJw h10 h1,h11,h12,h13,h14,h15,h16⟩
theorem aH3 (r:List (List Int)) (hr:dA r=true):cX (oX r (vi,mode,line,count,op,opc,wait,fr,fh,last,ring,undo,nav,own,query,hit,back))=true:=by
 obtain ⟨h1,h2,h3,h4,h5,h6,h7,h8,h9,h10,h11,h12,h13,h14,h15,h16⟩:=iT hv
 exact uV ⟨h1,h2,h3,h4,h5,h6,h7,h8,hr,h10,h11,h12,h13,h14,h15,h16⟩
theorem aGa:eK (vi,mode,line,count,op,opc,wait,fr,fh,last,ring,undo,nav,own,query,hit,back)=some (vi,mode,line,count,op,opc,wait,fr,fh,last,ring,undo,nav,own,query,hit,back):=by
 obtain ⟨h1,⟨h2,h3⟩,⟨h4,h5⟩,h6,h7,h8⟩:=nO (M:=1048576) (by omega) (xF hv)
 exact aDy vi mode line count op opc wait fr fh last ring undo nav own query hit back h1 h2 h3 h4 h5 h6 h7 h8
theorem sD (nl:Int):dR (vi,mode,line,count,op,opc,wait,fr,fh,last,ring,undo,nav,own,query,hit,back) nl=some (jB nl (vi,mode,line,count,op,opc,wait,fr,fh,last,ring,undo,nav,own,query,hit,back)):=by
 unfold dR
 rw [aM (aGa vi mode line count op opc wait fr fh last ring undo nav own query hit back hv)]
 rfl
theorem aLk:dW (vi,mode,line,count,op,opc,wait,fr,fh,last,ring,undo,nav,own,query,hit,back)=some (jB 0 (vi,mode,line,count,op,opc,wait,fr,fh,last,ring,undo,nav,own,query,hit,back),1):=by
 unfold dW
 rw [aM (sD vi mode line count op opc wait fr fh last ring undo nav own query hit back hv 0)]
theorem aKq (l:List Int×Int) (hl:bL l=true) (nl:Int):nH (vi,mode,line,count,op,opc,wait,fr,fh,last,ring,undo,nav,own,query,hit,back) l nl=some (mL l nl (vi,mode,line,count,op,opc,wait,fr,fh,last,ring,undo,nav,own,query,hit,back)):=by
 obtain ⟨h1,h2,h3,h4,h5,h6,h7,h8,h9,h10,h11,h12,h13,h14,h15,h16⟩:=iT hv
 obtain ⟨p0,p1,p2⟩:=bN hl
 obtain ⟨q0,q1,q2⟩:=bN h1
 obtain ⟨u1,u2⟩:=mJ h10
 unfold nH
 rw [aM (sD vi mode line count op opc wait fr fh last ring undo nav own query hit back hv nl)]
 simp only [aH,aY,jB,mL]
 rw [aEn _ _ (by omega),fJ (l.1,l.2) (by simp only;omega)]
 rw [aGn undo line h10 h1 (by omega) (fun s h=>by have:=(bN (u2 s h)).2.2;omega) (by omega)]
 have hS:∀ (X Y:Option EdT),(bif (bif (!(decide (l.1=line.1))) then (!(bif (decide (nl=1)) then (decide (last=1)) else false)) else false) then X else Y)=if line.1≠l.1∧¬ (nl=1∧last=1) then X else Y:=by
  intro X Y
  by_cases a:line.1=l.1
  ·
   by_cases b:nl=1 <;> by_cases c:last=1 <;> simp [a,b,c]
  ·
   have a':¬ l.1=line.1:=fun h=>a h.symm
   by_cases b:nl=1 <;> by_cases c:last=1 <;> simp [a,a',b,c]
 have hc:=rL (l.1,l.2) mode (by simp only;omega)
 simp only [hS,hc]
 unfold aJx
 by_cases hq:line.1≠l.1∧¬ (nl=1∧last=1)
 ·
  simp only [if_pos hq]
 ·
  simp only [if_neg hq]
theorem aLn (l:List Int×Int) (hl:bL l=true):eT (vi,mode,line,count,op,opc,wait,fr,fh,last,ring,undo,nav,own,query,hit,back) l=some (mL l 0 (vi,mode,line,count,op,opc,wait,fr,fh,last,ring,undo,nav,own,query,hit,back),0):=by
 unfold eT
 rw [aM (aKq vi mode line count op opc wait fr fh last ring undo nav own query hit back hv l hl 0)]
end
def hOk (h:Int×List (List UInt8)):Bool:=decide (1≤h.1∧h.1≤1000000000∧(h.2.length:Int)≤60) && h.2.all fun s=>decide (1≤(s.length:Int)∧(s.length:Int)≤1000)
theorem aBb (h:Int×List (List UInt8)) (hl:(h.2.length:Int)≤1048576) (b:Bool):∀ (m:Nat) (k:Int),0≤k→k≤(h.2.length:Int)→(h.2.length:Int) - k<m→0<m →
  bI (jJ h fun _=>some b) m k=some (b && (h.2.drop k.toNat).all fun s=>decide (1≤(s.length:Int)∧(s.length:Int)≤1000)):=by
 intro m
 induction m with
 | zero=>intro k _ _ _ h';omega
 | succ m ih=>
  intro k hk hk' hm _
  simp only [bI,jJ,aI,Bool.cond_decide]
  by_cases h1:k<(h.2.length:Int)
  ·
   rw [if_pos h1,if_pos ⟨hk,h1⟩,bR (by omega) (by omega),fU hk h1,ih _ (by omega) (by omega) (by omega) (by omega),List.all_cons]
   by_cases c1:((at' h.2 k).length:Int)<1
   ·
    have:¬ (1≤((at' h.2 k).length:Int)∧((at' h.2 k).length:Int)≤1000):=by omega
    rw [decide_eq_false this]
    simp [c1]
   ·
    by_cases c2:1000<((at' h.2 k).length:Int)
    ·
     have:¬ (1≤((at' h.2 k).length:Int)∧((at' h.2 k).length:Int)≤1000):=by omega
     rw [decide_eq_false this]
     simp [c1,c2]
    ·
     have:(1≤((at' h.2 k).length:Int)∧((at' h.2 k).length:Int)≤1000):=by omega
     rw [decide_eq_true this]
     simp [c1,c2]
  ·
   rw [if_neg h1,List.drop_eq_nil_of_le (by omega)]
   simp
theorem xH (h:Int×List (List UInt8)) (hl:(h.2.length:Int)≤1048576):fW h=some (hOk h):=by
 unfold fW
 simp only [aY]
 rw [aBb h hl _ bO 0 (by omega) (by omega) (by rw [bW];omega) (by rw [bW];omega)]
 unfold hOk
 simp only [Int.toNat_zero,List.drop_zero]
 congr 2
 by_cases c1:1≤h.1 <;> by_cases c2:h.1≤1000000000 <;> by_cases c3:(h.2.length:Int)≤60 <;> simp [c1,c2,c3]
theorem aBw (h:Int×List (List UInt8)) (hl:(h.2.length:Int)≤1048576):∀ (m:Nat) (k:Int),0≤k→k≤(h.2.length:Int)→(h.2.length:Int) - k<m→0<m →
  bI (jQ h fun _=>some true) m k=some ((h.2.drop k.toNat).all fun s=>decide (1≤(s.length:Int)∧(s.length:Int)≤1000)):=by
 intro m
 induction m with
 | zero=>intro k _ _ _ h';omega
 | succ m ih=>
  intro k hk hk' hm _
  simp only [bI,jQ,aI,Bool.cond_decide,cN,aH]
  by_cases h1:k<(h.2.length:Int)
  ·
   rw [if_pos h1,if_pos ⟨hk,h1⟩,bR (by omega) (by omega),fU hk h1,ih _ (by omega) (by omega) (by omega) (by omega),List.all_cons]
   by_cases c1:1≤((at' h.2 k).length:Int) <;> by_cases c2:((at' h.2 k).length:Int)≤1000 <;> simp only [c1,c2,and_self,and_true,and_false,false_and,true_and,decide_true,decide_false,if_true,if_false,Bool.not_true,Bool.not_false,cond_true,cond_false,Bool.true_and,Bool.false_and]
  ·
   rw [if_neg h1,List.drop_eq_nil_of_le (by omega)]
   simp
theorem qB (h:Int×List (List UInt8)) (hl:(h.2.length:Int)≤1048576):iL h=some (hOk h):=by
 unfold iL cN
 simp only [aY,aH,Bool.cond_decide]
 rw [aBw h hl bO 0 (by omega) (by omega) (by rw [bW];omega) (by rw [bW];omega)]
 unfold hOk
 simp only [Int.toNat_zero,List.drop_zero]
 by_cases c1:1≤h.1 <;> by_cases c2:h.1≤1000000000 <;> by_cases c3:(h.2.length:Int)≤60
 all_goals first
  | (have c4:¬ (60<(h.2.length:Int)):=by omega);simp [c1,c2,c3,c4]
  | (have c4:60<(h.2.length:Int):=by omega);simp [c1,c2,c3,c4]
theorem yI {h:Int×List (List UInt8)} (hh:hOk h=true):1≤h.1∧h.1≤1000000000∧(h.2.length:Int)≤60∧∀ s ∈ h.2,1≤(s.length:Int)∧(s.length:Int)≤1000:=by
 unfold hOk at hh
 simp only [Bool.and_eq_true,decide_eq_true_eq,List.all_eq_true] at hh
 exact ⟨hh.1.1,hh.1.2.1,hh.1.2.2,hh.2⟩
def gW (h:Int×List (List UInt8)):Int:=if hOk h=true∧0<h.2.length then h.1+h.2.length - 1 else 0
def zS (h:Int×List (List UInt8)) (n:Int):List UInt8×Bool:=if hOk h=true∧h.1≤n∧n<h.1+h.2.length then (at' h.2 (n - h.1),true) else ([],false)
theorem aFi (h:Int×List (List UInt8)) (hl:(h.2.length:Int)≤1048576):lP h=some (gW h):=by
 unfold lP
 rw [aM (qB h hl)]
 unfold gW
 cases hh:hOk h with
 | false=>simp
 | true=>
  obtain ⟨h1,h2,h3,_⟩:=yI hh
  simp only [Bool.cond_decide,Bool.not_true,cond_false]
  rw [bR (x:=h.1+(h.2.length:Int)) (by omega) (by omega),bR (by omega) (by omega)]
  by_cases h0:(h.2.length:Int)=0
  ·
   have:¬ (0<h.2.length):=by omega
   simp [h0,this]
  ·
   have:0<h.2.length:=by omega
   simp only [h0,this,if_false,and_self,if_true]
theorem aAo (h:Int×List (List UInt8)) (hl:(h.2.length:Int)≤1048576) (n:Int) (hn:-9223372036854775808≤n∧n≤9223372036854775807):iM h n=some (zS h n):=by
 unfold iM
 rw [aM (qB h hl)]
 unfold zS
 cases hh:hOk h with
 | false=>simp [bU,aH]
 | true=>
  obtain ⟨h1,h2,h3,_⟩:=yI hh
  simp only [Bool.cond_decide,Bool.not_true,cond_false,bU,if_true,cN,aH,aI,true_and]
  rw [bR (x:=h.1+(h.2.length:Int)) (by omega) (by omega),bR (x:=h.1+(h.2.length:Int) - 1) (by omega) (by omega)]
  by_cases c1:h.1≤n
  ·
   rw [bR (x:=n - h.1) (by omega) (by omega)]
   by_cases c2:n<h.1+h.2.length
   ·
    have d3:n≤h.1+(h.2.length:Int) - 1:=by omega
    have d4:0≤n - h.1∧n - h.1<(h.2.length:Int):=by omega
    simp [c1,c2,d3,d4]
   ·
    have d3:¬ (n≤h.1+(h.2.length:Int) - 1):=by omega
    simp [c1,c2,d3]
  ·
   simp [c1]
def wW (r:Int):List Int:=
 if ¬ (0≤r∧r≤1114111∧(r<55296∨57343<r)) then [] else
 if r<128 then [r] else if r<2048 then [192+r / 64,128+r % 64]
 else if r<65536 then [224+r / 4096,128+r / 64 % 64,128+r % 64]
 else [240+r / 262144,128+r / 4096 % 64,128+r / 64 % 64,128+r % 64]
def enc (r:Int):List UInt8:=(wW r).map u8
theorem td {a b:Int} (h:0≤a):Int.tdiv a b=a / b:=Int.tdiv_eq_ediv_of_nonneg h
theorem tm {a b:Int} (h:0≤a):Int.tmod a b=a % b:=Int.tmod_eq_emod_of_nonneg h
theorem aHt {x:Int} (h:0≤x) (h2:x<256):((u8 x).toNat:Int)=x:=by
  simp [u8];omega
theorem aJq (x:UInt8):u8 (x.toNat:Int)=x:=by
 have:x.toNat<256:=x.toNat_lt
 apply UInt8.toNat_inj.1
 have:=aHt (x:=(x.toNat:Int)) (by omega) (by omega)
 omega
theorem aIh:∀ (l:List Int) (bs:List UInt8),(∀ x ∈ l,0≤x∧x<256)→(l.map u8=bs ↔ l=bs.map (fun b=>(b.toNat:Int)))
 | [],[],_=>by simp
 | [],b :: bs,_=>by simp
 | x :: l,[],_=>by simp
 | x :: l,b :: bs,h=>by
  have hx:=h x (by simp)
  have ih:=aIh l bs (fun y hy=>h y (by simp [hy]))
  simp only [List.map_cons,List.cons.injEq,ih]
  constructor
  ·
   rintro ⟨h1,h2⟩
   refine ⟨?_,h2⟩
   rw [← h1,aHt hx.1 hx.2]
  ·
   rintro ⟨h1,h2⟩
   refine ⟨?_,h2⟩
   rw [h1,aJq]
theorem aFm (r:Int):∀ x ∈ wW r,0≤x∧x<256:=by
 intro x
 unfold wW
 split
 ·
  simp
 ·
  split
  ·
   simp;omega
  ·
   split
   ·
    simp;omega
   ·
    split
    ·
     simp;omega
    ·
     simp;omega
theorem aB2 (r:Int) (bs:List UInt8):enc r=bs ↔ wW r=bs.map (fun b=>(b.toNat:Int)):=aIh _ _ (aFm r)
theorem aF8 (r:Int):(enc r).length≤4:=by
 unfold enc wW
 split
 ·
  simp
 ·
  split
  ·
   simp
  ·
   split
   ·
    simp
   ·
    split <;> simp
def r2 (x y:Int):Int:=(x - 192)*64+y - 128
def r3 (x y z:Int):Int:=((x - 224)*64+y - 128)*64+z - 128
def r4 (x y z v:Int):Int:=(((x - 240)*64+y - 128)*64+z - 128)*64+v - 128
def E2 (x y:Int):Prop:=194≤x∧x≤223∧128≤y∧y≤191
instance (x y:Int):Decidable (E2 x y):=by unfold E2;infer_instance
def E3 (x y z:Int):Prop:=(224≤x∧x≤239∧128≤y∧y≤191∧128≤z∧z≤191)∧2048≤r3 x y z∧(r3 x y z<55296∨57343<r3 x y z)
instance (x y z:Int):Decidable (E3 x y z):=by unfold E3;infer_instance
def E4 (x y z v:Int):Prop:=(240≤x∧x≤247∧128≤y∧y≤191∧128≤z∧z≤191∧128≤v∧v≤191)∧65536≤r4 x y z v∧r4 x y z v≤1114111
instance (x y z v:Int):Decidable (E4 x y z v):=by unfold E4;infer_instance
theorem aLs {x y:Int} (h:0≤x∧x<256∧0≤y∧y<256):wW (r2 x y)=[x,y] ↔ E2 x y:=by
 unfold E2
 generalize hr:r2 x y=r
 unfold r2 at hr
 unfold wW
 split
 ·
  simp;omega
 ·
  split
  ·
   simp;omega
  ·
   split
   ·
    simp only [List.cons.injEq,and_true];omega
   ·
    split <;> (simp;try omega)
theorem aLr {x y z:Int} (h:0≤x∧x<256∧0≤y∧y<256∧0≤z∧z<256):wW (r3 x y z)=[x,y,z] ↔ E3 x y z:=by
 unfold E3
 generalize hr:r3 x y z=r
 unfold r3 at hr
 unfold wW
 split
 ·
  simp;omega
 ·
  split
  ·
   simp;omega
  ·
   split
   ·
    simp;omega
   ·
    split
    ·
     simp only [List.cons.injEq,and_true];omega
    ·
     simp;omega
theorem aLq {x y z v:Int} (h:0≤x∧x<256∧0≤y∧y<256∧0≤z∧z<256∧0≤v∧v<256):wW (r4 x y z v)=[x,y,z,v] ↔ E4 x y z v:=by
 unfold E4
 generalize hr:r4 x y z v=r
 unfold r4 at hr
 unfold wW
 split
 ·
  simp;omega
 ·
  split
  ·
   simp;omega
  ·
   split
   ·
    simp;omega
   ·
    split
    ·
     simp;omega
    ·
     simp only [List.cons.injEq,and_true];omega
def bi (s:List UInt8) (i:Int):Int:=((at' s i).toNat:Int)
def rd (s:List UInt8):Int×Int:=
 if s.length<1 then (0,0) else
 if bi s 0<128 then (bi s 0,1) else
 if s.length<2 then (0,0) else
 if E2 (bi s 0) (bi s 1) then (r2 (bi s 0) (bi s 1),2) else
 if s.length<3 then (0,0) else
 if E3 (bi s 0) (bi s 1) (bi s 2) then (r3 (bi s 0) (bi s 1) (bi s 2),3) else
 if s.length<4 then (0,0) else
 if E4 (bi s 0) (bi s 1) (bi s 2) (bi s 3) then (r4 (bi s 0) (bi s 1) (bi s 2) (bi s 3),4) else (0,0)
theorem wY {α:Type} [Inhabited α] {b:List α} {a:Int} (h0:0≤a) (i:Int) (hi:0≤i):at' b (a+i)=at' (b.drop a.toNat) i:=by
 unfold at'
 have:(a+i).toNat=a.toNat+i.toNat:=by omega
 rw [this]
 simp [List.getD_eq_getElem?_getD,List.getElem?_drop]
theorem aJa {α:Type} [Inhabited α] {b:List α} {a:Int} (h0:0≤a):at' b a=at' (b.drop a.toNat) 0:=by
 have:=wY (b:=b) h0 0 (by omega)
 simpa using this
theorem xC {α:Type} {b:List α} {a n:Int} (h0:0≤a) (hn:0≤n):bC b a (a+n)=(b.drop a.toNat).take n.toNat:=by
 unfold bC
 congr 1
 omega
theorem lT (x:UInt8):0≤(x.toNat:Int)∧(x.toNat:Int)<256:=by
 have:x.toNat<256:=x.toNat_lt
 omega
section
variable {b:List UInt8} {a:Int} (h0:0≤a) (hl:(b.length:Int)≤100000000)
include h0 hl
def vl (b:List UInt8) (a n:Int):Int:=
 if n=1 then (at' b a).toNat
 else if n=2 then r2 (at' b a).toNat (at' b (a+1)).toNat
 else if n=3 then r3 (at' b a).toNat (at' b (a+1)).toNat (at' b (a+2)).toNat
 else r4 (at' b a).toNat (at' b (a+1)).toNat (at' b (a+2)).toNat (at' b (a+3)).toNat
end
theorem aHz (r:Int):iH r=some (decide (0≤r∧r≤1114111∧(r<55296∨57343<r))):=by
 unfold iH
 simp only [yH,aH,bU]
 by_cases h1:0≤r∧r≤1114111
 ·
  rw [decide_eq_true h1]
  simp only [cond_true,if_true]
  by_cases h2:r<55296
  ·
   have:¬ (55296≤r∧r≤57343):=by omega
   simp [h1,h2,this]
  ·
   by_cases h3:57343<r
   ·
    have:¬ (55296≤r∧r≤57343):=by omega
    simp [h1,h2,h3,this]
   ·
    have:(55296≤r∧r≤57343):=by omega
    simp [h1,h2,h3,this]
 ·
  have:¬ (0≤r∧r≤1114111∧(r<55296∨57343<r)):=fun h=>h1 ⟨h.1,h.2.1⟩
  rw [decide_eq_false h1,decide_eq_false this]
  simp
theorem wA (r:Int):fM r=some (enc r):=by
 unfold fM enc wW
 rw [aM (aHz r)]
 by_cases h:0≤r∧r≤1114111∧(r<55296∨57343<r)
 ·
  have h0:=h.1
  have h00:0≤r / 64:=by omega
  have h01:0≤r / 4096:=by omega
  simp only [h,decide_true,Bool.not_true,cond_false,not_true,if_false,Bool.cond_decide,td h0,tm h0]
  rw [bR (x:=r / 64) (by omega) (by omega),bR (x:=r / 4096) (by omega) (by omega),bR (x:=r / 262144) (by omega) (by omega),tm h00,tm h01]
  rw [bR (x:=192+r / 64) (by omega) (by omega),bR (x:=128+r % 64) (by omega) (by omega),bR (x:=224+r / 4096) (by omega) (by omega),bR (x:=128+r / 64 % 64) (by omega) (by omega),bR (x:=240+r / 262144) (by omega) (by omega),bR (x:=128+r / 4096 % 64) (by omega) (by omega)]
  split
  ·
   rfl
  ·
   split
   ·
    rfl
   ·
    split <;> rfl
 ·
  simp only [h,decide_false,Bool.not_false,cond_true,not_false_eq_true,if_true,List.map_nil]
section
variable {b:List UInt8} {a:Int} (h0:0≤a) (hl:(b.length:Int)≤100000000)
include h0 hl
theorem nD (n:Int) (hn:2≤n) (hn4:n≤4) (han:a+n≤(b.length:Int)) (j:Int→Option (Int×Int)) (m:Nat):∀ (r i:Int),0≤i→i≤n - 1→(-100000000≤r∧r≤100000000) →
  bI (dS b a n j) (m+1) (r,i)=if i<n - 1 then bI (dS b a n j) m (r*64+((at' b (a+1+i)).toNat:Int) - 128,i+1) else j r:=by
 intro r i hi hin hr
 have e1:W (a+1)=a+1:=bR (by omega) (by omega)
 have e2:W (a+n)=a+n:=bR (by omega) (by omega)
 have hsl:((bC b (a+1) (a+n)).length:Int)=n - 1:=by rw [nC (by omega)];omega
 simp only [bI,dS,aI,Bool.cond_decide,e1,e2,hsl]
 by_cases h:i<n - 1
 ·
  have ea:at' (bC b (a+1) (a+n)) i=at' b (a+1+i):=by
   unfold at' bC
   have q:(a+1+i).toNat=(a+1).toNat+i.toNat:=by omega
   rw [q]
   simp only [List.getD_eq_getElem?_getD,List.getElem?_take,List.getElem?_drop]
   rw [if_pos (by omega)]
  have hb:=lT (at' b (a+1+i))
  rw [if_pos h,if_pos h,if_pos ⟨hi,h⟩,ea]
  rw [bR (x:=r*64) (by omega) (by omega),bR (x:=r*64+_) (by omega) (by omega),bR (x:=r*64+_ - 128) (by omega) (by omega),bR (x:=i+1) (by omega) (by omega)]
 ·
  rw [if_neg h,if_neg h]
theorem aK2 (n v0:Int) (hn:2≤n) (hn4:n≤4) (han:a+n≤(b.length:Int)) (hv:v0=(at' b a).toNat - (if n=2 then 192 else if n=3 then 224 else 240)) (j:Int→Option (Int×Int)) :
  bI (dS b a n j) bO (v0,0)=j (vl b a n):=by
 obtain ⟨m,hm⟩:∃ m,bO=m+1+1+1+1:=⟨bO - 4,by rw [bW]⟩
 rw [hm]
 subst hv
 have b0:=lT (at' b a)
 have b1:=lT (at' b (a+1))
 have b2:=lT (at' b (a+2))
 have b3:=lT (at' b (a+3))
 have b4:=lT (at' b (a+1+0))
 have b5:=lT (at' b (a+1+1))
 have b6:=lT (at' b (a+1+2))
 have q0:a+1+0=a+1:=by omega
 have q1:a+1+1=a+2:=by omega
 have q2:a+1+2=a+3:=by omega
 have z1:(0:Int)+1=1:=rfl
 have z2:(1:Int)+1=2:=rfl
 have z3:(2:Int)+1=3:=rfl
 have hc:n=2∨n=3∨n=4:=by omega
 rcases hc with rfl | rfl | rfl
 ·
  rw [if_pos rfl,nD h0 hl _ hn hn4 han _ _ _ _ (by omega) (by omega) (by omega),if_pos (by omega),z1,nD h0 hl _ hn hn4 han _ _ _ _ (by omega) (by omega) (by omega),if_neg (by omega),q0]
  rfl
 ·
  rw [if_neg (by omega),if_pos rfl,nD h0 hl _ hn hn4 han _ _ _ _ (by omega) (by omega) (by omega),if_pos (by omega),z1,nD h0 hl _ hn hn4 han _ _ _ _ (by omega) (by omega) (by omega),if_pos (by omega),z2,nD h0 hl _ hn hn4 han _ _ _ _ (by omega) (by omega) (by omega),if_neg (by omega),q0,q1]
  rfl
 ·
  rw [if_neg (by omega),if_neg (by omega),nD h0 hl _ hn hn4 han _ _ _ _ (by omega) (by omega) (by omega),if_pos (by omega),z1,nD h0 hl _ hn hn4 han _ _ _ _ (by omega) (by omega) (by omega),if_pos (by omega),z2,nD h0 hl _ hn hn4 han _ _ _ _ (by omega) (by omega) (by omega),if_pos (by omega),z3,nD h0 hl _ hn hn4 han _ _ _ _ (by omega) (by omega) (by omega),if_neg (by omega),q0,q1,q2]
  rfl
theorem aH4 (n v0:Int) (hn:2≤n) (hn4:n≤4) (ha:a<(b.length:Int)) (hv:v0=(at' b a).toNat - (if n=2 then 192 else if n=3 then 224 else 240)) :
  (bif (decide ((W ((b.length:Int) - n))<a)) then
   some ((0:Int),(0:Int))
   else
   (aI (0≤(W (a+1))∧(W (a+1))≤(W (a+n))∧(W (a+n))≤(b.length:Int)) <|
   (aY (fun (x38:Int)=>
   (aH (fM x38) fun (y42:List UInt8)=>
   (aI (0≤a∧a≤(W (a+n))∧(W (a+n))≤(b.length:Int)) <|
   (bif (!(decide (y42=(bC b a (W (a+n)))))) then
   some (0,0)
   else
   some (x38,n))))) fun j39=>
   (bI (dS b a n j39) bO (v0,0)))))=some (if a+n≤(b.length:Int)∧enc (vl b a n)=bC b a (a+n) then (vl b a n,n) else (0,0)):=by
 rw [bR (x:=(b.length:Int) - n) (by omega) (by omega),bR (x:=a+1) (by omega) (by omega),bR (x:=a+n) (by omega) (by omega)]
 by_cases c:(b.length:Int) - n<a
 ·
  rw [decide_eq_true c,if_neg (by omega)];rfl
 ·
  rw [decide_eq_false c,cond_false]
  simp only [aI,aY,wA,aH]
  rw [if_pos (by omega),aK2 h0 hl n v0 hn hn4 (by omega) hv,if_pos (by omega)]
  by_cases h:enc (vl b a n)=bC b a (a+n)
  ·
   rw [if_pos ⟨by omega,h⟩];simp [h]
  ·
   rw [if_neg (fun q=>h q.2)];simp [h]
theorem aEq (ha:a<(b.length:Int)):lN b a=some (rd (b.drop a.toNat)):=by
 unfold lN
 have e0:decide (a<0)=false:=by simp;omega
 have e1:decide ((b.length:Int)≤a)=false:=by simp;omega
 have b0:=lT (at' b a)
 rw [e0,e1]
 simp only [cond_false,yH]
 have g:0≤a∧a<(b.length:Int):=⟨h0,ha⟩
 rw [show ∀ k:Option (Int×Int),aI (0≤a∧a<(b.length:Int)) k=k from fun k=>if_pos g]
 have j1:∀ (f:Int×Int→Option (Int×Int)) (B:(Int×Int→Option (Int×Int))→Option (Int×Int)),aY f B=B f:=fun _ _=>rfl
 rw [j1]
 rw [bR (x:=((at' b a).toNat:Int) - 192) (by omega) (by omega),bR (x:=((at' b a).toNat:Int) - 224) (by omega) (by omega),bR (x:=((at' b a).toNat:Int) - 240) (by omega) (by omega)]
 have bS:∀ (x:Bool) (k:Bool→Option (Int×Int)),aH (some x) k=k x:=fun _ _=>rfl
 simp only [bS]
 have m2:=fun v=>aH4 h0 hl 2 v (by omega) (by omega) ha
 have m3:=fun v=>aH4 h0 hl 3 v (by omega) (by omega) ha
 have m4:=fun v=>aH4 h0 hl 4 v (by omega) (by omega) ha
 have hL:(b.length:Int)=a+((b.drop a.toNat).length:Int):=by simp;omega
 have s2:=xC (b:=b) (n:=2) h0 (by omega)
 have s3:=xC (b:=b) (n:=3) h0 (by omega)
 have s4:=xC (b:=b) (n:=4) h0 (by omega)
 have t0:=aJa (b:=b) h0
 have t1:=wY (b:=b) h0 1 (by omega)
 have t2:=wY (b:=b) h0 2 (by omega)
 have t3:=wY (b:=b) h0 3 (by omega)
 have v2:vl b a 2=r2 (at' b a).toNat (at' b (a+1)).toNat:=rfl
 have v3:vl b a 3=r3 (at' b a).toNat (at' b (a+1)).toNat (at' b (a+2)).toNat:=rfl
 have v4:vl b a 4=r4 (at' b a).toNat (at' b (a+1)).toNat (at' b (a+2)).toNat (at' b (a+3)).toNat:=rfl
 have hne:0<(b.drop a.toNat).length:=by simp;omega
 by_cases c0:((at' b a).toNat:Int)<128
 ·
  rw [decide_eq_true c0,cond_true]
  rw [t0] at c0 ⊢
  unfold rd bi
  rw [if_neg (show ¬ (List.drop a.toNat b).length<1 by omega),if_pos c0]
 ·
  rw [decide_eq_false c0,cond_false]
  by_cases c2:192≤((at' b a).toNat:Int)∧((at' b a).toNat:Int)≤223
  ·
   rw [decide_eq_true c2,cond_true,m2 _ (by simp),s2,v2,t1]
   rw [t0] at c0 c2 ⊢
   rw [hL]
   generalize b.drop a.toNat=s at *
   congr 1
   unfold rd bi
   rw [if_neg (show ¬ s.length<1 by omega),if_neg c0]
   by_cases l2:s.length<2
   ·
    rw [if_pos l2,if_neg (show ¬ (a+2≤a+(s.length:Int)∧_) from fun h=>by omega)]
   ·
    rw [if_neg l2]
    obtain ⟨x,y,t,rfl⟩:∃ x y t,s=x :: y :: t:=by
     rcases s with _ | ⟨x,_ | ⟨y,t⟩⟩
     ·
      simp at l2
     ·
      simp at l2
     ·
      exact ⟨x,y,t,rfl⟩
    have e:=aLs (x:=x.toNat) (y:=y.toNat) (by have:=lT x;have:=lT y;omega)
    have a0:at' (x :: y :: t) 0=x:=rfl
    have a1:at' (x :: y :: t) 1=y:=rfl
    have tk:(x :: y :: t).take (Int.toNat 2)=[x,y]:=rfl
    rw [a0] at c0 c2
    rw [tk,a0,a1]
    have ee:(a+2≤a+((x :: y :: t).length:Int)∧enc (r2 x.toNat y.toNat)=[x,y]) ↔ E2 x.toNat y.toNat:=by
     rw [aB2]
     simp only [List.map_cons,List.map_nil,e]
     exact ⟨fun h=>h.2,fun h=>⟨by simp;omega,h⟩⟩
    by_cases q:E2 x.toNat y.toNat
    ·
     rw [if_pos (ee.2 q),if_pos q]
    ·
     rw [if_neg (fun h=>q (ee.1 h)),if_neg q]
     have n3:∀ u v,¬ E3 (x.toNat:Int) u v:=fun u v h=>by unfold E3 at h;omega
     have n4:∀ u v w,¬ E4 (x.toNat:Int) u v w:=fun u v w h=>by unfold E4 at h;omega
     simp only [n3,n4,if_false,ite_self]
  ·
   rw [decide_eq_false c2,cond_false]
   by_cases c3:224≤((at' b a).toNat:Int)∧((at' b a).toNat:Int)≤239
   ·
    rw [decide_eq_true c3,cond_true,m3 _ (by simp),s3,v3,t1,t2]
    rw [t0] at c0 c2 c3 ⊢
    rw [hL]
    generalize b.drop a.toNat=s at *
    congr 1
    unfold rd bi
    have n2:∀ u,¬ E2 ((at' s 0).toNat:Int) u:=fun u h=>by unfold E2 at h;omega
    have n4:∀ u v w,¬ E4 ((at' s 0).toNat:Int) u v w:=fun u v w h=>by unfold E4 at h;omega
    rw [if_neg (show ¬ s.length<1 by omega),if_neg c0]
    simp only [n2,n4,if_false,ite_self]
    by_cases l2:s.length<3
    ·
     rw [if_pos l2,ite_self,if_neg (show ¬ (a+3≤a+(s.length:Int)∧_) from fun h=>by omega)]
    ·
     rw [if_neg l2,if_neg (show ¬ s.length<2 by omega)]
     obtain ⟨x,y,z,t,rfl⟩:∃ x y z t,s=x :: y :: z :: t:=by
      rcases s with _ | ⟨x,_ | ⟨y,_ | ⟨z,t⟩⟩⟩
      ·
       simp at l2
      ·
       simp at l2
      ·
       simp at l2
      ·
       exact ⟨x,y,z,t,rfl⟩
     have e:=aLr (x:=x.toNat) (y:=y.toNat) (z:=z.toNat) (by have:=lT x;have:=lT y;have:=lT z;omega)
     have a0:at' (x :: y :: z :: t) 0=x:=rfl
     have a1:at' (x :: y :: z :: t) 1=y:=rfl
     have a2:at' (x :: y :: z :: t) 2=z:=rfl
     have tk:(x :: y :: z :: t).take (Int.toNat 3)=[x,y,z]:=rfl
     rw [tk,a0,a1,a2]
     have ee:(a+3≤a+((x :: y :: z :: t).length:Int)∧enc (r3 x.toNat y.toNat z.toNat)=[x,y,z]) ↔ E3 x.toNat y.toNat z.toNat:=by
      rw [aB2]
      simp only [List.map_cons,List.map_nil,e]
      exact ⟨fun h=>h.2,fun h=>⟨by simp;omega,h⟩⟩
     by_cases q:E3 x.toNat y.toNat z.toNat
     ·
      rw [if_pos (ee.2 q),if_pos q]
     ·
      rw [if_neg (fun h=>q (ee.1 h)),if_neg q]
   ·
    rw [decide_eq_false c3,cond_false]
    by_cases c4:240≤((at' b a).toNat:Int)∧((at' b a).toNat:Int)≤247
    ·
     rw [decide_eq_true c4,cond_true,m4 _ (by simp),s4,v4,t1,t2,t3]
     rw [t0] at c0 c2 c3 c4 ⊢
     rw [hL]
     generalize b.drop a.toNat=s at *
     congr 1
     unfold rd bi
     have n2:∀ u,¬ E2 ((at' s 0).toNat:Int) u:=fun u h=>by unfold E2 at h;omega
     have n3:∀ u v,¬ E3 ((at' s 0).toNat:Int) u v:=fun u v h=>by unfold E3 at h;omega
     rw [if_neg (show ¬ s.length<1 by omega),if_neg c0]
     simp only [n2,n3,if_false,ite_self]
     by_cases l2:s.length<4
     ·
      rw [if_pos l2,ite_self,ite_self,if_neg (show ¬ (a+4≤a+(s.length:Int)∧_) from fun h=>by omega)]
     ·
      rw [if_neg l2,if_neg (show ¬ s.length<2 by omega),if_neg (show ¬ s.length<3 by omega)]
      obtain ⟨x,y,z,v,t,rfl⟩:∃ x y z v t,s=x :: y :: z :: v :: t:=by
       rcases s with _ | ⟨x,_ | ⟨y,_ | ⟨z,_ | ⟨v,t⟩⟩⟩⟩
       ·
        simp at l2
       ·
        simp at l2
       ·
        simp at l2
       ·
        simp at l2
       ·
        exact ⟨x,y,z,v,t,rfl⟩
      have e:=aLq (x:=x.toNat) (y:=y.toNat) (z:=z.toNat) (v:=v.toNat) (by have:=lT x;have:=lT y;have:=lT z;have:=lT v;omega)
      have a0:at' (x :: y :: z :: v :: t) 0=x:=rfl
      have a1:at' (x :: y :: z :: v :: t) 1=y:=rfl
      have a2:at' (x :: y :: z :: v :: t) 2=z:=rfl
      have a3:at' (x :: y :: z :: v :: t) 3=v:=rfl
      have tk:(x :: y :: z :: v :: t).take (Int.toNat 4)=[x,y,z,v]:=rfl
      rw [tk,a0,a1,a2,a3]
      have ee:(a+4≤a+((x :: y :: z :: v :: t).length:Int)∧enc (r4 x.toNat y.toNat z.toNat v.toNat)=[x,y,z,v]) ↔ E4 x.toNat y.toNat z.toNat v.toNat:=by
       rw [aB2]
       simp only [List.map_cons,List.map_nil,e]
       exact ⟨fun h=>h.2,fun h=>⟨by simp;omega,h⟩⟩
      by_cases q:E4 x.toNat y.toNat z.toNat v.toNat
      ·
       rw [if_pos (ee.2 q),if_pos q]
      ·
       rw [if_neg (fun h=>q (ee.1 h)),if_neg q]
    ·
     rw [decide_eq_false c4,cond_false]
     rw [t0] at c0 c2 c3 c4
     unfold rd bi
     generalize b.drop a.toNat=s at *
     have n2:∀ u,¬ E2 ((at' s 0).toNat:Int) u:=fun u h=>by unfold E2 at h;omega
     have n3:∀ u v,¬ E3 ((at' s 0).toNat:Int) u v:=fun u v h=>by unfold E3 at h;omega
     have n4:∀ u v w,¬ E4 ((at' s 0).toNat:Int) u v w:=fun u v w h=>by unfold E4 at h;omega
     simp only [n2,n3,n4,c0,if_false,ite_self]
end
theorem aCv (s:List UInt8):0≤(rd s).2∧(rd s).2≤4∧(rd s).2≤(s.length:Int):=by
 unfold rd
 repeat' split
 all_goals simp only
 all_goals omega
def sR:Nat→List UInt8→Option (List Int)
 | 0,_=>some []
 | m+1,s=>if s.length=0 then some [] else if (rd s).2=0 then none else (sR m (s.drop (rd s).2.toNat)).map ((rd s).1 :: ·)
def fH (s:List UInt8):List Int×Bool:=if 65536<(s.length:Int) then ([],false) else match sR s.length s with
 | some l=>(l,true)
 | none=>([],false)
theorem vG:∀ (m:Nat) (s:List UInt8) (l:List Int),sR m s=some l→l.length≤s.length
 | 0,s,l,h=>by simp only [sR,Option.some.injEq] at h;subst h;simp
 | m+1,s,l,h=>by
  simp only [sR] at h
  split at h
  ·
   simp only [Option.some.injEq] at h;subst h;simp
  ·
   split at h
   ·
    cases h
   ·
    rename_i h0 h1
    obtain ⟨q,hq,rfl⟩:=Option.map_eq_some_iff.1 h
    have:=vG m _ q hq
    have b:=aCv s
    simp only [List.length_drop,List.length_cons] at this ⊢
    omega
theorem aEp (s:List UInt8):((fH s).1.length:Int)≤65536:=by
 unfold fH
 split
 ·
  simp
 ·
  split
  ·
   rename_i l hl
   have:=vG _ _ _ hl
   simp only;omega
  ·
   simp
theorem aCr (s:List UInt8) (hs:(s.length:Int)≤65536) (j:List Int→Option (List Int×Bool)):∀ (f m:Nat) (o:List Int) (k:Int),0≤k→k≤(s.length:Int)→(s.length:Int) - k≤f→(s.length:Int) - k<m→(o.length:Int)≤k →
  bI (fR s j) m (o,k)=match sR f (s.drop k.toNat) with
   | some l=>j (o ++ l)
   | none=>some ([],false):=by
 intro f
 induction f with
 | zero=>
  intro m o k hk hk' hf hm ho
  cases m with
  | zero=>omega
  | succ m=>
   have h1:¬ k<(s.length:Int):=by omega
   simp only [bI,fR,h1,decide_false,cond_false,sR,List.append_nil]
 | succ f ih=>
  intro m o k hk hk' hf hm ho
  cases m with
  | zero=>omega
  | succ m=>
   simp only [bI,fR,aI,sR,Bool.cond_decide]
   by_cases h1:k<(s.length:Int)
   ·
    have hne:¬ (s.drop k.toNat).length=0:=by simp;omega
    rw [if_pos h1,aM (aEq hk (by omega) h1),if_neg hne]
    have hb:=aCv (s.drop k.toNat)
    simp only [List.length_drop] at hb
    by_cases h2:(rd (s.drop k.toNat)).2=0
    ·
     rw [if_pos h2,if_pos h2]
    ·
     rw [if_neg h2,if_neg h2,if_pos (by simp;omega),bR (by omega) (by omega),ih m _ _ (by omega) (by omega) (by omega) (by omega) (by simp;omega)]
     have e:s.drop (k+(rd (s.drop k.toNat)).2).toNat=(s.drop k.toNat).drop (rd (s.drop k.toNat)).2.toNat:=by
      rw [List.drop_drop];congr 1;omega
     rw [e]
     cases sR f ((s.drop k.toNat).drop (rd (s.drop k.toNat)).2.toNat) with
     | none=>rfl
     | some l=>simp
   ·
    have hne:(s.drop k.toNat).length=0:=by simp;omega
    rw [if_neg h1,if_pos hne];simp
theorem zZ (s:List UInt8):kV s=some (fH s):=by
 unfold kV fH
 simp only [aY,Bool.cond_decide]
 by_cases h:65536<(s.length:Int)
 ·
  rw [if_pos h,if_pos h]
 ·
  rw [if_neg h,if_neg h,aCr s (by omega) _ s.length bO [] 0 (by omega) (by omega) (by omega) (by rw [bW];omega) (by simp)]
  simp only [Int.toNat_zero,List.drop_zero,List.nil_append]
  cases sR s.length s <;> rfl
def tJ (s:List UInt8):(List Int×Int)×Bool:=if (fH s).2 && bL ((fH s).1,((fH s).1.length:Int)) then (((fH s).1,((fH s).1.length:Int)),true) else (([],0),false)
theorem aDb (s:List UInt8):oE s=some (tJ s):=by
 unfold oE tJ
 have hl:=aEp s
 rw [aM (zZ s)]
 generalize fH s=r at *
 obtain ⟨l,b⟩:=r
 simp only at hl ⊢
 rw [jD (l,(l.length:Int)) (by simp only;omega),dN]
 cases b
 ·
  simp
 ·
  cases hk:bL (l,(l.length:Int)) <;> simp [hk]
def tZ (h:Int×List (List UInt8)) (st:Int):EdT→EdT×Bool
 | (vi,mode,line,count,op,opc,wait,fr,fh,last,ring,undo,nav,own,query,hit,back)=>
  if cX (vi,mode,line,count,op,opc,wait,fr,fh,last,ring,undo,nav,own,query,hit,back) && decide (st=1∨st = -1) then
   if nav≠0∧st=1∧nav=gW h then ((vi,mode,(own.1,jZ mode own),0,0,0,0,fr,fh,0,ring,[],0,([],0),query,hit,back),true)
   else if (zS h ((if nav=0 then gW h+1 else nav)+st)).2 && (tJ (zS h ((if nav=0 then gW h+1 else nav)+st)).1).2 then
    ((vi,mode,((tJ (zS h ((if nav=0 then gW h+1 else nav)+st)).1).1.1,if mode=2 then 0 else (tJ (zS h ((if nav=0 then gW h+1 else nav)+st)).1).1.2),0,0,0,0,fr,fh,0,ring,[],(if nav=0 then gW h+1 else nav)+st,(if nav=0 then line else own),query,hit,back),true)
   else (zEd,false)
  else (zEd,false)
theorem aDl (h:Int×List (List UInt8)):0≤gW h∧gW h≤2000000000:=by
 unfold gW
 split
 ·
  rename_i q
  obtain ⟨q1,q2,q3,_⟩:=yI q.1
  omega
 ·
  omega
theorem aHj {vi:Bool} {mode:Int} {line:List Int×Int} {count op opc wait fr fh last:Int} {ring:List (List Int)} {undo:List (List Int×Int)} {nav:Int} {own:List Int×Int} {query:List Int} {hit:Int} {back:List Int×Int} (h:cX (vi,mode,line,count,op,opc,wait,fr,fh,last,ring,undo,nav,own,query,hit,back)=true):(0≤nav∧nav≤1000000060)∧bL own=true:=by
 unfold cX at h
 simp only [Bool.and_eq_true,decide_eq_true_eq] at h
 exact ⟨h.1.1.1.1.1.2,h.1.1.1.1.1.1.1.1.1.1.1.1.1.1.2⟩
section
variable (vi:Bool) (mode:Int) (line:List Int×Int) (count op opc wait fr fh last:Int) (ring:List (List Int)) (undo:List (List Int×Int)) (nav:Int) (own:List Int×Int) (query:List Int) (hit:Int) (back:List Int×Int)
  (hs:wM 1048576 (vi,mode,line,count,op,opc,wait,fr,fh,last,ring,undo,nav,own,query,hit,back)) (h:Int×List (List UInt8)) (hl:(h.2.length:Int)≤1048576) (st:Int)
include hs hl
theorem aIy:mC (vi,mode,line,count,op,opc,wait,fr,fh,last,ring,undo,nav,own,query,hit,back) h st=some (tZ h st (vi,mode,line,count,op,opc,wait,fr,fh,last,ring,undo,nav,own,query,hit,back)):=by
 unfold mC
 simp only [tZ]
 have hparts:cX (vi,mode,line,count,op,opc,wait,fr,fh,last,ring,undo,nav,own,query,hit,back)=true→(0≤nav∧nav≤1000000060)∧bL own=true:=fun h=>aHj h
 rw [aM (aIz vi mode line count op opc wait fr fh last ring undo nav own query hit back (nO (by omega) hs))]
 have hc:=aDy vi mode line count op opc wait fr fh last ring undo nav own query hit back
 obtain ⟨h1,⟨h2,h3⟩,⟨h4,h5⟩,h6,h7,h8⟩:=hs
 have hc:=hc h1 h2 h3 h4 h5 h6 h7 h8
 generalize cX (vi,mode,line,count,op,opc,wait,fr,fh,last,ring,undo,nav,own,query,hit,back)=K at *
 cases K
 ·
  simp [zEd]
 ·
  obtain ⟨⟨n0,n1⟩,hown⟩:=hparts rfl
  obtain ⟨o0,o1,o2⟩:=bN hown
  obtain ⟨b0,b1⟩:=aDl h
  by_cases hst:st=1∨st = -1
  ·
   have hb:(bif (!(decide (st=1))) then (!(decide (st=(-1)))) else false)=false:=by
    rcases hst with rfl | rfl <;> simp
   have hn:-2≤st∧st≤2:=by omega
   have g2:=aFi h hl
   have hcl:=rL (own.1,own.2) mode (by simp only;omega)
   have cl1:=fJ (own.1,own.2) (by simp only;omega)
   have cl2:=fJ (line.1,line.2) (by simp only;omega)
   have hW0:W (gW h+1)=gW h+1:=bR (by omega) (by omega)
   rw [hb,decide_eq_true hst]
   simp only [Bool.not_true,cond_false,hW0,dR,hc,aH,g2,aY,cl1,cl2,hcl,Bool.and_self,if_true]
   by_cases hnv:nav=0
   ·
    subst hnv
    have hW:W (gW h+1+st)=gW h+1+st:=bR (by omega) (by omega)
    have k2:=aAo h hl (gW h+1+st) (by omega)
    have k2':iM (h.1,h.2) (gW h+1+st)=_:=k2
    have hx:(bif decide (st=1) then (!decide ((0:Int)=0)) else false)=false:=by cases decide (st=1) <;> simp
    simp only [hx,decide_true,cond_false,cond_true,hW,k2',aDb,ne_eq,not_true_eq_false,false_and,if_false,if_true]
    cases (zS h (gW h+1+st)).2
    ·
     simp [zEd]
    ·
     cases (tJ (zS h (gW h+1+st)).1).2
     ·
      simp [zEd]
     ·
      by_cases hm:mode=2 <;> simp [hm]
   ·
    have hW:W (nav+st)=nav+st:=bR (by omega) (by omega)
    have hW1:W (nav+1)=nav+1:=bR (by omega) (by omega)
    have k2:=aAo h hl (nav+st) (by omega)
    have k2':iM (h.1,h.2) (nav+st)=_:=k2
    simp only [hnv,decide_false,Bool.not_false,cond_false,cond_true,hW,hW1,k2',aDb,ne_eq,not_false_eq_true,true_and,if_false]
    by_cases he:st=1∧nav=gW h
    ·
     obtain ⟨rfl,rfl⟩:=he
     simp
    ·
     have hq:(bif bif decide (st=1) then true else false then decide (nav+1=gW h+1) else false)=false:=by
      by_cases e1:st=1
      ·
       have:¬ (nav+1=gW h+1):=by omega
       rw [decide_eq_false this];simp
      ·
       simp [e1]
     rw [hq,if_neg he]
     simp only [cond_false]
     cases (zS h (nav+st)).2
     ·
      simp [zEd]
     ·
      cases (tJ (zS h (nav+st)).1).2
      ·
       simp [zEd]
      ·
       by_cases hm:mode=2 <;> simp [hm]
  ·
   have hb:(bif (!(decide (st=1))) then (!(decide (st=(-1)))) else false)=true:=by
    have a:¬ st=1:=fun h=>hst (.inl h)
    have b:¬ st = -1:=fun h=>hst (.inr h)
    simp [a,b]
   rw [hb,decide_eq_false hst]
   simp [zEd]
end
def xN (l:List Int×Int) (t:List Int):List Int×Int:=(bC l.1 0 l.2 ++ t ++ bC l.1 l.2 (l.1.length:Int),l.2+(t.length:Int))
def qY (l:List Int×Int) (t:List Int):(List Int×Int)×Bool:=if bL (xN l t) then (xN l t,true) else (([],0),false)
theorem tA {α:Type} (l:List α) (a b:Int):(bC l a b).length≤l.length:=by
 unfold bC
 simp only [List.length_take,List.length_drop]
 omega
theorem pS {α:Type} (l:List α) (a b:Int) (h:0≤a∧a≤b∧b≤(l.length:Int)):((bC l a b).length:Int)=b - a:=by
 unfold bC
 simp only [List.length_take,List.length_drop]
 omega
theorem aCx {l:List Int×Int} (h:bL l=true) (t:List Int):(xN l t).1.length=l.1.length+t.length:=by
 obtain ⟨p0,p1,p2⟩:=bN h
 have a:=pS l.1 0 l.2 (by omega)
 have b:=pS l.1 l.2 (l.1.length:Int) (by omega)
 simp only [xN,List.length_append]
 omega
theorem aBd {l:List Int×Int} {t:List Int} (h:(qY l t).2=true):bL (qY l t).1=true:=by
 unfold qY at h ⊢
 split at h
 ·
  rename_i hq;rw [if_pos hq];exact hq
 ·
  cases h
theorem aAj (l:List Int×Int) (t:List Int) (h:bL l=true) (ht:t.length≤1000):kW l t=some (qY l t):=by
 obtain ⟨p0,p1,p2⟩:=bN h
 have hx:=aCx h t
 have e1:=jD (xN l t) (by omega)
 have s1:=tA l.1 0 l.2
 have s2:=tA l.1 l.2 (l.1.length:Int)
 unfold kW qY
 rw [aM (jD l (by omega)),h,bR (by omega) (by omega)]
 by_cases hc:400<(t.length:Int)
 ·
  have:bL (xN l t)=false:=by
   cases hq:bL (xN l t)
   ·
    rfl
   ·
    have:=(bN hq).2.2;omega
  rw [this,decide_eq_true hc];rfl
 ·
  rw [decide_eq_false hc]
  simp only [Bool.not_true,cond_false,aY,aI]
  rw [if_pos (by omega),aM (gZ _ (by omega)),if_pos (by omega),if_pos (by omega),if_pos (by rw [List.length_append];omega)]
  have e1':dB (bC l.1 0 l.2 ++ t ++ bC l.1 l.2 (l.1.length:Int),l.2+(t.length:Int))=some (bL (xN l t)):=e1
  rw [aM e1']
  cases bL (xN l t) <;> rfl
theorem aH6 (r:Int) (k:Int) (h:0≤k):List.replicate k.toNat r ++ [r]=List.replicate (k+1).toNat r:=by
  rw [show (k+1).toNat=k.toNat+1 by omega,List.replicate_succ']
theorem aEe (r n:Int) (hn:n≤1000) (j:List Int→Option (List Int)):∀ (m:Nat) (k:Int),0≤k→k≤n→k≤401→n - k<m →
  bI (lK [r] n j) m (List.replicate k.toNat r,k)=j (List.replicate (min n 401).toNat r):=by
 intro m
 induction m with
 | zero=>intro k _ _ _ h;omega
 | succ m ih=>
  intro k h0 h1 h2 hm
  simp only [bI,lK,aI,Bool.cond_decide]
  rw [bR (x:=k+1) (by omega) (by omega),aH6 r k h0]
  have hl:((List.replicate k.toNat r).length:Int)=k:=by rw [List.length_replicate];omega
  by_cases hc:k<n∧k≤400
  ·
   rw [hl,show (if k<n then decide (k≤400) else false)=true by simp [hc],cond_true,if_pos (by simp;omega)]
   exact ih _ (by omega) (by omega) (by omega) (by omega)
  ·
   rw [hl,show (if k<n then decide (k≤400) else false)=false by by_cases h3:k<n <;> simp [h3];omega,cond_false,show min n 401=k by omega]
theorem aFw (r n:Int) (h0:0≤n) (hn:n≤1000):nL [r] n=some (List.replicate (min n 401).toNat r):=by
 unfold nL
 simp only [aY]
 exact aEe r n hn _ bO 0 (by omega) h0 (by omega) (by rw [bW];omega)
theorem aAd {l:List Int×Int} (h:bL l=true) {t:List Int} (ht:400<t.length):qY l t=(([],0),false):=by
 unfold qY
 have hx:=aCx h t
 rw [if_neg]
 intro hq
 have:=(bN hq).2.2
 omega
theorem aIa {l:List Int×Int} (h:bL l=true) (r n:Int):qY l (List.replicate (min n 401).toNat r)=qY l (List.replicate n.toNat r):=by
 by_cases hc:n≤401
 ·
  rw [show min n 401=n by omega]
 ·
  rw [aAd h (by rw [List.length_replicate];omega),aAd h (by rw [List.length_replicate];omega)]
theorem aQ {α β:Type} {m:Option α} {k:α→Option β} {y:α} {z:Option β} (h:m=some y) (hk:k y=z):aH m k=z:=(aM h).trans hk
def jE (e:EdT):EdT×Int:=(jB 0 e,1)
def aI3 (a b:Int) (e:EdT):EdT×Int:=if a=b then jE e else (mL (sQ e.2.2.1 a b) 0 e,0)
def qO (a b how:Int) (e:EdT):EdT×Int:=
  if a=b then jE e else (oX (cZ e.2.2.2.2.2.2.2.2.2.2.1 (bC e.2.2.1.1 a b) (if e.2.2.2.2.2.2.2.2.2.1=2 then how else 0)) (mL (sQ e.2.2.1 a b) 2 e),0)
def yG (t:List Int) (nl:Int) (e:EdT):EdT×Int:=if (qY e.2.2.1 t).2=true then (mL (qY e.2.2.1 t).1 nl e,0) else jE e
def zX (h:Int×List (List UInt8)) (st:Int) (e:EdT):EdT×Int:=if (tZ h st e).2=true then ((tZ h st e).1,0) else jE e
def goE (a:Int) (e:EdT):EdT×Int:=(mL (goL e.2.2.1 a) 0 e,0)
section
variable (e:EdT) (hv:cX e=true)
include hv
theorem eOk:bL e.2.2.1=true∧(0≤e.2.2.2.1∧e.2.2.2.1≤999)∧dA e.2.2.2.2.2.2.2.2.2.2.1=true∧(0≤e.2.2.2.2.2.2.2.2.2.1∧e.2.2.2.2.2.2.2.2.2.1≤3):=by
 obtain ⟨vi,mode,line,count,op,opc,wait,fr,fh,last,ring,undo,nav,own,query,hit,back⟩:=e
 obtain ⟨h1,h2,h3,h4,h5,h6,h7,h8,h9,h10,h11,h12,h13,h14,h15,h16⟩:=iT hv
 exact ⟨h1,h4,h9,h8⟩
theorem aEm:wM 400 e:=by
 obtain ⟨vi,mode,line,count,op,opc,wait,fr,fh,last,ring,undo,nav,own,query,hit,back⟩:=e
 exact xF hv
theorem fV:dW e=some (jE e):=by
 obtain ⟨vi,mode,line,count,op,opc,wait,fr,fh,last,ring,undo,nav,own,query,hit,back⟩:=e
 exact aLk vi mode line count op opc wait fr fh last ring undo nav own query hit back hv
theorem aBa (l:List Int×Int) (hl:bL l=true) (nl:Int):nH e l nl=some (mL l nl e):=by
 obtain ⟨vi,mode,line,count,op,opc,wait,fr,fh,last,ring,undo,nav,own,query,hit,back⟩:=e
 exact aKq vi mode line count op opc wait fr fh last ring undo nav own query hit back hv l hl nl
theorem vK (l:List Int×Int) (hl:bL l=true):eT e l=some (mL l 0 e,0):=by
 obtain ⟨vi,mode,line,count,op,opc,wait,fr,fh,last,ring,undo,nav,own,query,hit,back⟩:=e
 exact aLn vi mode line count op opc wait fr fh last ring undo nav own query hit back hv l hl
theorem rP:eK e=some e:=by
 obtain ⟨vi,mode,line,count,op,opc,wait,fr,fh,last,ring,undo,nav,own,query,hit,back⟩:=e
 exact aGa vi mode line count op opc wait fr fh last ring undo nav own query hit back hv
theorem yO:cX (jE e).1=true:=by
 obtain ⟨vi,mode,line,count,op,opc,wait,fr,fh,last,ring,undo,nav,own,query,hit,back⟩:=e
 exact aCp vi mode line count op opc wait fr fh last ring undo nav own query hit back hv 0 (by omega)
theorem uB (l:List Int×Int) (hl:bL l=true) (nl:Int) (hn:0≤nl∧nl≤3):cX (mL l nl e)=true:=by
 obtain ⟨vi,mode,line,count,op,opc,wait,fr,fh,last,ring,undo,nav,own,query,hit,back⟩:=e
 exact aJy vi mode line count op opc wait fr fh last ring undo nav own query hit back hv l hl nl hn
theorem aAc (r:List (List Int)) (hr:dA r=true):cX (oX r e)=true:=by
 obtain ⟨vi,mode,line,count,op,opc,wait,fr,fh,last,ring,undo,nav,own,query,hit,back⟩:=e
 exact aH3 vi mode line count op opc wait fr fh last ring undo nav own query hit back hv r hr
theorem aB6 (a b:Int) (hr:0≤a∧a≤b∧b≤(e.2.2.1.1.length:Int)):aKh e.2.2.1 a b=(sQ e.2.2.1 a b,bC e.2.2.1.1 a b,true):=by
  unfold aKh;rw [(eOk e hv).1,decide_eq_true hr];rfl
theorem aI2 (a b:Int) (hr:0≤a∧a≤b∧b≤(e.2.2.1.1.length:Int)):qJ e a b=some (aI3 a b e):=by
 obtain ⟨hl,_⟩:=eOk e hv
 obtain ⟨p0,p1,p2⟩:=bN hl
 have hcut:=vR e.2.2.1 a b (by omega)
 rw [aB6 e hv a b hr] at hcut
 obtain ⟨c1,c2⟩:=aB5 hl hr
 have hsl:=pS e.2.2.1.1 a b hr
 unfold qJ aI3
 rw [aM hcut]
 simp only [Bool.not_true,cond_true]
 by_cases hab:a=b
 ·
  rw [if_pos hab,decide_eq_true (by omega)]
  exact aQ (fV e hv) rfl
 ·
  rw [if_neg hab,decide_eq_false (by omega)]
  exact aQ (vK e hv _ c1) rfl
theorem yF (a b how:Int) (hr:0≤a∧a≤b∧b≤(e.2.2.1.1.length:Int)) (hh:0≤how∧how≤2):jL e a b how=some (qO a b how e):=by
 obtain ⟨hl,_,hro,_⟩:=eOk e hv
 obtain ⟨p0,p1,p2⟩:=bN hl
 have hcut:=vR e.2.2.1 a b (by omega)
 rw [aB6 e hv a b hr] at hcut
 obtain ⟨c1,c2⟩:=aB5 hl hr
 have hsl:=pS e.2.2.1.1 a b hr
 unfold jL qO
 rw [aM hcut]
 simp only [Bool.not_true,cond_true]
 by_cases hab:a=b
 ·
  rw [if_pos hab,decide_eq_true (by omega)]
  exact aQ (fV e hv) rfl
 ·
  rw [if_neg hab,decide_eq_false (by omega)]
  simp only [cond_false,aY]
  by_cases hk:e.2.2.2.2.2.2.2.2.2.1=2
  ·
   rw [if_pos hk,decide_eq_true hk]
   exact aQ (aBa e hv _ c1 2) (aQ (aAb _ _ how hro (qF (lZ hl) a b) hh) rfl)
  ·
   rw [if_neg hk,decide_eq_false hk]
   exact aQ (aBa e hv _ c1 2) (aQ (aAb _ _ 0 hro (qF (lZ hl) a b) (by omega)) rfl)
theorem aIr (t:List Int) (ht:t.length≤1000) (nl:Int):kA e t nl=some (yG t nl e):=by
 obtain ⟨hl,_⟩:=eOk e hv
 have hp:=aAj e.2.2.1 t hl ht
 have ho:=@aBd e.2.2.1 t
 unfold kA yG
 rw [aM hp]
 generalize qY e.2.2.1 t=q at ho
 obtain ⟨l,b⟩:=q
 cases b
 ·
  exact aQ (fV e hv) rfl
 ·
  exact aQ (aBa e hv l (ho rfl) nl) rfl
end
theorem aEg (h:Int×List (List UInt8)) (st:Int) (e:EdT) (hk:(tZ h st e).2=true):(tZ h st e).1.2.2.2.2.2.2.2.2.2.2.2.1=[]:=by
 obtain ⟨vi,mode,line,count,op,opc,wait,fr,fh,last,ring,undo,nav,own,query,hit,back⟩:=e
 simp only [tZ] at hk ⊢
 generalize (if nav=0 then gW h+1 else nav)+st=N at *
 split at hk
 ·
  rename_i c1
  rw [if_pos c1]
  split
  ·
   rfl
  ·
   rename_i c2
   rw [if_neg c2] at hk
   split
   ·
    rfl
   ·
    rename_i c3
    rw [if_neg c3] at hk
    cases hk
 ·
  cases hk
section
variable (e:EdT) (hv:cX e=true) (h:Int×List (List UInt8)) (hl:(h.2.length:Int)≤1048576)
include hv hl
theorem aFz (st:Int):pI e h st=some (zX h st e):=by
 have hu:=aEg h st e
 have hs:mC e h st=some (tZ h st e):=by
  obtain ⟨vi,mode,line,count,op,opc,wait,fr,fh,last,ring,undo,nav,own,query,hit,back⟩:=e
  exact aIy vi mode line count op opc wait fr fh last ring undo nav own query hit back (nO (by omega) (xF hv)) h hl st
 unfold pI zX
 rw [aM hs]
 generalize tZ h st e=q at hu
 obtain ⟨z,b⟩:=q
 cases b
 ·
  exact aQ (fV e hv) rfl
 ·
  obtain ⟨vi,mode,line,count,op,opc,wait,fr,fh,last,ring,undo,nav,own,query,hit,back⟩:=z
  obtain rfl:undo=[]:=hu rfl
  rfl
end
theorem iU {α β:Type} {c:Prop} [Decidable c] {m:Option α} {x d:α} {k:α→Option β} (h:m=some x) (hc:c):bU c m d k=k x:=by
  rw [h,nK hc]
def aFx (l:List Int×Int):List Int×Int:=
 let a:=min l.2 ((l.1.length:Int) - 1)
 ((l.1.set (a - 1).toNat (at' l.1 a)).set a.toNat (at' l.1 (a - 1)),a+1)
def aCg (l:List Int×Int):(List Int×Int)×Bool:=if (l.1.length:Int)<2∨l.2=0 then (([],0),false) else (aFx l,true)
theorem tP {t:List Int} (h:cC t=true) (i:Nat) (x:Int) (hx:adm x=true):cC (t.set i x)=true:=by
 unfold cC at h ⊢
 simp only [Bool.and_eq_true,List.all_eq_true,decide_eq_true_eq,List.length_set] at h ⊢
 refine ⟨fun y hy=>?_,h.2⟩
 rcases List.mem_or_eq_of_mem_set hy with hy | rfl
 ·
  exact h.1 y hy
 ·
  exact hx
theorem aAs {t:List Int} (h:cC t=true) {i:Int} (h0:0≤i) (h1:i<(t.length:Int)):adm (at' t i)=true:=by
 unfold cC at h
 simp only [Bool.and_eq_true,List.all_eq_true] at h
 exact h.1 _ (List.mem_of_getElem? (bD ⟨h0,h1⟩))
theorem aHv {l:List Int×Int} (h:bL l=true) (h2:¬ ((l.1.length:Int)<2∨l.2=0)):bL (aFx l)=true:=by
 obtain ⟨p0,p1,_⟩:=bN h
 have ha:=lZ h
 unfold aFx
 refine kK (tP (tP ha _ _ (aAs ha (by omega) (by omega))) _ _ (aAs ha (by omega) (by omega))) (by omega) ?_
 simp only [List.length_set]
 omega
theorem aFd (l:List Int×Int) (h:bL l=true):lO l=some (aCg l):=by
 obtain ⟨p0,p1,p2⟩:=bN h
 unfold lO aCg aFx
 rw [aM (jD l (by omega)),h]
 by_cases c1:(l.1.length:Int)<2
 ·
  rw [if_pos (.inl c1),decide_eq_true c1];rfl
 by_cases c2:l.2=0
 ·
  rw [if_pos (.inr c2),decide_eq_false c1,decide_eq_true c2];rfl
 rw [if_neg (by omega),decide_eq_false c1,decide_eq_false c2,bR (x:=(l.1.length:Int) - 1) (by omega) (by omega)]
 simp only [Bool.not_true,cond_false]
 generalize ha:min l.2 ((l.1.length:Int) - 1)=a
 rw [bR (x:=a+1) (by omega) (by omega),bR (x:=a - 1) (by omega) (by omega),aM ((yJ l _ (by omega)).trans (show some (goL l (a+1))=some (l.1,a+1) by unfold goL;rw [show max 0 (min (a+1) (l.1.length:Int))=a+1 by omega]))]
 simp only [aI]
 rw [if_pos (by omega),if_pos (by omega),if_pos (by omega),if_pos (by omega)]
def isL (c:Int):Prop:=97≤c∧c≤122
def isU (c:Int):Prop:=65≤c∧c≤90
instance (c:Int):Decidable (isL c):=inferInstanceAs (Decidable (_∧_))
instance (c:Int):Decidable (isU c):=inferInstanceAs (Decidable (_∧_))
def upI (c:Int):Int:=if isL c then c - 32 else c
def loI (c:Int):Int:=if isU c then c+32 else c
def wK (how:Int):Nat→Int→Bool→List Int→List Int
 | 0,_,_,xs=>xs
 | r+1,i,f,xs=>if isL (at' xs i)∨isU (at' xs i) then wK how r (i+1) false (xs.set i.toNat (if how=1∨(how=2∧f=true) then upI (at' xs i) else loI (at' xs i))) else wK how r (i+1) f xs
def aGc (l:List Int×Int) (a b how:Int):List Int×Int:=(wK how (b - a).toNat a true l.1,b)
theorem aAn (c:Int):eM c=some (decide (isL c)):=by
 unfold eM cN isL
 simp only [aH]
 by_cases a:97≤c <;> by_cases b:c≤122 <;> simp [a,b]
theorem aAm (c:Int):fT c=some (decide (isU c)):=by
 unfold fT cN isU
 simp only [aH]
 by_cases a:65≤c <;> by_cases b:c≤90 <;> simp [a,b]
theorem aJo (c:Int):pH c=some (upI c):=by
 unfold pH upI
 rw [aM (aAn c)]
 by_cases a:isL c
 ·
  rw [if_pos a,decide_eq_true a,cond_true,bR (by unfold isL at a;omega) (by unfold isL at a;omega)]
 ·
  rw [if_neg a,decide_eq_false a,cond_false]
theorem aJ4 (c:Int):pJ c=some (loI c):=by
 unfold pJ loI
 rw [aM (aAm c)]
 by_cases a:isU c
 ·
  rw [if_pos a,decide_eq_true a,cond_true,bR (by unfold isU at a;omega) (by unfold isU at a;omega)]
 ·
  rw [if_neg a,decide_eq_false a,cond_false]
theorem qG {c:Int} (h:65≤c∧c≤122):adm c=true:=by
 unfold adm pr
 simp only [Bool.or_eq_true,decide_eq_true_eq]
 omega
theorem aI5 {c:Int} (h:isL c∨isU c):adm (upI c)=true∧adm (loI c)=true:=by
 unfold upI loI
 constructor
 ·
  split
  ·
   rename_i a;exact qG (by unfold isL at a;omega)
  ·
   exact qG (by unfold isL isU at h;omega)
 ·
  split
  ·
   rename_i a;exact qG (by unfold isU at a;omega)
  ·
   exact qG (by unfold isL isU at h;omega)
theorem yN (how:Int):∀ (r:Nat) (i:Int) (f:Bool) (xs:List Int),cC xs=true→cC (wK how r i f xs)=true∧(wK how r i f xs).length=xs.length
 | 0,_,_,_,h=>⟨h,rfl⟩
 | r+1,i,f,xs,h=>by
  simp only [wK]
  split
  ·
   rename_i c
   obtain ⟨k1,k2⟩:=aI5 c
   have:=yN how r (i+1) false (xs.set i.toNat (if how=1∨(how=2∧f=true) then upI (at' xs i) else loI (at' xs i))) (tP h _ _ (by split <;> assumption))
   rw [List.length_set] at this
   exact this
  ·
   exact yN how r (i+1) f xs h
theorem aI6 {l:List Int×Int} (h:bL l=true) (a b how:Int) (hr:0≤a∧a≤b∧b≤(l.1.length:Int)):bL (aGc l a b how)=true:=by
 obtain ⟨k1,k2⟩:=yN how (b - a).toNat a true l.1 (lZ h)
 exact kK k1 (by omega) (by rw [k2];omega)
theorem aD1 (b how:Int) (j:List Int→Option ((List Int×Int)×Bool)):∀ (m r:Nat) (i:Int) (f:Bool) (xs:List Int),0≤i→i+r=b→b≤(xs.length:Int)→b≤1000000→r<m →
  bI (gK b how j) m (f,i,xs)=j (wK how r i f xs):=by
 intro m
 induction m with
 | zero=>intro r i f xs _ _ _ _ h;omega
 | succ m ih=>
  intro r i f xs h0 hr hb hB hm
  simp only [bI,gK,Bool.cond_decide,aY,aI]
  cases r with
  | zero=>rw [if_neg (by omega)];rfl
  | succ r=>
   rw [if_pos (by omega),if_pos ⟨h0,by omega⟩,aM (aAn _),aAm,bR (x:=i+1) (by omega) (by omega)]
   simp only [wK]
   generalize hc:at' xs i=c
   have hU:(if how=1 then true else if how=2 then f else false)=decide (how=1∨(how=2∧f=true)):=by
    by_cases a:how=1 <;> by_cases b:how=2 <;> cases f <;> simp [a,b]
   by_cases a:isL c∨isU c
   ·
    have hn:(bif !decide (isL c) then !decide (isU c) else false)=false:=by
     by_cases a1:isL c <;> by_cases a2:isU c <;> simp_all
    have hcall:∀ k:Bool→Option ((List Int×Int)×Bool),(∀ z,(bif !decide (isL c) then !z else false)=false→k z=k true) →
      bU ((!decide (isL c))=true) (some (decide (isU c))) false k=k true:=by
     intro k hk
     by_cases a1:isL c
     ·
      rw [pF (by simp [a1])];exact hk _ (by simp [a1])
     ·
      rw [nK (by simp [a1])];exact hk _ (by simpa [a1] using hn)
    rw [hcall _ (fun z hz=>by rw [hz];simp),if_pos a,aJo,aJ4,hU]
    simp only [Bool.not_true,Bool.cond_false_right,Bool.and_false,cond_false,aH,Bool.cond_decide]
    by_cases u:how=1∨(how=2∧f=true)
    ·
     rw [if_pos u,if_pos u,if_pos ⟨h0,by omega⟩]
     exact ih r (i+1) false _ (by omega) (by omega) (by rw [List.length_set];omega) hB (by omega)
    ·
     rw [if_neg u,if_neg u,if_pos ⟨h0,by omega⟩]
     exact ih r (i+1) false _ (by omega) (by omega) (by rw [List.length_set];omega) hB (by omega)
   ·
    have a1:¬ isL c:=fun h=>a (.inl h)
    have a2:¬ isU c:=fun h=>a (.inr h)
    rw [nK (by simp [a1]),if_neg a]
    simp only [a1,a2,decide_false,Bool.not_false,cond_true]
    exact ih r (i+1) f xs (by omega) (by omega) hb hB (by omega)
theorem aFe (l:List Int×Int) (h:bL l=true) (a b how:Int) (hr:0≤a∧a≤b∧b≤(l.1.length:Int)) (hh:0≤how∧how≤2):iY l a b how=some (aGc l a b how,true):=by
 obtain ⟨p0,p1,p2⟩:=bN h
 have hi:cN how 0 2=some true:=by
  unfold cN
  rw [decide_eq_true hh.1,decide_eq_true hh.2];rfl
 unfold iY
 rw [aM (aDh l a b (by omega)),h,decide_eq_true hr,hi,nK (by rfl)]
 simp only [Bool.and_self,Bool.not_true,cond_false,aY]
 rw [aM (yJ l b (by omega))]
 rw [aD1 b how _ bO (b - a).toNat a true (goL l b).1 hr.1 (by omega) (by unfold goL;simp only;omega) (by omega) (by rw [bW];omega)]
 unfold goL aGc
 rw [show max 0 (min b (l.1.length:Int))=b by omega]
section
variable (t:List Int) (hl:(t.length:Int)≤1048576) (big:Bool)
include hl
theorem aDj (j:Int→Option Int):∀ (m k:Nat),(k:Int)≤(t.length:Int)→k<m →
  bI (fE t big j) m (k:Int)=j (bwd (fun i=>uW big (at' t i)=0) k:Nat):=by
 intro m
 induction m with
 | zero=>intro k _ h;omega
 | succ m ih=>
  intro k hk hm
  simp only [bI,fE,bU,Bool.cond_decide]
  cases k with
  | zero=>simp [bwd]
  | succ k=>
   have h1:(0:Int)<((k+1:Nat):Int):=by omega
   have e:((k+1:Nat):Int) - 1=(k:Int):=by omega
   simp only [h1,decide_true,if_true]
   rw [bR (by omega) (by omega),e,aM (tK t k big (by omega) (by omega)),ih k (by omega) (by omega)]
   simp only [bwd,Bool.cond_decide]
   split <;> rfl
theorem aDi (c:Int) (j:Int→Option Int):∀ (m k:Nat),(k:Int)≤(t.length:Int)→k<m →
  bI (fD t big c j) m (k:Int)=j (bwd (fun i=>uW big (at' t i)=c) k:Nat):=by
 intro m
 induction m with
 | zero=>intro k _ h;omega
 | succ m ih=>
  intro k hk hm
  simp only [bI,fD,bU,Bool.cond_decide]
  cases k with
  | zero=>simp [bwd]
  | succ k=>
   have h1:(0:Int)<((k+1:Nat):Int):=by omega
   have e:((k+1:Nat):Int) - 1=(k:Int):=by omega
   simp only [h1,decide_true,if_true]
   rw [bR (by omega) (by omega),e,aM (tK t k big (by omega) (by omega)),ih k (by omega) (by omega)]
   simp only [bwd,Bool.cond_decide]
   split <;> rfl
omit hl in
def zU (k:Nat):Int:=
 let x:=bwd (fun i=>uW big (at' t i)=0) k
 if x=0 then 0 else (bwd (fun i=>uW big (at' t i)=uW big (at' t ((x:Int) - 1))) x:Nat)
omit hl in
theorem aCd (k:Nat) (h1:(k:Int)≤(t.length:Int)):0≤zU t big k∧zU t big k≤k:=by
 unfold zU
 simp only
 have a:=tO (fun i=>uW big (at' t i)=0) k
 split
 ·
  omega
 ·
  have b:=tO (fun i=>uW big (at' t i)=uW big (at' t ((bwd (fun i=>uW big (at' t i)=0) k:Nat) - 1:Int))) (bwd (fun i=>uW big (at' t i)=0) k)
  omega
theorem aIs (k:Nat) (h1:(k:Int)≤(t.length:Int)):iF t (k:Int) big=some (zU t big k):=by
 unfold iF hZ zU
 have e:max (0:Int) (min (k:Int) (t.length:Int))=k:=by omega
 simp only [aH,aY,Bool.cond_decide,e]
 rw [aDj t hl big _ bO k h1 (by rw [bW];omega)]
 have a:=tO (fun i=>uW big (at' t i)=0) k
 generalize bwd (fun i=>uW big (at' t i)=0) k=x at *
 by_cases h2:x=0
 ·
  simp [h2]
 ·
  have h2':¬ ((x:Int)=0):=by omega
  simp only [h2,h2',if_false]
  rw [bR (by omega) (by omega),tK t ((x:Int) - 1) big (by omega) (by omega)]
  simp only
  rw [aDi t hl big _ _ bO x (by omega) (by rw [bW];omega)]
end
def kOk (k:Int×Int):Bool:=
 if k.1=1 then pr k.2
 else if k.1=2 then decide (k.2=95∨(97≤k.2∧k.2≤122∧k.2≠104∧k.2≠105∧k.2≠106∧k.2≠109))
 else if k.1=3 then decide (33≤k.2∧k.2≤126)
 else decide (4≤k.1∧k.1≤16∧k.2=0)
theorem aBs (k:Int×Int):mB k=some (kOk k):=by
 unfold mB kOk
 simp only [oI,aH,Bool.cond_decide,eM,cN,dN]
 by_cases h1:k.1=1
 ·
  rw [if_pos h1,if_pos h1]
 rw [if_neg h1,if_neg h1]
 by_cases h2:k.1=2
 ·
  rw [if_pos h2,if_pos h2]
  congr 1
  by_cases q1:k.2=95
  ·
   simp [q1]
  ·
   by_cases q2:97≤k.2 <;> by_cases q3:k.2≤122 <;> simp [q1,q2,q3,Bool.and_assoc]
 rw [if_neg h2,if_neg h2]
 by_cases h3:k.1=3
 ·
  rw [if_pos h3,if_pos h3]
  congr 1
  by_cases q2:33≤k.2 <;> simp [q2]
 rw [if_neg h3,if_neg h3]
 congr 1
 by_cases q2:4≤k.1 <;> by_cases q3:k.1≤16 <;> simp [q2,q3]
def vE (p:EdT×Int):EdT×Int×Bool:=(p.1,p.2,true)
def aI4 (r:Int) (e:EdT):EdT×Int×Bool:=
 if r=99 then (e,3,true) else if r=108 then (e,5,true)
 else if r=100 then (if 0<(e.2.2.1.1.length:Int) then vE (aI3 e.2.2.1.2 (min (e.2.2.1.2+max e.2.2.2.1 1) (e.2.2.1.1.length:Int)) e) else (e,4,true))
 else if r=117 then vE (qO 0 e.2.2.1.2 2 e)
 else if r=119 then vE (qO (zU e.2.2.1.1 true e.2.2.1.2.toNat) e.2.2.1.2 2 e)
 else (zEd,0,false)
def tE (h:Int×List (List UInt8)) (k:Int×Int) (e:EdT):EdT×Int×Bool:=
 if k.1=1 then vE (yG (List.replicate (max e.2.2.2.1 1).toNat k.2) 1 e)
 else if k.1=6 then vE (yG (List.replicate (max e.2.2.2.1 1).toNat 9) 1 e)
 else if k.1=4 then (e,2,true)
 else if k.1=2 then aI4 k.2 e
 else if k.1=5 then vE (aI3 (max (e.2.2.1.2 - max e.2.2.2.1 1) 0) e.2.2.1.2 e)
 else if k.1=14 then vE (aI3 e.2.2.1.2 (min (e.2.2.1.2+max e.2.2.2.1 1) (e.2.2.1.1.length:Int)) e)
 else if k.1=11 then vE (goE (e.2.2.1.2 - max e.2.2.2.1 1) e)
 else if k.1=10 then vE (goE (e.2.2.1.2+max e.2.2.2.1 1) e)
 else if k.1=12 then vE (goE 0 e)
 else if k.1=13 then vE (goE (e.2.2.1.1.length:Int) e)
 else if k.1=8 then vE (zX h (-1) e)
 else if k.1=9 then vE (zX h 1 e)
 else (zEd,0,false)
theorem aDf (e:EdT) (hv:cX e=true) (r n nl:Int):yG (List.replicate (min n 401).toNat r) nl e=yG (List.replicate n.toNat r) nl e:=by
 unfold yG
 rw [aIa (eOk e hv).1]
section
variable (e:EdT) (hv:cX e=true)
include hv
theorem aLh (r:Int):jK e r=some (aI4 r e):=by
 obtain ⟨hl,hc,_⟩:=eOk e hv
 obtain ⟨p0,p1,p2⟩:=bN hl
 unfold jK aI4
 rw [aM (rP e hv),bR (x:=e.2.2.1.2+max e.2.2.2.1 1) (by omega) (by omega)]
 simp only [aY,Bool.cond_decide]
 by_cases c1:r=99
 ·
  rw [if_pos c1,if_pos c1]
 rw [if_neg c1,if_neg c1]
 by_cases c1:r=108
 ·
  rw [if_pos c1,if_pos c1]
 rw [if_neg c1,if_neg c1]
 by_cases c1:r=100
 ·
  rw [if_pos c1,if_pos c1]
  by_cases c2:0<(e.2.2.1.1.length:Int)
  ·
   rw [if_pos c2,if_pos c2]
   exact aQ (aI2 e hv _ _ (by omega)) rfl
  ·
   rw [if_neg c2,if_neg c2]
 rw [if_neg c1,if_neg c1]
 by_cases c1:r=117
 ·
  rw [if_pos c1,if_pos c1]
  exact aQ (yF e hv _ _ _ (by omega) (by omega)) rfl
 rw [if_neg c1,if_neg c1]
 by_cases c1:r=119
 ·
  rw [if_pos c1,if_pos c1]
  obtain ⟨n,hn⟩:∃ n:Nat,e.2.2.1.2=(n:Int):=⟨e.2.2.1.2.toNat,by omega⟩
  have hb:=aCd e.2.2.1.1 true n (by omega)
  have hw:=aIs e.2.2.1.1 (by omega) true n (by omega)
  rw [hn,Int.toNat_natCast]
  refine aQ hw ?_
  exact aQ (yF e hv _ _ _ (by omega) (by omega)) rfl
 rw [if_neg c1,if_neg c1]
 rfl
variable (h:Int×List (List UInt8)) (hh:(h.2.length:Int)≤1048576)
include hh
theorem aF2 (k:Int×Int):kS e h k=some (tE h k e):=by
 obtain ⟨hl,hc,_⟩:=eOk e hv
 obtain ⟨p0,p1,p2⟩:=bN hl
 have hgo:∀ a:Int,aH (eS e.2.2.1 a) (fun l=>eT e l)=some (goE a e):=by
  intro a
  exact aQ (yJ _ a (by omega)) (vK e hv _ (aBx hl a))
 have hput:∀ a:Int,eS e.2.2.1 a=some (goL e.2.2.1 a):=fun a=>yJ _ a (by omega)
 have hput2:∀ a:Int,eT e (goL e.2.2.1 a)=some (goE a e):=fun a=>vK e hv _ (aBx hl a)
 unfold kS tE
 rw [bR (x:=e.2.2.1.2+max e.2.2.2.1 1) (by omega) (by omega),bR (x:=e.2.2.1.2 - max e.2.2.2.1 1) (by omega) (by omega)]
 simp only [aY,Bool.cond_decide]
 by_cases c1:k.1=1
 ·
  rw [if_pos c1,if_pos c1,← aDf e hv]
  exact aQ (aFw _ _ (by omega) (by omega)) (aQ (aIr e hv _ (by rw [List.length_replicate];omega) 1) rfl)
 rw [if_neg c1,if_neg c1]
 by_cases c1:k.1=6
 ·
  rw [if_pos c1,if_pos c1,← aDf e hv]
  exact aQ (aFw _ _ (by omega) (by omega)) (aQ (aIr e hv _ (by rw [List.length_replicate];omega) 1) rfl)
 rw [if_neg c1,if_neg c1]
 by_cases c1:k.1=4
 ·
  rw [if_pos c1,if_pos c1]
  exact aQ (rP e hv) rfl
 rw [if_neg c1,if_neg c1]
 by_cases c1:k.1=2
 ·
  rw [if_pos c1,if_pos c1]
  exact aQ (aLh e hv _) rfl
 rw [if_neg c1,if_neg c1]
 by_cases c1:k.1=5
 ·
  rw [if_pos c1,if_pos c1]
  exact aQ (aI2 e hv _ _ (by omega)) rfl
 rw [if_neg c1,if_neg c1]
 by_cases c1:k.1=14
 ·
  rw [if_pos c1,if_pos c1]
  exact aQ (aI2 e hv _ _ (by omega)) rfl
 rw [if_neg c1,if_neg c1]
 by_cases c1:k.1=11
 ·
  rw [if_pos c1,if_pos c1]
  exact aQ (hput _) (aQ (hput2 _) rfl)
 rw [if_neg c1,if_neg c1]
 by_cases c1:k.1=10
 ·
  rw [if_pos c1,if_pos c1]
  exact aQ (hput _) (aQ (hput2 _) rfl)
 rw [if_neg c1,if_neg c1]
 by_cases c1:k.1=12
 ·
  rw [if_pos c1,if_pos c1]
  exact aQ (hput _) (aQ (hput2 _) rfl)
 rw [if_neg c1,if_neg c1]
 by_cases c1:k.1=13
 ·
  rw [if_pos c1,if_pos c1]
  exact aQ (hput _) (aQ (hput2 _) rfl)
 rw [if_neg c1,if_neg c1]
 by_cases c1:k.1=8
 ·
  rw [if_pos c1,if_pos c1]
  exact aQ (aFz e hv h hh _) rfl
 rw [if_neg c1,if_neg c1]
 by_cases c1:k.1=9
 ·
  rw [if_pos c1,if_pos c1]
  exact aQ (aFz e hv h hh _) rfl
 rw [if_neg c1,if_neg c1]
 rfl
end
section
variable (e:EdT) (hv:cX e=true)
include hv
theorem aJ6 (t:List Int) (nl:Int) (hn:0≤nl∧nl≤3):cX (yG t nl e).1=true:=by
 unfold yG
 split
 ·
  rename_i hp
  exact uB e hv _ (aBd hp) nl hn
 ·
  exact yO e hv
theorem aLf (a:Int):cX (goE a e).1=true:=uB e hv _ (aBx (eOk e hv).1 a) 0 (by omega)
end
def dF (e:EdT):List (List Int):=e.2.2.2.2.2.2.2.2.2.2.1
def lU (r:List (List Int)):List Int:=r.headD []
def nA (r:List (List Int)):List (List Int):=r.drop 1 ++ r.take 1
def vY (e:EdT):EdT×Int:=if ((lU (dF e)).length:Int)=0 then jE e else yG (lU (dF e)) 3 e
def tR (e:EdT) (top:List Int) (f:Int):EdT×Int:=
 if e.2.2.2.2.2.2.2.2.2.1≠3∨(top.length:Int)=0∨f<0∨bC e.2.2.1.1 f e.2.2.1.2≠top then jE e
 else if (qY (sQ e.2.2.1 f e.2.2.1.2) (lU (nA (dF e)))).2=true then (mL (qY (sQ e.2.2.1 f e.2.2.1.2) (lU (nA (dF e)))).1 3 (oX (nA (dF e)) e),0) else jE e
def yS (e:EdT):EdT×Int:=tR e (lU (dF e)) (e.2.2.1.2 - ((lU (dF e)).length:Int))
def aIi (l:List Int×Int) (u:List (List Int×Int)):EdT→EdT
  | (vi,mode,_,count,op,opc,wait,fr,fh,last,ring,_,nav,own,query,hit,back)=>(vi,mode,l,count,op,opc,wait,fr,fh,last,ring,u,nav,own,query,hit,back)
def pQ (e:EdT):List (List Int×Int):=e.2.2.2.2.2.2.2.2.2.2.2.1
def aHs (e:EdT):EdT×Int:=
 let u:=pQ e
 if (u.length:Int)=0 then jE e
 else (aIi ((at' u ((u.length:Int) - 1)).1,jZ e.2.1 (at' u ((u.length:Int) - 1))) (u.take (u.length - 1)) (jB 0 e),0)
def aKr:EdT→EdT×Int
  | (vi,_,line,_,_,_,_,fr,fh,_,ring,undo,nav,own,_,_,_)=>((vi,3,line,0,0,0,0,fr,fh,0,ring,undo,nav,own,[],0,line),0)
theorem wX {r:List (List Int)} (h:dA r=true):cC (lU r)=true∧(lU r).length≤400:=by
 obtain ⟨h1,h2⟩:=eX h
 cases r with
 | nil=>exact ⟨rfl,by simp [lU]⟩
 | cons a r=>
  have:=(h2 a List.mem_cons_self).1
  exact ⟨this,fK this⟩
theorem aHu {r:List (List Int)} (h:dA r=true):dA (nA r)=true:=by
 obtain ⟨h1,h2⟩:=eX h
 refine vJ (by unfold nA;simp;omega) fun s hs=>?_
 unfold nA at hs
 rcases List.mem_append.1 hs with hs | hs
 ·
  exact h2 s (List.mem_of_mem_drop hs)
 ·
  exact h2 s (List.mem_of_mem_take hs)
theorem oW (r:List (List Int)) (h:dA r=true):dT r=some (lU r):=by
 obtain ⟨h1,h2⟩:=eX h
 unfold dT
 rw [aM (uC r (by omega) (fun s hs=>by have:=fK (h2 s hs).1;omega)),h]
 cases r with
 | nil=>rfl
 | cons a r=>
  have ha:=fK (h2 a List.mem_cons_self).1
  have e0:at' (a :: r) 0=a:=rfl
  rw [e0,decide_eq_false (by simp only [List.length_cons];omega)]
  simp only [Bool.not_true,cond_false,aI]
  rw [if_pos (by simp only [List.length_cons];omega),aM (gZ a (by omega))]
  rfl
theorem aEs (r:List (List Int)) (h:dA r=true):iX r=some (nA r):=by
 obtain ⟨h1,h2⟩:=eX h
 unfold iX
 rw [aM (uC r (by omega) (fun s hs=>by have:=fK (h2 s hs).1;omega)),h]
 simp only [Bool.not_true,cond_false,aY,aI]
 rw [aM (tN r (by omega) (fun s hs=>by have:=fK (h2 s hs).1;omega))]
 cases r with
 | nil=>rfl
 | cons a r=>
  have e0:at' (a :: r) 0=a:=rfl
  rw [e0,decide_eq_true (by simp only [List.length_cons];omega),cond_true,if_pos (by simp only [List.length_cons] at h1 ⊢;omega),if_pos (by omega),if_pos (by simp only [List.length_cons];omega),if_pos (by omega)]
  rfl
section
variable (e:EdT) (hv:cX e=true)
include hv
theorem aKy:rW e=some (vY e):=by
 obtain ⟨hl,_,hro,_⟩:=eOk e hv
 obtain ⟨t1,t2⟩:=wX hro
 unfold rW vY
 rw [aM (oW _ hro),Bool.cond_decide]
 show (if ((lU (dF e)).length:Int)=0 then _ else _)=_
 split
 ·
  exact aQ (fV e hv) rfl
 ·
  exact aQ (aIr e hv _ (by omega) 3) rfl
theorem aD7:lJ e=some (yS e):=by
 obtain ⟨hl,_,hro,_⟩:=eOk e hv
 obtain ⟨p0,p1,p2⟩:=bN hl
 obtain ⟨t1,t2⟩:=wX hro
 have hro2:=aHu hro
 obtain ⟨u1,u2⟩:=wX hro2
 have hv2:=aAc e hv _ hro2
 have hset:=aBa _ hv2
 have htop:=oW _ hro
 have hturn:=aEs _ hro
 have htop2:=oW _ hro2
 change dA (dF e)=true at hro
 change dT (dF e)=some (lU (dF e)) at htop
 change iX (dF e)=some (nA (dF e)) at hturn
 change dT (nA (dF e))=some (lU (nA (dF e))) at htop2
 change (lU (nA (dF e))).length≤400 at u2
 unfold lJ yS
 refine aQ htop ?_
 simp only
 change (lU (dF e)).length≤400 at t2
 generalize lU (dF e)=top at t2 ⊢
 rw [bR (x:=e.2.2.1.2 - (top.length:Int)) (by omega) (by omega)]
 generalize hf:e.2.2.1.2 - (top.length:Int)=f
 simp only [aI]
 by_cases c1:e.2.2.2.2.2.2.2.2.2.1=3
 ·
  by_cases c2:(top.length:Int)=0
  ·
   rw [show tR e top f=jE e from if_pos (.inr (.inl c2)),decide_eq_true c1,decide_eq_true c2]
   simp only [Bool.not_true,cond_false,cond_true,Bool.true_eq_false,false_implies,if_true]
   rw [pF (by simp)]
   exact aQ (fV e hv) rfl
  ·
   by_cases c3:f<0
   ·
    rw [show tR e top f=jE e from if_pos (.inr (.inr (.inl c3))),decide_eq_true c1,decide_eq_false c2,decide_eq_true c3]
    simp only [Bool.not_true,cond_false,cond_true,Bool.true_eq_false,false_implies,if_true]
    rw [pF (by simp)]
    exact aQ (fV e hv) rfl
   ·
    rw [decide_eq_true c1,decide_eq_false c2,decide_eq_false c3]
    have hs:=tA e.2.2.1.1 f e.2.2.1.2
    simp only [Bool.not_true,cond_false,cond_true,forall_const]
    rw [if_pos (by omega),aEn _ _ (by omega),nK trivial]
    by_cases c4:bC e.2.2.1.1 f e.2.2.1.2=top
    ·
     rw [show tR e top f=_ from if_neg (fun h=>h.elim (fun h=>h c1) fun h=>h.elim c2 fun h=>h.elim c3 fun h=>h c4),decide_eq_true c4]
     have hcut:=vR e.2.2.1 f e.2.2.1.2 (by omega)
     rw [aB6 e hv f e.2.2.1.2 (by omega)] at hcut
     obtain ⟨k1,k2⟩:=aB5 hl (a:=f) (b:=e.2.2.1.2) (by omega)
     simp only [Bool.not_true,cond_false]
     refine aQ hcut (aQ hturn ?_)
     simp only [aY]
     refine aQ htop2 (aQ (aAj _ _ k1 (by omega)) ?_)
     have ho:=@aBd (sQ e.2.2.1 f e.2.2.1.2) (lU (nA (dF e)))
     generalize qY (sQ e.2.2.1 f e.2.2.1.2) (lU (nA (dF e)))=q at ho ⊢
     obtain ⟨l,b⟩:=q
     cases b
     ·
      exact aQ (fV e hv) rfl
     ·
      refine aQ (rP e hv) ?_
      exact aQ (hset l (ho rfl) 3) rfl
    ·
     rw [show tR e top f=jE e from if_pos (.inr (.inr (.inr c4))),decide_eq_false c4]
     exact aQ (fV e hv) rfl
 ·
  rw [show tR e top f=jE e from if_pos (.inl c1),decide_eq_false c1]
  simp only [Bool.not_false,cond_true,Bool.true_eq_false,false_implies,if_true]
  rw [pF (by simp)]
  exact aQ (fV e hv) rfl
theorem eOk2:gP (pQ e)=true∧(0≤e.2.1∧e.2.1≤3):=by
 obtain ⟨vi,mode,line,count,op,opc,wait,fr,fh,last,ring,undo,nav,own,query,hit,back⟩:=e
 obtain ⟨h1,h2,h3,h4,h5,h6,h7,h8,h9,h10,h11,h12,h13,h14,h15,h16⟩:=iT hv
 refine ⟨h10,?_⟩
 unfold rH at h6
 simp only [Bool.and_eq_true,decide_eq_true_eq] at h6
 exact ⟨h6.1.1.1,h6.1.1.2.1⟩
end
theorem aJu (u:List (List Int×Int)) (h:gP u=true):lM u=some (if (u.length:Int)=0 then ([],([],0),false) else (u.take (u.length - 1),at' u ((u.length:Int) - 1),true)):=by
 obtain ⟨h1,h2⟩:=mJ h
 have hs:∀ s ∈ u,(s.1.length:Int)≤1048576:=fun s hs=>by have:=(bN (h2 s hs)).2.2;omega
 unfold lM
 rw [aM (xB u (by omega) (fun s hs=>by have:=(bN (h2 s hs)).2.2;omega)),h]
 by_cases c:(u.length:Int)=0
 ·
  rw [if_pos c,decide_eq_true c];rfl
 rw [if_neg c,decide_eq_false c,bR (x:=(u.length:Int) - 1) (by omega) (by omega)]
 have hsub:bC u 0 ((u.length:Int) - 1)=u.take (u.length - 1):=by
  unfold bC
  rw [show ((u.length:Int) - 1).toNat=u.length - 1 by omega]
  simp
 have hm:=List.mem_of_getElem? (bD (xs:=u) (i:=(u.length:Int) - 1) ⟨by omega,by omega⟩)
 simp only [Bool.not_true,cond_false,aI]
 rw [if_pos (by omega),hsub,aM (tM _ (by rw [List.length_take];omega) (fun s q=>hs s (List.mem_of_mem_take q))),if_pos (by omega)]
 rw [aM (fJ ((at' u ((u.length:Int) - 1)).1,(at' u ((u.length:Int) - 1)).2) (hs _ hm))]
section
variable (e:EdT) (hv:cX e=true)
include hv
theorem aKz:rX e=some (aHs e):=by
 obtain ⟨hu,hm⟩:=eOk2 e hv
 obtain ⟨h1,h2⟩:=mJ hu
 have ht:=aJu _ hu
 have hset:dR e 0=some (jB 0 e):=by
  obtain ⟨vi,mode,line,count,op,opc,wait,fr,fh,last,ring,undo,nav,own,query,hit,back⟩:=e
  exact sD vi mode line count op opc wait fr fh last ring undo nav own query hit back hv 0
 unfold rX aHs
 refine aQ ht ?_
 simp only
 by_cases c:((pQ e).length:Int)=0
 ·
  rw [if_pos c,if_pos c]
  exact aQ (fV e hv) rfl
 rw [if_neg c,if_neg c]
 have hmem:=List.mem_of_getElem? (bD (xs:=pQ e) (i:=((pQ e).length:Int) - 1) ⟨by omega,by omega⟩)
 have hlo:=bN (h2 _ hmem)
 generalize at' (pQ e) (((pQ e).length:Int) - 1)=l at hlo ⊢
 generalize (pQ e).take ((pQ e).length - 1)=u
 refine aQ hset (aQ (rL l e.2.1 (by omega)) ?_)
 obtain ⟨vi,mode,line,count,op,opc,wait,fr,fh,last,ring,undo,nav,own,query,hit,back⟩:=e
 rfl
theorem aK1:rY e=some (aKr e):=by
 have hl:=eOk e hv
 have hset:dR e 0=some (jB 0 e):=by
  obtain ⟨vi,mode,line,count,op,opc,wait,fr,fh,last,ring,undo,nav,own,query,hit,back⟩:=e
  exact sD vi mode line count op opc wait fr fh last ring undo nav own query hit back hv 0
 have hl2:=(bN hl.1).2.2
 unfold rY
 refine aQ hset (aQ (fJ e.2.2.1 (by omega)) ?_)
 obtain ⟨vi,mode,line,count,op,opc,wait,fr,fh,last,ring,undo,nav,own,query,hit,back⟩:=e
 rfl
end
theorem aB3 (e:EdT) (hs:wM 100000000 e):lR e=some (cX e):=by
 obtain ⟨vi,mode,line,count,op,opc,wait,fr,fh,last,ring,undo,nav,own,query,hit,back⟩:=e
 exact aIz vi mode line count op opc wait fr fh last ring undo nav own query hit back hs
section
variable (h:Int×List (List UInt8)) (hh:(h.2.length:Int)≤1048576) (k:Int×Int) (e:EdT) (hs:wM 1048576 e)
include hh hs
theorem aI7:oD e h k=some (cX e && hOk h && kOk k):=by
 unfold oD
 rw [aM (aB3 e (nO (by omega) hs)),qB h hh,dN,aBs,dN]
 cases cX e <;> cases hOk h <;> cases kOk k <;> rfl
end
def aLj (n:Int):EdT→EdT
  | (vi,mode,line,_,op,opc,wait,fr,fh,last,ring,undo,nav,own,query,hit,back)=>(vi,mode,line,n,op,opc,wait,fr,fh,last,ring,undo,nav,own,query,hit,back)
def onE (e:EdT):Int:=again (eOn e.2.2.1.1) (max e.2.2.2.1 1).toNat e.2.2.1.2
def aGe (e:EdT):Int:=again (fun k=>(sV e.2.2.1.1 k.toNat:Int)) (max e.2.2.2.1 1).toNat e.2.2.1.2
def aGd (how:Int) (e:EdT):EdT×Int:=(mL (aGc e.2.2.1 e.2.2.1.2 (eOn e.2.2.1.1 e.2.2.1.2) how) 0 e,0)
def aKo (e:EdT):EdT×Int:=if (aCg e.2.2.1).2=true then (mL (aCg e.2.2.1).1 0 e,0) else jE e
def aIg (r:Int) (e:EdT):EdT×Int:=
 if 48≤r∧r≤57 then (aLj (min (10*e.2.2.2.1+r - 48) 999) e,0)
 else if r=98 then goE (aGe e) e
 else if r=102 then goE (onE e) e
 else if r=100 then qO e.2.2.1.2 (onE e) 1 e
 else if r=121 then yS e
 else if r=117 then aGd 1 e
 else if r=108 then aGd 0 e
 else if r=99 then aGd 2 e
 else jE e
def aLi (h:Int×List (List UInt8)) (r:Int) (e:EdT):EdT×Int:=
 if r=97 then goE 0 e
 else if r=101 then goE (e.2.2.1.1.length:Int) e
 else if r=98 then goE (e.2.2.1.2 - max e.2.2.2.1 1) e
 else if r=102 then goE (e.2.2.1.2+max e.2.2.2.1 1) e
 else if r=112 then zX h (-1) e
 else if r=110 then zX h 1 e
 else if r=107 then qO e.2.2.1.2 (e.2.2.1.1.length:Int) 1 e
 else if r=121 then vY e
 else if r=116 then aKo e
 else if r=95 then aHs e
 else if r=114 then aKr e
 else jE e
def lF (h:Int×List (List UInt8)) (k:Int×Int) (e:EdT):EdT×Int:=
 if (tE h k e).2.2=true then ((tE h k e).1,(tE h k e).2.1)
 else if k.1=3 then aIg k.2 e
 else if k.1=15 then qO (aGe e) e.2.2.1.2 2 e
 else if k.1=2 then aLi h k.2 e
 else jE e
section
variable (e:EdT) (hv:cX e=true)
include hv
theorem aG3:e.2.2.1.2≤onE e∧onE e≤(e.2.2.1.1.length:Int):=by
 obtain ⟨p0,p1,p2⟩:=bN (eOk e hv).1
 exact uQ _ _ _ (by omega) (by omega)
theorem wL:0≤aGe e∧aGe e≤e.2.2.1.2:=by
 obtain ⟨p0,p1,p2⟩:=bN (eOk e hv).1
 exact rI _ _ _ (by omega) (by omega)
theorem aLv:e.2.2.1.2≤eOn e.2.2.1.1 e.2.2.1.2∧eOn e.2.2.1.1 e.2.2.1.2≤(e.2.2.1.1.length:Int):=by
 obtain ⟨p0,p1,p2⟩:=bN (eOk e hv).1
 exact vT _ _ (by omega) (by omega)
theorem aLc (r:Int) (hr:-1000000≤r∧r≤10000000000):gM e r=some (aIg r e):=by
 obtain ⟨hl,hc,_⟩:=eOk e hv
 obtain ⟨p0,p1,p2⟩:=bN hl
 obtain ⟨b1,b2⟩:=aLv e hv
 have ho:=aG3 e hv
 have hb:=wL e hv
 have hput2:∀ a:Int,eT e (goL e.2.2.1 a)=some (goE a e):=fun a=>vK e hv _ (aBx hl a)
 have hgo:∀ a:Int,eS e.2.2.1 a=some (goL e.2.2.1 a):=fun a=>yJ _ a (by omega)
 have hon:=aJ1 e.2.2.1.1 (by omega) e.2.2.1.2 (max e.2.2.2.1 1) p0 p1 (by omega)
 have hba:=aG0 e.2.2.1.1 (by omega) e.2.2.1.2 (max e.2.2.2.1 1) p0 p1 (by omega)
 unfold gM aIg
 have hd:iA r=some (decide (48≤r∧r≤57)):=by
  unfold iA
  rw [aM (yH r 48 57)]
 rw [aM hd]
 simp only [Bool.cond_decide,aY]
 by_cases c1:48≤r∧r≤57
 ·
  rw [if_pos c1,if_pos c1,bR (x:=10*e.2.2.2.1) (by omega) (by omega),bR (x:=10*e.2.2.2.1+r) (by omega) (by omega),bR (x:=10*e.2.2.2.1+r - 48) (by omega) (by omega)]
  exact aQ (rP e hv) rfl
 rw [if_neg c1,if_neg c1]
 by_cases c2:r=98
 ·
  rw [if_pos c2,if_pos c2]
  exact aQ hba (aQ (hgo _) (aQ (hput2 _) rfl))
 rw [if_neg c2,if_neg c2]
 by_cases c3:r=102
 ·
  rw [if_pos c3,if_pos c3]
  exact aQ hon (aQ (hgo _) (aQ (hput2 _) rfl))
 rw [if_neg c3,if_neg c3]
 by_cases c4:r=100
 ·
  rw [if_pos c4,if_pos c4]
  exact aQ hon (aQ (yF e hv _ _ 1 ⟨p0,ho⟩ (by omega)) rfl)
 rw [if_neg c4,if_neg c4]
 by_cases c5:r=121
 ·
  rw [if_pos c5,if_pos c5]
  exact aQ (aD7 e hv) rfl
 rw [if_neg c5,if_neg c5]
 have hcase:∀ how:Int,0≤how∧how≤2→(aH (kB e.2.2.1.1 e.2.2.1.2) fun (y138:Int)=>
   (aH (iY e.2.2.1 e.2.2.1.2 y138 how) fun (y140,y141)=>
   (aH (eT e (y140.1,y140.2)) fun (y151,y152)=>some (y151,y152))))=some (aGd how e):=by
  intro how hh
  exact aQ (aKx _ (by omega) _ p0 p1) (aQ (aFe _ hl _ _ how ⟨p0,b1,b2⟩ hh) (aQ (vK e hv _ (aI6 hl _ _ how ⟨p0,b1,b2⟩)) rfl))
 by_cases c6:r=117
 ·
  subst c6
  exact hcase 1 (by omega)
 by_cases c7:r=108
 ·
  subst c7
  exact hcase 0 (by omega)
 by_cases c8:r=99
 ·
  subst c8
  exact hcase 2 (by omega)
 have hm:sO [(117,1),(108,0),(99,2)] r=false:=by simp [sO,uO,c6,c7,c8]
 rw [hm,if_neg c6,if_neg c7,if_neg c8]
 exact aQ (fV e hv) rfl
variable (h:Int×List (List UInt8)) (hh:(h.2.length:Int)≤1048576)
include hh
theorem aLw (r:Int):gN e h r=some (aLi h r e):=by
 obtain ⟨hl,hc,_⟩:=eOk e hv
 obtain ⟨p0,p1,p2⟩:=bN hl
 unfold gN aLi
 have hp:∀ k:Int,kS e h (k,0)=some (tE h (k,0) e):=fun k=>aF2 e hv h hh (k,0)
 by_cases c1:r=97
 ·
  subst c1;exact aQ (hp 12) rfl
 by_cases c2:r=101
 ·
  subst c2;exact aQ (hp 13) rfl
 by_cases c3:r=98
 ·
  subst c3;exact aQ (hp 11) rfl
 by_cases c4:r=102
 ·
  subst c4;exact aQ (hp 10) rfl
 by_cases c5:r=112
 ·
  subst c5;exact aQ (hp 8) rfl
 by_cases c6:r=110
 ·
  subst c6;exact aQ (hp 9) rfl
 have hm:sO [(97,12),(101,13),(98,11),(102,10),(112,8),(110,9)] r=false:=by simp [sO,uO,c1,c2,c3,c4,c5,c6]
 rw [hm,if_neg c1,if_neg c2,if_neg c3,if_neg c4,if_neg c5,if_neg c6]
 simp only [Bool.cond_decide,cond_false]
 by_cases c7:r=107
 ·
  rw [if_pos c7,if_pos c7]
  exact aQ (yF e hv _ _ 1 (by omega) (by omega)) rfl
 rw [if_neg c7,if_neg c7]
 by_cases c8:r=121
 ·
  rw [if_pos c8,if_pos c8]
  exact aQ (aKy e hv) rfl
 rw [if_neg c8,if_neg c8]
 by_cases c9:r=116
 ·
  rw [if_pos c9,if_pos c9]
  refine aQ (aFd _ hl) ?_
  have hk:=@aHv _ hl
  unfold aKo aCg
  split
  ·
   exact aQ (fV e hv) rfl
  ·
   rename_i c
   exact aQ (vK e hv _ (hk c)) rfl
 rw [if_neg c9,if_neg c9]
 by_cases c10:r=95
 ·
  rw [if_pos c10,if_pos c10]
  exact aQ (aKz e hv) rfl
 rw [if_neg c10,if_neg c10]
 by_cases c11:r=114
 ·
  rw [if_pos c11,if_pos c11]
  refine aQ (aK1 e hv) ?_
  obtain ⟨vi,mode,line,count,op,opc,wait,fr,fh,last,ring,undo,nav,own,query,hit,back⟩:=e
  rfl
 rw [if_neg c11,if_neg c11]
 exact aQ (fV e hv) rfl
theorem aJ9 (k:Int×Int) (hk:-1000000≤k.2∧k.2≤10000000000):(aH (kS e h k) fun (y34,y35,y36)=>
 (bif y36 then
 some (y34,y35)
 else
 (bif (decide (k.1=3)) then
 (aH (gM e k.2) fun (y50,y51)=>
 some (y50,y51))
 else
 (bif (decide (k.1=15)) then
 (aH (cU e.2.2.1.2 (max e.2.2.2.1 1) e.2.2.1.1) fun (y66,y67)=>
 (aH (jL e y66 e.2.2.1.2 2) fun (y69,y70)=>
 some (y69,y70)))
 else
 (bif (decide (k.1=2)) then
 (aH (gN e h k.2) fun (y84,y85)=>
 some (y84,y85))
 else
 (aH (dW e) fun (y99,y100)=>
 some (y99,y100)))))))=some (lF h k e):=by
 obtain ⟨hl,hc,_⟩:=eOk e hv
 obtain ⟨p0,p1,p2⟩:=bN hl
 have hb:=wL e hv
 unfold lF
 refine aQ (aF2 e hv h hh k) ?_
 generalize tE h k e=q
 obtain ⟨z,n,b⟩:=q
 cases b
 ·
  simp only [cond_false,Bool.cond_decide,Bool.false_eq_true,if_false]
  by_cases c1:k.1=3
  ·
   rw [if_pos c1,if_pos c1];exact aQ (aLc e hv k.2 hk) rfl
  rw [if_neg c1,if_neg c1]
  by_cases c2:k.1=15
  ·
   rw [if_pos c2,if_pos c2]
   exact aQ (aE0 e.2.2.1.1 (by omega) e.2.2.1.2 (max e.2.2.2.1 1) p0 p1 (by omega)) (aQ (yF e hv _ _ 2 ⟨hb.1,hb.2,p1⟩ (by omega)) rfl)
  rw [if_neg c2,if_neg c2]
  by_cases c3:k.1=2
  ·
   rw [if_pos c3,if_pos c3];exact aQ (aLw e hv h hh k.2) rfl
  rw [if_neg c3,if_neg c3]
  exact aQ (fV e hv) rfl
 ·
  rfl
end
theorem aLo {k:Int×Int} (h:kOk k=true):-1000000≤k.2∧k.2≤10000000000:=by
 unfold kOk pr at h
 split at h
 ·
  have:=of_decide_eq_true h;omega
 ·
  split at h
  ·
   have:=of_decide_eq_true h;omega
  ·
   split at h
   ·
    have:=of_decide_eq_true h;omega
   ·
    have:=of_decide_eq_true h;omega
theorem aLt (e:EdT) (hv:cX e=true) (h:Int×List (List UInt8)) (hh:(h.2.length:Int)≤1048576) (ho:hOk h=true) (k:Int×Int) (hk:kOk k=true) (hm:e.2.1=0):lQ e h k=some (lF h k e):=by
 have hcan:=aI7 h hh k e (nO (by omega) (aEm e hv))
 rw [hv,ho,hk] at hcan
 unfold lQ
 rw [aM hcan,decide_eq_true hm]
 exact aJ9 e hv h hh k (aLo hk)
def eO (c:List UInt8×Int×Int):Prop:=0≤c.2.1∧c.2.1≤(c.1.length:Int)∧(c.1.length:Int)≤1048576
theorem aHl (x:BitVec 64) (n:Nat) (hn:n<2 ^ 64):(x &&& BitVec.ofInt 64 (n:Int)).toNat≤n:=by
 rw [BitVec.toNat_and]
 have:(BitVec.ofInt 64 (n:Int)).toNat=n:=by
  rw [BitVec.toNat_ofInt]
  have h:((n:Int) % ((2 ^ 64:Nat):Int))=n:=Int.emod_eq_of_lt (by omega) (by exact_mod_cast hn)
  rw [h];rfl
 rw [this]
 exact Nat.and_le_right
theorem aJb (x:BitVec 64):0≤W (((x &&& BitVec.ofInt 64 255).toNat:Nat):Int)∧W (((x &&& BitVec.ofInt 64 255).toNat:Nat):Int)≤255:=by
 have h:=aHl x 255 (by decide)
 have h':(x &&& BitVec.ofInt 64 255).toNat≤255:=h
 rw [bR (by omega) (by omega)]
 omega
theorem uZ (c:List UInt8×Int×Int) (hc:eO c):∃ y i h,eG c=some (y,(c.1,i,h))∧eO (c.1,i,h)∧0≤y∧y≤255:=by
 obtain ⟨h1,h2,h3⟩:=hc
 unfold eG
 simp only [aY,Bool.cond_decide,aI]
 split
 ·
  rw [if_pos ⟨h1,by assumption⟩]
  exact ⟨_,_,_,rfl,⟨by simp only;rw [bR (by omega) (by omega)];omega,by simp only;rw [bR (by omega) (by omega)];omega,h3⟩,aJb _⟩
 ·
  exact ⟨_,_,_,rfl,⟨h1,h2,h3⟩,aJb _⟩
theorem eZ (c:List UInt8×Int×Int) (hc:eO c) (n:Int):∃ y i h,bH c n=some (y,(c.1,i,h))∧eO (c.1,i,h)∧0≤y∧(0<n→y<n)∧(n≤0→y=0):=by
 unfold bH
 simp only [Bool.cond_decide]
 split
 ·
  exact ⟨0,c.2.1,c.2.2,rfl,hc,by omega,by omega,by omega⟩
 ·
  split
  ·
   obtain ⟨y,i,h,e,ho,y0,y1⟩:=uZ _ hc
   have e':eG (c.1,c.2.1,c.2.2)=_:=e
   rw [aM e']
   simp only [aI]
   rw [if_pos (by omega)]
   exact ⟨_,i,h,rfl,ho,Int.tmod_nonneg _ y0,fun hn=>Int.tmod_lt_of_pos _ hn,by omega⟩
  ·
   obtain ⟨ya,ia,ha,e1,o1,a0,a1⟩:=uZ _ hc
   obtain ⟨yb,ib,hb,e2,o2,b0,b1⟩:=uZ _ o1
   obtain ⟨yc,ic,hcc,e3,o3,c0,c1⟩:=uZ _ o2
   obtain ⟨yd,id,hd,e4,o4,d0,d1⟩:=uZ _ o3
   have e1':eG (c.1,c.2.1,c.2.2)=_:=e1
   rw [aM e1',aM e2,aM e3,aM e4]
   simp only [aI]
   rw [if_pos (by omega)]
   rw [bR (x:=ya*16777216) (by omega) (by omega),bR (x:=yb*65536) (by omega) (by omega),bR (x:=yc*256) (by omega) (by omega),bR (x:=ya*16777216+yb*65536) (by omega) (by omega),
    bR (x:=ya*16777216+yb*65536+yc*256) (by omega) (by omega),bR (x:=ya*16777216+yb*65536+yc*256+yd) (by omega) (by omega)]
   exact ⟨_,id,hd,rfl,o4,Int.tmod_nonneg _ (by omega),fun hn=>Int.tmod_lt_of_pos _ hn,by omega⟩
theorem aIf (l:List UInt8) (hl:(l.length:Int)≤1048576):∀ (m:Nat) (h k:Int),0≤k→k≤4000→4000 - k<m→∃ v,bI (jF l fun x15=>some (l,0,x15)) m (h,k)=some (l,0,v):=by
 intro m
 induction m with
 | zero=>intro h k _ _ h';omega
 | succ m ih=>
  intro h k hk hk' hm
  simp only [bI,jF,aI,Bool.cond_decide]
  by_cases h1:k<(l.length:Int)
  ·
   by_cases h2:k<4000
   ·
    simp only [h1,h2,hk,if_true,and_self,decide_true]
    rw [bR (x:=k+1) (by omega) (by omega)]
    exact ih _ _ (by omega) (by omega) (by omega)
   ·
    simp only [h1,h2,if_true,decide_false,Bool.false_eq_true,if_false]
    exact ⟨h,rfl⟩
  ·
   simp only [h1,if_false,cond_false]
   exact ⟨h,rfl⟩
theorem aLa (l:List UInt8) (hl:(l.length:Int)≤1048576):∃ h,oA l=some (l,0,h)∧eO (l,0,h):=by
 unfold oA
 simp only [aY]
 obtain ⟨v,hv⟩:=aIf l hl bO (W (600128+(l.length:Int))) 0 (by omega) (by omega) (by rw [bW];omega)
 exact ⟨v,hv,⟨by simp,by simp,hl⟩⟩
def aAx (r:Int):Prop:=r ∈ ([97,98,99,120,49,50,32,32,46,45,95,233,4352,20013,128512,47]:List Int)∨(33≤r∧r≤126)∨(160≤r∧r≤459)∨(19968≤r∧r≤21967)
theorem aJz (c:List UInt8×Int×Int) (hc:eO c):∃ y i h,kR c=some (y,(c.1,i,h))∧eO (c.1,i,h)∧aAx y:=by
 unfold kR
 obtain ⟨y,i,h,e,ho,y0,y1,_⟩:=eZ _ hc 12
 have e':bH (c.1,c.2.1,c.2.2) 12=_:=e
 rw [aM e']
 simp only [Bool.cond_decide]
 have two:∀ n,0<n→∃ y2 i2 h2,bH (c.1,i,h) n=some (y2,(c.1,i2,h2))∧eO (c.1,i2,h2)∧0≤y2∧y2<n:=by
  intro n hn
  obtain ⟨y2,i2,h2,e2,o2,p0,p1,_⟩:=eZ _ ho n
  exact ⟨y2,i2,h2,e2,o2,p0,p1 hn⟩
 split
 ·
  obtain ⟨y2,i2,h2,e2,o2,p0,p1⟩:=two 16 (by omega)
  rw [aM e2]
  simp only [aI]
  rw [if_pos ⟨p0,p1⟩]
  exact ⟨_,i2,h2,rfl,o2,.inl (List.mem_of_getElem? (bD ⟨p0,p1⟩))⟩
 ·
  split
  ·
   obtain ⟨y2,i2,h2,e2,o2,p0,p1⟩:=two 94 (by omega)
   rw [aM e2]
   simp only
   rw [bR (by omega) (by omega)]
   exact ⟨_,i2,h2,rfl,o2,.inr (.inl ⟨by omega,by omega⟩)⟩
  ·
   split
   ·
    obtain ⟨y2,i2,h2,e2,o2,p0,p1⟩:=two 300 (by omega)
    rw [aM e2]
    simp only
    rw [bR (by omega) (by omega)]
    exact ⟨_,i2,h2,rfl,o2,.inr (.inr (.inl ⟨by omega,by omega⟩))⟩
   ·
    obtain ⟨y2,i2,h2,e2,o2,p0,p1⟩:=two 2000 (by omega)
    rw [aM e2]
    simp only
    rw [bR (by omega) (by omega)]
    exact ⟨_,i2,h2,rfl,o2,.inr (.inr (.inr ⟨by omega,by omega⟩))⟩
theorem aEo (c:List UInt8×Int×Int):∀ (m:Nat) (o:List Int) (n i h:Int),eO (c.1,i,h)→0≤n→n≤100000→(o.length:Int)+n≤100000→n<m→(∀ r ∈ o,aAx r) →
  ∃ l i' h',bI (gD c fun (x33,x36,x37)=>some (x33,(c.1,x36,x37))) m (o,n,i,h)=some (l,(c.1,i',h'))∧eO (c.1,i',h')∧(l.length:Int)=o.length+n∧∀ r ∈ l,aAx r:=by
 intro m
 induction m with
 | zero=>intro o n i h _ _ _ _ hm;omega
 | succ m ih=>
  intro o n i h hc hn hn' ho hm hd
  simp only [bI,gD,Bool.cond_decide]
  by_cases h1:0<n
  ·
   rw [if_pos h1]
   obtain ⟨y,i2,h2,e,o2,dy⟩:=aJz _ hc
   have e':kR (c.1,i,h)=some (y,(c.1,i2,h2)):=e
   rw [aM e']
   simp only [aI]
   rw [if_pos (by simp;omega),bR (by omega) (by omega)]
   obtain ⟨l,i',h',r1,r2,r3,r4⟩:=ih (o ++ [y]) (n - 1) i2 h2 o2 (by omega) (by omega) (by simp;omega) (by omega) (by
    intro r hr
    rcases List.mem_append.1 hr with hr | hr
    ·
     exact hd r hr
    ·
     simp only [List.mem_singleton] at hr;subst hr;exact dy)
   exact ⟨l,i',h',r1,r2,by simp at r3;omega,r4⟩
  ·
   rw [if_neg h1]
   exact ⟨o,i,h,rfl,hc,by omega,hd⟩
theorem aHy (c:List UInt8×Int×Int) (hc:eO c) (most:Int) (hm:0≤most) (hm':most≤1000):∃ l i h,iV c most=some (l,(c.1,i,h))∧eO (c.1,i,h)∧(l.length:Int)≤most∧∀ r ∈ l,aAx r:=by
 unfold iV
 rw [bR (by omega) (by omega)]
 obtain ⟨y,i,h,e,ho,y0,y1,_⟩:=eZ _ hc (most+1)
 have e':bH (c.1,c.2.1,c.2.2) (most+1)=_:=e
 rw [aM e']
 simp only [aY]
 have:=y1 (by omega)
 obtain ⟨l,i',h',r1,r2,r3,r4⟩:=aEo c bO [] y i h ho y0 (by omega) (by simp;omega) (by rw [bW];omega) (by simp)
 exact ⟨l,i',h',r1,r2,by simp at r3;omega,r4⟩
def sX (r:Int):Prop:=aAx r∨r=9∨r=10∨(65≤r∧r≤90)
theorem aA9 {p:Int→Prop} {l:List Int} {i:Nat} {v:Int} (h:∀ r ∈ l,p r) (hv:p v):∀ r ∈ List.set l i v,p r:=by
 intro r hr
 rcases List.mem_or_eq_of_mem_set hr with h' | h'
 ·
  exact h r h'
 ·
  subst h';exact hv
theorem aIk (c:List UInt8×Int×Int) (t:List Int) (ht:(t.length:Int)≤1000):∀ (m:Nat) (u:List Int) (k i h:Int),eO (c.1,i,h)→0≤k→k≤(t.length:Int)→u.length=t.length→(t.length:Int) - k<m→0<m→(∀ r ∈ u,sX r) →
  ∃ l i' h',bI (eW c t fun (x101,x104,x105)=>some (x101,(c.1,x104,x105))) m (u,k,i,h)=some (l,(c.1,i',h'))∧eO (c.1,i',h')∧l.length=t.length∧∀ r ∈ l,sX r:=by
 intro m
 induction m with
 | zero=>intro u k i h _ _ _ _ _ hm;omega
 | succ m ih=>
  intro u k i h hc hk hk' hu hm _ hd
  simp only [bI,eW,Bool.cond_decide,aY]
  by_cases h1:k<(t.length:Int)
  ·
   rw [if_pos h1]
   obtain ⟨y,i2,h2,e,o2,y0,y1,_⟩:=eZ _ hc 14
   have e':bH (c.1,i,h) 14=some (y,(c.1,i2,h2)):=e
   rw [aM e']
   simp only [aI]
   rw [bR (x:=k+1) (by omega) (by omega)]
   have step:∀ u' i3 h3,eO (c.1,i3,h3)→u'.length=t.length→(∀ r ∈ u',sX r) →
     ∃ l i' h',bI (eW c t fun (x101,x104,x105)=>some (x101,(c.1,x104,x105))) m (u',k+1,i3,h3)=some (l,(c.1,i',h'))∧eO (c.1,i',h')∧l.length=t.length∧∀ r ∈ l,sX r:=
    fun u' i3 h3 q1 q2 q3=>ih u' (k+1) i3 h3 q1 (by omega) (by omega) q2 (by omega) (by omega) q3
   by_cases c0:y=0
   ·
    subst c0
    simp only [if_true]
    rw [if_pos ⟨hk,by omega⟩]
    simp only [show ¬ ((0:Int)=1) by decide,show ¬ ((0:Int)=2) by decide,if_false]
    exact step _ _ _ o2 (by simpa using hu) (aA9 hd (.inr (.inl rfl)))
   ·
    simp only [c0,if_false]
    by_cases c1:y=1
    ·
     subst c1
     simp only [if_true]
     rw [if_pos ⟨hk,by omega⟩]
     simp only [show ¬ ((1:Int)=2) by decide,if_false]
     exact step _ _ _ o2 (by simpa using hu) (aA9 hd (.inr (.inr (.inl rfl))))
    ·
     simp only [c1,if_false]
     by_cases c2:y=2
     ·
      subst c2
      simp only [if_true]
      obtain ⟨y3,i3,h3,e3,o3,p0,p1,_⟩:=eZ _ o2 26
      have e3':bH (c.1,i2,h2) 26=some (y3,(c.1,i3,h3)):=e3
      rw [aM e3']
      simp only
      have:=p1 (by omega)
      rw [if_pos ⟨hk,by omega⟩,bR (by omega) (by omega)]
      exact step _ _ _ o3 (by simpa using hu) (aA9 hd (.inr (.inr (.inr ⟨by omega,by omega⟩))))
     ·
      simp only [c2,if_false]
      exact step _ _ _ o2 hu hd
  ·
   rw [if_neg h1]
   exact ⟨u,i,h,rfl,hc,hu,hd⟩
theorem aIj (c:List UInt8×Int×Int) (hc:eO c) (most:Int) (hm:0≤most) (hm':most≤1000):∃ l i h,fC c most=some (l,(c.1,i,h))∧eO (c.1,i,h)∧(l.length:Int)≤most∧∀ r ∈ l,sX r:=by
 unfold fC
 obtain ⟨t,i,h,e,ho,t1,t2⟩:=aHy _ hc most hm hm'
 have e':iV (c.1,c.2.1,c.2.2) most=_:=e
 rw [aM e']
 simp only [aY]
 obtain ⟨l,i',h',r1,r2,r3,r4⟩:=aIk c t (by omega) bO t 0 i h ho (by omega) (by omega) rfl (by rw [bW];omega) (by rw [bW];omega) (fun r hr=>.inl (t2 r hr))
 exact ⟨l,i',h',r1,r2,by omega,r4⟩
theorem aFf (c:List UInt8×Int×Int) (hc:eO c):∃ t a i h,kP c=some ((t,a),(c.1,i,h))∧eO (c.1,i,h)∧(t.length:Int)≤16∧(∀ r ∈ t,sX r)∧0≤a∧a≤(t.length:Int):=by
 unfold kP
 obtain ⟨t,i,h,e,ho,t1,t2⟩:=aIj _ hc 16 (by omega) (by omega)
 have e':fC (c.1,c.2.1,c.2.2) 16=_:=e
 rw [aM e']
 simp only
 rw [bR (by omega) (by omega)]
 obtain ⟨y,i2,h2,e2,o2,y0,y1,_⟩:=eZ _ ho ((t.length:Int)+1)
 have e2':bH (c.1,i,h) ((t.length:Int)+1)=_:=e2
 rw [aM e2']
 have:=y1 (by omega)
 exact ⟨t,y,i2,h2,rfl,o2,t1,t2,y0,by omega⟩
theorem aAi {r:Int} (h:sX r):adm r=true:=by
 have hp:∀ x,aAx x→adm x=true:=by
  intro x hx
  have:pr x=true:=by
   unfold pr
   rcases hx with h | h | h | h
   ·
    simp only [List.mem_cons,List.not_mem_nil,or_false] at h
    rcases h with h | h | h | h | h | h | h | h | h | h | h | h | h | h | h | h <;> subst h <;> decide
   ·
    exact decide_eq_true (by omega)
   ·
    exact decide_eq_true (by omega)
   ·
    exact decide_eq_true (by omega)
  unfold adm;rw [this];rfl
 rcases h with h | h | h | h
 ·
  exact hp r h
 ·
  subst h;decide
 ·
  subst h;decide
 ·
  exact hp r (.inr (.inl (by omega)))
theorem aG7 {t:List Int} (h:∀ r ∈ t,sX r) (hl:t.length≤400):cC t=true:=by
 unfold cC
 rw [Bool.and_eq_true]
 exact ⟨List.all_eq_true.2 fun r hr=>aAi (h r hr),decide_eq_true hl⟩
theorem zG (c:List UInt8×Int×Int):∀ (m:Nat) (n:Int) (r:List (List Int)) (i h:Int),eO (c.1,i,h)→0≤n→n≤100→dA r=true→n<m →
  ∃ r' i' h',bI (hX c fun (x41,x44,x45)=>some (x41,(c.1,x44,x45))) m (n,r,i,h)=some (r',(c.1,i',h'))∧eO (c.1,i',h')∧dA r'=true:=by
 intro m
 induction m with
 | zero=>intro n r i h _ _ _ _ hm;omega
 | succ m ih=>
  intro n r i h hc hn hn' hr hm
  simp only [bI,hX,Bool.cond_decide]
  by_cases h1:0<n
  ·
   rw [if_pos h1]
   obtain ⟨t,i2,h2,e,o2,t1,t2⟩:=aIj _ hc 5 (by omega) (by omega)
   have e':fC (c.1,i,h) 5=some (t,(c.1,i2,h2)):=e
   rw [aM e']
   obtain ⟨y,i3,h3,e3,o3,y0,y1,_⟩:=eZ _ o2 3
   have e3':bH (c.1,i2,h2) 3=some (y,(c.1,i3,h3)):=e3
   have y1:=y1 (by omega)
   simp only
   rw [aM e3']
   have ha:=aG7 t2 (by omega)
   rw [aM (aGy r t y hr ha (by omega)),bR (by omega) (by omega)]
   exact ih (n - 1) _ i3 h3 o3 (by omega) (by omega) (qX hr ha) (by omega)
  ·
   rw [if_neg h1]
   exact ⟨r,i,h,rfl,hc,hr⟩
theorem aCt (c:List UInt8×Int×Int) (hc:eO c):∃ r i h,kN c=some (r,(c.1,i,h))∧eO (c.1,i,h)∧dA r=true:=by
 unfold kN
 obtain ⟨y,i,h,e,ho,y0,y1,_⟩:=eZ _ hc 8
 have e':bH c 8=_:=e
 rw [aM e']
 have y1:=y1 (by omega)
 simp only [aY]
 exact zG c bO y [] i h ho y0 (by omega) (by decide) (by rw [bW];omega)
theorem aJs (c:List UInt8×Int×Int) (hc:eO c):∃ y i h,kQ c=some (y,(c.1,i,h))∧eO (c.1,i,h)∧1≤y.length∧y.length≤16:=by
 unfold kQ
 obtain ⟨y,i,h,e,ho,y0,y1,_⟩:=eZ _ hc 12
 have e':bH c 12=_:=e
 rw [aM e']
 have y1:=y1 (by omega)
 simp only [aI]
 rw [if_pos ⟨y0,y1⟩]
 refine ⟨_,i,h,rfl,ho,?_⟩
 have key:∀ t ∈ (([([108,115]:List UInt8),([101,99,104,111,32,97]:List UInt8),([99,97,116,32,98]:List UInt8),([97,32,124,32,98]:List UInt8),([120,61,49]:List UInt8),([105,102,32,97,59,32,116,104,101,110,32,98,59,32,102,105]:List UInt8),([101,99,104,111,32,39,97,10,98,39]:List UInt8),([109,97,107,101]:List UInt8),([108,115,32,45,108]:List UInt8),([101,99,104,111,32,195,169]:List UInt8),([103,105,116,32,108,111,103]:List UInt8),([119]:List UInt8)]:List (List UInt8))),1≤t.length∧t.length≤16:=by decide
 exact key _ (List.mem_of_getElem? (bD ⟨y0,y1⟩))
theorem aLe {h:Int×List (List UInt8)} (h1:1≤h.1∧h.1≤1000000000∧(h.2.length:Int)≤60) (h2:∀ s ∈ h.2,1≤s.length∧s.length≤16):hOk h=true:=by
 unfold hOk
 simp only [Bool.and_eq_true,decide_eq_true_eq,List.all_eq_true]
 exact ⟨h1,fun s hs=>by have:=h2 s hs;omega⟩
def sA (h:Int×List (List UInt8)):Prop:=(1≤h.1∧h.1≤1000∧(h.2.length:Int)≤60)∧∀ s ∈ h.2,1≤s.length∧s.length≤16
theorem sA.ok {h:Int×List (List UInt8)} (hd:sA h):hOk h=true:=aLe ⟨hd.1.1,by have:=hd.1.2.1;omega,hd.1.2.2⟩ hd.2
theorem aFj (h:Int×List (List UInt8)) (hd:sA h) (h9:h.1<1000) (t:List UInt8) (ht:1≤t.length∧t.length≤16):∃ h',mQ h t=some (h',true)∧sA h'∧h'.1≤h.1+1:=by
 have hok:=hd.ok
 obtain ⟨⟨d1,d2,d3⟩,d4⟩:=hd
 unfold mQ
 have g1:([]:List (List UInt8)).length+h.2.length≤536870912:=by simp;omega
 have g2:(([]:List (List UInt8)) ++ h.2).length+([t]:List (List UInt8)).length≤536870912:=by simp;omega
 have g3:h.2.length+([t]:List (List UInt8)).length≤536870912:=by simp;omega
 simp only [aY,aI,g1,g2,g3,if_true,List.nil_append,Bool.cond_decide]
 have hall:∀ s ∈ h.2 ++ [t],1≤s.length∧s.length≤16:=by
  intro s hs
  rcases List.mem_append.1 hs with hs | hs
  ·
   exact d4 s hs
  ·
   simp only [List.mem_singleton] at hs;subst hs;exact ht
 have fin:∀ h':Int×List (List UInt8),sA h'→(aH (fW h) fun (y30:Bool)=>
   (bU ((!y30)=false) (fW (h'.1,h'.2)) false fun (y32:Bool)=>
   (bif (bif (!y30) then true else (!y32)) then some ((0,[]),false) else some ((h'.1,h'.2),true))))=some (h',true):=by
  intro h' hd'
  rw [aM (xH h (by omega)),hok]
  have:=xH h' (by have:=hd'.1.2.2;omega)
  rw [hd'.ok] at this
  have this':fW (h'.1,h'.2)=some true:=this
  rw [this']
  simp [bU,aH]
 by_cases hc:60<((h.2 ++ [t]).length:Int)
 ·
  rw [if_pos hc,if_pos ⟨by omega,by omega,by omega⟩,bR (by omega) (by omega),aA4 (by omega)]
  refine ⟨(h.1+1,(h.2 ++ [t]).drop 1),fin (h.1+1,(h.2 ++ [t]).drop 1) ?_,?_,by simp⟩
  all_goals exact ⟨⟨by simp only;omega,by simp only;omega,by simp only [List.length_drop,List.length_append,List.length_cons,List.length_nil];omega⟩,fun s hs=>hall s (List.mem_of_mem_drop hs)⟩
 ·
  rw [if_neg hc]
  have hD:sA (h.1,h.2 ++ [t]):=⟨⟨d1,d2,by simp only;omega⟩,hall⟩
  exact ⟨(h.1,h.2 ++ [t]),fin (h.1,h.2 ++ [t]) hD,hD,by simp only;omega⟩
theorem zR (c:List UInt8×Int×Int):∀ (m:Nat) (n f:Int) (ls:List (List UInt8)) (i h:Int),eO (c.1,i,h)→0≤n→n≤100→sA (f,ls)→f+n≤900→n<m →
  ∃ r i' h',bI (fQ c fun (x53,x54,x57,x58)=>some ((x53,x54),(c.1,x57,x58))) m (n,f,ls,i,h)=some (r,(c.1,i',h'))∧eO (c.1,i',h')∧sA r∧r.1≤f+n:=by
 intro m
 induction m with
 | zero=>intro n f ls i h _ _ _ _ _ hm;omega
 | succ m ih=>
  intro n f ls i h hc hn hn' hd hf hm
  simp only [bI,fQ,Bool.cond_decide]
  by_cases h1:0<n
  ·
   rw [if_pos h1]
   obtain ⟨t,i2,h2,e,o2,t1,t2⟩:=aJs _ hc
   have e':kQ (c.1,i,h)=some (t,(c.1,i2,h2)):=e
   rw [aM e']
   obtain ⟨h',e3,d3,l3⟩:=aFj (f,ls) hd (by simp only;omega) t ⟨t1,t2⟩
   have l3':h'.1≤f+1:=l3
   rw [aM e3,bR (by omega) (by omega)]
   obtain ⟨r,i',h'',r1,r2,r3,r4⟩:=ih (n - 1) h'.1 h'.2 i2 h2 o2 (by omega) (by omega) d3 (by omega) (by omega)
   exact ⟨r,i',h'',r1,r2,r3,by omega⟩
  ·
   rw [if_neg h1]
   exact ⟨(f,ls),i,h,rfl,hc,hd,by simp only;omega⟩
theorem aDk (c:List UInt8×Int×Int) (hc:eO c):∃ r i h,kM c=some (r,(c.1,i,h))∧eO (c.1,i,h)∧sA r∧r.1<1000:=by
 unfold kM
 obtain ⟨y,i,h,e,ho,y0,y1,_⟩:=eZ _ hc 5
 have e':bH c 5=_:=e
 rw [aM e']
 have y1:=y1 (by omega)
 obtain ⟨z,i2,h2,e2,o2,z0,z1,_⟩:=eZ _ ho 8
 simp only
 rw [aM e2]
 have z1:=z1 (by omega)
 obtain ⟨v,i3,h3,e3,o3,v0,v1,_⟩:=eZ _ o2 12
 simp only [aY,Bool.cond_decide]
 rw [aM e3]
 have fin:∀ n i h,0≤n→n≤62→eO (c.1,i,h)→∃ r i' h',bI (fQ c fun (x53,x54,x57,x58)=>some ((x53,x54),(c.1,x57,x58))) bO (n,(W (1+y)),([]:List (List UInt8)),i,h)=some (r,(c.1,i',h'))∧eO (c.1,i',h')∧sA r∧r.1<1000:=by
  intro n i h hn hn' hcu
  rw [bR (by omega) (by omega)]
  obtain ⟨r,i',h',r1,r2,r3,r4⟩:=zR c bO n (1+y) [] i h hcu hn (by omega) ⟨⟨by simp only;omega,by simp only;omega,by simp⟩,by simp⟩ (by omega) (by rw [bW];omega)
  exact ⟨r,i',h',r1,r2,r3,by omega⟩
 simp only
 split
 ·
  obtain ⟨u,i4,h4,e4,o4,u0,u1,_⟩:=eZ _ o3 4
  have u1:=u1 (by omega)
  rw [aM e4]
  rw [bR (x:=59+u) (by omega) (by omega)]
  exact fin (59+u) i4 h4 (by omega) (by omega) o4
 ·
  exact fin z i3 h3 z0 (by omega) o3
theorem aBr (l:List UInt8) (hl:(l.length:Int)≤1048576):∃ (t:List Int) (a n:Int) (r:List (List Int)) (h:Int×List (List UInt8)),
  jI l=some ((false,0,(t,a),0,0,0,0,0,0,n,r,[],0,([],0),[],0,([],0)),h)∧(t.length:Int)≤16∧(∀ x ∈ t,sX x)∧0≤a∧a≤(t.length:Int)∧dA r=true∧0≤n∧n<4∧sA h:=by
 unfold jI
 obtain ⟨h0,e0,o0⟩:=aLa l hl
 rw [aM e0]
 have en:sJ false=some (false,0,([],0),0,0,0,0,0,0,0,[],[],0,([],0),[],0,([],0)):=rfl
 rw [aM en]
 obtain ⟨t,a,i,h,e,ho,t1,t2,a0,a1⟩:=aFf _ o0
 have e':kP (l,0,h0)=some ((t,a),(l,i,h)):=e
 simp only
 rw [aM e']
 obtain ⟨r,i2,h2,e2,o2,r1⟩:=aCt _ ho
 have e2':kN (l,i,h)=some (r,(l,i2,h2)):=e2
 simp only
 rw [aM e2']
 obtain ⟨n,i3,h3,e3,o3,n0,n1,_⟩:=eZ _ o2 4
 have e3':bH (l,i2,h2) 4=some (n,(l,i3,h3)):=e3
 simp only
 rw [aM e3']
 obtain ⟨hh,i4,h4,e4,o4,d,_⟩:=aDk _ o3
 have e4':kM (l,i3,h3)=some (hh,(l,i4,h4)):=e4
 simp only
 rw [aM e4']
 exact ⟨t,a,n,r,hh,rfl,t1,t2,a0,a1,r1,n0,n1 (by omega),d⟩
def spl (c:UInt8):List UInt8→List (List UInt8)
 | []=>[[]]
 | b :: l=>if b=c then [] :: spl c l else match spl c l with
  | []=>[[b]]
  | x :: xs=>(b :: x) :: xs
theorem zY (c:UInt8):∀ (l:List UInt8),(Lib.indexByte l c = -1∧spl c l=[l]∧l.count c=0) ∨
  ∃ p:Nat,Lib.indexByte l c=p∧p<l.length∧spl c l=l.take p :: spl c (l.drop (p+1))∧l.count c=(l.drop (p+1)).count c+1
 | []=>.inl ⟨rfl,rfl,rfl⟩
 | b :: l=>by
  by_cases h:b=c
  ·
   subst h
   refine .inr ⟨0,by simp [Lib.indexByte],by simp,?_,?_⟩
   ·
    simp [spl]
   ·
    simp
  ·
   have hb:(b == c)=false:=by simpa using h
   rcases zY c l with ⟨h1,h2,h3⟩ | ⟨p,h1,h2,h3,h4⟩
   ·
    refine .inl ⟨?_,?_,?_⟩
    ·
     simp [Lib.indexByte,hb,h1]
    ·
     simp [spl,h,h2]
    ·
     rw [List.count_cons,h3];simp [h]
   ·
    refine .inr ⟨p+1,?_,?_,?_,?_⟩
    ·
     have:¬ ((p:Int) = -1):=by omega
     simp [Lib.indexByte,hb,h1,this]
    ·
     simp;omega
    ·
     simp [spl,h,h3]
    ·
     rw [List.count_cons,h4];simp [h]
theorem aHx (a:List (List UInt8)) (s:List UInt8) (i:Nat) (hi:i<a.length):bC (List.set a i s) 0 ((i:Int)+1)=a.take i ++ [s]:=by
 unfold bC
 have e1:((i:Int)+1).toNat=i+1:=by omega
 simp only [Int.toNat_zero,List.drop_zero,Nat.sub_zero,e1]
 rw [List.take_set,List.take_succ_eq_append_getElem hi,List.set_append_right _ _ (by simp;omega)]
 simp only [List.length_take,Nat.min_eq_left (show i≤a.length by omega),Nat.sub_self,List.set_cons_zero]
theorem aGv (a:List (List UInt8)) (s:List UInt8) (i:Nat) (hi:i<a.length):(List.set a i s).take (i+1)=a.take i ++ [s]:=by
 rw [List.take_set,List.take_succ_eq_append_getElem hi,List.set_append_right _ _ (by simp;omega)]
 simp only [List.length_take,Nat.min_eq_left (show i≤a.length by omega),Nat.sub_self,List.set_cons_zero]
theorem aIt (x0:List UInt8) (c:UInt8) (n:Nat) (hx:(x0.length:Int)≤1048576) (hn:(n:Int)=x0.count c+1) (j:List UInt8×List (List UInt8)×Int→Option (List (List UInt8)))
  (hj:∀ (s:List UInt8) (a:List (List UInt8)) (i:Nat),a.length=n→i<n→j (s,a,(i:Int))=some (a.take i ++ [s])) :
  ∀ (m:Nat) (s:List UInt8) (a:List (List UInt8)) (i:Nat),a.length=n→n=i+s.count c+1→s.length≤x0.length→(s.count c:Int)<m→0<m →
  bI (dV x0 [c] 0 (n:Int) j) m (s,a,(i:Int))=some (a.take i ++ spl c s):=by
 have hcn:=List.count_le_length (a:=c) (l:=x0)
 have hmin:min (n:Int) (W ((x0.length:Int)+1))=n:=by rw [bR (by omega) (by omega)];omega
 intro m
 induction m with
 | zero=>intro s a i _ _ _ h h';omega
 | succ m ih=>
  intro s a i ha hi hs hm _
  simp only [bI,dV,aI,Bool.cond_decide,hmin]
  have w1:W ((n:Int) - 1)=(n:Int) - 1:=bR (by omega) (by omega)
  have w2:W ((i:Int)+1)=(i:Int)+1:=bR (by omega) (by omega)
  rw [w1]
  rcases zY c s with ⟨h1,h2,h3⟩ | ⟨p,h1,h2,h3,h4⟩
  ·
   rw [if_neg (by omega),hj _ _ _ ha (by omega),h2]
  ·
   rw [if_pos (by omega)]
   simp only [mX,aH,h1]
   have w3:W ((p:Int)+0)=p:=by rw [bR (by omega) (by omega)];omega
   have w4:W ((p:Int)+(([c]:List UInt8).length:Int))=p+1:=by rw [bR (by simp;omega) (by simp;omega)];simp
   rw [w3,w4,if_neg (by omega),if_pos ⟨by omega,by omega,by omega⟩,if_pos ⟨by omega,by omega⟩,if_pos ⟨by omega,by omega,by omega⟩,w2]
   have e1:bC s ((p:Int)+1) (s.length:Int)=s.drop (p+1):=by
    rw [aA4 (by omega)];congr 1
   have e2:bC s 0 (p:Int)=s.take p:=by unfold bC;simp
   have e3:(((i+1:Nat)):Int)=(i:Int)+1:=by omega
   rw [e1,e2,← e3]
   rw [ih (s.drop (p+1)) _ (i+1) (by simpa using ha) (by omega) (by simp;omega) (by omega) (by omega),h3]
   simp only [Int.toNat_natCast]
   rw [aGv _ _ _ (by omega),List.append_assoc]
   rfl
theorem xD (x0:List UInt8) (c:UInt8) (hx:(x0.length:Int)≤1048576):eJ x0 [c]=some (spl c x0):=by
 have hcn:=List.count_le_length (a:=c) (l:=x0)
 have hg:eR x0 [c] 0 (-1)=some (spl c x0):=by
  unfold eR
  simp only [aY,Bool.cond_decide,mY,aH,Lib.countByte,aI]
  have w1:W (((x0.count c:Nat):Int)+1)=((x0.count c+1:Nat):Int):=by rw [bR (by omega) (by omega)];omega
  have hmin:min ((x0.count c+1:Nat):Int) (W ((x0.length:Int)+1))=((x0.count c+1:Nat):Int):=by rw [bR (x:=(x0.length:Int)+1) (by omega) (by omega)];omega
  rw [if_neg (by decide),if_neg (by simp),if_pos (by decide),w1,hmin,if_pos ⟨by omega,by omega⟩]
  have e1:(List.replicate (((x0.count c+1:Nat):Int).toNat) ([]:List UInt8)).length=x0.count c+1:=by simp
  refine Eq.trans (aIt x0 c (x0.count c+1) hx (by omega) _ (fun s a i ha hi=>?_) bO x0 _ 0 e1 (by omega) (by omega) (by rw [bW];omega) (by rw [bW];omega)) (by simp)
  have w2:W ((i:Int)+1)=(i:Int)+1:=bR (by omega) (by omega)
  simp only [w2]
  rw [if_pos ⟨by omega,by omega⟩,if_pos ⟨by omega,by omega,by simp;omega⟩]
  congr 1
  exact aHx a s i (by omega)
 unfold eJ
 rw [aM hg]
def yU:List (List UInt8):=spl 32 [69,78,84,69,82,32,66,65,67,75,32,84,65,66,32,69,83,67,32,85,80,32,68,79,87,78,32,82,73,71,72,84,32,76,69,70,84,32,72,79,77,69,32,69,78,68,32,68,69,76,69,84,69,32,77,66,65,67,75,32,66,65,68]
theorem aJt (r:Int):kD [r]=some (enc r):=by
 unfold kD
 obtain ⟨m,hm⟩:∃ m,bO=m+1+1:=⟨bO - 2,by rw [bW]⟩
 have hl:=aF8 r
 have a0:at' [r] 0=r:=rfl
 simp only [aY]
 rw [hm]
 simp only [bI,mH,aI,Bool.cond_decide,wA,aH,a0]
 rw [if_pos (by simp),if_pos (by simp),if_pos (by simp;omega),bR (by omega) (by omega),if_neg (by simp)]
 simp
def aDc (k:Int×Int):List UInt8:=
 if kOk k=false then []
 else if k.1=1 then (if k.2=32 then [83,80,67] else enc k.2)
 else if k.1=2 then [67,45] ++ enc k.2
 else if k.1=3 then [77,45] ++ enc k.2
 else at' yU (k.1 - 4)
theorem aHa (k:Int×Int):iK k=some (aDc k):=by
 unfold iK aDc
 rw [aM (aBs k)]
 have hl:=aF8 k.2
 cases hk:kOk k with
 | false=>simp
 | true=>
  simp only [Bool.not_true,cond_false,Bool.cond_decide,aJt,aH,aI,Bool.true_eq_false,if_false]
  by_cases h1:k.1=1
  ·
   rw [if_pos h1,if_pos h1]
   split <;> rfl
  rw [if_neg h1,if_neg h1]
  by_cases h2:k.1=2
  ·
   rw [if_pos h2,if_pos h2,if_pos (by simp;omega)]
  rw [if_neg h2,if_neg h2]
  by_cases h3:k.1=3
  ·
   rw [if_pos h3,if_pos h3,if_pos (by simp;omega)]
  rw [if_neg h3,if_neg h3]
  unfold kOk at hk
  rw [if_neg h1,if_neg h2,if_neg h3] at hk
  have hk:=of_decide_eq_true hk
  have hs:=xD ([69,78,84,69,82,32,66,65,67,75,32,84,65,66,32,69,83,67,32,85,80,32,68,79,87,78,32,82,73,71,72,84,32,76,69,70,84,32,72,79,77,69,32,69,78,68,32,68,69,76,69,84,69,32,77,66,65,67,75,32,66,65,68]:List UInt8) 32 (by decide)
  rw [hs]
  have hn:yU.length=13:=by decide +kernel
  simp only
  have e:spl 32 ([69,78,84,69,82,32,66,65,67,75,32,84,65,66,32,69,83,67,32,85,80,32,68,79,87,78,32,82,73,71,72,84,32,76,69,70,84,32,72,79,77,69,32,69,78,68,32,68,69,76,69,84,69,32,77,66,65,67,75,32,66,65,68]:List UInt8)=yU:=rfl
  rw [e,bR (by omega) (by omega),if_pos ⟨by omega,by omega⟩]
def aF6 (s:List UInt8):List (List UInt8)→Int→Option Int
 | [],_=>none
 | x :: t,i=>if x=s then some i else aF6 s t (i+1)
theorem aA1 (s:List UInt8) (ys:List (List UInt8)) (hy:(ys.length:Int)≤1000) (j:Unit→Option ((Int×Int)×Bool)):∀ (m:Nat) (k:Int),0≤k→k≤(ys.length:Int)→(ys.length:Int) - k<m →
  bI (iG s ys j) m k=match aF6 s (ys.drop k.toNat) k with
   | some i=>some ((4+i,0),true)
   | none=>j ():=by
 intro m
 induction m with
 | zero=>intro k _ _ h;omega
 | succ m ih=>
  intro k h0 h1 hm
  simp only [bI,iG,aI,Bool.cond_decide]
  by_cases h:k<(ys.length:Int)
  ·
   rw [if_pos h,if_pos ⟨h0,h⟩,fU h0 h,bR (by omega) (by omega),bR (by omega) (by omega)]
   simp only [aF6]
   by_cases q:at' ys k=s
   ·
    rw [if_pos q,if_pos q]
   ·
    rw [if_neg q,if_neg q]
    exact ih (k+1) (by omega) (by omega) (by omega)
  ·
   rw [if_neg h,List.drop_eq_nil_of_le (by omega)]
   rfl
def zV (s:List UInt8) (k:Int×Int):(Int×Int)×Bool:=if aDc k=s then (k,true) else ((0,0),false)
def aEf (s:List UInt8):(Int×Int)×Bool:=match aF6 s yU 0 with
 | some i=>((4+i,0),true)
 | none=>
  if (fH s).2=false∨(fH s).1.length=0 then ((0,0),false)
  else if s=[83,80,67] then ((1,32),true)
  else if (fH s).1.length=1 then zV s (1,at' (fH s).1 0)
  else if (fH s).1.length=3∧bC s 0 2=[67,45] then zV s (2,at' (fH s).1 2)
  else if (fH s).1.length=3∧bC s 0 2=[77,45] then zV s (3,at' (fH s).1 2)
  else zV s (0,0)
theorem aGw (s:List UInt8):(fH s).1.length≤s.length:=by
 unfold fH
 split
 ·
  simp
 ·
  split
  ·
   rename_i l hl
   exact vG _ _ _ hl
  ·
   simp
theorem aGp (s:List UInt8):mS s=some (aEf s):=by
 unfold mS aEf
 have hs:=xD ([69,78,84,69,82,32,66,65,67,75,32,84,65,66,32,69,83,67,32,85,80,32,68,79,87,78,32,82,73,71,72,84,32,76,69,70,84,32,72,79,77,69,32,69,78,68,32,68,69,76,69,84,69,32,77,66,65,67,75,32,66,65,68]:List UInt8) 32 (by decide)
 have e:spl 32 ([69,78,84,69,82,32,66,65,67,75,32,84,65,66,32,69,83,67,32,85,80,32,68,79,87,78,32,82,73,71,72,84,32,76,69,70,84,32,72,79,77,69,32,69,78,68,32,68,69,76,69,84,69,32,77,66,65,67,75,32,66,65,68]:List UInt8)=yU:=rfl
 have hn:yU.length=13:=by decide +kernel
 rw [e] at hs
 rw [aM hs]
 simp only [aY]
 rw [aA1 s yU (by omega) _ bO 0 (by omega) (by omega) (by rw [bW];omega)]
 simp only [Int.toNat_zero,List.drop_zero]
 split
 ·
  rfl
 have hle:=aGw s
 have fin:∀ k:Int×Int,(aH (iK (k.1,k.2)) fun (y61:List UInt8)=>(bif (!(decide (y61=s))) then some ((0,0),false) else some ((k.1,k.2),true)))=some (zV s k):=by
  intro k
  have:iK (k.1,k.2)=some (aDc k):=aHa k
  rw [aM this]
  unfold zV
  by_cases q:aDc k=s <;> simp [q]
 rw [aM (zZ s)]
 obtain ⟨r,hr⟩:∃ r,r=fH s:=⟨_,rfl⟩
 rw [← hr] at hle ⊢
 obtain ⟨l,ok⟩:=r
 simp only at hle ⊢
 cases ok with
 | false=>simp
 | true=>
  by_cases h0:l.length=0
  ·
   have h0':(l.length:Int)=0:=by omega
   simp [h0,h0']
  have h0':¬ ((l.length:Int)=0):=by omega
  simp only [Bool.not_true,cond_false,Bool.cond_decide,h0',if_false,aI,h0,or_self,Bool.true_eq_false]
  by_cases hS:s=[83,80,67]
  ·
   rw [if_pos hS,if_pos hS]
  rw [if_neg hS,if_neg hS]
  by_cases h1:l.length=1
  ·
   have h1':(l.length:Int)=1:=by omega
   rw [if_pos h1,if_pos h1',if_pos (by omega)]
   exact fin (1,at' l 0)
  have h1':¬ ((l.length:Int)=1):=by omega
  rw [if_neg h1,if_neg h1',if_pos (by intro h;simp at h;omega)]
  by_cases h3:l.length=3
  ·
   have h3':(l.length:Int)=3:=by omega
   have e3:(l.length=3)=True:=eq_true h3
   simp only [e3,h3',true_and,if_true]
   by_cases hC:bC s 0 2=[67,45]
   ·
    rw [decide_eq_true hC,cond_true,if_pos hC,if_pos (by omega)]
    exact fin (2,at' l 2)
   rw [decide_eq_false hC,cond_false,if_neg hC,if_pos (by intro;omega)]
   by_cases hM:bC s 0 2=[77,45]
   ·
    rw [decide_eq_true hM,cond_true,if_pos hM,if_pos (by omega)]
    exact fin (3,at' l 2)
   rw [decide_eq_false hM,cond_false,if_neg hM]
   exact fin (0,0)
  ·
   have h3':¬ ((l.length:Int)=3):=by omega
   have e3:(l.length=3)=False:=eq_false h3
   simp only [e3,h3',false_and,if_false,cond_false,decide_false,Bool.false_eq_true,false_imp_iff,if_true]
   exact fin (0,0)
theorem xG (l:List Int) (hl:(l.length:Int)≤100000000):fX l l=some true:=by
 have loop:∀ (m:Nat) (k:Int),0≤k→k≤(l.length:Int)→(l.length:Int) - k<m→bI (gE l l fun _=>some true) m k=some true:=by
  intro m
  induction m with
  | zero=>intro k _ _ h;omega
  | succ m ih=>
   intro k h0 hk hm
   simp only [bI,gE,aI]
   by_cases h:k<(l.length:Int)
   ·
    rw [decide_eq_true h,cond_true,if_pos ⟨h0,h⟩,if_pos ⟨h0,h⟩,decide_true,Bool.not_true,cond_false,bR (by omega) (by omega)]
    exact ih _ (by omega) (by omega) (by omega)
   ·
    rw [decide_eq_false h,cond_false]
 unfold fX
 rw [decide_eq_true rfl,Bool.not_true,cond_false]
 exact loop bO 0 (by omega) (by omega) (by rw [bW];omega)
def oN (h:Int×List (List UInt8)):List (Int×Int)→EdT→EdT×List Int
 | [],e=>(e,[])
 | k :: ks,e=>((oN h ks (lF h k e).1).1,(lF h k e).2 :: (oN h ks (lF h k e).1).2)
def rR (h:Int×List (List UInt8)):List (Int×Int)→EdT→Prop
 | [],_=>True
 | k :: ks,e=>kOk k=true∧cX e=true∧e.2.1=0∧rR h ks (lF h k e).1
theorem aKf (e:EdT) (hv:cX e=true) (h:Int×List (List UInt8)) (hh:(h.2.length:Int)≤1048576) (ho:hOk h=true) (k:Int×Int) (hk:kOk k=true) (hm:e.2.1=0):pL e h k=some (lF h k e):=by
 unfold pL
 rw [decide_eq_true hm,cond_true]
 exact aQ (aLt e hv h hh ho k hk hm) rfl
theorem aDz (h:Int×List (List UInt8)):∀ (ks:List (Int×Int)) (e:EdT),rR h ks e→∀ k ∈ ks,kOk k=true
 | [],_,_,_,hk=>by cases hk
 | k :: ks,e,hc,k',hk=>by
  rcases List.mem_cons.1 hk with rfl | hk
  ·
   exact hc.1
  ·
   exact aDz h ks _ hc.2.2.2 k' hk
theorem aDu (t:List (Int×Int)) (ht:t.length≤400) (hr:∀ k ∈ t,kOk k=true) (j:Unit→Option (EdT×List Int)):∀ (m:Nat) (k:Int),0≤k→k≤(t.length:Int)→(t.length:Int) - k<m →
  bI (jS t j) m k=j ():=by
 intro m
 induction m with
 | zero=>intro k _ _ h;omega
 | succ m ih=>
  intro k h0 h1 hm
  simp only [bI,jS,aI,Bool.cond_decide]
  by_cases hk:k<(t.length:Int)
  ·
   rw [if_pos hk,if_pos ⟨h0,hk⟩,bR (by omega) (by omega),aBs,hr _ (List.mem_of_getElem? (bD ⟨h0,hk⟩))]
   exact ih (k+1) (by omega) (by omega) (by omega)
  ·
   rw [if_neg hk]
theorem aDt (h:Int×List (List UInt8)) (hh:(h.2.length:Int)≤1048576) (ho:hOk h=true) (t:List (Int×Int)) (ht:t.length≤400) (j:List Int×EdT→Option (EdT×List Int)) :
  ∀ (m:Nat) (k:Nat) (acts:List Int) (e:EdT),k≤t.length→acts.length=k→rR h (t.drop k) e→t.length - k<m →
  bI (jR h t j) m (acts,(k:Int),e.1,e.2.1,e.2.2.1.1,e.2.2.1.2,e.2.2.2.1,e.2.2.2.2.1,e.2.2.2.2.2.1,e.2.2.2.2.2.2.1,e.2.2.2.2.2.2.2.1,e.2.2.2.2.2.2.2.2.1,e.2.2.2.2.2.2.2.2.2.1,e.2.2.2.2.2.2.2.2.2.2.1,e.2.2.2.2.2.2.2.2.2.2.2.1,e.2.2.2.2.2.2.2.2.2.2.2.2.1,e.2.2.2.2.2.2.2.2.2.2.2.2.2.1.1,e.2.2.2.2.2.2.2.2.2.2.2.2.2.1.2,e.2.2.2.2.2.2.2.2.2.2.2.2.2.2.1,e.2.2.2.2.2.2.2.2.2.2.2.2.2.2.2.1,e.2.2.2.2.2.2.2.2.2.2.2.2.2.2.2.2.1,e.2.2.2.2.2.2.2.2.2.2.2.2.2.2.2.2.2)=j (acts ++ (oN h (t.drop k) e).2,(oN h (t.drop k) e).1):=by
 intro m
 induction m with
 | zero=>intro k _ _ _ _ _ h;omega
 | succ m ih=>
  intro k acts e h1 ha hc hm
  simp only [bI,jR,aI,Bool.cond_decide]
  by_cases hk:k<t.length
  ·
   have hd:t.drop k=t[k] :: t.drop (k+1):=List.drop_eq_getElem_cons hk
   have hat:at' t (k:Int)=t[k]:=by
    have h2:=bD (xs:=t) (i:=(k:Int)) ⟨by omega,by omega⟩
    rw [Int.toNat_natCast,List.getElem?_eq_getElem hk] at h2
    exact (Option.some.inj h2).symm
   rw [hd] at hc
   obtain ⟨c1,c2,c3,c4⟩:=hc
   have:=ih (k+1) (acts ++ [(lF h t[k] e).2]) (lF h t[k] e).1 hk (by simp [ha]) c4 (by omega)
   rw [if_pos (show (k:Int)<(t.length:Int) by omega),if_pos ⟨by omega,by omega⟩,bR (by omega) (by omega),hat,hd]
   refine aQ (aKf e c2 h hh ho _ c1 c3) ?_
   refine Eq.trans (if_pos (by simp;omega)) ?_
   refine Eq.trans this ?_
   simp only [oN,List.append_assoc,List.singleton_append]
  ·
   rw [if_neg (show ¬ (k:Int)<(t.length:Int) by omega)]
   have hd:t.drop k=[]:=List.drop_eq_nil_of_le (by omega)
   rw [hd]
   simp only [oN,List.append_nil]
theorem aLu (h:Int×List (List UInt8)) (hh:(h.2.length:Int)≤1048576) (ho:hOk h=true) (t:List (Int×Int)) (ht:t.length≤400) (e:EdT) (hv:cX e=true) (hc:rR h t e) :
  oF e h t=some (oN h t e):=by
 unfold oF
 have hs:=aEm e hv
 rw [aM (aB3 e (nO (by omega) hs)),hv,qB h hh,ho,nK (show (!true)=false from rfl)]
 simp only [aY]
 have l1:=aDu t ht (aDz h t e hc)
 refine (l1 _ bO 0 (by omega) (by omega) (by rw [bW];omega)).trans ?_
 have l2:=aDt h hh ho t ht (fun (x242,x245)=>some (x245,x242)) bO 0 [] e (by omega) rfl (by simpa using hc) (by rw [bW];omega)
 refine aQ (rP e hv) (l2.trans ?_)
 simp only [List.drop_zero,List.nil_append]
theorem aEd (ys:List (List UInt8)) (hy:ys.length≤400) (hk:∀ y ∈ ys,(aEf y).2=true) (j:List (Int×Int)→Option (EdT×List Int)):∀ (m:Nat) (k:Int),0≤k→k≤(ys.length:Int)→(ys.length:Int) - k<m →
  bI (iN ys j) m ((ys.take k.toNat).map (fun y=>(aEf y).1),k)=j (ys.map fun y=>(aEf y).1):=by
 intro m
 induction m with
 | zero=>intro k _ _ h;omega
 | succ m ih=>
  intro k h0 h1 hm
  simp only [bI,iN,aI,Bool.cond_decide]
  by_cases hk':k<(ys.length:Int)
  ·
   have hmem:=List.mem_of_getElem? (bD (xs:=ys) ⟨h0,hk'⟩)
   have ht:=hk _ hmem
   rw [if_pos hk',if_pos ⟨h0,hk'⟩,bR (by omega) (by omega)]
   refine aQ (aGp _) ?_
   simp only [ht,Bool.not_true,cond_false]
   rw [if_pos (by simp;omega)]
   have hg:=bD (xs:=ys) ⟨h0,hk'⟩
   have htk:ys.take k.toNat ++ [at' ys k]=ys.take (k+1).toNat:=by
    rw [show (k+1).toNat=k.toNat+1 by omega,List.take_add_one,hg]
    rfl
   have:=ih (k+1) (by omega) (by omega) (by omega)
   rw [← htk,List.map_append] at this
   exact this
  ·
   rw [if_neg hk']
   obtain rfl:k=(ys.length:Int):=by omega
   rw [Int.toNat_natCast,List.take_length]
theorem aKn (h:Int×List (List UInt8)) (hh:(h.2.length:Int)≤1048576) (ho:hOk h=true) (s:List UInt8) (hs:(s.length:Int)≤1048576) (t:List (Int×Int)) (ys:List (List UInt8)) (hys:spl 32 s=ys) (hl:ys.length≤400) (hk:∀ y ∈ ys,(aEf y).2=true) (ht:(ys.map fun y=>(aEf y).1)=t) (e:EdT) (hv:cX e=true) (hc:rR h t e) :
  kX e h s=some (oN h t e):=by
 subst hys
 subst ht
 unfold kX
 have hp:pK s=some (spl 32 s):=by
  unfold pK
  rw [aM (xD s 32 hs)]
 rw [aM hp]
 simp only [aY]
 have l1:=aEd (spl 32 s) hl hk
 refine (l1 _ bO 0 (by omega) (by omega) (by rw [bW];omega)).trans ?_
 exact aQ (aLu h hh ho _ (by simpa using hl) e hv hc) rfl
theorem zW (t:List Int):bC t 0 (t.length:Int)=t:=by unfold bC;simp
theorem sE (l:List Int×Int) (n:Int) (e:EdT) (hm:e.2.1=0):(mL l n e).2.1=0∧(mL l n e).2.2.1=l∧dF (mL l n e)=dF e∧(mL l n e).2.2.2.2.2.2.2.2.2.1=n∧(mL l n e).2.2.2.1=0:=by
 obtain ⟨vi,mode,line,count,op,opc,wait,fr,fh,last,ring,undo,nav,own,query,hit,back⟩:=e
 obtain rfl:mode=0:=hm
 refine ⟨rfl,?_,rfl,rfl,rfl⟩
 show (l.1,jZ 0 l)=l
 unfold jZ
 rw [if_neg (by omega)]
theorem xL (r:List (List Int)) (e:EdT):(oX r e).2.1=e.2.1∧(oX r e).2.2.1=e.2.2.1∧dF (oX r e)=r∧(oX r e).2.2.2.2.2.2.2.2.2.1=e.2.2.2.2.2.2.2.2.2.1∧(oX r e).2.2.2.1=e.2.2.2.1:=by
 obtain ⟨vi,mode,line,count,op,opc,wait,fr,fh,last,ring,undo,nav,own,query,hit,back⟩:=e
 exact ⟨rfl,rfl,rfl,rfl,rfl⟩
theorem aA8 (n:Int) (e:EdT):(jB n e).2.1=e.2.1∧(jB n e).2.2.1=e.2.2.1:=by
 obtain ⟨vi,mode,line,count,op,opc,wait,fr,fh,last,ring,undo,nav,own,query,hit,back⟩:=e
 exact ⟨rfl,rfl⟩
theorem aKd (h:Int×List (List UInt8)) (e:EdT):lF h (2,97) e=goE 0 e:=rfl
theorem aKc (h:Int×List (List UInt8)) (e:EdT):lF h (2,107) e=qO e.2.2.1.2 (e.2.2.1.1.length:Int) 1 e:=rfl
theorem aKa (h:Int×List (List UInt8)) (e:EdT):lF h (2,121) e=vY e:=rfl
theorem aKb (h:Int×List (List UInt8)) (e:EdT):lF h (3,121) e=yS e:=rfl
theorem xO {t:List Int} (ht:cC t=true):qY ([],0) t=((t,(t.length:Int)),true):=by
 have hx:xN ([],0) t=(t,(t.length:Int)):=by simp [xN,bC]
 unfold qY
 rw [hx,if_pos (kK ht (by omega) (by omega))]
theorem aHq (h:Int×List (List UInt8)) (t:List Int) (a n:Int) (r:List (List Int)) (ht:cC t=true) (ha:0≤a∧a≤(t.length:Int)) (hr:dA r=true) (hn:0≤n∧n≤3)
  (e:EdT) (hv:cX e=true) (h1:e.2.2.1=(t,a)) (h2:dF e=r) (h3:e.2.1=0) :
  rR h [(2,97),(2,107),(2,121)] e∧(oN h [(2,97),(2,107),(2,121)] e).2.length=3∧cX (oN h [(2,97),(2,107),(2,121)] e).1=true ∧
  ((t.length:Int)=0→at' (oN h [(2,97),(2,107),(2,121)] e).2 1=1) ∧
  ((t.length:Int)≠0→(oN h [(2,97),(2,107),(2,121)] e).1.2.2.1=(t,(t.length:Int))∧dF (oN h [(2,97),(2,107),(2,121)] e).1=cZ r t 0 ∧
   (oN h [(2,97),(2,107),(2,121)] e).1.2.1=0∧(oN h [(2,97),(2,107),(2,121)] e).1.2.2.2.2.2.2.2.2.2.1=3):=by
 have k1:kOk (2,97)=true:=by decide
 have k2:kOk (2,107)=true:=by decide
 have k3:kOk (2,121)=true:=by decide
 -- to the beginning
 have v1:cX (goE 0 e).1=true:=aLf e hv 0
 obtain ⟨p1,p2,p3,p4,p5⟩:=sE (goL e.2.2.1 0) 0 e h3
 have hg:goL e.2.2.1 0=(t,0):=by rw [h1];unfold goL;simp only;rw [show max 0 (min 0 (t.length:Int))=0 by omega]
 rw [hg] at p2
 have e1:goE 0 e=(mL (t,0) 0 e,0):=by unfold goE;rw [hg]
 rw [hg] at p1 p3 p4 p5
 simp only [oN,rR,aKd,aKc,aKa]
 rw [e1] at v1 ⊢
 simp only at v1 ⊢
 generalize hE1:mL (t,0) 0 e=E1 at v1 p1 p2 p3 p4 p5 ⊢
 rw [p2]
 by_cases hz:(t.length:Int)=0
 ·
  -- nothing to kill
  have hkill:qO 0 (t.length:Int) 1 E1=jE E1:=by unfold qO;rw [if_pos hz.symm]
  simp only [hkill]
  have v2:=yO E1 v1
  obtain ⟨s1,s2⟩:=aA8 0 E1
  have m2:(jE E1).1.2.1=0:=s1.trans p1
  obtain ⟨_,_,hro,_⟩:=eOk _ v2
  have v3:cX (vY (jE E1).1).1=true:=by
   unfold vY
   split
   ·
    exact yO _ v2
   ·
    exact aJ6 _ v2 _ 3 (by omega)
  exact ⟨⟨k1,hv,h3,k2,v1,p1,k3,v2,m2,trivial⟩,rfl,v3,fun _=>rfl,fun c=>absurd hz c⟩
 ·
  have hk0:¬ (0=(t.length:Int)):=fun c=>hz c.symm
  have hcut:sQ (t,0) 0 (t.length:Int)=([],0):=by
   unfold sQ
   simp [bC]
  have hkill:qO 0 (t.length:Int) 1 E1=(oX (cZ r t 0) (mL ([],0) 2 E1),0):=by
   unfold qO
   rw [if_neg hk0,p2,p4,hcut,zW,if_neg (by omega)]
   have:E1.2.2.2.2.2.2.2.2.2.2.1=r:=by rw [← h2];exact p3
   rw [this]
  simp only [hkill]
  obtain ⟨q1,q2,q3,q4,q5⟩:=sE ([],0) 2 E1 p1
  obtain ⟨r1,r2,r3,r4,r5⟩:=xL (cZ r t 0) (mL ([],0) 2 E1)
  have v2:cX (oX (cZ r t 0) (mL ([],0) 2 E1))=true:=
   aAc _ (uB E1 v1 ([],0) (by decide) 2 (by omega)) _ (qX hr ht)
  rw [q1] at r1
  rw [q2] at r2
  generalize oX (cZ r t 0) (mL ([],0) 2 E1)=E2 at v2 r1 r2 r3 r4 r5 ⊢
  have hput:cZ r t 0=(t :: r).take 6:=by
   unfold cZ
   simp [List.length_pos_iff.1 (by omega:0<t.length)]
  have htop:lU (cZ r t 0)=t:=by rw [hput];rfl
  have hy:vY E2=(mL (t,(t.length:Int)) 3 E2,0):=by
   unfold vY yG
   rw [r3,htop,if_neg hz,r2,xO ht]
   rfl
  simp only [hy]
  obtain ⟨u1,u2,u3,u4,u5⟩:=sE (t,(t.length:Int)) 3 E2 r1
  have v3:=uB E2 v2 (t,(t.length:Int)) (kK ht (by omega) (by omega)) 3 (by omega)
  exact ⟨⟨k1,hv,h3,k2,v1,p1,k3,v2,r1,trivial⟩,rfl,v3,fun c=>absurd c hz,fun _=>⟨u2,u3.trans r3,u1,u4⟩⟩
theorem aIe (h:Int×List (List UInt8)) (t:List Int) (r:List (List Int)) (ht:cC t=true) (hz:(t.length:Int)≠0) (hr:dA r=true) (e:EdT) (hv:cX e=true)
  (h1:e.2.2.1=(t,(t.length:Int))) (h2:dF e=cZ r t 0) (h3:e.2.1=0) (h4:e.2.2.2.2.2.2.2.2.2.1=3) :
  rR h [(3,121)] e∧(oN h [(3,121)] e).2.length=1∧(0<((lU r).length:Int)→(oN h [(3,121)] e).1.2.2.1.1=lU r):=by
 have k1:kOk (3,121)=true:=by decide
 have hput:cZ r t 0=(t :: r).take 6:=by
  unfold cZ
  simp [List.length_pos_iff.1 (by omega:0<t.length)]
 refine ⟨⟨k1,hv,h3,trivial⟩,rfl,fun hp=>?_⟩
 simp only [oN,aKb]
 obtain ⟨x,r',rfl⟩:∃ x r',r=x :: r':=by
  cases r with
  | nil=>simp [lU] at hp
  | cons x r'=>exact ⟨x,r',rfl⟩
 have htop:lU (dF e)=t:=by rw [h2,hput];rfl
 have hturn:lU (nA (dF e))=x:=by rw [h2,hput];rfl
 have hx:cC x=true:=(eX hr).2 x List.mem_cons_self |>.1
 have hcut:sQ (t,(t.length:Int)) 0 (t.length:Int)=([],0):=by
  unfold sQ
  simp [bC]
 unfold yS
 rw [htop,h1]
 have hf:(t.length:Int) - (t.length:Int)=0:=by omega
 simp only [hf]
 unfold tR
 rw [h1,h4,hturn,hcut,zW,xO hx,if_neg (by simp only [ne_eq,not_true_eq_false,or_false,false_or];omega),if_pos rfl]
 obtain ⟨p1,p2,p3,p4,p5⟩:=xL (nA (dF e)) e
 obtain ⟨u1,u2,u3,u4,u5⟩:=sE (x,(x.length:Int)) 3 (oX (nA (dF e)) e) (p1.trans h3)
 simp only
 rw [u2]
 rfl
theorem aJe {t:List Int} (h1:(t.length:Int)≤16) (h2:∀ x ∈ t,sX x):cC t=true:=by
 unfold cC
 simp only [Bool.and_eq_true,List.all_eq_true,decide_eq_true_eq]
 exact ⟨fun x hx=>aAi (h2 x hx),by omega⟩
theorem law_FnYank (code:List UInt8):qI code=some true:=by
 unfold qI
 by_cases hl:1048576<(code.length:Int)
 ·
  rw [decide_eq_true hl];rfl
 rw [decide_eq_false hl,cond_false]
 obtain ⟨t,a,n,r,hist,e0,t1,t2,a0,a1,hr,n0,n1,d⟩:=aBr code (by omega)
 rw [aM e0]
 have hh:(hist.2.length:Int)≤1048576:=by have:=d.1.2.2;omega
 have ht:=aJe t1 t2
 obtain ⟨E,hE⟩:∃ E:EdT,E=(false,0,(t,a),0,0,0,0,0,0,n,r,[],0,([],0),[],0,([],0)):=⟨_,rfl⟩
 have hv:cX E=true:=by
  rw [hE]
  refine uV ⟨kK ht a0 a1,by decide,by decide,by omega,by omega,?_,by decide,by omega,hr,by decide,by omega,by omega,by decide,by simp,by decide,by decide⟩
  unfold rH
  simp [nZ]
 obtain ⟨c1,c2,c3,c4,c5⟩:=aHq hist t a n r ht ⟨a0,a1⟩ hr ⟨n0,by omega⟩ E hv (by rw [hE]) (by rw [hE];rfl) (by rw [hE])
 have hty:=aKn hist hh d.ok ([67,45,97,32,67,45,107,32,67,45,121]:List UInt8) (by decide) [(2,97),(2,107),(2,121)] _ rfl (by decide) (by decide +kernel) (by decide +kernel) E hv c1
 rw [hE] at hty
 refine aQ hty ?_
 rw [← hE]
 generalize oN hist [(2,97),(2,107),(2,121)] E=q at c2 c3 c4 c5 ⊢
 obtain ⟨z,acts⟩:=q
 simp only at c2 c3 c4 c5 ⊢
 have hz3:(acts.length:Int)=3:=by omega
 have hok:=aB3 z (nO (by omega) (aEm z c3))
 rw [c3] at hok
 rw [decide_eq_true hz3,iU hok (show (!true)=false from rfl)]
 simp only [Bool.not_true,cond_false]
 rw [show E.2.2.1.1=t by rw [hE],show E.2.2.2.2.2.2.2.2.2.2.1=r by rw [hE]]
 by_cases hz:(t.length:Int)=0
 ·
  rw [decide_eq_true hz,cond_true]
  unfold aI
  rw [if_pos (by omega),c4 hz]
  rfl
 rw [decide_eq_false hz,cond_false]
 obtain ⟨g1,g2,g3,g4⟩:=c5 hz
 obtain ⟨w1,w2,w3⟩:=aIe hist t r ht hz hr z c3 g1 g2 g3 g4
 have hty2:=aKn hist hh d.ok ([77,45,121]:List UInt8) (by decide) [(3,121)] _ rfl (by decide) (by decide +kernel) (by decide +kernel) z c3 w1
 refine aQ (oW r hr) (aQ hty2 ?_)
 generalize oN hist [(3,121)] z=q2 at w2 w3 ⊢
 obtain ⟨s,acts2⟩:=q2
 simp only at w2 w3 ⊢
 have hz1:(acts2.length:Int)=1:=by omega
 obtain ⟨k1,k2⟩:=wX hr
 have hsame:=xG (lU r) (by omega)
 have hsame2:=xG t (by omega)
 have hrt:dT z.2.2.2.2.2.2.2.2.2.2.1=some t:=by
  have hro:=qX (how:=0) hr ht
  have hput:lU (cZ r t 0)=t:=by
   unfold cZ
   simp [List.length_pos_iff.1 (by omega:0<t.length)]
   rfl
  have:=oW (cZ r t 0) hro
  rw [hput] at this
  rw [← this,← g2]
  rfl
 rw [decide_eq_true hz1]
 by_cases hp:0<((lU r).length:Int)
 ·
  rw [decide_eq_true hp,w3 hp,iU hsame (show (bif true then true else false)=true from rfl),g1]
  refine aQ hsame2 ?_
  rw [iU hrt (show true=true from rfl),iU hsame2 (show true=true from rfl)]
  rfl
 ·
  rw [decide_eq_false hp,pF (by simp),g1]
  refine aQ hsame2 ?_
  rw [iU hrt (show true=true from rfl),iU hsame2 (show true=true from rfl)]
  rfl
end Go.Eng
namespace Go.Proofs.YtlpgcohnjhomgaaGreatDoor.fnYank
open Go.ChangeShapes Go.WideShapes Go.ChangeAt Go.RowKit Go.Eng
open Go.ChangeMaps (open_string shut_string)
theorem own:ownKnob Tryz.prog.godebug=none:=by kernel_rfl
theorem laidOut:laidOutB Tryz.prog=true:=by kernel_rfl
theorem walk (a0:Option Addr) (len0 cap0:Nat) (z0:List Int) (w:World) (w0:aGl .u8 w a0 len0 cap0 z0) :
  Calls Tryz.prog 3 #[.slice a0 len0 cap0] w fun e w'=>e=.returned (.bool true)∧Below w.heap.size w w':=by
 obtain ⟨l0,f0⟩:=w0.byteFact
 have h:=ok_l_FnYank (bytesOf (z0.take len0)) a0 cap0 len0 l0 true (law_FnYank (bytesOf (z0.take len0)) )
 refine Calls.mono (h.calls w ?_) ?_
 ·
  intro x hx
  rcases List.mem_cons.1 hx with rfl | hx
  ·
   exact ⟨_,f0.choose_spec⟩
  cases hx
 ·
  rintro e w' ⟨r,-,he,hk,-⟩
  exact ⟨he,hk.below⟩
def laid:List (String×DataW Unit):=[("unicode/utf8.acceptRanges",Rows.laid_unicode_utf8_acceptRanges),("unicode/utf8.first",Rows.laid_unicode_utf8_first)]
set_option maxRecDepth 100000 in
theorem lifted (os:Os) (started:os.Started) (H:Type) (enc:TypeId×Value→H) :
  ReturnsInHanded {} Tryz.checked os 3 .any (fun w args=>(Rows.fnYankSpec.pre enc Tryz.prog Tryz.f3 [] false w args∧laidMetH Tryz.prog laid w)∧sizedMet enc Tryz.prog Tryz.f3 (OpenSpec.ofChange Rows.fnYankSpec) false w args) (Rows.fnYankSpec.post enc Tryz.prog Tryz.f3 false true false false):=by
 refine returnsInHanded_of_change_and (C:=Tryz.checked) (X:=fun w _=>laidMetH Tryz.prog laid w) (fun _ _ _ hh h=>h.of_heap hh) own started (by kernel_rfl) Tryz.func3
  (ChangeSpec.witness_shaped (enc:=enc) (C:=Tryz.checked) (os:=os) (X:=fun w _=>laidMetH Tryz.prog laid w) false (World.laidAll Tryz.prog os laid) #[.slice none 0 0] 8 (World.laidAll_os _ _ _)
   (World.shaped_of_ZipB (by kernel_rfl) (by kernel_rfl)) (by kernel_rfl) (by kernel_rfl) (by kernel_rfl)
   (by rw [MakeChecks.laidMetH_plain _ _ _ (by kernel_rfl)];exact laidMet_laidAll _ (by kernel_rfl) (by kernel_rfl))) ?_
 intro W base args ds gs before hval0 hW _ _ _ _
 have hval:∀ (j:Nat) t v,Tryz.f3.params[j]?=some t→args[j]?=some v→Value.okWide Tryz.prog W .any base t v:=hval0
 have hW':=hW
 obtain ⟨p,q,hA0,hV,rfl,hfz,hnd⟩:=hW
 have hA:DataW.TrodAll enc Tryz.prog W 0 (fun _=>true) true Tryz.f3.params.toList args.toList ds p:=hA0
 rw [Tryz.params3] at hA hval
 obtain ⟨v0,vs0,d0,ds0,p0,q0,hargs,rfl,rfl,h0,r0⟩:=trodAll_cons hA
 obtain ⟨rfl,rfl,rfl⟩:=trodAll_nil r0
 obtain rfl:args=#[v0]:=by cases args;simp_all
 obtain ⟨rfl,rfl⟩:=trodVars_none hV
 obtain ⟨a0,len0,cap0,rfl⟩:=okWide_slice Tryz.underlying22 (hval 0 22 v0 rfl rfl)
 have k0:=h0
 have lt0:∀ x ∈ p0,x.block<W.heap.size:=by obtain ⟨m,hm⟩:=k0;exact DataW.trod_lt m _ _ _ hm
 obtain ⟨z0,w0⟩:∃ zs,aGl .u8 W a0 len0 cap0 zs:=by
  obtain ⟨fuel,hf⟩:=h0
  rcases open_ints Tryz.underlying22 Tryz.underlying5 (by kernel_rfl) hf with ⟨hcs,_⟩ | ⟨x,l,c,zs,hcs,_,hl,hm,hz,_,hcell,hwz⟩
  ·
   simp [Value.cells] at hcs
   obtain ⟨rfl,rfl,rfl⟩:=hcs
   exact ⟨[],.inl ⟨rfl,rfl,rfl,rfl⟩⟩
  ·
   simp [Value.cells] at hcs
   obtain ⟨rfl,rfl,rfl⟩:=hcs
   exact ⟨zs,.inr ⟨_,rfl,hl,hm,by simpa using hz,hcell,hwz⟩⟩
 clear hA0 hval0
 simp only [List.append_nil] at hW'
 refine (walk a0 len0 cap0 z0 W w0).mono fun e W' ⟨he,bel⟩=>?_
 subst he
 exact ⟨_,rfl,_,_,_,[],_,[],hW',trodAll_mk1 (shut_bool Tryz.underlying4 _),(trodAll_cons_mk (Below.trod laidOut (by kernel_rfl) (of_decide_eq_true (by kernel_rfl)) k0 bel lt0) trodAll_mk0),rfl,bel.frame _,fun h=>by cases h⟩
theorem andI {a b:Bool} (ha:a=true) (hb:b=true):(a && b)=true:=by rw [ha,hb];rfl
set_option maxHeartbeats 8000000 in
theorem closed:joinedFacts Tryz.checked.prog 3 Tryz.f3 Rows.fnYankSpec Rows.fnYankRow=true:=by
 unfold joinedFacts
 (repeat' with_reducible refine andI ?_ ?_) <;> as_aux_lemma=>kernel_rfl
theorem over:Rows.fnYankRow.holds Tryz.pinned (OpenSpec.ofChange Rows.fnYankSpec):=
 OpenClaim.holds_of_wide 3 Tryz.f3 rfl rfl rfl rfl rfl rfl rfl ⟨rfl,rfl,rfl,rfl,rfl⟩ rfl rfl rfl rfl rfl (by kernel_rfl) Tryz.func3 closed
  (of_decide_eq_true (by kernel_rfl)) (by unfold Func.isWrapper;first | (rw [if_pos (by decide +kernel)];kernel_rfl) | (rw [if_neg (by decide +kernel)];exact ⟨rfl,rfl⟩))
  (fun os started H enc _=>lifted os started H enc)
theorem proved:Rows.FnYankCardSaid:=
 Claim7.holds_tied_plain_at .later [] [.data,.pinned] true (true,"ac7f6bdb9fa6aca202047ecfa65b5ca07de402a10464c93a90878a5e5d5c6eb9") false
  over (fun _ h=>by cases h) (by kernel_rfl) (fun _ h=>by cases h) fnYank_row_tie rfl ⟨rfl,rfl⟩ (by kernel_rfl) rfl
  (fun f fn hf hfn=>by
   obtain rfl:f=3:=Option.some.inj ((show Tryz.prog.funcNamed "loop.example/g00600/laws.FnYank"=some 3 by kernel_rfl).symm.trans hf) |>.symm
   obtain rfl:fn=Tryz.f3:=(Option.some.inj (Tryz.func3.symm.trans hfn)).symm
   exact ⟨by kernel_rfl,fun j t ht=>by
    rw [Tryz.params3] at ht
    have hm:t ∈ [22]:=by simpa using Array.mem_of_getElem? ht
    have hall:([22].all fun u=>!Tryz.prog.wantsStandIn u)=true:=by kernel_rfl
    exact (show Tryz.prog.wantsStandIn t=false by simpa using List.all_eq_true.1 hall t hm)⟩)
  (by kernel_rfl)
#print axioms proved
end Go.Proofs.YtlpgcohnjhomgaaGreatDoor.fnYank
