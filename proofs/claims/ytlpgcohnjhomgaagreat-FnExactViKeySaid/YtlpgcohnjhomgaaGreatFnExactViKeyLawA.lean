/- What the plain functions compute, as plain laws, for FnExactViKey. No condition. -/
import Derived.Test.YtlpgcohnjhomgaaGreatFnExactViKeyWalkD
set_option linter.unusedVariables false
set_option linter.unusedSimpArgs false
namespace Go.Eng
open Go Go.Proofs
theorem aO {α β:Type} {m:Option α} {k:α→Option β} {y:α} (h:m=some y):aF m k=k y:=by rw [h];rfl
theorem aRw {α β:Type} (y:α) (k:α→Option β):aF (some y) k=k y:=rfl
theorem aRv {α β:Type} {c:Prop} [Decidable c] {x d:α} {k:α→Option β} (h:c):bW c (some x) d k=k x:=by
  unfold bW;rw [if_pos h];rfl
theorem dU {α:Type} [Inhabited α] {l:List α} {k:Int} (h0:0≤k) (h:k<(l.length:Int)):l.drop k.toNat=at' l k :: l.drop (k+1).toNat:=by
 have hlt:k.toNat<l.length:=by omega
 rw [List.drop_eq_getElem_cons hlt]
 have:(k+1).toNat=k.toNat+1:=by omega
 rw [this]
 congr 1
 simp [at',List.getD_eq_getElem?_getD,hlt]
theorem aPn {α:Type} {l:List α} {k:Int} (h0:0≤k):bU l k (l.length:Int)=l.drop k.toNat:=by
 unfold bU
 rw [List.take_of_length_le]
 simp
theorem aOl (xs:List (List Int)) (hl:(xs.length:Int)≤1048576) (hs:∀ s ∈ xs,(s.length:Int)≤1048576) (j:List (List Int)→Option (List (List Int))):∀ (m:Nat) (i:Int) (ds:List (List Int)),0≤i→i≤(xs.length:Int)→(ds.length:Int)=i→(xs.length:Int) - i<m →
  aW (mJ xs j) m (i,ds)=j (ds ++ xs.drop i.toNat):=by
 intro m
 induction m with
 | zero=>intro i ds _ _ _ h;omega
 | succ m ih=>
  intro i ds hi hi' hd hm
  simp only [aW,mJ,aP,Bool.cond_decide,List.nil_append]
  by_cases h1:i<(xs.length:Int)
  ·
   have hb:=hs (at' xs i) (List.mem_of_getElem? (bD ⟨hi,h1⟩))
   rw [if_pos h1,if_pos ⟨hi,h1⟩,if_pos (by simp;omega),if_pos (by simp;omega),bK (by omega) (by omega),ih (i+1) _ (by omega) (by omega) (by simp;omega) (by omega),dU hi h1]
   simp
  ·
   rw [if_neg h1,List.drop_eq_nil_of_le (by omega)]
   simp
theorem aOm (xs:List (List Int)) (hl:(xs.length:Int)≤1048576) (hs:∀ s ∈ xs,(s.length:Int)≤1048576) (j:List (List Int)→Option (List (List Int))):∀ (m:Nat) (i:Int) (ds:List (List Int)),0≤i→i≤(xs.length:Int)→(ds.length:Int)=i→(xs.length:Int) - i<m →
  aW (lE xs j) m (i,ds)=j (ds ++ xs.drop i.toNat):=by
 intro m
 induction m with
 | zero=>intro i ds _ _ _ h;omega
 | succ m ih=>
  intro i ds hi hi' hd hm
  simp only [aW,lE,aP,Bool.cond_decide]
  by_cases h1:i<(xs.length:Int)
  ·
   have hb:=hs (at' xs i) (List.mem_of_getElem? (bD ⟨hi,h1⟩))
   have ec:cQ (at' xs i)=some (at' xs i):=by
    unfold cQ aP
    rw [if_pos (by simp;omega)];simp
   rw [if_pos h1,if_pos ⟨hi,h1⟩,aO ec,if_pos (by simp;omega),bK (by omega) (by omega),ih (i+1) _ (by omega) (by omega) (by simp;omega) (by omega),dU hi h1]
   simp
  ·
   rw [if_neg h1,List.drop_eq_nil_of_le (by omega)]
   simp
theorem aG5 (xs:List (List Int)) (hl:(xs.length:Int)≤1048576) (hs:∀ s ∈ xs,(s.length:Int)≤1048576):qD xs=some xs:=by
 unfold qD
 simp only [aS]
 rw [aOl xs hl hs _ bG 0 [] (by omega) (by omega) (by simp) (by rw [bI];omega)]
 simp
theorem aG6 (xs:List (List Int)) (hl:(xs.length:Int)≤1048576) (hs:∀ s ∈ xs,(s.length:Int)≤1048576):nR xs=some xs:=by
 unfold nR
 simp only [aS]
 rw [aOm xs hl hs _ bG 0 [] (by omega) (by omega) (by simp) (by rw [bI];omega)]
 simp
theorem mC (x:List Int) (h:(x.length:Int)≤1048576):cQ x=some x:=by
 unfold cQ aP
 rw [if_pos (by simp;omega)];simp
theorem iU (x:List Int×Int) (h:(x.1.length:Int)≤1048576):cY x=some x:=by
 unfold cY
 rw [aO (mC x.1 h)]
theorem gR (x:List Int×Int) (h:(x.1.length:Int)≤1048576):dD x=some x:=by
 unfold dD aP
 rw [if_pos (by simp;omega)];simp
theorem aN0 (xs:List (List Int×Int)) (hl:(xs.length:Int)≤1048576) (hs:∀ s ∈ xs,(s.1.length:Int)≤1048576) (j:List (List Int×Int)→Option (List (List Int×Int))):∀ (m:Nat) (i:Int) (ds:List (List Int×Int)),0≤i→i≤(xs.length:Int)→(ds.length:Int)=i→(xs.length:Int) - i<m →
  aW (kR xs j) m (i,ds)=j (ds ++ xs.drop i.toNat):=by
 intro m
 induction m with
 | zero=>intro i ds _ _ _ h;omega
 | succ m ih=>
  intro i ds hi hi' hd hm
  simp only [aW,kR,aP,Bool.cond_decide]
  by_cases h1:i<(xs.length:Int)
  ·
   have hb:=hs (at' xs i) (List.mem_of_getElem? (bD ⟨hi,h1⟩))
   rw [if_pos h1,if_pos ⟨hi,h1⟩,aO (gR (at' xs i) hb),if_pos (by simp;omega),bK (by omega) (by omega),ih (i+1) _ (by omega) (by omega) (by simp;omega) (by omega),dU hi h1]
   simp
  ·
   rw [if_neg h1,List.drop_eq_nil_of_le (by omega)]
   simp
theorem aN1 (xs:List (List Int×Int)) (hl:(xs.length:Int)≤1048576) (hs:∀ s ∈ xs,(s.1.length:Int)≤1048576) (j:List (List Int×Int)→Option (List (List Int×Int))):∀ (m:Nat) (i:Int) (ds:List (List Int×Int)),0≤i→i≤(xs.length:Int)→(ds.length:Int)=i→(xs.length:Int) - i<m →
  aW (lD xs j) m (i,ds)=j (ds ++ xs.drop i.toNat):=by
 intro m
 induction m with
 | zero=>intro i ds _ _ _ h;omega
 | succ m ih=>
  intro i ds hi hi' hd hm
  simp only [aW,lD,aP,Bool.cond_decide]
  by_cases h1:i<(xs.length:Int)
  ·
   have hb:=hs (at' xs i) (List.mem_of_getElem? (bD ⟨hi,h1⟩))
   rw [if_pos h1,if_pos ⟨hi,h1⟩,aO (iU (at' xs i) hb),if_pos (by simp;omega),bK (by omega) (by omega),ih (i+1) _ (by omega) (by omega) (by simp;omega) (by omega),dU hi h1]
   simp
  ·
   rw [if_neg h1,List.drop_eq_nil_of_le (by omega)]
   simp
theorem aB2 (xs:List (List Int×Int)) (hl:(xs.length:Int)≤1048576) (hs:∀ s ∈ xs,(s.1.length:Int)≤1048576):kD xs=some xs:=by
 unfold kD
 simp only [aS]
 rw [aN0 xs hl hs _ bG 0 [] (by omega) (by omega) (by simp) (by rw [bI];omega)]
 simp
theorem aB3 (xs:List (List Int×Int)) (hl:(xs.length:Int)≤1048576) (hs:∀ s ∈ xs,(s.1.length:Int)≤1048576):kI xs=some xs:=by
 unfold kI
 simp only [aS]
 rw [aN1 xs hl hs _ bG 0 [] (by omega) (by omega) (by simp) (by rw [bI];omega)]
 simp
section
variable (vi:Bool) (G:Int) (D:List Int×Int) (A9 op A7 A8 fr fh A6:Int) (A4:List (List Int)) (A0:List (List Int×Int)) (J:Int) (Z:List Int×Int) (O:List Int) (A5:Int) (A_:List Int×Int)
  (h1:D.1.length≤1048576) (h2:A4.length≤1048576) (h3:∀ s ∈ A4,s.length≤1048576) (h4:A0.length≤1048576) (h5:∀ s ∈ A0,s.1.length≤1048576) (h6:Z.1.length≤1048576) (h7:O.length≤1048576) (h8:A_.1.length≤1048576)
include h1 h2 h3 h4 h5 h6 h7 h8
theorem aG7:cA (vi,G,D,A9,op,A7,A8,fr,fh,A6,A4,A0,J,Z,O,A5,A_)=some (vi,G,D,A9,op,A7,A8,fr,fh,A6,A4,A0,J,Z,O,A5,A_):=by
 unfold cA
 simp only [gR D (by omega),gR Z (by omega),gR A_ (by omega),aG5 A4 (by omega) (fun s h=>by have:=h3 s h;omega),aB2 A0 (by omega) (fun s h=>by have:=h5 s h;omega),aF,aP]
 rw [if_pos (by simp;omega)]
 simp
theorem aNo:dZ (vi,G,D,A9,op,A7,A8,fr,fh,A6,A4,A0,J,Z,O,A5,A_)=some (vi,G,D,A9,op,A7,A8,fr,fh,A6,A4,A0,J,Z,O,A5,A_):=by
 unfold dZ
 simp only [iU D (by omega),iU Z (by omega),iU A_ (by omega),aG6 A4 (by omega) (fun s h=>by have:=h3 s h;omega),aB3 A0 (by omega) (fun s h=>by have:=h5 s h;omega),mC O (by omega),aF]
end
theorem aCu (a b c:Int):dK a b c=some (decide (b≤a∧a≤c)):=by
 unfold dK
 congr 1
 by_cases h1:b≤a <;> by_cases h2:a≤c <;> simp [h1,h2]
def pr (r:Int):Bool:=decide ((0≤r∧r≤1114111∧(r<55296∨57343<r))∧32≤r∧(r<127∨159<r))
theorem cE {α β:Type} {c:Prop} [Decidable c] {x d:α} {k:α→Option β}:bW c (some x) d k=k (if c then x else d):=by
 unfold bW
 split <;> simp [aF, *]
theorem vO (r:Int):eH r=some (pr r):=by
 unfold eH pr mK
 simp only [aF]
 congr 1
 by_cases h1:0≤r <;> by_cases h2:r≤1114111 <;> by_cases h3:r<55296 <;> by_cases h4:57343<r <;> by_cases h5:32≤r <;> by_cases h6:r<127 <;> simp [h1,h2,h3,h4,h5,h6]
theorem vP (r:Int):eI r=some (pr r):=by
 unfold eI pr mY
 simp only [aCu,cE,aF]
 congr 1
 by_cases h1:0≤r∧r≤1114111
 ·
  by_cases h2:55296≤r∧r≤57343
  ·
   have:¬ (r<55296∨57343<r):=by omega
   simp [h1,h2,this]
  ·
   have:(r<55296∨57343<r):=by omega
   by_cases h5:32≤r
   ·
    by_cases h6:127≤r∧r≤159
    ·
     have:¬ (r<127∨159<r):=by omega
     simp [h1,h2,h5,h6,this]
    ·
     have:(r<127∨159<r):=by omega
     simp [h1,h2,h5,h6, *]
   ·
    simp [h1,h2,h5]
 ·
  have:¬ (0≤r∧r≤1114111∧(r<55296∨57343<r)):=fun h=>h1 ⟨h.1,h.2.1⟩
  simp [h1,this]
def adm (r:Int):Bool:=pr r || decide (r=9) || decide (r=10)
theorem aT3 (r:Int):qP r=some (adm r):=by
 unfold qP adm
 rw [aO (vO r)]
 cases pr r <;> by_cases h:r=9 <;> by_cases h':r=10 <;> simp [h,h']
theorem aK3 (r:Int):mX r=some (adm r):=by
 unfold mX adm
 rw [aO (vP r)]
 cases pr r <;> by_cases h:r=9 <;> by_cases h':r=10 <;> simp [h,h']
theorem aIj (t:List Int) (ht:t.length≤100000000) (j:Unit→Option Bool):∀ (m:Nat) (k:Int),0≤k→k≤(t.length:Int)→(t.length:Int) - k<m→aW (fF t j) m k=if (t.drop k.toNat).all adm then j () else some false:=by
 intro m
 induction m with
 | zero=>intro k _ _ h;omega
 | succ m ih=>
  intro k hk hk' hm
  simp only [aW,fF,aP,Bool.cond_decide,aT3,aF]
  by_cases h1:k<(t.length:Int)
  ·
   rw [if_pos h1,if_pos ⟨hk,h1⟩,bK (by omega) (by omega),dU hk h1]
   by_cases h2:adm (at' t k)
   ·
    rw [ih (k+1) (by omega) (by omega) (by omega)]
    simp [h2]
   ·
    simp [h2]
  ·
   rw [if_neg h1,List.drop_eq_nil_of_le (by omega)]
   simp
theorem aB4 (t:List Int) (ht:t.length≤100000000):gX t=some (t.all adm):=by
 unfold gX aS
 show aW (fF t fun _=>some true) bG 0=_
 rw [aIj t ht _ bG 0 (by omega) (by omega) (by rw [bI];omega)]
 simp only [Int.toNat_zero,List.drop_zero]
 cases t.all adm <;> simp
theorem aNr (t:List Int) (ht:t.length≤100000000) (j:Unit→Option Bool):∀ (m:Nat) (k:Int),0≤k→k≤(t.length:Int)→(k=0∨k≤400)→(t.length:Int) - k<m→aW (eF t j) m k=if (t.drop k.toNat).all adm∧t.length≤400 then j () else some false:=by
 intro m
 induction m with
 | zero=>intro k _ _ _ h;omega
 | succ m ih=>
  intro k hk hk' h4 hm
  simp only [aW,eF,aP,Bool.cond_decide,aK3,cE]
  by_cases h1:k<(t.length:Int)
  ·
   rw [if_pos h1,if_pos ⟨hk,h1⟩,bK (by omega) (by omega),dU hk h1]
   by_cases h3:400≤k
   ·
    have:¬ t.length≤400:=by omega
    simp [h3,this]
   ·
    by_cases h2:adm (at' t k)
    ·
     rw [ih (k+1) (by omega) (by omega) (by omega) (by omega)]
     simp [h2,h3]
    ·
     simp [h2,h3]
  ·
   rw [if_neg h1,List.drop_eq_nil_of_le (by omega)]
   have:t.length≤400:=by omega
   simp [this]
def cS (t:List Int):Bool:=t.all adm && decide (t.length≤400)
theorem aHb (t:List Int) (ht:t.length≤100000000):eP t=some (cS t):=by
 unfold eP aS cS
 show aW (eF t fun _=>some true) bG 0=_
 rw [aNr t ht _ bG 0 (by omega) (by omega) (.inl rfl) (by rw [bI];omega)]
 simp only [Int.toNat_zero,List.drop_zero]
 by_cases h:t.length≤400 <;> cases t.all adm <;> simp [h]
def bO (l:List Int×Int):Bool:=cS l.1 && decide (0≤l.2∧l.2≤(l.1.length:Int))
theorem kM (l:List Int×Int) (hl:l.1.length≤100000000):dX l=some (bO l):=by
 unfold dX bO cS
 rw [aB4 _ hl]
 simp only [cE]
 congr 1
 by_cases h:l.1.length≤400
 ·
  have h':(l.1.length:Int)≤400:=by omega
  by_cases h2:0≤l.2 <;> by_cases h3:l.2≤(l.1.length:Int) <;> cases l.1.all adm <;> simp [h,h',h2,h3]
 ·
  have h':¬ (l.1.length:Int)≤400:=by omega
  simp [h,h']
theorem qK (l:List Int×Int) (hl:l.1.length≤100000000):eQ l=some (bO l):=by
 unfold eQ bO
 rw [aO (aHb _ hl)]
 simp only [aCu,cE]
 congr 1
 cases cS l.1 <;> simp
def nC (p:List Int):Bool:=cS p && !(decide (p.length=0))
theorem aOj (r:List (List Int)) (hr:r.length≤100000000) (hp:∀ p ∈ r,p.length≤100000000) (j:Unit→Option Bool):∀ (m:Nat) (k:Int),0≤k→k≤(r.length:Int)→(r.length:Int) - k<m→aW (oC r j) m k=if (r.drop k.toNat).all nC then j () else some false:=by
 intro m
 induction m with
 | zero=>intro k _ _ h;omega
 | succ m ih=>
  intro k hk hk' hm
  simp only [aW,oC,aP,Bool.cond_decide]
  by_cases h1:k<(r.length:Int)
  ·
   have hq:=hp (at' r k) (List.mem_of_getElem? (bD ⟨hk,h1⟩))
   have e:iB (at' r k)=some (cS (at' r k)):=by
    unfold iB cS
    rw [aB4 _ hq,cE]
    congr 1
    by_cases h:(at' r k).length≤400
    ·
     have h':((at' r k).length:Int)≤400:=by omega
     simp [h,h']
    ·
     have h':¬ ((at' r k).length:Int)≤400:=by omega
     simp [h,h']
   rw [if_pos h1,if_pos ⟨hk,h1⟩,bK (by omega) (by omega),dU hk h1,e,cE,ih (k+1) (by omega) (by omega) (by omega)]
   have hb:(if ((at' r k).length:Int)=0 then true else !(if decide (((at' r k).length:Int)=0)=false then cS (at' r k) else false))=!(nC (at' r k)):=by
    unfold nC
    by_cases hz:(at' r k).length=0
    ·
     have hz':((at' r k).length:Int)=0:=by omega
     rw [if_pos hz',decide_eq_true hz];simp
    ·
     have hz':¬ ((at' r k).length:Int)=0:=by omega
     rw [if_neg hz',decide_eq_false hz,decide_eq_false hz'];simp
   rw [hb]
   by_cases hz:nC (at' r k)=true <;> simp [hz]
  ·
   rw [if_neg h1,List.drop_eq_nil_of_le (by omega)]
   simp
theorem aOk (r:List (List Int)) (hr:r.length≤100000000) (hp:∀ p ∈ r,p.length≤100000000) (j:Unit→Option Bool):∀ (m:Nat) (k:Int),0≤k→k≤(r.length:Int)→(r.length:Int) - k<m→aW (oS r j) m k=if (r.drop k.toNat).all nC then j () else some false:=by
 intro m
 induction m with
 | zero=>intro k _ _ h;omega
 | succ m ih=>
  intro k hk hk' hm
  simp only [aW,oS,aP,Bool.cond_decide]
  by_cases h1:k<(r.length:Int)
  ·
   have hq:=hp (at' r k) (List.mem_of_getElem? (bD ⟨hk,h1⟩))
   rw [if_pos h1,if_pos ⟨hk,h1⟩,bK (by omega) (by omega),dU hk h1,aHb _ hq,cE,ih (k+1) (by omega) (by omega) (by omega)]
   have hb:(if ((at' r k).length:Int)=0 then true else !(if decide (((at' r k).length:Int)=0)=false then cS (at' r k) else false))=!(nC (at' r k)):=by
    unfold nC
    by_cases hz:(at' r k).length=0
    ·
     have hz':((at' r k).length:Int)=0:=by omega
     rw [if_pos hz',decide_eq_true hz];simp
    ·
     have hz':¬ ((at' r k).length:Int)=0:=by omega
     rw [if_neg hz',decide_eq_false hz,decide_eq_false hz'];simp
   rw [hb]
   by_cases hz:nC (at' r k)=true <;> simp [hz]
  ·
   rw [if_neg h1,List.drop_eq_nil_of_le (by omega)]
   simp
def gC (r:List (List Int)):Bool:=r.all nC && decide (r.length≤6)
theorem aE6 {n m:Nat}:decide ((n:Int)≤(m:Int))=decide (n≤m):=by
 by_cases h:n≤m
 ·
  rw [decide_eq_true h,decide_eq_true (by omega)]
 ·
  rw [decide_eq_false h,decide_eq_false (by omega)]
theorem aFu (r:List (List Int)) (hr:r.length≤100000000) (hp:∀ p ∈ r,p.length≤100000000):pH r=some (gC r):=by
 unfold pH gC
 simp only [aS]
 rw [aOj r hr hp _ bG 0 (by omega) (by omega) (by rw [bI];omega)]
 have:=aE6 (n:=r.length) (m:=6)
 simp only [Int.toNat_zero,List.drop_zero] at this ⊢
 have e6:((6:Nat):Int)=6:=rfl
 rw [e6] at this
 rw [this]
 cases r.all nC <;> simp
theorem aFv (r:List (List Int)) (hr:r.length≤100000000) (hp:∀ p ∈ r,p.length≤100000000):pT r=some (gC r):=by
 unfold pT gC
 simp only [aS]
 rw [aOk r hr hp _ bG 0 (by omega) (by omega) (by rw [bI];omega)]
 have:=aE6 (n:=r.length) (m:=6)
 simp only [Int.toNat_zero,List.drop_zero] at this ⊢
 have e6:((6:Nat):Int)=6:=rfl
 rw [e6] at this
 rw [this]
 cases r.all nC <;> simp
theorem aNy (r:List (List Int×Int)) (hr:r.length≤100000000) (hp:∀ p ∈ r,p.1.length≤100000000) (j:Unit→Option Bool):∀ (m:Nat) (k:Int),0≤k→k≤(r.length:Int)→(r.length:Int) - k<m→aW (oA r j) m k=if (r.drop k.toNat).all bO then j () else some false:=by
 intro m
 induction m with
 | zero=>intro k _ _ h;omega
 | succ m ih=>
  intro k hk hk' hm
  simp only [aW,oA,aP,Bool.cond_decide]
  by_cases h1:k<(r.length:Int)
  ·
   have hq:=hp (at' r k) (List.mem_of_getElem? (bD ⟨hk,h1⟩))
   rw [if_pos h1,if_pos ⟨hk,h1⟩,bK (by omega) (by omega),dU hk h1,aO (kM (at' r k) hq),ih (k+1) (by omega) (by omega) (by omega)]
   obtain ⟨x,hx⟩:∃ x,x=bO (at' r k):=⟨_,rfl⟩
   rw [List.all_cons,← hx]
   cases x <;> rfl
  ·
   rw [if_neg h1,List.drop_eq_nil_of_le (by omega)]
   simp
theorem aNz (r:List (List Int×Int)) (hr:r.length≤100000000) (hp:∀ p ∈ r,p.1.length≤100000000) (j:Unit→Option Bool):∀ (m:Nat) (k:Int),0≤k→k≤(r.length:Int)→(r.length:Int) - k<m→aW (oR r j) m k=if (r.drop k.toNat).all bO then j () else some false:=by
 intro m
 induction m with
 | zero=>intro k _ _ h;omega
 | succ m ih=>
  intro k hk hk' hm
  simp only [aW,oR,aP,Bool.cond_decide]
  by_cases h1:k<(r.length:Int)
  ·
   have hq:=hp (at' r k) (List.mem_of_getElem? (bD ⟨hk,h1⟩))
   rw [if_pos h1,if_pos ⟨hk,h1⟩,bK (by omega) (by omega),dU hk h1,aO (qK (at' r k) hq),ih (k+1) (by omega) (by omega) (by omega)]
   obtain ⟨x,hx⟩:∃ x,x=bO (at' r k):=⟨_,rfl⟩
   rw [List.all_cons,← hx]
   cases x <;> rfl
  ·
   rw [if_neg h1,List.drop_eq_nil_of_le (by omega)]
   simp
def fZ (r:List (List Int×Int)):Bool:=r.all bO && decide (r.length≤20)
theorem aFd (r:List (List Int×Int)) (hr:r.length≤100000000) (hp:∀ p ∈ r,p.1.length≤100000000):pG r=some (fZ r):=by
 unfold pG fZ
 simp only [aS]
 rw [aNy r hr hp _ bG 0 (by omega) (by omega) (by rw [bI];omega)]
 have:=aE6 (n:=r.length) (m:=20)
 simp only [Int.toNat_zero,List.drop_zero] at this ⊢
 have e6:((20:Nat):Int)=20:=rfl
 rw [e6] at this
 rw [this]
 cases r.all bO <;> simp
theorem aFe (r:List (List Int×Int)) (hr:r.length≤100000000) (hp:∀ p ∈ r,p.1.length≤100000000):pS r=some (fZ r):=by
 unfold pS fZ
 simp only [aS]
 rw [aNz r hr hp _ bG 0 (by omega) (by omega) (by rw [bI];omega)]
 have:=aE6 (n:=r.length) (m:=20)
 simp only [Int.toNat_zero,List.drop_zero] at this ⊢
 have e6:((20:Nat):Int)=20:=rfl
 rw [e6] at this
 rw [this]
 cases r.all bO <;> simp
def kN (n:Int) (l:List Int):Bool:=l.any (fun x=>decide (x=n))
theorem aM7 (l:List Int) (n:Int) (hl:l.length≤100000000):∀ (m:Nat) (k:Int),0≤k→k≤(l.length:Int)→(l.length:Int) - k<m→aW (jE l n fun _=>some false) m k=some (kN n (l.drop k.toNat)):=by
 intro m
 induction m with
 | zero=>intro k _ _ h;omega
 | succ m ih=>
  intro k hk hk' hm
  simp only [aW,jE,aP,Bool.cond_decide]
  by_cases h1:k<(l.length:Int)
  ·
   rw [if_pos h1,if_pos ⟨hk,h1⟩,bK (by omega) (by omega),dU hk h1,ih (k+1) (by omega) (by omega) (by omega)]
   unfold kN
   by_cases h2:at' l k=n
   ·
    simp [h2]
   ·
    simp [h2]
  ·
   rw [if_neg h1,List.drop_eq_nil_of_le (by omega)]
   simp [kN]
theorem aQe (n:Int) (l:List Int) (hl:l.length≤100000000):nM n l=some (kN n l):=by
 unfold nM sD
 simp only [aS]
 rw [aM7 l n hl bG 0 (by omega) (by omega) (by rw [bI];omega)]
 simp [aF]
theorem aKm (l:List UInt8) (n:Int) (hl:l.length≤100000000):∀ (m:Nat) (k:Int),0≤k→k≤(l.length:Int)→(l.length:Int) - k<m→aW (fR n l fun _=>some false) m k=some (kN n ((l.drop k.toNat).map (fun b=>(b.toNat:Int)))):=by
 intro m
 induction m with
 | zero=>intro k _ _ h;omega
 | succ m ih=>
  intro k hk hk' hm
  simp only [aW,fR,aP,Bool.cond_decide]
  by_cases h1:k<(l.length:Int)
  ·
   rw [if_pos h1,if_pos ⟨hk,h1⟩,bK (by omega) (by omega),dU hk h1,ih (k+1) (by omega) (by omega) (by omega)]
   unfold kN
   by_cases h2:((at' l k).toNat:Int)=n
   ·
    simp [h2]
   ·
    simp [h2]
  ·
   rw [if_neg h1,List.drop_eq_nil_of_le (by omega)]
   simp [kN]
theorem aQf (n:Int) (l:List UInt8) (hl:l.length≤100000000):iI n l=some (kN n (l.map (fun b=>(b.toNat:Int)))):=by
 unfold iI
 simp only [aS]
 rw [aKm l n hl bG 0 (by omega) (by omega) (by rw [bI];omega)]
 simp
def pE (l:List Int×Int):Bool:=decide ((l.1.length:Int)=0) && decide (l.2=0)
theorem aP7 (l:List Int×Int):nL l=some (pE l):=by
  unfold nL pE;cases decide ((l.1.length:Int)=0) <;> rfl
theorem aUw (l:List Int×Int):lN l=some (pE l):=by
  unfold lN pE;cases decide ((l.1.length:Int)=0) <;> rfl
def aBk (l:List Int×Int):Bool:=decide (0<(l.1.length:Int)) && decide (l.2=(l.1.length:Int))
theorem aQd (l:List Int×Int):qH l=some (aBk l):=by
  unfold qH aBk;cases decide (0<(l.1.length:Int)) <;> rfl
abbrev EdT:=Bool×Int×(List Int×Int)×Int×Int×Int×Int×Int×Int×Int×List (List Int)×(List (List Int×Int))×Int×(List Int×Int)×List Int×Int×List Int×Int
def vV (vi:Bool) (G:Int) (D:List Int×Int) (op A7 A8:Int):Bool:=
  decide (0≤G∧G≤3∧(G=0→vi=false)∧(G=1→vi=true)∧(G=2→vi=true)∧(G=2→aBk D=false)∧(G≠2→op=0∧A7=0∧A8=0)∧(op=0→A7=0)) && kN op [0,100,99,121] && kN A8 [0,102,70,116,84,114]
def rY (G:Int) (O:List Int) (A5:Int) (A_:List Int×Int):Bool:=
  decide (G=3) || (decide ((O.length:Int)=0) && decide (A5=0) && pE A_)
set_option maxHeartbeats 4000000 in
theorem aV6 (vi:Bool) (G:Int) (D:List Int×Int) (A9 op A7 A8 fr fh A6:Int) (A4:List (List Int)) (A0:List (List Int×Int)) (J:Int) (Z:List Int×Int) (O:List Int) (A5:Int) (A_:List Int×Int) :
  sT (vi,G,D,A9,op,A7,A8,fr,fh,A6,A4,A0,J,Z,O,A5,A_)=some (vV vi G D op A7 A8 && rY G O A5 A_):=by
 unfold sT
 have hg:(gl (kN op [0,100,99,121]) ([0,102,70,116,84,114]:List Int)).length≤100000000:=by
  cases kN op [0,100,99,121] <;> simp [gl]
 simp only [aP7,aQe _ _ (show ([0,100,99,121]:List Int).length≤100000000 by simp),aF,cE]
 rw [aQe _ _ hg,cE]
 unfold vV rY
 generalize hA:kN op [0,100,99,121]=A
 generalize hE:pE A_=E
 have hW:(if A=true then kN A8 (gl A [0,102,70,116,84,114]) else false)=(A && kN A8 [0,102,70,116,84,114]):=by
  cases A <;> simp [gl]
 rw [hW]
 generalize hB:kN A8 [0,102,70,116,84,114]=Bw
 have hAt:(bif (bif (decide (G=2)) then (decide (0<(D.1.length:Int))) else false) then (decide (D.2=(D.1.length:Int))) else false)=(decide (G=2) && aBk D):=by
  unfold aBk
  by_cases h:G=2 <;> simp [h]
 rw [hAt]
 generalize aBk D=T
 generalize hQ:(O.length:Int)=q
 have hq:0≤q:=by omega
 by_cases m0:G<0
 ·
  have:¬ 0≤G:=by omega
  simp [m0,this]
 by_cases m3:3<G
 ·
  have:¬ G≤3:=by omega
  simp [m0,m3,this]
 have hm:G=0∨G=1∨G=2∨G=3:=by omega
 by_cases q0:0<q
 ·
  have q0':¬ q=0:=by omega
  rcases hm with rfl | rfl | rfl | rfl <;> cases vi <;> cases A <;> cases Bw <;> cases T <;> by_cases o:op=0 <;> by_cases oc:A7=0 <;> by_cases w:A8=0 <;> simp [o,oc,w,q0,q0']
 ·
  have q0':q=0:=by omega
  by_cases hh:A5=0 <;> rcases hm with rfl | rfl | rfl | rfl <;> cases vi <;> cases A <;> cases Bw <;> cases T <;> cases E <;> by_cases o:op=0 <;> by_cases oc:A7=0 <;> by_cases w:A8=0 <;> simp [o,oc,w,q0',hh]
theorem aTu (op:Int):kN op [0,100,99,121]=(decide (op=0) || kN op [100,99,121]):=by
 have e:decide (0=op)=decide (op=0):=by simp [eq_comm]
 simp only [kN,List.any_cons,e]
theorem aTt (op:Int):kN op [0,102,70,116,84,114]=(decide (op=0) || kN op [102,70,116,84,114]):=by
 have e:decide (0=op)=decide (op=0):=by simp [eq_comm]
 simp only [kN,List.any_cons,e]
set_option maxHeartbeats 4000000 in
theorem aV7 (vi:Bool) (G:Int) (D:List Int×Int) (A9 op A7 A8 fr fh A6:Int) (A4:List (List Int)) (A0:List (List Int×Int)) (J:Int) (Z:List Int×Int) (O:List Int) (A5:Int) (A_:List Int×Int) :
  vH (vi,G,D,A9,op,A7,A8,fr,fh,A6,A4,A0,J,Z,O,A5,A_)=some (vV vi G D op A7 A8):=by
 unfold vH vV
 have e1:([100,99,121]:List UInt8).map (fun b=>(b.toNat:Int))=[100,99,121]:=rfl
 have e2:([102,70,116,84,114]:List UInt8).map (fun b=>(b.toNat:Int))=[102,70,116,84,114]:=rfl
 simp only [aQd,aQf _ _ (show ([100,99,121]:List UInt8).length≤100000000 by simp),aQf _ _ (show ([102,70,116,84,114]:List UInt8).length≤100000000 by simp),cE,aS,e1,e2,aTu,aTt]
 generalize kN op [100,99,121]=A
 generalize kN A8 [102,70,116,84,114]=Bw
 generalize aBk D=T
 by_cases m0:G<0
 ·
  have h1:¬ 0≤G:=by omega
  have h2:¬ G=0:=by omega
  have h3:¬ G=1:=by omega
  have h4:¬ G=2:=by omega
  have h5:¬ G=3:=by omega
  simp [h1,h2,h3,h4,h5]
 by_cases m3:3<G
 ·
  have h1:¬ G≤3:=by omega
  have h2:¬ G=0:=by omega
  have h3:¬ G=1:=by omega
  have h4:¬ G=2:=by omega
  have h5:¬ G=3:=by omega
  simp [h1,h2,h3,h4,h5]
 have hm:G=0∨G=1∨G=2∨G=3:=by omega
 rcases hm with rfl | rfl | rfl | rfl <;> cases vi <;> cases A <;> cases Bw <;> cases T <;> by_cases o:op=0 <;> by_cases oc:A7=0 <;> by_cases w:A8=0 <;> simp [o,oc,w]
def xF (fr fh:Int):Bool:=decide ((fr=0→fh=0)∧(fr≠0→0≤fh∧fh≤3)) && (decide (fr=0) || pr fr)
def cG (e:EdT):Bool:=match e with
 | (vi,G,D,A9,op,A7,A8,fr,fh,A6,A4,A0,J,Z,O,A5,A_)=>
  bO D && bO Z && bO A_ && decide (0≤A9∧A9≤999) && decide (0≤A7∧A7≤999) && vV vi G D op A7 A8 && xF fr fh && decide (0≤A6∧A6≤3) && gC A4 && fZ A0 && decide (0≤J∧J≤1000000060) && decide (0≤A5∧A5≤1000000060) && (!decide (J=0) || pE Z) && decide ((O.length:Int)≤40) && O.all pr && rY G O A5 A_
def dA (N:Nat) (e:EdT):Prop:=match e with
 | (_,_,D,_,_,_,_,_,_,_,A4,A0,_,Z,O,_,A_)=>
  D.1.length≤N∧(A4.length≤N∧∀ s ∈ A4,s.length≤N)∧(A0.length≤N∧∀ s ∈ A0,s.1.length≤N)∧Z.1.length≤N∧O.length≤N∧A_.1.length≤N
theorem rng (X:Bool) (c lo hi:Int):(bif (bif X then true else decide (c<lo)) then true else decide (hi<c))=(X || !decide (lo≤c∧c≤hi)):=by
 by_cases h1:c<lo
 ·
  have:¬ (lo≤c∧c≤hi):=by omega
  rw [decide_eq_true h1,decide_eq_false this];cases X <;> rfl
 ·
  by_cases h2:hi<c
  ·
   have:¬ (lo≤c∧c≤hi):=by omega
   rw [decide_eq_true h2,decide_eq_false this];cases X <;> simp
  ·
   have:(lo≤c∧c≤hi):=by omega
   rw [decide_eq_false h1,decide_eq_false h2,decide_eq_true this];cases X <;> rfl
theorem rng0 (c lo hi:Int):(bif decide (c<lo) then true else decide (hi<c))=!decide (lo≤c∧c≤hi):=by
 have:=rng false c lo hi
 simpa using this
theorem aVl (c hi:Int):decide (hi<c)=!decide (c≤hi):=by
 by_cases h:hi<c
 ·
  rw [decide_eq_true h,decide_eq_false (by omega)];rfl
 ·
  rw [decide_eq_false h,decide_eq_true (by omega)];rfl
section
variable (vi:Bool) (G:Int) (D:List Int×Int) (A9 op A7 A8 fr fh A6:Int) (A4:List (List Int)) (A0:List (List Int×Int)) (J:Int) (Z:List Int×Int) (O:List Int) (A5:Int) (A_:List Int×Int)
theorem aTh (hq:O.length≤100000000):∀ (m:Nat) (k:Int),0≤k→k≤(O.length:Int)→(O.length:Int) - k<m→aW (sY (vi,G,D,A9,op,A7,A8,fr,fh,A6,A4,A0,J,Z,O,A5,A_) fun _=>some true) m k=some ((O.drop k.toNat).all pr):=by
 intro m
 induction m with
 | zero=>intro k _ _ h;omega
 | succ m ih=>
  intro k hk hk' hm
  simp only [aW,sY,aP,Bool.cond_decide,vO,aF]
  by_cases h1:k<(O.length:Int)
  ·
   rw [if_pos h1,if_pos ⟨hk,h1⟩,bK (by omega) (by omega),dU hk h1]
   by_cases h2:pr (at' O k)=true
   ·
    rw [ih (k+1) (by omega) (by omega) (by omega)]
    simp [h2]
   ·
    simp [h2]
  ·
   rw [if_neg h1,List.drop_eq_nil_of_le (by omega)]
   simp
theorem aTi (hq:O.length≤100000000) (j:Unit→Option Bool):∀ (m:Nat) (k:Int),0≤k→k≤(O.length:Int)→(O.length:Int) - k<m→aW (tJ (vi,G,D,A9,op,A7,A8,fr,fh,A6,A4,A0,J,Z,O,A5,A_) j) m k=if (O.drop k.toNat).all pr then j () else some false:=by
 intro m
 induction m with
 | zero=>intro k _ _ h;omega
 | succ m ih=>
  intro k hk hk' hm
  simp only [aW,tJ,aP,Bool.cond_decide,vP,aF]
  by_cases h1:k<(O.length:Int)
  ·
   rw [if_pos h1,if_pos ⟨hk,h1⟩,bK (by omega) (by omega),dU hk h1]
   by_cases h2:pr (at' O k)=true
   ·
    rw [ih (k+1) (by omega) (by omega) (by omega)]
    simp [h2]
   ·
    simp [h2]
  ·
   rw [if_neg h1,List.drop_eq_nil_of_le (by omega)]
   simp
theorem aKx (hs:dA 100000000 (vi,G,D,A9,op,A7,A8,fr,fh,A6,A4,A0,J,Z,O,A5,A_)):oF (vi,G,D,A9,op,A7,A8,fr,fh,A6,A4,A0,J,Z,O,A5,A_)=some (cG (vi,G,D,A9,op,A7,A8,fr,fh,A6,A4,A0,J,Z,O,A5,A_)):=by
 obtain ⟨h1,⟨h2,h3⟩,⟨h4,h5⟩,h6,h7,h8⟩:=hs
 unfold oF cG
 simp only [kM D h1,kM Z h6,kM A_ h8,aV6,aFu A4 h2 h3,aFd A0 h4 h5,vO,aP7,cE,aS,rng,rng0]
 simp only [aVl]
 rw [aTh vi G D A9 op A7 A8 fr fh A6 A4 A0 J Z O A5 A_ h7 bG 0 (by omega) (by omega) (by rw [bI];omega)]
 simp only [aF,Int.toNat_zero,List.drop_zero]
 have hF:(bif (bif (decide (fr=0)) then (!(decide (fh=0))) else false) then true else (bif (!(decide (fr=0))) then (!(if (!decide (fr=0))=true∧(bif decide (fr=0) then !decide (fh=0) else false)=false then pr fr else false) || !decide (0≤fh∧fh≤3)) else false))=!(xF fr fh):=by
  unfold xF
  by_cases a:fr=0
  ·
   by_cases b:fh=0 <;> simp [a,b]
  ·
   by_cases b:0≤fh∧fh≤3
   ·
    cases pr fr <;> simp [a,b]
   ·
    cases pr fr <;> simp [a,b]
 rw [hF]
 generalize bO D=A1
 generalize bO Z=A2
 generalize bO A_=A3
 generalize vV vi G D op A7 A8=M
 generalize rY G O A5 A_=S
 generalize decide (0≤A9∧A9≤999)=C
 generalize decide (0≤A7∧A7≤999)=OC
 generalize decide (0≤A6∧A6≤3)=L
 generalize gC A4=R
 generalize fZ A0=U
 generalize xF fr fh=F
 generalize decide (0≤J∧J≤1000000060)=N
 generalize decide (0≤A5∧A5≤1000000060)=H
 generalize decide (J=0)=N0
 generalize pE Z=EO
 generalize decide ((O.length:Int)≤40)=Q
 generalize O.all pr=P
 cases A1
 ·
  simp
 cases A2
 ·
  simp
 cases A3
 ·
  simp
 cases M
 ·
  simp
 cases S
 ·
  simp
 cases C
 ·
  simp
 cases OC
 ·
  simp
 cases L
 ·
  simp
 cases R
 ·
  simp
 cases U
 ·
  simp
 cases F
 ·
  simp
 cases N
 ·
  simp
 cases H
 ·
  simp
 cases N0 <;> cases EO <;> cases Q <;> cases P <;> rfl
theorem aTg (hs:dA 100000000 (vi,G,D,A9,op,A7,A8,fr,fh,A6,A4,A0,J,Z,O,A5,A_)):vL (vi,G,D,A9,op,A7,A8,fr,fh,A6,A4,A0,J,Z,O,A5,A_)=some (cG (vi,G,D,A9,op,A7,A8,fr,fh,A6,A4,A0,J,Z,O,A5,A_)):=by
 obtain ⟨h1,⟨h2,h3⟩,⟨h4,h5⟩,h6,h7,h8⟩:=hs
 unfold vL cG
 simp only [qK D h1,qK Z h6,qK A_ h8,aV7,aFv A4 h2 h3,aFe A0 h4 h5,vP,aUw,cE,aS,aCu,aVl]
 rw [aTi vi G D A9 op A7 A8 fr fh A6 A4 A0 J Z O A5 A_ h7 _ bG 0 (by omega) (by omega) (by rw [bI];omega)]
 simp only [aF,Int.toNat_zero,List.drop_zero]
 have hF:(bif (bif (decide (fr=0)) then (!(decide (fh=0))) else false) then true else (bif (!(decide (fr=0))) then (bif (!(if (!decide (fr=0))=true∧(bif decide (fr=0) then !decide (fh=0) else false)=false then pr fr else false)) then true else (!(if (!if (!decide (fr=0))=true∧(bif decide (fr=0) then !decide (fh=0) else false)=false then pr fr else false)=false∧(!decide (fr=0))=true∧(bif decide (fr=0) then !decide (fh=0) else false)=false then decide (0≤fh∧fh≤3) else false))) else false))=!(xF fr fh):=by
  unfold xF
  by_cases a:fr=0
  ·
   by_cases b:fh=0 <;> simp [a,b]
  ·
   by_cases b:0≤fh∧fh≤3
   ·
    cases pr fr <;> simp [a,b]
   ·
    cases pr fr <;> simp [a,b]
 rw [hF]
 have hS:(bif (decide (G=3)) then true else (bif (bif (decide ((O.length:Int)=0)) then (decide (A5=0)) else false) then (if (bif (decide ((O.length:Int)=0)) then (decide (A5=0)) else false)=true∧(decide (G=3))=false then pE A_ else false) else false))=rY G O A5 A_:=by
  unfold rY
  by_cases a:G=3 <;> by_cases b:(O.length:Int)=0 <;> by_cases c:A5=0 <;> cases pE A_ <;> simp [a,b,c]
 have hS':pE (A_.1,A_.2)=pE A_:=rfl
 rw [hS',hS]
 generalize bO D=A1
 generalize bO Z=A2
 generalize bO A_=A3
 generalize vV vi G D op A7 A8=M
 generalize rY G O A5 A_=S
 generalize decide (0≤A9∧A9≤999)=C
 generalize decide (0≤A7∧A7≤999)=OC
 generalize decide (0≤A6∧A6≤3)=L
 generalize gC A4=R
 generalize fZ A0=U
 generalize xF fr fh=F
 generalize decide (0≤J∧J≤1000000060)=N
 generalize decide (0≤A5∧A5≤1000000060)=H
 generalize decide (J=0)=N0
 generalize pE Z=EO
 generalize decide ((O.length:Int)≤40)=Q
 generalize O.all pr=P
 cases A1
 ·
  simp
 cases A2
 ·
  simp
 cases A3
 ·
  simp
 cases C
 ·
  simp
 cases OC
 ·
  simp
 cases M
 ·
  simp
 cases F
 ·
  simp
 cases L
 ·
  simp
 cases R
 ·
  simp
 cases U
 ·
  simp
 cases N
 ·
  simp
 cases H
 ·
  simp
 cases N0 <;> cases EO <;> cases Q <;> cases P <;> cases S <;> rfl
end
def nT (G:Int) (l:List Int×Int):Int:=if G=2∧l.2=(l.1.length:Int)∧0<l.2 then l.2 - 1 else l.2
def zEd:EdT:=(false,0,([],0),0,0,0,0,0,0,0,[],[],0,([],0),[],0,([],0))
theorem aNm {vi:Bool} {G:Int} {D:List Int×Int} {A9 op A7 A8 fr fh A6:Int} {A4:List (List Int)} {A0:List (List Int×Int)} {J:Int} {Z:List Int×Int} {O:List Int} {A5:Int} {A_:List Int×Int} (h:cG (vi,G,D,A9,op,A7,A8,fr,fh,A6,A4,A0,J,Z,O,A5,A_)=true):bO D=true∧fZ A0=true:=by
 unfold cG at h
 simp only [Bool.and_eq_true] at h
 exact ⟨h.1.1.1.1.1.1.1.1.1.1.1.1.1.1.1,h.1.1.1.1.1.1.2⟩
theorem aPb (vi:Bool) (G:Int) (l:List Int×Int) (A9 op A7 A8 fr fh A6:Int) (A4:List (List Int)) (A0:List (List Int×Int)) (J:Int) (Z:List Int×Int) (O:List Int) (A5:Int) (A_:List Int×Int) (wl:l.2≤9223372036854775807) :
  mH (vi,G,l,A9,op,A7,A8,fr,fh,A6,A4,A0,J,Z,O,A5,A_)=some (vi,G,(l.1,nT G l),A9,op,A7,A8,fr,fh,A6,A4,A0,J,Z,O,A5,A_):=by
 unfold mH nT
 simp only [aS]
 by_cases a:G=2
 ·
  by_cases b:l.2=(l.1.length:Int)
  ·
   by_cases c:0<l.2
   ·
    rw [bK (x:=l.2 - 1) (by omega) (by omega),if_pos (show G=2∧l.2=(l.1.length:Int)∧0<l.2 from ⟨a,b,c⟩),decide_eq_true a,decide_eq_true b,decide_eq_true c]
    rfl
   ·
    rw [if_neg (show ¬ (G=2∧l.2=(l.1.length:Int)∧0<l.2) from fun h=>c h.2.2),decide_eq_true a,decide_eq_true b,decide_eq_false c]
    rfl
  ·
   rw [if_neg (show ¬ (G=2∧l.2=(l.1.length:Int)∧0<l.2) from fun h=>b h.2.1),decide_eq_true a,decide_eq_false b]
   rfl
 ·
  rw [if_neg (show ¬ (G=2∧l.2=(l.1.length:Int)∧0<l.2) from fun h=>a h.1),decide_eq_false a]
  rfl
theorem aAf (l:List Int×Int) (G:Int) (wl:l.2≤9223372036854775807):iW l G=some (l.1,nT G l):=by
 unfold iW nT
 simp only [aS,aQd,cE]
 unfold aBk
 by_cases a:G=2
 ·
  by_cases b:l.2=(l.1.length:Int)
  ·
   by_cases c:0<l.2
   ·
    have c':0<(l.1.length:Int):=by omega
    rw [bK (x:=l.2 - 1) (by omega) (by omega),if_pos (show G=2∧l.2=(l.1.length:Int)∧0<l.2 from ⟨a,b,c⟩),decide_eq_true a,decide_eq_true b,decide_eq_true c']
    rfl
   ·
    have c':¬ 0<(l.1.length:Int):=by omega
    rw [if_neg (show ¬ (G=2∧l.2=(l.1.length:Int)∧0<l.2) from fun h=>c h.2.2),decide_eq_true a,decide_eq_false c']
    rfl
  ·
   rw [if_neg (show ¬ (G=2∧l.2=(l.1.length:Int)∧0<l.2) from fun h=>b h.2.1),decide_eq_true a,decide_eq_false b]
   simp
 ·
  rw [if_neg (show ¬ (G=2∧l.2=(l.1.length:Int)∧0<l.2) from fun h=>a h.1),decide_eq_false a]
  rfl
theorem cL (a n:Int) (hn:0≤n):bV a n=some (max 0 (min a n)):=by
 simp only [bV,Bool.cond_decide]
 split
 ·
  congr 1;omega
 ·
  split <;> (congr 1;omega)
theorem aDq (a b c:List Int) (h:a.length+b.length+c.length≤536870912):gF a b c=some (a ++ b ++ c):=by
 unfold gF aP
 rw [if_pos (by simp;omega),if_pos (by simp;omega),if_pos (by simp;omega)]
 simp
theorem aUm (t:List Int) (h:t.length≤100000000):iB t=some (cS t):=by
 unfold iB cS
 rw [aB4 t h,cE]
 by_cases c:t.length≤400
 ·
  have c':(t.length:Int)≤400:=by omega
  simp [c,c']
 ·
  have c':¬ (t.length:Int)≤400:=by omega
  simp [c,c']
def lU (r:List (List Int)) (t:List Int) (how:Int):List (List Int):=
 if t.length=0 then r
 else if how=0∨r.length=0∨400<(at' r 0).length+t.length then ([t] ++ r).take 6
 else r.set 0 (if how=1 then at' r 0 ++ t else t ++ at' r 0)
theorem iV {t:List Int} (h:cS t=true):t.length≤400:=by
 unfold cS at h
 simp only [Bool.and_eq_true,decide_eq_true_eq] at h
 exact h.2
theorem lV {r:List (List Int)} (h:gC r=true):r.length≤6∧∀ s ∈ r,cS s=true∧0<s.length:=by
 unfold gC at h
 simp only [Bool.and_eq_true,decide_eq_true_eq,List.all_eq_true] at h
 refine ⟨h.2,fun s hs=>?_⟩
 have:=h.1 s hs
 unfold nC at this
 simp only [Bool.and_eq_true,Bool.not_eq_true',decide_eq_false_iff_not] at this
 exact ⟨this.1,by omega⟩
theorem aIs {r:List (List Int)} (h1:r.length≤6) (h2:∀ s ∈ r,cS s=true∧0<s.length):gC r=true:=by
 unfold gC
 simp only [Bool.and_eq_true,decide_eq_true_eq,List.all_eq_true]
 refine ⟨fun s hs=>?_,h1⟩
 obtain ⟨a,b⟩:=h2 s hs
 unfold nC
 simp only [Bool.and_eq_true,Bool.not_eq_true',decide_eq_false_iff_not]
 exact ⟨a,by omega⟩
theorem aB5 {a b:List Int} (ha:cS a=true) (hb:cS b=true) (hl:a.length+b.length≤400):cS (a ++ b)=true:=by
 unfold cS at *
 simp only [Bool.and_eq_true,decide_eq_true_eq,List.all_append,List.length_append] at *
 exact ⟨⟨ha.1,hb.1⟩,hl⟩
theorem vN {r:List (List Int)} {t:List Int} {how:Int} (hr:gC r=true) (ht:cS t=true):gC (lU r t how)=true:=by
 obtain ⟨h1,h2⟩:=lV hr
 unfold lU
 split
 ·
  exact hr
 ·
  rename_i h0
  split
  ·
   refine aIs (by simp;omega) fun s hs=>?_
   have:=List.mem_of_mem_take hs
   simp only [List.singleton_append,List.mem_cons] at this
   rcases this with rfl | hm
   ·
    exact ⟨ht,by omega⟩
   ·
    exact h2 s hm
  ·
   rename_i h3
   simp only [not_or] at h3
   have hm:at' r 0 ∈ r:=List.mem_of_getElem? (bD (xs:=r) (i:=0) ⟨by omega,by omega⟩)
   obtain ⟨k1,k2⟩:=h2 _ hm
   refine aIs (by simp;omega) fun s hs=>?_
   rcases List.mem_or_eq_of_mem_set hs with hs | rfl
   ·
    exact h2 s hs
   ·
    split
    ·
     exact ⟨aB5 k1 ht (by omega),by simp;omega⟩
    ·
     exact ⟨aB5 ht k1 (by omega),by simp;omega⟩
theorem aJn (x:List (List Int)) (hx:(x.length:Int)≤1000) (j:List (List Int)→Option (List (List Int)×Bool)) :
  (bif decide (6<(x.length:Int)) then (aP (0≤(0:Int)∧(0:Int)≤(6:Int)∧(6:Int)≤(x.length:Int)) <| j (bU x 0 (6:Int))) else j x)=j (x.take 6):=by
 by_cases h:6<(x.length:Int)
 ·
  rw [decide_eq_true h,cond_true,aP,if_pos (by omega)]
  simp [bU]
 ·
  rw [decide_eq_false h,cond_false,List.take_of_length_le (by omega)]
theorem aDe (r:List (List Int)) (t:List Int) (how:Int) (hr:gC r=true) (ht:cS t=true) (hh:0≤how∧how≤2):qE r t how=some (lU r t how,true):=by
 obtain ⟨r1,r2⟩:=lV hr
 have r3:∀ s ∈ r,s.length≤400:=fun s hs=>iV (r2 s hs).1
 have tl:=iV ht
 have c1:¬ how<0:=by omega
 have c2:¬ 2<how:=by omega
 unfold qE lU
 rw [aO (aFu r (by omega) (fun s hs=>by have:=r3 s hs;omega)),aUm t (by omega),cE,hr,ht,aG5 r (by omega) (fun s hs=>by have:=r3 s hs;omega)]
 simp only [c1,c2,decide_false,Bool.not_true,cond_false,if_true,aF]
 by_cases h0:t.length=0
 ·
  have h0':(t.length:Int)=0:=by omega
  simp [h0]
 ·
  have h0':¬ (t.length:Int)=0:=by omega
  rw [if_neg h0,decide_eq_false h0',cond_false]
  have hat:0<r.length→(at' r 0).length≤400:=fun hp=>r3 _ (List.mem_of_getElem? (bD (xs:=r) (i:=0) ⟨by omega,by omega⟩))
  simp only [aP]
  rw [if_pos (fun h=>by
   by_cases hp:0<(r.length:Int)
   ·
    exact ⟨by omega,hp⟩
   ·
    rw [decide_eq_false hp] at h;simp at h)]
  by_cases hp:0<r.length
  ·
   have hp':0<(r.length:Int):=by omega
   have:=hat hp
   rw [decide_eq_true hp',bK (by omega) (by omega)]
   by_cases hz:how=0
   ·
    rw [if_pos (Or.inl hz)]
    have e0:(!decide (how=0))=false:=by simp [hz]
    simp only [e0,cond_false,aS,List.nil_append]
    rw [if_pos (by simp;omega),if_pos (by simp;omega)]
    have:=aJn ([t] ++ r) (by simp;omega) (fun x=>some (x,true))
    simp only [aP] at this
    exact this
   ·
    have e0:(!decide (how=0))=true:=by simp [hz]
    by_cases h4:400<(at' r 0).length+t.length
    ·
     rw [if_pos (Or.inr (Or.inr h4))]
     have e1:¬ (((at' r 0).length:Int)+(t.length:Int)≤400):=by omega
     simp only [e0,e1,decide_false,cond_false,cond_true,aS,List.nil_append]
     rw [if_pos (by simp;omega),if_pos (by simp;omega)]
     have:=aJn ([t] ++ r) (by simp;omega) (fun x=>some (x,true))
     simp only [aP] at this
     exact this
    ·
     rw [if_neg (show ¬ (how=0∨r.length=0∨400<(at' r 0).length+t.length) by omega)]
     have e1:(((at' r 0).length:Int)+(t.length:Int)≤400):=by omega
     have g:(0≤(0:Int)∧0<(r.length:Int)):=⟨by omega,hp'⟩
     have j1:=aDq (at' r 0) t [] (by simp;omega)
     have j2:=aDq t (at' r 0) [] (by simp;omega)
     simp only [List.append_nil] at j1 j2
     simp only [e0,e1,decide_true,cond_true,aS,if_pos g,j1,j2]
     by_cases h2:how=2
     ·
      have:¬ how=1:=by omega
      simp [h2]
     ·
      have:how=1:=by omega
      simp [this]
  ·
   have hp':¬ 0<(r.length:Int):=by omega
   have hz:r.length=0:=by omega
   rw [decide_eq_false hp',if_pos (Or.inr (Or.inl hz))]
   have e0:(bif (!decide (how=0)) then false else false)=false:=by cases (!decide (how=0)) <;> rfl
   simp only [e0,cond_false,aS,List.nil_append]
   rw [if_pos (by simp;omega),if_pos (by simp;omega)]
   have:=aJn ([t] ++ r) (by simp;omega) (fun x=>some (x,true))
   simp only [aP] at this
   exact this
theorem aDf (r:List (List Int)) (t:List Int) (how:Int) (hr:gC r=true) (ht:cS t=true) (hh:0≤how∧how≤2):qI r t how=some (lU r t how,true):=by
 obtain ⟨r1,r2⟩:=lV hr
 have r3:∀ s ∈ r,s.length≤400:=fun s hs=>iV (r2 s hs).1
 have tl:=iV ht
 unfold qI lU
 rw [aO (aFv r (by omega) (fun s hs=>by have:=r3 s hs;omega)),aCu,cE,aHb t (by omega),cE,hr,ht,aG6 r (by omega) (fun s hs=>by have:=r3 s hs;omega),decide_eq_true hh]
 simp only [Bool.not_true,cond_false,if_true,aF,aS,mC t (by omega)]
 by_cases h0:t.length=0
 ·
  have h0':(t.length:Int)=0:=by omega
  simp [h0]
 ·
  have h0':¬ (t.length:Int)=0:=by omega
  rw [if_neg h0,decide_eq_false h0',cond_false]
  have hat:0<r.length→(at' r 0).length≤400:=fun hp=>r3 _ (List.mem_of_getElem? (bD (xs:=r) (i:=0) ⟨by omega,by omega⟩))
  simp only [aP]
  rw [if_pos (fun h=>by
   by_cases hp:(r.length:Int)=0
   ·
    rw [decide_eq_true hp] at h;simp at h
   ·
    exact ⟨by omega,by omega⟩)]
  have T:(if [t].length+r.length≤536870912 then if 0≤(0:Int)∧(0:Int)≤min (([t] ++ r).length:Int) 6∧min (([t] ++ r).length:Int) 6≤(([t] ++ r).length:Int) then some (bU ([t] ++ r) 0 (min (([t] ++ r).length:Int) 6),true) else none else none)=some (([t] ++ r).take 6,true):=by
   rw [if_pos (by simp;omega),if_pos (by omega)]
   congr 2
   unfold bU
   simp only [Int.toNat_zero,List.drop_zero,Int.sub_zero]
   by_cases h:([t] ++ r).length≤6
   ·
    have e:(min (([t] ++ r).length:Int) 6).toNat=([t] ++ r).length:=by omega
    rw [Nat.sub_zero,e,List.take_length,List.take_of_length_le h]
   ·
    have e:(min (([t] ++ r).length:Int) 6).toNat=6:=by omega
    rw [Nat.sub_zero,e]
  by_cases hp:0<r.length
  ·
   have hp':¬ (r.length:Int)=0:=by omega
   have:=hat hp
   rw [decide_eq_false hp',bK (by omega) (by omega)]
   by_cases hz:how=0
   ·
    rw [if_pos (Or.inl hz)]
    simp only [hz,decide_true,cond_true]
    exact T
   ·
    by_cases h4:400<(at' r 0).length+t.length
    ·
     rw [if_pos (Or.inr (Or.inr h4))]
     have e1:400<((at' r 0).length:Int)+(t.length:Int):=by omega
     simp only [hz,e1,decide_false,decide_true,cond_false,cond_true]
     exact T
    ·
     rw [if_neg (show ¬ (how=0∨r.length=0∨400<(at' r 0).length+t.length) by omega)]
     have e1:¬ 400<((at' r 0).length:Int)+(t.length:Int):=by omega
     have g:(0≤(0:Int)∧0<(r.length:Int)):=⟨by omega,by omega⟩
     simp only [hz,e1,decide_false,cond_false,if_pos g]
     by_cases h2:how=1
     ·
      simp only [h2,decide_true,cond_true,if_true]
      rw [if_pos (by omega)];rfl
     ·
      simp only [h2,decide_false,cond_false,if_false]
      rw [if_pos (by omega)];rfl
  ·
   have hp':(r.length:Int)=0:=by omega
   have hz:r.length=0:=by omega
   rw [decide_eq_true hp',if_pos (Or.inr (Or.inl hz))]
   have e0:(bif bif decide (how=0) then true else true then true else decide (400<W (((at' r 0).length:Int)+(t.length:Int))))=true:=by cases decide (how=0) <;> rfl
   rw [e0,cond_true]
   exact T
theorem bB {l:List Int×Int} (h:bO l=true):0≤l.2∧l.2≤(l.1.length:Int)∧l.1.length≤400:=by
 unfold bO cS at h
 simp only [Bool.and_eq_true,decide_eq_true_eq] at h
 exact ⟨h.2.1,h.2.2,h.1.2⟩
def goL (l:List Int×Int) (at_:Int):List Int×Int:=(l.1,max 0 (min at_ (l.1.length:Int)))
theorem wN (l:List Int×Int) (a:Int) (hl:l.1.length≤1048576):eE l a=some (goL l a):=by
 unfold eE goL
 rw [aO (mC l.1 (by omega))]
theorem eT {l:List Int×Int} (h:bO l=true):cS l.1=true:=by
 unfold bO at h
 simp only [Bool.and_eq_true] at h
 exact h.1
theorem rQ {t:List Int} {a:Int} (h:cS t=true) (h0:0≤a) (h1:a≤(t.length:Int)):bO (t,a)=true:=by
 unfold bO
 simp only [h,Bool.true_and,decide_eq_true_eq]
 exact ⟨h0,h1⟩
theorem iS {l:List Int×Int} (h:bO l=true) (a:Int):bO (goL l a)=true:=rQ (eT h) (by omega) (by omega)
theorem aGu (l:List Int×Int) (a:Int) (h:bO l=true):pI l a=some (goL l a,true):=by
 obtain ⟨h0,h1,h2⟩:=bB h
 unfold pI nN
 have hg:=iS h a
 have e:goL l a=(l.1,max 0 (min a (l.1.length:Int))):=rfl
 rw [aO (aDq l.1 [] [] (by simp;omega)),aO (cL a _ (by omega)),aO (kM l (by omega)),h]
 simp only [List.append_nil]
 rw [← e,kM _ (by rw [e];simp only;omega),cE,hg]
 rfl
theorem aS6 (l:List Int×Int) (a b:Int) (hl:l.1.length≤100000000):vI l a b=some (bO l && decide (0≤a∧a≤b∧b≤(l.1.length:Int))):=by
 unfold vI
 rw [aO (qK l hl)]
 congr 1
 by_cases h1:0≤a <;> by_cases h2:a≤b <;> by_cases h3:b≤(l.1.length:Int) <;> cases bO l <;> simp [h1,h2,h3]
theorem aVu (l:List Int×Int) (a b:Int) (hl:l.1.length≤100000000):sU l a b=some (bO l && decide (0≤a∧a≤b∧b≤(l.1.length:Int))):=by
 unfold sU
 rw [aO (kM l hl)]
 congr 1
 by_cases h1:0≤a <;> by_cases h2:a≤b <;> by_cases h3:b≤(l.1.length:Int) <;> cases bO l <;> simp [h1,h2,h3]
def tX (l:List Int×Int) (a b:Int):List Int×Int:=
  (bU l.1 0 a ++ bU l.1 b (l.1.length:Int),if b≤l.2 then l.2 - (b - a) else if a<l.2 then a else l.2)
def aE2 (l:List Int×Int) (a b:Int):(List Int×Int)×List Int×Bool:=
  if bO l && decide (0≤a∧a≤b∧b≤(l.1.length:Int)) then (tX l a b,bU l.1 a b,true) else (([],0),[],false)
theorem aDp (l:List Int×Int) (a b:Int) (hl:l.1.length≤1048576):jW l a b=some (aE2 l a b):=by
 unfold jW aE2
 rw [aO (aS6 l a b (by omega))]
 by_cases h:bO l=true∧(0≤a∧a≤b∧b≤(l.1.length:Int))
 ·
  obtain ⟨h1,h2⟩:=h
  obtain ⟨p0,p1,p2⟩:=bB h1
  rw [h1,decide_eq_true h2]
  simp only [Bool.and_self,Bool.not_true,cond_false,if_true,aS,aP]
  have s1:(bU l.1 0 a).length≤400:=by have:=nB (xs:=l.1) (lo:=0) (hi:=a) (by omega);omega
  have s2:(bU l.1 b (l.1.length:Int)).length≤400:=by have:=nB (xs:=l.1) (lo:=b) (hi:=(l.1.length:Int)) (by omega);omega
  have s3:(bU l.1 a b).length≤400:=by have:=nB (xs:=l.1) (lo:=a) (hi:=b) (by omega);omega
  have g1:(0≤(0:Int)∧(0:Int)≤a∧a≤(l.1.length:Int)):=by omega
  have g2:(0≤b∧b≤(l.1.length:Int)∧(l.1.length:Int)≤(l.1.length:Int)):=by omega
  have g3:(bU l.1 0 a).length+(bU l.1 b (l.1.length:Int)).length≤536870912:=by omega
  simp only [if_pos g1,mC (bU l.1 0 a) (by omega),mC (bU l.1 a b) (by omega),aF,if_pos g2,if_pos g3,if_pos h2,Bool.cond_decide]
  have hW:b≤l.2→W (l.2 - W (b - a))=l.2 - (b - a):=fun hb=>by
   rw [bK (x:=b - a) (by omega) (by omega),bK (by omega) (by omega)]
  unfold tX
  by_cases c1:b≤l.2
  ·
   rw [if_pos c1,if_pos c1,hW c1]
  ·
   rw [if_neg c1,if_neg c1]
   by_cases c2:a<l.2
   ·
    rw [if_pos c2,if_pos c2]
   ·
    rw [if_neg c2,if_neg c2]
 ·
  have:(bO l && decide (0≤a∧a≤b∧b≤(l.1.length:Int)))=false:=by
   cases hq:(bO l && decide (0≤a∧a≤b∧b≤(l.1.length:Int)))
   ·
    rfl
   ·
    simp only [Bool.and_eq_true,decide_eq_true_eq] at hq
    exact absurd hq h
  rw [this]
  simp
theorem aDo (l:List Int×Int) (a b:Int) (hl:l.1.length≤1048576):jU l a b=some (aE2 l a b):=by
 unfold jU aE2
 rw [aO (aVu l a b (by omega))]
 by_cases h:bO l=true∧(0≤a∧a≤b∧b≤(l.1.length:Int))
 ·
  obtain ⟨h1,h2⟩:=h
  obtain ⟨p0,p1,p2⟩:=bB h1
  rw [h1,decide_eq_true h2]
  simp only [Bool.and_self,Bool.not_true,cond_false,if_true,aS,aP]
  have s1:(bU l.1 0 a).length≤400:=by have:=nB (xs:=l.1) (lo:=0) (hi:=a) (by omega);omega
  have s2:(bU l.1 b (l.1.length:Int)).length≤400:=by have:=nB (xs:=l.1) (lo:=b) (hi:=(l.1.length:Int)) (by omega);omega
  have s3:(bU l.1 a b).length≤400:=by have:=nB (xs:=l.1) (lo:=a) (hi:=b) (by omega);omega
  rw [aDq _ _ _ (by simp;omega),aDq _ _ _ (by simp;omega)]
  have g1:(0≤(0:Int)∧(0:Int)≤a∧a≤(l.1.length:Int)):=by omega
  have g2:(0≤b∧b≤(l.1.length:Int)∧(l.1.length:Int)≤(l.1.length:Int)):=by omega
  simp only [aF,if_pos g1,if_pos g2,if_pos h2,Bool.cond_decide,List.append_nil,List.nil_append]
  have hW:b≤l.2→W (l.2 - W (b - a))=l.2 - (b - a):=fun hb=>by
   rw [bK (x:=b - a) (by omega) (by omega),bK (by omega) (by omega)]
  unfold tX
  by_cases c1:b≤l.2
  ·
   rw [if_pos c1,if_pos c1,hW c1]
  ·
   rw [if_neg c1,if_neg c1]
   by_cases c2:a<l.2
   ·
    rw [if_pos c2,if_pos c2]
   ·
    rw [if_neg c2,if_neg c2]
 ·
  have:(bO l && decide (0≤a∧a≤b∧b≤(l.1.length:Int)))=false:=by
   cases hq:(bO l && decide (0≤a∧a≤b∧b≤(l.1.length:Int)))
   ·
    rfl
   ·
    simp only [Bool.and_eq_true,decide_eq_true_eq] at hq
    exact absurd hq h
  rw [this]
  simp
theorem aUa {α:Type} {xs:List α} {a b:Int} {x:α} (h:x ∈ bU xs a b):x ∈ xs:=List.mem_of_mem_drop (List.mem_of_mem_take h)
theorem kC {t:List Int} (h:cS t=true) (a b:Int):cS (bU t a b)=true:=by
 unfold cS at *
 simp only [Bool.and_eq_true,decide_eq_true_eq,List.all_eq_true] at *
 refine ⟨fun x hx=>h.1 x (aUa hx),?_⟩
 have:(bU t a b).length≤t.length:=by unfold bU;simp only [List.length_take,List.length_drop];omega
 omega
theorem tW {l:List Int×Int} {a b:Int} (h:bO l=true) (hr:0≤a∧a≤b∧b≤(l.1.length:Int)):bO (tX l a b)=true∧((tX l a b).1.length:Int)=l.1.length - (b - a):=by
 obtain ⟨p0,p1,p2⟩:=bB h
 have ha:=eT h
 have s1:=nB (xs:=l.1) (lo:=0) (hi:=a) (by omega)
 have s2:=nB (xs:=l.1) (lo:=b) (hi:=(l.1.length:Int)) (by omega)
 have hlen:((bU l.1 0 a ++ bU l.1 b (l.1.length:Int)).length:Int)=l.1.length - (b - a):=by simp only [List.length_append];omega
 refine ⟨?_,hlen⟩
 unfold tX
 refine rQ (aB5 (kC ha _ _) (kC ha _ _) (by omega)) ?_ ?_
 ·
  split
  ·
   omega
  ·
   split <;> omega
 ·
  rw [hlen]
  split
  ·
   omega
  ·
   split <;> omega
theorem aLs (a b:List Int) (hl:a.length=b.length) (ha:(a.length:Int)≤100000000):∀ (m:Nat) (k:Int),0≤k→k≤(a.length:Int)→(a.length:Int) - k<m→aW (mI a b fun _=>some true) m k=some (decide (a.drop k.toNat=b.drop k.toNat)):=by
 intro m
 induction m with
 | zero=>intro k _ _ h;omega
 | succ m ih=>
  intro k hk hk' hm
  simp only [aW,mI,aP,Bool.cond_decide]
  by_cases h1:k<(a.length:Int)
  ·
   have h2:k<(b.length:Int):=by omega
   rw [if_pos h1,if_pos ⟨hk,h1⟩,if_pos ⟨hk,h2⟩,dU hk h1,dU hk h2,bK (by omega) (by omega),ih (k+1) (by omega) (by omega) (by omega)]
   by_cases h3:at' a k=at' b k
   ·
    simp [h3]
   ·
    simp [h3]
  ·
   rw [if_neg h1,List.drop_eq_nil_of_le (by omega),List.drop_eq_nil_of_le (by omega)]
   simp
theorem aSd (a b:List Int) (ha:(a.length:Int)≤100000000):qC a b=some (decide (a=b)):=by
 unfold qC
 by_cases h:a.length=b.length
 ·
  have h':(a.length:Int)=(b.length:Int):=by omega
  rw [decide_eq_true h']
  simp only [Bool.not_true,cond_false,aS]
  rw [aLs a b h ha bG 0 (by omega) (by omega) (by rw [bI];omega)]
  simp
 ·
  have h':¬ (a.length:Int)=(b.length:Int):=by omega
  have h2:a≠b:=fun e=>h (by rw [e])
  rw [decide_eq_false h',decide_eq_false h2];rfl
theorem aLt (a b:List Int) (hl:a.length=b.length) (ha:(a.length:Int)≤100000000):∀ (m:Nat) (k:Int),0≤k→k≤(a.length:Int)→(a.length:Int) - k<m→aW (lC a b fun _=>some true) m k=some (decide (a.drop k.toNat=b.drop k.toNat)):=by
 intro m
 induction m with
 | zero=>intro k _ _ h;omega
 | succ m ih=>
  intro k hk hk' hm
  simp only [aW,lC,aP,Bool.cond_decide]
  by_cases h1:k<(a.length:Int)
  ·
   have h2:k<(b.length:Int):=by omega
   rw [if_pos h1,if_pos ⟨hk,h1⟩,if_pos ⟨hk,h2⟩,dU hk h1,dU hk h2,bK (by omega) (by omega),ih (k+1) (by omega) (by omega) (by omega)]
   by_cases h3:at' a k=at' b k
   ·
    simp [h3]
   ·
    simp [h3]
  ·
   rw [if_neg h1,List.drop_eq_nil_of_le (by omega),List.drop_eq_nil_of_le (by omega)]
   simp
theorem aSe (a b:List Int) (ha:(a.length:Int)≤100000000):nQ a b=some (decide (a=b)):=by
 unfold nQ
 by_cases h:a.length=b.length
 ·
  have h':(a.length:Int)=(b.length:Int):=by omega
  rw [decide_eq_true h']
  simp only [Bool.not_true,cond_false,aS]
  rw [aLt a b h ha bG 0 (by omega) (by omega) (by rw [bI];omega)]
  simp
 ·
  have h':¬ (a.length:Int)=(b.length:Int):=by omega
  have h2:a≠b:=fun e=>h (by rw [e])
  rw [decide_eq_false h',decide_eq_false h2];rfl
def aOp (u:List (List Int×Int)) (l:List Int×Int):List (List Int×Int):=
 if 0<u.length∧(at' u ((u.length:Int) - 1)).1=l.1 then u
 else if u.length=20 then (u ++ [l]).drop 1 else u ++ [l]
theorem aQk (u:List (List Int×Int)) (l:List Int×Int) (hu:fZ u=true) (hl:bO l=true) (h1:(u.length:Int)≤1048576) (h2:∀ s ∈ u,(s.1.length:Int)≤1048576) (h3:(l.1.length:Int)≤1048576) :
  sV u l=some (aOp u l,true):=by
 unfold sV aOp
 rw [aO (aFd u (by omega) (fun s h=>by have:=h2 s h;omega)),kM l (by omega),cE,hu,hl]
 simp only [Bool.not_true,cond_false,if_true]
 rw [aO (aB2 u h1 h2),aO (gR l h3),bK (by omega) (by omega)]
 have hg:(decide (0<(u.length:Int))=true→0≤(u.length:Int) - 1∧(u.length:Int) - 1<(u.length:Int)):=by
  intro h;have:=of_decide_eq_true h;omega
 simp only [aP]
 rw [if_pos hg]
 have hlen:(at' u ((u.length:Int) - 1)).1.length≤100000000:=by
  by_cases h0:0<u.length
  ·
   have:=h2 _ (List.mem_of_getElem? (bD (xs:=u) (i:=(u.length:Int) - 1) ⟨by omega,by omega⟩))
   omega
  ·
   have:u=[]:=List.length_eq_zero_iff.1 (by omega)
   subst this;simp [at'];decide
 rw [aSd _ _ (by omega),cE,if_pos (show u.length+([l]:List (List Int×Int)).length≤536870912 by simp;omega)]
 have gT:(0≤(1:Int)∧(1:Int)≤((u ++ [l]).length:Int)∧((u ++ [l]).length:Int)≤((u ++ [l]).length:Int)):=⟨by omega,by simp only [List.length_append,List.length_singleton];omega,by omega⟩
 simp only [if_pos gT,aS,aPn (show (0:Int)≤1 by omega)]
 have e1:Int.toNat 1=1:=rfl
 rw [e1]
 by_cases h0:0<u.length
 ·
  have h0':0<(u.length:Int):=by omega
  by_cases hs:(at' u ((u.length:Int) - 1)).1=l.1
  ·
   rw [if_pos (show 0<u.length∧(at' u ((u.length:Int) - 1)).1=l.1 from ⟨h0,hs⟩)]
   simp only [h0',hs,decide_true,if_true,cond_true]
  ·
   rw [if_neg (show ¬ (0<u.length∧(at' u ((u.length:Int) - 1)).1=l.1) from fun h=>hs h.2)]
   simp only [h0',hs,decide_true,decide_false,if_true,cond_true,cond_false]
   by_cases h20:u.length=20
   ·
    have h20':(u.length:Int)=20:=by omega
    rw [if_pos h20]
    simp only [h20',decide_true,cond_true]
   ·
    have h20':¬ (u.length:Int)=20:=by omega
    rw [if_neg h20]
    simp only [h20',decide_false,cond_false]
 ·
  have h0':¬ 0<(u.length:Int):=by omega
  have h20:¬ u.length=20:=by omega
  have h20':¬ (u.length:Int)=20:=by omega
  rw [if_neg (show ¬ (0<u.length∧(at' u ((u.length:Int) - 1)).1=l.1) from fun h=>h0 h.1),if_neg h20]
  simp only [h0',h20',decide_false,cond_false]
theorem aQl (u:List (List Int×Int)) (l:List Int×Int) (hu:fZ u=true) (hl:bO l=true) (h1:(u.length:Int)≤1048576) (h2:∀ s ∈ u,(s.1.length:Int)≤1048576) (h3:(l.1.length:Int)≤1048576) :
  tG u l=some (aOp u l,true):=by
 unfold tG aOp
 rw [aO (aFe u (by omega) (fun s h=>by have:=h2 s h;omega)),qK l (by omega),cE,hu,hl]
 simp only [Bool.not_true,cond_false,if_true]
 rw [aO (aB3 u h1 h2),aO (iU l h3),bK (by omega) (by omega)]
 have hg:(decide (0<(u.length:Int))=true→0≤(u.length:Int) - 1∧(u.length:Int) - 1<(u.length:Int)):=by
  intro h;have:=of_decide_eq_true h;omega
 have hu20:u.length≤20:=by
  unfold fZ at hu
  simp only [Bool.and_eq_true,decide_eq_true_eq] at hu
  exact hu.2
 simp only [aP]
 rw [if_pos hg]
 have hlen:(at' u ((u.length:Int) - 1)).1.length≤100000000:=by
  by_cases h0:0<u.length
  ·
   have:=h2 _ (List.mem_of_getElem? (bD (xs:=u) (i:=(u.length:Int) - 1) ⟨by omega,by omega⟩))
   omega
  ·
   have:u=[]:=List.length_eq_zero_iff.1 (by omega)
   subst this;simp [at'];decide
 rw [aSe _ _ (by omega),cE,if_pos (show u.length+([l]:List (List Int×Int)).length≤536870912 by simp;omega)]
 have hd:decide (20<((u ++ [l]).length:Int))=decide (u.length=20):=by
  by_cases h20:u.length=20
  ·
   rw [decide_eq_true h20,decide_eq_true (by simp;omega)]
  ·
   rw [decide_eq_false h20,decide_eq_false (by simp;omega)]
 have gT:(0≤(1:Int)∧(1:Int)≤((u ++ [l]).length:Int)∧((u ++ [l]).length:Int)≤((u ++ [l]).length:Int)):=⟨by omega,by simp only [List.length_append,List.length_singleton];omega,by omega⟩
 simp only [if_pos gT,aS,aPn (show (0:Int)≤1 by omega)]
 have e1:Int.toNat 1=1:=rfl
 rw [e1]
 by_cases h0:0<u.length
 ·
  have h0':0<(u.length:Int):=by omega
  by_cases hs:(at' u ((u.length:Int) - 1)).1=l.1
  ·
   rw [if_pos (show 0<u.length∧(at' u ((u.length:Int) - 1)).1=l.1 from ⟨h0,hs⟩)]
   simp only [h0',hs,decide_true,if_true,cond_true]
  ·
   rw [if_neg (show ¬ (0<u.length∧(at' u ((u.length:Int) - 1)).1=l.1) from fun h=>hs h.2)]
   simp only [h0',hs,decide_true,decide_false,if_true,cond_true,cond_false]
   by_cases h20:u.length=20
   ·
    have h20':(u.length:Int)=20:=by omega
    rw [if_pos h20]
    simp only [hd,h20,decide_true,cond_true]
   ·
    have h20':¬ (u.length:Int)=20:=by omega
    rw [if_neg h20]
    simp only [hd,h20,decide_false,cond_false]
 ·
  have h0':¬ 0<(u.length:Int):=by omega
  have h20:¬ u.length=20:=by omega
  have h20':¬ (u.length:Int)=20:=by omega
  rw [if_neg (show ¬ (0<u.length∧(at' u ((u.length:Int) - 1)).1=l.1) from fun h=>h0 h.1),if_neg h20]
  simp only [h0',hd,h20,decide_false,cond_false]
theorem aWl {α:Type} [Inhabited α] {l:List α} {k:Int} (h0:0≤k) (h:k<(l.length:Int)):l[k.toNat]?=some (at' l k):=bD ⟨h0,h⟩
theorem aLd (xs:List Int) (hl:(xs.length:Int)≤100000000) (j:List Int→Option (List Int)):∀ (m:Nat) (ys:List Int) (k:Int),0≤k→k≤(xs.length:Int)→ys.length=xs.length→(∀ i:Nat,(i:Int)<k→ys[i]?=xs[i]?)→(xs.length:Int) - k<m→0<m →
  aW (oH xs j) m (ys,k)=j xs:=by
 intro m
 induction m with
 | zero=>intro ys k _ _ _ _ h h';omega
 | succ m ih=>
  intro ys k hk hk' hy hyx hm _
  simp only [aW,oH,aP,Bool.cond_decide]
  by_cases h1:k<(xs.length:Int)
  ·
   have h2:k<(ys.length:Int):=by omega
   simp only [h1,h2,hk,if_true,and_self]
   rw [bK (by omega) (by omega)]
   refine ih _ _ (by omega) (by omega) (by simpa using hy) (fun i hi=>?_) (by omega) (by omega)
   rw [List.getElem?_set]
   by_cases he:k.toNat=i
   ·
    subst he
    rw [if_pos rfl,if_pos (by omega),aWl hk h1]
   ·
    rw [if_neg he]
    exact hyx i (by omega)
  ·
   simp only [h1,if_false]
   congr 1
   apply List.ext_getElem?
   intro i
   by_cases hi:(i:Int)<k
   ·
    exact hyx i hi
   ·
    rw [List.getElem?_eq_none (by omega),List.getElem?_eq_none (by omega)]
theorem aC8 (xs:List Int) (hl:(xs.length:Int)≤100000000):pK xs=some xs:=by
 unfold pK aP
 rw [if_pos (by omega)]
 exact aLd xs hl _ bG _ 0 (by omega) (by omega) (by simp) (fun i hi=>by omega) (by rw [bI];omega) (by rw [bI];omega)
theorem aNj (xs:List Int) (hl:(xs.length:Int)≤100000000) (j:Unit→Option Bool):∀ (m:Nat) (k:Int),0≤k→k≤(xs.length:Int)→(xs.length:Int) - k<m→0<m→aW (oK xs xs j) m k=j ():=by
 intro m
 induction m with
 | zero=>intro k _ _ h h';omega
 | succ m ih=>
  intro k hk hk' hm _
  simp only [aW,oK,aP,Bool.cond_decide]
  by_cases h1:k<(xs.length:Int)
  ·
   simp only [h1,hk,if_true,and_self,decide_true,Bool.not_true,cond_false]
   rw [bK (by omega) (by omega)]
   exact ih _ (by omega) (by omega) (by omega) (by omega)
  ·
   simp only [h1,if_false]
theorem aAk (xs:List Int) (hl:(xs.length:Int)≤100000000):pN xs xs=some true:=by
 unfold pN
 simp only [decide_true,Bool.not_true,cond_false]
 exact aNj xs hl _ bG 0 (by omega) (by omega) (by rw [bI];omega) (by rw [bI];omega)
theorem aDa (xs:List Int) (hx:xs.length≤maxLen) (left:Int) (h0:0≤left) (h1:left≤1048576) :
  ∃ v,pL xs left=some v∧(v = -1∨(0≤v∧v≤left∧(xs.length:Int)≤left)):=by
 have hM':maxLen≤9223372036854775807:=by decide
 unfold pL
 rw [bK (by omega) (by omega)]
 by_cases h:left - (xs.length:Int)<0
 ·
  exact ⟨-1,by simp [h],.inl rfl⟩
 ·
  exact ⟨left - xs.length,by simp [h],.inr (by omega)⟩
theorem aA2 (l:List Int×Int) (hx:l.1.length≤maxLen) (left:Int) (h0:0≤left) (h1:left≤1048576) :
  ∃ v,mR l left=some v∧(v = -1∨(0≤v∧v≤left∧(l.1.length:Int)≤left)):=by
 obtain ⟨v,e,hv⟩:=aDa l.1 hx left h0 h1
 unfold mR
 rw [aO e]
 rcases hv with rfl | ⟨v0,v1,v2⟩
 ·
  exact ⟨-1,rfl,.inl rfl⟩
 ·
  have:¬ v<0:=by omega
  exact ⟨v,by simp [this],.inr ⟨v0,v1,v2⟩⟩
theorem aN4 (l:List Int) (hx:l.length≤maxLen) (left:Int) (h0:0≤left) (h1:left≤1048576) :
  ∃ v,tA l left=some v∧(v = -1∨(0≤v∧v≤left∧(l.length:Int)≤left)):=by
 obtain ⟨v,e,hv⟩:=aDa l hx left h0 h1
 unfold tA
 rw [aO e]
 rcases hv with rfl | ⟨v0,v1,v2⟩
 ·
  exact ⟨-1,rfl,.inl rfl⟩
 ·
  have:¬ v<0:=by omega
  exact ⟨v,by simp [this],.inr ⟨v0,v1,v2⟩⟩
theorem aHl (xs:List (List Int)) (hx:xs.length≤maxLen) (hs:∀ s ∈ xs,s.length≤maxLen):∀ (m:Nat) (left k:Int),0≤left→left≤1048576→0≤k→k≤(xs.length:Int)→(xs.length:Int) - k<m→0<m →
  ∃ v,aW (kV xs fun x=>some x) m (left,k)=some v∧(v = -1∨(0≤v∧v≤left∧∀ s ∈ xs.drop k.toNat,(s.length:Int)≤left)):=by
 have hM':maxLen≤9223372036854775807:=by decide
 intro m
 induction m with
 | zero=>intro left k _ _ _ _ _ h;omega
 | succ m ih=>
  intro left k h0 h1 hk hk' hm _
  simp only [aW,kV,aP,Bool.cond_decide]
  by_cases h2:k<(xs.length:Int)
  ·
   rw [if_pos h2,if_pos ⟨hk,h2⟩]
   have hb:=hs (at' xs k) (List.mem_of_getElem? (bD ⟨hk,h2⟩))
   obtain ⟨v,e,hv⟩:=aN4 (at' xs k) hb left h0 h1
   rw [aO e,bK (x:=k+1) (by omega) (by omega)]
   rcases hv with rfl | ⟨v0,v1,v2⟩
   ·
    exact ⟨-1,rfl,.inl rfl⟩
   ·
    rw [if_neg (by omega)]
    obtain ⟨u,e',hu⟩:=ih v (k+1) v0 (by omega) (by omega) (by omega) (by omega) (by omega)
    refine ⟨u,e',?_⟩
    rcases hu with hu | ⟨g1,g2,g3⟩
    ·
     exact .inl hu
    ·
     refine .inr ⟨g1,by omega,?_⟩
     rw [dU hk h2]
     intro s hs'
     rcases List.mem_cons.1 hs' with rfl | hs'
     ·
      omega
     ·
      have:=g3 s hs';omega
  ·
   rw [if_neg h2]
   exact ⟨left,rfl,.inr ⟨h0,Int.le_refl _,by rw [List.drop_eq_nil_of_le (by omega)];simp⟩⟩
theorem aLf (xs:List (List Int)) (hx:xs.length≤maxLen) (hs:∀ s ∈ xs,s.length≤maxLen) (left:Int) (h0:0≤left) (h1:left≤1048576) :
  ∃ v,qX xs left=some v∧(v = -1∨(0≤v∧v≤left∧(xs.length:Int)≤left∧∀ s ∈ xs,(s.length:Int)≤left)):=by
 have hM':maxLen≤9223372036854775807:=by decide
 unfold qX
 simp only [Bool.cond_decide,aS]
 rw [bK (x:=left - (xs.length:Int)) (by omega) (by omega)]
 by_cases h:left - (xs.length:Int)<0
 ·
  rw [if_pos h];exact ⟨-1,rfl,.inl rfl⟩
 ·
  rw [if_neg h]
  obtain ⟨v,e,hv⟩:=aHl xs hx hs bG (left - (xs.length:Int)) 0 (by omega) (by omega) (by omega) (by omega) (by rw [bI];omega) (by rw [bI];omega)
  refine ⟨v,e,?_⟩
  rcases hv with hv | ⟨g1,g2,g3⟩
  ·
   exact .inl hv
  ·
   refine .inr ⟨g1,by omega,by omega,fun s hs'=>?_⟩
   have:=g3 s (by simpa using hs')
   omega
theorem aQq (xs:List (List Int)) (hx:xs.length≤maxLen) (hs:∀ s ∈ xs,s.length≤maxLen) (left:Int) (h0:0≤left) (h1:left≤1048576) :
  ∃ v,vB xs left=some v∧(v = -1∨(0≤v∧v≤left∧(xs.length:Int)≤left∧∀ s ∈ xs,(s.length:Int)≤left)):=by
 obtain ⟨v,e,hv⟩:=aLf xs hx hs left h0 h1
 unfold vB
 rw [aO e]
 rcases hv with rfl | ⟨v0,v1,v2⟩
 ·
  exact ⟨-1,rfl,.inl rfl⟩
 ·
  have:¬ v<0:=by omega
  exact ⟨v,by simp [this],.inr ⟨v0,v1,v2⟩⟩
theorem aJp (xs:List (List Int×Int)) (hx:xs.length≤maxLen) (hs:∀ s ∈ xs,s.1.length≤maxLen):∀ (m:Nat) (left k:Int),0≤left→left≤1048576→0≤k→k≤(xs.length:Int)→(xs.length:Int) - k<m→0<m →
  ∃ v,aW (mQ xs fun x=>some x) m (left,k)=some v∧(v = -1∨(0≤v∧v≤left∧∀ s ∈ xs.drop k.toNat,(s.1.length:Int)≤left)):=by
 have hM':maxLen≤9223372036854775807:=by decide
 intro m
 induction m with
 | zero=>intro left k _ _ _ _ _ h;omega
 | succ m ih=>
  intro left k h0 h1 hk hk' hm _
  simp only [aW,mQ,aP,Bool.cond_decide]
  by_cases h2:k<(xs.length:Int)
  ·
   rw [if_pos h2,if_pos ⟨hk,h2⟩]
   have hb:=hs (at' xs k) (List.mem_of_getElem? (bD ⟨hk,h2⟩))
   obtain ⟨v,e,hv⟩:=aA2 (at' xs k) hb left h0 h1
   rw [aO e,bK (x:=k+1) (by omega) (by omega)]
   rcases hv with rfl | ⟨v0,v1,v2⟩
   ·
    exact ⟨-1,rfl,.inl rfl⟩
   ·
    rw [if_neg (by omega)]
    obtain ⟨u,e',hu⟩:=ih v (k+1) v0 (by omega) (by omega) (by omega) (by omega) (by omega)
    refine ⟨u,e',?_⟩
    rcases hu with hu | ⟨g1,g2,g3⟩
    ·
     exact .inl hu
    ·
     refine .inr ⟨g1,by omega,?_⟩
     rw [dU hk h2]
     intro s hs'
     rcases List.mem_cons.1 hs' with rfl | hs'
     ·
      omega
     ·
      have:=g3 s hs';omega
  ·
   rw [if_neg h2]
   exact ⟨left,rfl,.inr ⟨h0,Int.le_refl _,by rw [List.drop_eq_nil_of_le (by omega)];simp⟩⟩
theorem aN5 (xs:List (List Int×Int)) (hx:xs.length≤maxLen) (hs:∀ s ∈ xs,s.1.length≤maxLen) (left:Int) (h0:0≤left) (h1:left≤1048576) :
  ∃ v,tB xs left=some v∧(v = -1∨(0≤v∧v≤left∧(xs.length:Int)≤left∧∀ s ∈ xs,(s.1.length:Int)≤left)):=by
 have hM':maxLen≤9223372036854775807:=by decide
 unfold tB
 simp only [Bool.cond_decide,aS]
 rw [bK (x:=left - (xs.length:Int)) (by omega) (by omega)]
 by_cases h:left - (xs.length:Int)<0
 ·
  rw [if_pos h];exact ⟨-1,rfl,.inl rfl⟩
 ·
  rw [if_neg h]
  obtain ⟨v,e,hv⟩:=aJp xs hx hs bG (left - (xs.length:Int)) 0 (by omega) (by omega) (by omega) (by omega) (by rw [bI];omega) (by rw [bI];omega)
  refine ⟨v,e,?_⟩
  rcases hv with hv | ⟨g1,g2,g3⟩
  ·
   exact .inl hv
  ·
   refine .inr ⟨g1,by omega,by omega,fun s hs'=>?_⟩
   have:=g3 s (by simpa using hs')
   omega
theorem aQp (xs:List (List Int×Int)) (hx:xs.length≤maxLen) (hs:∀ s ∈ xs,s.1.length≤maxLen) (left:Int) (h0:0≤left) (h1:left≤1048576) :
  ∃ v,vA xs left=some v∧(v = -1∨(0≤v∧v≤left∧(xs.length:Int)≤left∧∀ s ∈ xs,(s.1.length:Int)≤left)):=by
 obtain ⟨v,e,hv⟩:=aN5 xs hx hs left h0 h1
 unfold vA
 rw [aO e]
 rcases hv with rfl | ⟨v0,v1,v2⟩
 ·
  exact ⟨-1,rfl,.inl rfl⟩
 ·
  have:¬ v<0:=by omega
  exact ⟨v,by simp [this],.inr ⟨v0,v1,v2⟩⟩
theorem aA1 (l:List Int×Int) (hl:(l.1.length:Int)≤100000000):mO l=some l:=by
  unfold mO;rw [aO (aC8 l.1 hl)]
theorem aN2 (l:List Int) (hl:(l.length:Int)≤100000000):sZ l=some l:=by
  unfold sZ;rw [aO (aC8 l hl)]
theorem aHk (xs:List (List Int)) (hl:(xs.length:Int)≤100000000) (hs:∀ s ∈ xs,(s.length:Int)≤100000000) (j:List (List Int)→Option (List (List Int))):∀ (m:Nat) (ys:List (List Int)) (k:Int),0≤k→k≤(xs.length:Int)→ys.length=xs.length→(∀ i:Nat,(i:Int)<k→ys[i]?=xs[i]?)→(xs.length:Int) - k<m→0<m →
  aW (kU xs j) m (ys,k)=j xs:=by
 intro m
 induction m with
 | zero=>intro ys k _ _ _ _ h h';omega
 | succ m ih=>
  intro ys k hk hk' hy hyx hm _
  simp only [aW,kU,aP,Bool.cond_decide]
  by_cases h1:k<(xs.length:Int)
  ·
   have h2:k<(ys.length:Int):=by omega
   have hb:=hs (at' xs k) (List.mem_of_getElem? (bD ⟨hk,h1⟩))
   rw [if_pos h1,if_pos ⟨hk,h1⟩,aO (aN2 _ hb),if_pos ⟨hk,h2⟩]
   rw [bK (by omega) (by omega)]
   refine ih _ _ (by omega) (by omega) (by simpa using hy) (fun i hi=>?_) (by omega) (by omega)
   rw [List.getElem?_set]
   by_cases he:k.toNat=i
   ·
    subst he
    rw [if_pos rfl,if_pos (by omega),bD ⟨hk,h1⟩]
   ·
    rw [if_neg he]
    exact hyx i (by omega)
  ·
   simp only [h1,if_false]
   congr 1
   apply List.ext_getElem?
   intro i
   by_cases hi:(i:Int)<k
   ·
    exact hyx i hi
   ·
    rw [List.getElem?_eq_none (by omega),List.getElem?_eq_none (by omega)]
theorem aQn (xs:List (List Int)) (hl:(xs.length:Int)≤100000000) (hs:∀ s ∈ xs,(s.length:Int)≤100000000):uZ xs=some xs:=by
 unfold uZ tZ aP
 rw [if_pos (by omega)]
 simp only [aS]
 rw [aHk xs hl hs _ bG _ 0 (by omega) (by omega) (by simp) (fun i hi=>by omega) (by rw [bI];omega) (by rw [bI];omega)]
 rfl
theorem aJm (xs:List (List Int×Int)) (hl:(xs.length:Int)≤100000000) (hs:∀ s ∈ xs,(s.1.length:Int)≤100000000) (j:List (List Int×Int)→Option (List (List Int×Int))):∀ (m:Nat) (ys:List (List Int×Int)) (k:Int),0≤k→k≤(xs.length:Int)→ys.length=xs.length→(∀ i:Nat,(i:Int)<k→ys[i]?=xs[i]?)→(xs.length:Int) - k<m→0<m →
  aW (mN xs j) m (ys,k)=j xs:=by
 intro m
 induction m with
 | zero=>intro ys k _ _ _ _ h h';omega
 | succ m ih=>
  intro ys k hk hk' hy hyx hm _
  simp only [aW,mN,aP,Bool.cond_decide]
  by_cases h1:k<(xs.length:Int)
  ·
   have h2:k<(ys.length:Int):=by omega
   have hb:=hs (at' xs k) (List.mem_of_getElem? (bD ⟨hk,h1⟩))
   rw [if_pos h1,if_pos ⟨hk,h1⟩,aO (aA1 (at' xs k) hb),if_pos ⟨hk,h2⟩]
   rw [bK (by omega) (by omega)]
   refine ih _ _ (by omega) (by omega) (by simpa using hy) (fun i hi=>?_) (by omega) (by omega)
   rw [List.getElem?_set]
   by_cases he:k.toNat=i
   ·
    subst he
    rw [if_pos rfl,if_pos (by omega),bD ⟨hk,h1⟩]
   ·
    rw [if_neg he]
    exact hyx i (by omega)
  ·
   simp only [h1,if_false]
   congr 1
   apply List.ext_getElem?
   intro i
   by_cases hi:(i:Int)<k
   ·
    exact hyx i hi
   ·
    rw [List.getElem?_eq_none (by omega),List.getElem?_eq_none (by omega)]
theorem aQm (xs:List (List Int×Int)) (hl:(xs.length:Int)≤100000000) (hs:∀ s ∈ xs,(s.1.length:Int)≤100000000):uY xs=some xs:=by
 unfold uY wB aP
 rw [if_pos (by omega)]
 simp only [aS]
 rw [aJm xs hl hs _ bG _ 0 (by omega) (by omega) (by simp) (fun i hi=>by omega) (by rw [bI];omega) (by rw [bI];omega)]
 rfl
theorem vZ (l:List Int×Int) (hl:(l.1.length:Int)≤100000000):mU l l=some true:=by
  unfold mU;rw [aO (aAk l.1 hl)];simp
theorem aKv (l:List Int) (hl:(l.length:Int)≤100000000):tC l l=some true:=by
  unfold tC;rw [aO (aAk l hl)];simp
theorem aNi (xs:List (List Int)) (hl:(xs.length:Int)≤100000000) (hs:∀ s ∈ xs,(s.length:Int)≤100000000):vE xs xs=some true:=by
 have loop:∀ (j:Unit→Option Bool) (m:Nat) (k:Int),0≤k→k≤(xs.length:Int)→(xs.length:Int) - k<m→0<m→aW (lA xs xs j) m k=j ():=by
  intro j m
  induction m with
  | zero=>intro k _ _ h h';omega
  | succ m ih=>
   intro k hk hk' hm _
   simp only [aW,lA,aP,Bool.cond_decide]
   by_cases h1:k<(xs.length:Int)
   ·
    have hb:=hs (at' xs k) (List.mem_of_getElem? (bD ⟨hk,h1⟩))
    rw [if_pos h1,if_pos ⟨hk,h1⟩,if_pos ⟨hk,h1⟩,aO (aKv _ hb)]
    simp only [Bool.not_true,cond_false]
    rw [bK (by omega) (by omega)]
    exact ih _ (by omega) (by omega) (by omega) (by omega)
   ·
    simp only [h1,if_false]
 unfold vE uA
 simp only [decide_true,Bool.not_true,cond_false,aS]
 rw [loop _ bG 0 (by omega) (by omega) (by rw [bI];omega) (by rw [bI];omega)]
 rfl
theorem aNh (xs:List (List Int×Int)) (hl:(xs.length:Int)≤100000000) (hs:∀ s ∈ xs,(s.1.length:Int)≤100000000):vD xs xs=some true:=by
 have loop:∀ (j:Unit→Option Bool) (m:Nat) (k:Int),0≤k→k≤(xs.length:Int)→(xs.length:Int) - k<m→0<m→aW (mT xs xs j) m k=j ():=by
  intro j m
  induction m with
  | zero=>intro k _ _ h h';omega
  | succ m ih=>
   intro k hk hk' hm _
   simp only [aW,mT,aP,Bool.cond_decide]
   by_cases h1:k<(xs.length:Int)
   ·
    have hb:=hs (at' xs k) (List.mem_of_getElem? (bD ⟨hk,h1⟩))
    rw [if_pos h1,if_pos ⟨hk,h1⟩,if_pos ⟨hk,h1⟩,aO (vZ (at' xs k) hb)]
    simp only [Bool.not_true,cond_false]
    rw [bK (by omega) (by omega)]
    exact ih _ (by omega) (by omega) (by omega) (by omega)
   ·
    simp only [h1,if_false]
 unfold vD wC
 simp only [decide_true,Bool.not_true,cond_false,aS]
 rw [loop _ bG 0 (by omega) (by omega) (by rw [bI];omega) (by rw [bI];omega)]
 rfl
theorem aT9 (vi:Bool) (G:Int) (D:List Int×Int) (A9 op A7 A8 fr fh A6:Int) (A4:List (List Int)) (A0:List (List Int×Int)) (J:Int) (Z:List Int×Int) (O:List Int) (A5:Int) (A_:List Int×Int)
  (w:WfT (.pair .bool (.pair (.int .i64) (.pair (.pair (.sl (.int .i64)) (.int .i64)) (.pair (.int .i64) (.pair (.int .i64) (.pair (.int .i64) (.pair (.int .i64) (.pair (.int .i64) (.pair (.int .i64) (.pair (.int .i64) (.pair (.sl (.sl (.int .i64))) (.pair (.sl (.pair (.sl (.int .i64)) (.int .i64))) (.pair (.int .i64) (.pair (.pair (.sl (.int .i64)) (.int .i64)) (.pair (.sl (.int .i64)) (.pair (.int .i64) (.pair (.sl (.int .i64)) (.int .i64)))))))))))))))))) (vi,G,D,A9,op,A7,A8,fr,fh,A6,A4,A0,J,Z,O,A5,A_))
  (left:Int) (h0:0≤left) (h1:left≤1048576) :
  ∃ v,xM (vi,G,D,A9,op,A7,A8,fr,fh,A6,A4,A0,J,Z,O,A5,A_) left=some v∧(v = -1∨(0≤v∧v≤left∧dA 1048576 (vi,G,D,A9,op,A7,A8,fr,fh,A6,A4,A0,J,Z,O,A5,A_))):=by
 obtain ⟨w1,w2,⟨⟨w3,_⟩,w4⟩,w5,w6,w7,w8,w9,w10,w11,⟨w12,w12'⟩,⟨w13,w13'⟩,w14,⟨⟨w15,_⟩,_⟩,⟨w16,_⟩,w17,⟨w18,_⟩,_⟩:=w
 unfold xM
 obtain ⟨a1,e1,v1⟩:=aA2 D w3 left h0 h1
 simp only [Bool.cond_decide]
 rw [aO e1]
 rcases v1 with rfl | ⟨p1,q1,s1⟩
 ·
  exact ⟨-1,rfl,.inl rfl⟩
 rw [if_neg (by omega)]
 obtain ⟨a2,e2,v2⟩:=aQq A4 w12 (fun s hs=>(w12' s hs).1) a1 p1 (by omega)
 rw [aO e2]
 rcases v2 with rfl | ⟨p2,q2,s2,s2'⟩
 ·
  exact ⟨-1,rfl,.inl rfl⟩
 rw [if_neg (by omega)]
 obtain ⟨a3,e3,v3⟩:=aQp A0 w13 (fun s hs=>(w13' s hs).1.1) a2 p2 (by omega)
 rw [aO e3]
 rcases v3 with rfl | ⟨p3,q3,s3,s3'⟩
 ·
  exact ⟨-1,rfl,.inl rfl⟩
 rw [if_neg (by omega)]
 obtain ⟨a4,e4,v4⟩:=aA2 Z w15 a3 p3 (by omega)
 rw [aO e4]
 rcases v4 with rfl | ⟨p4,q4,s4⟩
 ·
  exact ⟨-1,rfl,.inl rfl⟩
 rw [if_neg (by omega)]
 obtain ⟨a5,e5,v5⟩:=aDa O w16 a4 p4 (by omega)
 rw [aO e5]
 rcases v5 with rfl | ⟨p5,q5,s5⟩
 ·
  exact ⟨-1,rfl,.inl rfl⟩
 rw [if_neg (by omega)]
 obtain ⟨a6,e6,v6⟩:=aA2 A_ w18 a5 p5 (by omega)
 rw [aO e6]
 rcases v6 with rfl | ⟨p6,q6,s6⟩
 ·
  exact ⟨-1,rfl,.inl rfl⟩
 rw [if_neg (by omega)]
 refine ⟨a6,rfl,.inr ⟨p6,by omega,?_⟩⟩
 refine ⟨by omega,⟨by omega,fun s hs=>?_⟩,⟨by omega,fun s hs=>?_⟩,by omega,by omega,by omega⟩
 ·
  have:=s2' s hs;omega
 ·
  have:=s3' s hs;omega
theorem cM {N M:Nat} (h:N≤M) {e:EdT} (hs:dA N e):dA M e:=by
 obtain ⟨vi,G,D,A9,op,A7,A8,fr,fh,A6,A4,A0,J,Z,O,A5,A_⟩:=e
 obtain ⟨h1,⟨h2,h3⟩,⟨h4,h5⟩,h6,h7,h8⟩:=hs
 exact ⟨by omega,⟨by omega,fun s hs=>by have:=h3 s hs;omega⟩,⟨by omega,fun s hs=>by have:=h5 s hs;omega⟩,by omega,by omega,by omega⟩
theorem aT4 (vi:Bool) (G:Int) (D:List Int×Int) (A9 op A7 A8 fr fh A6:Int) (A4:List (List Int)) (A0:List (List Int×Int)) (J:Int) (Z:List Int×Int) (O:List Int) (A5:Int) (A_:List Int×Int) (hs:dA 100000000 (vi,G,D,A9,op,A7,A8,fr,fh,A6,A4,A0,J,Z,O,A5,A_)) :
  qW (vi,G,D,A9,op,A7,A8,fr,fh,A6,A4,A0,J,Z,O,A5,A_)=some (vi,G,D,A9,op,A7,A8,fr,fh,A6,A4,A0,J,Z,O,A5,A_):=by
 obtain ⟨h1,⟨h2,h3⟩,⟨h4,h5⟩,h6,h7,h8⟩:=hs
 unfold qW
 simp only [aA1 D (by omega),aA1 Z (by omega),aA1 A_ (by omega),aQn A4 (by omega) (fun s hs=>by have:=h3 s hs;omega),aQm A0 (by omega) (fun s hs=>by have:=h5 s hs;omega),aC8 O (by omega),aF]
theorem aJe (vi:Bool) (G:Int) (D:List Int×Int) (A9 op A7 A8 fr fh A6:Int) (A4:List (List Int)) (A0:List (List Int×Int)) (J:Int) (Z:List Int×Int) (O:List Int) (A5:Int) (A_:List Int×Int) (hs:dA 100000000 (vi,G,D,A9,op,A7,A8,fr,fh,A6,A4,A0,J,Z,O,A5,A_)) :
  oL (vi,G,D,A9,op,A7,A8,fr,fh,A6,A4,A0,J,Z,O,A5,A_) (vi,G,D,A9,op,A7,A8,fr,fh,A6,A4,A0,J,Z,O,A5,A_)=some true:=by
 obtain ⟨h1,⟨h2,h3⟩,⟨h4,h5⟩,h6,h7,h8⟩:=hs
 unfold oL
 simp only [vZ D (by omega),vZ Z (by omega),vZ A_ (by omega),aNi A4 (by omega) (fun s hs=>by have:=h3 s hs;omega),aNh A0 (by omega) (fun s hs=>by have:=h5 s hs;omega),aAk O (by omega),aF,decide_true,Bool.not_true,cond_false,beq_self_eq_true]
def aQy (D:List Int×Int) (l:List Int×Int) (A0:List (List Int×Int)) (A6 nl:Int):List (List Int×Int):=
  if D.1≠l.1∧¬ (nl=1∧A6=1) then aOp A0 D else A0
def aQz (ok:Bool) (r:EdT):EdT×Bool:=if ok then (r,true) else (zEd,false)
section
variable (vi:Bool) (G:Int) (D:List Int×Int) (A9 op A7 A8 fr fh A6:Int) (A4:List (List Int)) (A0:List (List Int×Int)) (J:Int) (Z:List Int×Int) (O:List Int) (A5:Int) (A_:List Int×Int)
  (hs:dA 1048576 (vi,G,D,A9,op,A7,A8,fr,fh,A6,A4,A0,J,Z,O,A5,A_)) (l:List Int×Int) (hl:l.1.length≤1048576) (nl:Int) (wl:l.2≤9223372036854775807)
include hs hl wl
theorem aP9:uG (vi,G,D,A9,op,A7,A8,fr,fh,A6,A4,A0,J,Z,O,A5,A_) l nl =
  some (aQz (cG (vi,G,D,A9,op,A7,A8,fr,fh,A6,A4,A0,J,Z,O,A5,A_) && bO l && decide (0≤nl∧nl≤3)) (vi,G,(l.1,nT G l),0,0,0,0,fr,fh,nl,A4,aQy D l A0 A6 nl,J,Z,O,A5,A_)):=by
 unfold uG
 have hparts:cG (vi,G,D,A9,op,A7,A8,fr,fh,A6,A4,A0,J,Z,O,A5,A_)=true→bO D=true∧fZ A0=true:=fun h=>aNm h
 rw [aO (aKx vi G D A9 op A7 A8 fr fh A6 A4 A0 J Z O A5 A_ (cM (by omega) hs)),kM l (by omega),cE]
 obtain ⟨h1,⟨h2,h3⟩,⟨h4,h5⟩,h6,h7,h8⟩:=hs
 generalize cG (vi,G,D,A9,op,A7,A8,fr,fh,A6,A4,A0,J,Z,O,A5,A_)=K at *
 generalize hL:bO l=L
 cases K
 ·
  simp [zEd,aQz]
 ·
  cases L
  ·
   simp [zEd,aQz]
  ·
   by_cases hn:0≤nl∧nl≤3
   ·
    have n1:¬ nl<0:=by omega
    have n2:¬ 3<nl:=by omega
    rw [decide_eq_true hn]
    simp only [Bool.not_true,n1,n2,decide_false,if_true,cond_false,Bool.and_self,aQz]
    rw [aO (aG7 vi G D A9 op A7 A8 fr fh A6 A4 A0 J Z O A5 A_ h1 h2 h3 h4 h5 h6 h7 h8)]
    unfold eD
    simp only [aF,aS]
    rw [aSd _ _ (by omega),gR (l.1,l.2) (by simp only;omega)]
    obtain ⟨p1,p2⟩:=hparts rfl
    rw [aQk A0 D p2 p1 (by omega) (fun s h=>by have:=h5 s h;omega) (by omega)]
    have hS:∀ (X Y:Option (EdT×Bool)),(bif (bif (!(decide (D.1=l.1))) then (!(bif (decide (nl=1)) then (decide (A6=1)) else false)) else false) then X else Y)=if D.1≠l.1∧¬ (nl=1∧A6=1) then X else Y:=by
     intro X Y
     by_cases a:D.1=l.1 <;> by_cases b:nl=1 <;> by_cases c:A6=1 <;> simp [a,b,c]
    have hc:=fun u:List (List Int×Int)=>aPb vi G (l.1,l.2) 0 0 0 0 fr fh nl A4 u J (Z.1,Z.2) O A5 (A_.1,A_.2) wl
    simp only [hS,hc]
    unfold aQy
    split <;> rfl
   ·
    rw [decide_eq_false hn]
    by_cases n1:nl<0
    ·
     simp [n1,zEd,aQz]
    ·
     have n2:3<nl:=by omega
     simp [n1,n2,zEd,aQz]
end
def jA (nl:Int):EdT→EdT
  | (vi,G,D,_,_,_,_,fr,fh,_,A4,A0,J,Z,O,A5,A_)=>(vi,G,D,0,0,0,0,fr,fh,nl,A4,A0,J,Z,O,A5,A_)
def sN (l:List Int×Int) (nl:Int):EdT→EdT
  | (vi,G,D,_,_,_,_,fr,fh,A6,A4,A0,J,Z,O,A5,A_)=>(vi,G,(l.1,nT G l),0,0,0,0,fr,fh,nl,A4,aQy D l A0 A6 nl,J,Z,O,A5,A_)
def aIu (r:List (List Int)):EdT→EdT
  | (vi,G,D,A9,op,A7,A8,fr,fh,A6,_,A0,J,Z,O,A5,A_)=>(vi,G,D,A9,op,A7,A8,fr,fh,A6,r,A0,J,Z,O,A5,A_)
def aR1 (at_:Int):EdT→EdT
  | (vi,_,D,A9,op,A7,A8,fr,fh,A6,A4,A0,J,Z,O,A5,A_)=>(vi,1,(D.1,at_),A9,op,A7,A8,fr,fh,A6,A4,A0,J,Z,O,A5,A_)
section
variable {vi:Bool} {G:Int} {D:List Int×Int} {A9 op A7 A8 fr fh A6:Int} {A4:List (List Int)} {A0:List (List Int×Int)} {J:Int} {Z:List Int×Int} {O:List Int} {A5:Int} {A_:List Int×Int}
theorem eC (h:cG (vi,G,D,A9,op,A7,A8,fr,fh,A6,A4,A0,J,Z,O,A5,A_)=true) :
  bO D=true∧bO Z=true∧bO A_=true∧(0≤A9∧A9≤999)∧(0≤A7∧A7≤999)∧vV vi G D op A7 A8=true∧xF fr fh=true∧(0≤A6∧A6≤3)∧gC A4=true∧fZ A0=true∧(0≤J∧J≤1000000060)∧(0≤A5∧A5≤1000000060)∧(!decide (J=0) || pE Z)=true∧(O.length:Int)≤40∧O.all pr=true∧rY G O A5 A_=true:=by
 unfold cG at h
 simp only [Bool.and_eq_true,decide_eq_true_eq] at h
 obtain ⟨⟨⟨⟨⟨⟨⟨⟨⟨⟨⟨⟨⟨⟨⟨h1,h2⟩,h3⟩,h4⟩,h5⟩,h6⟩,h7⟩,h8⟩,h9⟩,h10⟩,h11⟩,h12⟩,h13⟩,h14⟩,h15⟩,h16⟩:=h
 exact ⟨h1,h2,h3,h4,h5,h6,h7,h8,h9,h10,h11,h12,h13,h14,h15,h16⟩
theorem aCz (h:bO D=true∧bO Z=true∧bO A_=true∧(0≤A9∧A9≤999)∧(0≤A7∧A7≤999)∧vV vi G D op A7 A8=true∧xF fr fh=true∧(0≤A6∧A6≤3)∧gC A4=true∧fZ A0=true∧(0≤J∧J≤1000000060)∧(0≤A5∧A5≤1000000060)∧(!decide (J=0) || pE Z)=true∧(O.length:Int)≤40∧O.all pr=true∧rY G O A5 A_=true) :
  cG (vi,G,D,A9,op,A7,A8,fr,fh,A6,A4,A0,J,Z,O,A5,A_)=true:=by
 obtain ⟨h1,h2,h3,h4,h5,h6,h7,h8,h9,h10,h11,h12,h13,h14,h15,h16⟩:=h
 unfold cG
 simp only [Bool.and_eq_true,decide_eq_true_eq]
 exact ⟨⟨⟨⟨⟨⟨⟨⟨⟨⟨⟨⟨⟨⟨⟨h1,h2⟩,h3⟩,h4⟩,h5⟩,h6⟩,h7⟩,h8⟩,h9⟩,h10⟩,h11⟩,h12⟩,h13⟩,h14⟩,h15⟩,h16⟩
theorem jO {u:List (List Int×Int)} (h:fZ u=true):u.length≤20∧∀ s ∈ u,bO s=true:=by
 unfold fZ at h
 simp only [Bool.and_eq_true,decide_eq_true_eq,List.all_eq_true] at h
 exact ⟨h.2,h.1⟩
theorem sM (h:cG (vi,G,D,A9,op,A7,A8,fr,fh,A6,A4,A0,J,Z,O,A5,A_)=true):dA 400 (vi,G,D,A9,op,A7,A8,fr,fh,A6,A4,A0,J,Z,O,A5,A_):=by
 obtain ⟨h1,h2,h3,h4,h5,h6,h7,h8,h9,h10,h11,h12,h13,h14,h15,h16⟩:=eC h
 obtain ⟨r1,r2⟩:=lV h9
 obtain ⟨u1,u2⟩:=jO h10
 exact ⟨(bB h1).2.2,⟨by omega,fun s hs=>iV (r2 s hs).1⟩,⟨by omega,fun s hs=>(bB (u2 s hs)).2.2⟩,(bB h2).2.2,by omega,(bB h3).2.2⟩
theorem aIm:dA 400 zEd:=⟨by simp,⟨by simp,by simp⟩,⟨by simp,by simp⟩,by simp,by simp,by simp⟩
end
theorem aUj {u:List (List Int×Int)} {l:List Int×Int} (hu:fZ u=true) (hl:bO l=true):fZ (aOp u l)=true:=by
 obtain ⟨u1,u2⟩:=jO hu
 have hm:∀ s ∈ u ++ [l],bO s=true:=by
  intro s hs
  rcases List.mem_append.1 hs with hs | hs
  ·
   exact u2 s hs
  ·
   simp only [List.mem_singleton] at hs;subst hs;exact hl
 unfold aOp
 split
 ·
  exact hu
 ·
  split
  ·
   unfold fZ
   simp only [Bool.and_eq_true,decide_eq_true_eq,List.all_eq_true]
   exact ⟨fun s hs=>hm s (List.mem_of_mem_drop hs),by simp;omega⟩
  ·
   unfold fZ
   simp only [Bool.and_eq_true,decide_eq_true_eq,List.all_eq_true]
   exact ⟨hm,by simp;omega⟩
theorem aUe {D l:List Int×Int} {A0:List (List Int×Int)} {A6 nl:Int} (hu:fZ A0=true) (hl:bO D=true):fZ (aQy D l A0 A6 nl)=true:=by
 unfold aQy
 split
 ·
  exact aUj hu hl
 ·
  exact hu
theorem aC1 {G:Int} {l:List Int×Int} (h:bO l=true):0≤nT G l∧nT G l≤(l.1.length:Int):=by
 obtain ⟨a,b,_⟩:=bB h
 unfold nT
 split <;> omega
theorem aU2 {G:Int} {l:List Int×Int} (h:bO l=true):bO (l.1,nT G l)=true:=rQ (eT h) (aC1 h).1 (aC1 h).2
section
variable (vi:Bool) (G:Int) (D:List Int×Int) (A9 op A7 A8 fr fh A6:Int) (A4:List (List Int)) (A0:List (List Int×Int)) (J:Int) (Z:List Int×Int) (O:List Int) (A5:Int) (A_:List Int×Int)
  (hv:cG (vi,G,D,A9,op,A7,A8,fr,fh,A6,A4,A0,J,Z,O,A5,A_)=true)
include hv
theorem aGq (l:List Int×Int) (hl:bO l=true):vV vi G (l.1,nT G l) 0 0 0=true:=by
 obtain ⟨h1,h2,h3,h4,h5,h6,h7,h8,h9,h10,h11,h12,h13,h14,h15,h16⟩:=eC hv
 obtain ⟨p0,p1,p2⟩:=bB hl
 unfold vV at h6 ⊢
 simp only [Bool.and_eq_true,decide_eq_true_eq] at h6 ⊢
 obtain ⟨⟨⟨a1,a2,a3,a4,a5,a6,a7,a8⟩,_⟩,_⟩:=h6
 refine ⟨⟨⟨a1,a2,a3,a4,a5,fun hm=>?_,by simp,by simp⟩,by decide⟩,by decide⟩
 unfold aBk nT
 by_cases c:G=2∧l.2=(l.1.length:Int)∧0<l.2
 ·
  rw [if_pos c]
  have:¬ (l.2 - 1=(l.1.length:Int)):=by omega
  simp [this]
 ·
  rw [if_neg c]
  by_cases e:l.2=(l.1.length:Int)
  ·
   have:¬ 0<(l.1.length:Int):=by
    intro hp;exact c ⟨hm,e,by omega⟩
   rw [decide_eq_false this];rfl
  ·
   rw [decide_eq_false e];simp
theorem aRt:nT G D=D.2:=by
 obtain ⟨h1,h2,h3,h4,h5,h6,h7,h8,h9,h10,h11,h12,h13,h14,h15,h16⟩:=eC hv
 obtain ⟨p0,p1,p2⟩:=bB h1
 unfold vV at h6
 simp only [Bool.and_eq_true,decide_eq_true_eq] at h6
 obtain ⟨⟨⟨a1,a2,a3,a4,a5,a6,a7,a8⟩,_⟩,_⟩:=h6
 unfold nT
 split
 ·
  rename_i c
  have:=a6 c.1
  unfold aBk at this
  have e1:0<(D.1.length:Int):=by omega
  rw [decide_eq_true e1,decide_eq_true c.2.1] at this
  cases this
 ·
  rfl
theorem aLp (nl:Int) (hn:0≤nl∧nl≤3):cG (jA nl (vi,G,D,A9,op,A7,A8,fr,fh,A6,A4,A0,J,Z,O,A5,A_))=true:=by
 obtain ⟨h1,h2,h3,h4,h5,h6,h7,h8,h9,h10,h11,h12,h13,h14,h15,h16⟩:=eC hv
 have:=aGq vi G D A9 op A7 A8 fr fh A6 A4 A0 J Z O A5 A_ hv D h1
 rw [aRt vi G D A9 op A7 A8 fr fh A6 A4 A0 J Z O A5 A_ hv] at this
 exact aCz ⟨h1,h2,h3,by omega,by omega,this,h7,hn,h9,h10,h11,h12,h13,h14,h15,h16⟩
theorem aUf (l:List Int×Int) (hl:bO l=true) (nl:Int) (hn:0≤nl∧nl≤3):cG (sN l nl (vi,G,D,A9,op,A7,A8,fr,fh,A6,A4,A0,J,Z,O,A5,A_))=true:=by
 obtain ⟨h1,h2,h3,h4,h5,h6,h7,h8,h9,h10,h11,h12,h13,h14,h15,h16⟩:=eC hv
 exact aCz ⟨aU2 hl,h2,h3,by omega,by omega,aGq vi G D A9 op A7 A8 fr fh A6 A4 A0 J Z O A5 A_ hv l hl,h7,hn,h9,aUe h10 h1,h11,h12,h13,h14,h15,h16⟩
theorem aFx (r:List (List Int)) (hr:gC r=true):cG (aIu r (vi,G,D,A9,op,A7,A8,fr,fh,A6,A4,A0,J,Z,O,A5,A_))=true:=by
 obtain ⟨h1,h2,h3,h4,h5,h6,h7,h8,h9,h10,h11,h12,h13,h14,h15,h16⟩:=eC hv
 exact aCz ⟨h1,h2,h3,h4,h5,h6,h7,h8,hr,h10,h11,h12,h13,h14,h15,h16⟩
theorem aKy:cA (vi,G,D,A9,op,A7,A8,fr,fh,A6,A4,A0,J,Z,O,A5,A_)=some (vi,G,D,A9,op,A7,A8,fr,fh,A6,A4,A0,J,Z,O,A5,A_):=by
 obtain ⟨h1,⟨h2,h3⟩,⟨h4,h5⟩,h6,h7,h8⟩:=cM (M:=1048576) (by omega) (sM hv)
 exact aG7 vi G D A9 op A7 A8 fr fh A6 A4 A0 J Z O A5 A_ h1 h2 h3 h4 h5 h6 h7 h8
theorem aKz:dZ (vi,G,D,A9,op,A7,A8,fr,fh,A6,A4,A0,J,Z,O,A5,A_)=some (vi,G,D,A9,op,A7,A8,fr,fh,A6,A4,A0,J,Z,O,A5,A_):=by
 obtain ⟨h1,⟨h2,h3⟩,⟨h4,h5⟩,h6,h7,h8⟩:=cM (M:=1048576) (by omega) (sM hv)
 exact aNo vi G D A9 op A7 A8 fr fh A6 A4 A0 J Z O A5 A_ h1 h2 h3 h4 h5 h6 h7 h8
theorem wT (nl:Int):dQ (vi,G,D,A9,op,A7,A8,fr,fh,A6,A4,A0,J,Z,O,A5,A_) nl=some (jA nl (vi,G,D,A9,op,A7,A8,fr,fh,A6,A4,A0,J,Z,O,A5,A_)):=by
 unfold dQ
 rw [aO (aKz vi G D A9 op A7 A8 fr fh A6 A4 A0 J Z O A5 A_ hv)]
 rfl
theorem aTs:cZ (vi,G,D,A9,op,A7,A8,fr,fh,A6,A4,A0,J,Z,O,A5,A_)=some (jA 0 (vi,G,D,A9,op,A7,A8,fr,fh,A6,A4,A0,J,Z,O,A5,A_),1):=by
 unfold cZ
 rw [aO (wT vi G D A9 op A7 A8 fr fh A6 A4 A0 J Z O A5 A_ hv 0)]
theorem aTr:cH (vi,G,D,A9,op,A7,A8,fr,fh,A6,A4,A0,J,Z,O,A5,A_)=some (jA 0 (vi,G,D,A9,op,A7,A8,fr,fh,A6,A4,A0,J,Z,O,A5,A_),1):=by
 unfold cH eD
 rw [aO (aKy vi G D A9 op A7 A8 fr fh A6 A4 A0 J Z O A5 A_ hv)]
 rfl
theorem aPq (l:List Int×Int) (hl:bO l=true) (nl:Int):oW (vi,G,D,A9,op,A7,A8,fr,fh,A6,A4,A0,J,Z,O,A5,A_) l nl=some (sN l nl (vi,G,D,A9,op,A7,A8,fr,fh,A6,A4,A0,J,Z,O,A5,A_)):=by
 obtain ⟨h1,h2,h3,h4,h5,h6,h7,h8,h9,h10,h11,h12,h13,h14,h15,h16⟩:=eC hv
 obtain ⟨p0,p1,p2⟩:=bB hl
 obtain ⟨q0,q1,q2⟩:=bB h1
 obtain ⟨u1,u2⟩:=jO h10
 unfold oW
 rw [aO (wT vi G D A9 op A7 A8 fr fh A6 A4 A0 J Z O A5 A_ hv nl)]
 simp only [aF,aS,jA,sN]
 rw [aSe _ _ (by omega),iU (l.1,l.2) (by simp only;omega)]
 rw [aQl A0 D h10 h1 (by omega) (fun s h=>by have:=(bB (u2 s h)).2.2;omega) (by omega)]
 have hS:∀ (X Y:Option EdT),(bif (bif (!(decide (l.1=D.1))) then (!(bif (decide (nl=1)) then (decide (A6=1)) else false)) else false) then X else Y)=if D.1≠l.1∧¬ (nl=1∧A6=1) then X else Y:=by
  intro X Y
  by_cases a:D.1=l.1
  ·
   by_cases b:nl=1 <;> by_cases c:A6=1 <;> simp [a,b,c]
  ·
   have a':¬ l.1=D.1:=fun h=>a h.symm
   by_cases b:nl=1 <;> by_cases c:A6=1 <;> simp [a,a',b,c]
 have hc:=aAf (l.1,l.2) G (by simp only;omega)
 simp only [hS,hc]
 unfold aQy
 by_cases hq:D.1≠l.1∧¬ (nl=1∧A6=1)
 ·
  simp only [if_pos hq]
 ·
  simp only [if_neg hq]
theorem aUy (l:List Int×Int) (hl:bO l=true) (nl:Int) (hn:0≤nl∧nl≤3):uG (vi,G,D,A9,op,A7,A8,fr,fh,A6,A4,A0,J,Z,O,A5,A_) l nl=some (sN l nl (vi,G,D,A9,op,A7,A8,fr,fh,A6,A4,A0,J,Z,O,A5,A_),true):=by
 obtain ⟨p0,p1,p2⟩:=bB hl
 rw [aP9 vi G D A9 op A7 A8 fr fh A6 A4 A0 J Z O A5 A_ (cM (by omega) (sM hv)) l (by omega) nl (by omega),hv,hl,decide_eq_true hn]
 rfl
theorem aGv (l:List Int×Int) (hl:bO l=true) (nl:Int) (hn:0≤nl∧nl≤3):dW (vi,G,D,A9,op,A7,A8,fr,fh,A6,A4,A0,J,Z,O,A5,A_) l true nl=some (sN l nl (vi,G,D,A9,op,A7,A8,fr,fh,A6,A4,A0,J,Z,O,A5,A_),0):=by
 unfold dW
 rw [aO (aUy vi G D A9 op A7 A8 fr fh A6 A4 A0 J Z O A5 A_ hv l hl nl hn)]
 rfl
theorem aVb (l:List Int×Int) (hl:bO l=true):iH (vi,G,D,A9,op,A7,A8,fr,fh,A6,A4,A0,J,Z,O,A5,A_) l=some (sN l 0 (vi,G,D,A9,op,A7,A8,fr,fh,A6,A4,A0,J,Z,O,A5,A_),0):=by
 unfold iH
 rw [aO (aPq vi G D A9 op A7 A8 fr fh A6 A4 A0 J Z O A5 A_ hv l hl 0)]
theorem aWb (a:Int):gK (vi,G,D,A9,op,A7,A8,fr,fh,A6,A4,A0,J,Z,O,A5,A_) a=some (sN (goL D a) 0 (vi,G,D,A9,op,A7,A8,fr,fh,A6,A4,A0,J,Z,O,A5,A_),0):=by
 obtain ⟨h1,_⟩:=eC hv
 unfold gK
 rw [aO (aGu D a h1)]
 simp only
 rw [aO (aGv vi G D A9 op A7 A8 fr fh A6 A4 A0 J Z O A5 A_ hv (goL D a) (iS h1 a) 0 (by omega))]
end
def fB (op' a b:Int) (e:EdT):EdT×Int:=
 if a=b then (if op'=99 then (aR1 a (sN (goL e.2.2.1 a) 0 e),0) else (jA 0 e,1))
 else if op'=121 then (sN (goL e.2.2.1 a) 0 (aIu (lU e.2.2.2.2.2.2.2.2.2.2.1 (bU e.2.2.1.1 a b) 0) e),0)
 else if op'=99 then (aR1 a (sN (goL (tX e.2.2.1 a b) a) 0 (aIu (lU e.2.2.2.2.2.2.2.2.2.2.1 (bU e.2.2.1.1 a b) 0) e)),0)
 else (sN (goL (tX e.2.2.1 a b) a) 0 (aIu (lU e.2.2.2.2.2.2.2.2.2.2.1 (bU e.2.2.1.1 a b) 0) e),0)
theorem aWm (x:Int):iI x ([100,99,121]:List UInt8)=some (decide (x=100∨x=99∨x=121)):=by
 unfold iI
 simp only [aS]
 obtain ⟨m,hm⟩:∃ m,bG=m+1+1+1+1:=⟨bG - 4,by rw [bI]⟩
 rw [hm]
 have st:∀ (m:Nat) (k:Int),0≤k→k≤3→aW (fR x ([100,99,121]:List UInt8) fun _=>some false) (m+1) k=if k<3 then (if ((at' ([100,99,121]:List UInt8) k).toNat:Int)=x then some true else aW (fR x ([100,99,121]:List UInt8) fun _=>some false) m (k+1)) else some false:=by
  intro m k h1 h2
  simp only [aW,fR,aP,Bool.cond_decide]
  rw [bK (x:=k+1) (by omega) (by omega)]
  by_cases h:k<3
  ·
   rw [if_pos (by simpa using h),if_pos h,if_pos ⟨h1,by simpa using h⟩]
  ·
   rw [if_neg (by simpa using h),if_neg h]
 rw [st _ 0 (by omega) (by omega),st _ (0+1) (by omega) (by omega),st _ (0+1+1) (by omega) (by omega),st _ (0+1+1+1) (by omega) (by omega)]
 have e0:((at' ([100,99,121]:List UInt8) 0).toNat:Int)=100:=rfl
 have e1:((at' ([100,99,121]:List UInt8) (0+1)).toNat:Int)=99:=rfl
 have e2:((at' ([100,99,121]:List UInt8) (0+1+1)).toNat:Int)=121:=rfl
 rw [e0,e1,e2]
 by_cases c0:x=100
 ·
  subst c0;simp
 ·
  by_cases c1:x=99
  ·
   subst c1;simp
  ·
   by_cases c2:x=121
   ·
    subst c2;simp
   ·
    have a0:¬ (100:Int)=x:=fun h=>c0 h.symm
    have a1:¬ (99:Int)=x:=fun h=>c1 h.symm
    have a2:¬ (121:Int)=x:=fun h=>c2 h.symm
    simp [a0,a1,a2,c0,c1,c2]
section
variable (vi:Bool) (G:Int) (D:List Int×Int) (A9 op A7 A8 fr fh A6:Int) (A4:List (List Int)) (A0:List (List Int×Int)) (J:Int) (Z:List Int×Int) (O:List Int) (A5:Int) (A_:List Int×Int)
  (hs:dA 1048576 (vi,G,D,A9,op,A7,A8,fr,fh,A6,A4,A0,J,Z,O,A5,A_)) (x a b:Int)
section
variable (hv:cG (vi,G,D,A9,op,A7,A8,fr,fh,A6,A4,A0,J,Z,O,A5,A_)=true) (hr:0≤a∧a≤b∧b≤(D.1.length:Int))
include hv hr
theorem aTn:eA (vi,G,D,A9,op,A7,A8,fr,fh,A6,A4,A0,J,Z,O,A5,A_) x a b=some (fB x a b (vi,G,D,A9,op,A7,A8,fr,fh,A6,A4,A0,J,Z,O,A5,A_)):=by
 obtain ⟨h1,h2,h3,h4,h5,h6,h7,h8,h9,h10,h11,h12,h13,h14,h15,h16⟩:=eC hv
 obtain ⟨p0,p1,p2⟩:=bB h1
 have hg:=wN D a (by omega)
 have hs1:=aPq vi G D A9 op A7 A8 fr fh A6 A4 A0 J Z O A5 A_ hv (goL D a) (iS h1 a) 0
 unfold eA fB
 by_cases hab:a=b
 ·
  by_cases hc:x=99
  ·
   simp only [hab,hc,decide_true,cond_true,Bool.not_true,cond_false,if_true]
   rw [← hab,hg]
   simp only [aF]
   rw [hs1]
   rfl
  ·
   simp only [hab,hc,decide_true,decide_false,Bool.not_false,cond_true,if_true,if_false]
   rw [aO (aTs vi G D A9 op A7 A8 fr fh A6 A4 A0 J Z O A5 A_ hv)]
 ·
  obtain ⟨c1,c2⟩:=tW h1 hr
  have hcut:jW D a b=some (tX D a b,bU D.1 a b,true):=by
   rw [aDp D a b (by omega)]
   unfold aE2
   rw [h1,decide_eq_true hr];rfl
  have hadm:=kC (eT h1) a b
  have hrp:=aDf A4 (bU D.1 a b) 0 h9 hadm (by omega)
  have hro:=vN (how:=0) h9 hadm
  have hcp:=aKz vi G D A9 op A7 A8 fr fh A6 A4 A0 J Z O A5 A_ hv
  have hv':=aFx vi G D A9 op A7 A8 fr fh A6 A4 A0 J Z O A5 A_ hv _ hro
  have hg2:=wN (tX D a b) a (by omega)
  have hs2:=aVb vi G D A9 op A7 A8 fr fh A6 _ A0 J Z O A5 A_ hv' (goL D a) (iS h1 a)
  have hs3:=aPq vi G D A9 op A7 A8 fr fh A6 _ A0 J Z O A5 A_ hv' (goL (tX D a b) a) (iS c1 a) 0
  simp only [hab,decide_false,cond_false,if_false,aF,hcut,hcp,hrp]
  by_cases hy:x=121
  ·
   simp only [hy,decide_true,cond_true,if_true,hg]
   rw [hs2]
   rfl
  ·
   simp only [hy,decide_false,cond_false,if_false,hg2]
   rw [hs3]
   by_cases hc:x=99
   ·
    simp only [hc,aS,decide_true,cond_true,if_true,pP]
    rfl
   ·
    simp only [hc,aS,decide_false,cond_false,if_false]
    rfl
theorem aRu:(bif (bif (decide (a=b)) then (decide (x=99)) else false) then (aF (dT (vi,G,D,A9,op,A7,A8,fr,fh,A6,A4,A0,J,Z,O,A5,A_) a) fun y=>some (y.1,y.2)) else some (zEd,0))=if a=b∧x=99 then some (fB x a b (vi,G,D,A9,op,A7,A8,fr,fh,A6,A4,A0,J,Z,O,A5,A_)) else some (zEd,0):=by
 obtain ⟨h1,_⟩:=eC hv
 obtain ⟨p0,p1,p2⟩:=bB h1
 by_cases hab:a=b∧x=99
 ·
  obtain ⟨rfl,rfl⟩:=hab
  have hgo:=aWb vi G D A9 op A7 A8 fr fh A6 A4 A0 J Z O A5 A_ hv a
  unfold dT fB
  rw [aO hgo]
  have e:max 0 (min a (D.1.length:Int))=a:=by omega
  simp only [aS,decide_true,cond_true,aF,sN,goL,cL a _ (Int.natCast_nonneg D.1.length),e,and_self,if_true,aR1]
 ·
  rw [if_neg hab]
  have:(bif decide (a=b) then decide (x=99) else false)=false:=by
   by_cases c1:a=b
   ·
    have c2:¬ x=99:=fun h=>hab ⟨c1,h⟩
    simp [c1,c2]
   ·
    simp [c1]
  rw [this];rfl
end
include hs
theorem aWt:dY (vi,G,D,A9,op,A7,A8,fr,fh,A6,A4,A0,J,Z,O,A5,A_) x a b =
  some (if cG (vi,G,D,A9,op,A7,A8,fr,fh,A6,A4,A0,J,Z,O,A5,A_) && decide (G=2) && decide (x=100∨x=99∨x=121) && decide (0≤a∧a≤b∧b≤(D.1.length:Int)) then fB x a b (vi,G,D,A9,op,A7,A8,fr,fh,A6,A4,A0,J,Z,O,A5,A_) else (zEd,0)):=by
 have hlc:=aDo D a b hs.1
 have hall:cG (vi,G,D,A9,op,A7,A8,fr,fh,A6,A4,A0,J,Z,O,A5,A_)=true→(0≤a∧a≤b∧b≤(D.1.length:Int))→(x=100∨x=99∨x=121) →
   bO D=true∧gC A4=true:=fun h _ _=>⟨(eC h).1,(eC h).2.2.2.2.2.2.2.2.1⟩
 have hb:(bif (bif (!(decide (x=100))) then (!(decide (x=99))) else false) then (!(decide (x=121))) else false)=!decide (x=100∨x=99∨x=121):=by
  by_cases c0:x=100 <;> by_cases c1:x=99 <;> by_cases c2:x=121 <;> simp [c0,c1,c2]
 have hcut:uW (vi,G,D,A9,op,A7,A8,fr,fh,A6,A4,A0,J,Z,O,A5,A_) a b=some (aE2 D a b).2.2:=by
  unfold uW
  rw [aO hlc]
 unfold dY
 rw [aO (aKx vi G D A9 op A7 A8 fr fh A6 A4 A0 J Z O A5 A_ (cM (by omega) hs)),hcut,cE,hb]
 have hins:=fun hv hr=>aRu vi G D A9 op A7 A8 fr fh A6 A4 A0 J Z O A5 A_ x a b hv hr
 have hbell:=fun hv=>aTr vi G D A9 op A7 A8 fr fh A6 A4 A0 J Z O A5 A_ hv
 have hcp:=fun hv=>aKy vi G D A9 op A7 A8 fr fh A6 A4 A0 J Z O A5 A_ hv
 have hre:=fun hv r hr=>aFx vi G D A9 op A7 A8 fr fh A6 A4 A0 J Z O A5 A_ hv r hr
 generalize cG (vi,G,D,A9,op,A7,A8,fr,fh,A6,A4,A0,J,Z,O,A5,A_)=K at *
 cases K
 ·
  simp [zEd]
 ·
  by_cases hm:G=2
  ·
   by_cases hx:x=100∨x=99∨x=121
   ·
    by_cases hr:0≤a∧a≤b∧b≤(D.1.length:Int)
    ·
     obtain ⟨h1,h9⟩:=hall rfl hr hx
     obtain ⟨p0,p1,p2⟩:=bB h1
     have hcr:aE2 D a b=(tX D a b,bU D.1 a b,true):=by unfold aE2;rw [h1,decide_eq_true hr];rfl
     rw [hcr] at hlc ⊢
     have hi:=hins rfl hr
     rw [decide_eq_true hx,decide_eq_true hm,decide_eq_true hr]
     simp only [Bool.not_true,cond_false,if_true,Bool.and_self]
     by_cases hab:a=b
     ·
      by_cases hc:x=99
      ·
       rw [if_pos ⟨hab,hc⟩] at hi
       simp only [hab,hc,decide_true,cond_true] at hi ⊢
       exact hi
      ·
       simp only [hab,hc,decide_true,decide_false,cond_true,cond_false]
       rw [aO (hbell rfl)]
       unfold fB
       simp [hc]
     ·
      obtain ⟨c1,c2⟩:=tW h1 hr
      have hadm:=kC (eT h1) a b
      have hrp:=aDe A4 (bU D.1 a b) 0 h9 hadm (by omega)
      have hro:=vN (how:=0) h9 hadm
      have hv':=hre rfl _ hro
      have hgo:=aWb vi G D A9 op A7 A8 fr fh A6 _ A0 J Z O A5 A_ hv' a
      have hgo':gK (vi,G,D,A9,op,A7,A8,fr,fh,A6,lU A4 (bU D.1 a b) 0,A0,J,Z,O,A5,A_) a=_:=hgo
      have hg2:=aGu (tX D a b) a c1
      have hs3:=aGv vi G D A9 op A7 A8 fr fh A6 _ A0 J Z O A5 A_ hv' (goL (tX D a b) a) (iS c1 a) 0 (by omega)
      simp only [hab,decide_false,cond_false,aF,hlc,hcp rfl,hrp,hgo',hg2,fB,if_false]
      by_cases hy:x=121
      ·
       simp only [hy,decide_true,cond_true,if_true]
       rfl
      ·
       simp only [hy,decide_false,cond_false,if_false]
       rw [hs3]
       by_cases hc:x=99
       ·
        simp only [hc,aS,decide_true,cond_true,if_true]
        rfl
       ·
        simp only [hc,aS,decide_false,cond_false,if_false]
        rfl
    ·
     have hcr:(aE2 D a b).2.2=false:=by
      unfold aE2
      rw [decide_eq_false hr];simp
     rw [decide_eq_true hx,decide_eq_true hm,decide_eq_false hr,hcr]
     simp [zEd]
   ·
    rw [decide_eq_false hx,decide_eq_true hm]
    simp [zEd]
  ·
   rw [decide_eq_false hm]
   simp [zEd]
end
theorem aLe (x:Int):nK x=some (max 1 (min x 999)):=by
 simp only [nK,Bool.cond_decide]
 split
 ·
  congr 1;omega
 ·
  split <;> (congr 1;omega)
def aDu (r:Int):Int:=
 if r=9∨r=10∨r=32 then 0
 else if (97≤r∧r≤122)∨(65≤r∧r≤90)∨(48≤r∧r≤57)∨r=95∨(159<r∧r≤1114111∧(r<55296∨57343<r)) then 1 else 2
theorem aI9 (r:Int):qJ r=some (aDu r):=by
 unfold qJ eI mY gG jV wD dK aDu bW
 simp only [aF,Bool.cond_decide]
 by_cases h0:r=9
 ·
  simp [h0]
 by_cases h1:r=10
 ·
  simp [h1]
 by_cases h2:r=32
 ·
  simp [h2]
 simp only [h0,h1,h2,if_false,decide_false,or_self,cond_false,Bool.false_eq_true]
 by_cases a1:97≤r∧r≤122
 ·
  have:¬ (159<r):=by omega
  simp [a1,this]
 by_cases a2:65≤r∧r≤90
 ·
  have:¬ (159<r):=by omega
  have a1':¬ (97≤r):=by omega
  simp [a2,a1',this]
 by_cases a3:48≤r∧r≤57
 ·
  have:¬ (159<r):=by omega
  have a1':¬ (97≤r):=by omega
  have a2':¬ (65≤r):=by omega
  simp [a3,a1',a2',this]
 by_cases a4:r=95
 ·
  subst a4;decide
 have e1:(if 97≤r then decide (r≤122) else false)=false:=by split <;> simp <;> omega
 have e2:(if 65≤r then decide (r≤90) else false)=false:=by split <;> simp <;> omega
 have e3:(if 48≤r then decide (r≤57) else false)=false:=by split <;> simp <;> omega
 simp only [e1,e2,e3,a1,a2,a3,a4,cond_false,decide_false,false_or,if_false,if_true,and_true,decide_eq_true_eq,Bool.false_eq_true]
 by_cases a5:159<r
 ·
  by_cases a6:r≤1114111
  ·
   by_cases a7:r<55296
   ·
    have b1:0≤r:=by omega
    have b2:32≤r:=by omega
    have b3:¬ (r≤159):=by omega
    have b4:¬ (55296≤r):=by omega
    have b5:127≤r:=by omega
    simp [a5,a6,a7,b1,b2,b3,b4,b5]
   ·
    by_cases a8:57343<r
    ·
     have b1:0≤r:=by omega
     have b2:32≤r:=by omega
     have b3:¬ (r≤159):=by omega
     have b4:55296≤r:=by omega
     have b5:127≤r:=by omega
     have b6:¬ (r≤57343):=by omega
     simp [a5,a6,a7,a8,b1,b2,b3,b4,b5,b6]
    ·
     have b1:0≤r:=by omega
     have b4:55296≤r:=by omega
     have b6:r≤57343:=by omega
     simp [a5,a6,a7,a8,b1,b4,b6]
  ·
   simp [a5,a6]
 ·
  simp [a5]
def dL (big:Bool) (r:Int):Int:=if big=true∧aDu r=2 then 1 else aDu r
theorem kA (t:List Int) (i:Int) (big:Bool) (h0:0≤i) (h1:i<(t.length:Int)):eX t i big=some (dL big (at' t i)):=by
 unfold eX dL aP
 rw [if_pos ⟨h0,h1⟩,aO (aI9 _)]
 cases big
 ·
  simp
 ·
  by_cases h:aDu (at' t i)=2 <;> simp [h]
def fwd (f:Int→Prop) [DecidablePred f]:Nat→Int→Int
 | 0,k=>k
 | r+1,k=>if f k then fwd f r (k+1) else k
theorem gW (f:Int→Prop) [DecidablePred f]:∀ (r:Nat) (k:Int),k≤fwd f r k∧fwd f r k≤k+r
 | 0,k=>by simp [fwd]
 | r+1,k=>by
  have:=gW f r (k+1)
  simp only [fwd]
  split <;> omega
def bwd (f:Int→Prop) [DecidablePred f]:Nat→Nat
 | 0=>0
 | r+1=>if f (r:Int) then bwd f r else r+1
theorem aHa (f:Int→Prop) [DecidablePred f]:∀ (r:Nat),bwd f r≤r
 | 0=>Nat.le_refl _
 | r+1=>by
  have:=aHa f r
  simp only [bwd]
  split <;> omega
section
variable (t:List Int) (hl:(t.length:Int)≤1048576) (big:Bool)
include hl
theorem aD4 (c:Int) (j:Int→Option Int):∀ (m r:Nat) (k:Int),0≤k→k+r=(t.length:Int)→r<m →
  aW (oO t big c j) m k=j (fwd (fun i=>dL big (at' t i)=c) r k):=by
 intro m
 induction m with
 | zero=>intro r k _ _ h;omega
 | succ m ih=>
  intro r k hk hr hm
  simp only [aW,oO,bW,Bool.cond_decide]
  cases r with
  | zero=>
   have:¬ (k<(t.length:Int)):=by omega
   simp [this,fwd]
  | succ r=>
   have h1:k<(t.length:Int):=by omega
   simp only [h1,decide_true,if_true]
   rw [aO (kA t k big hk h1),bK (by omega) (by omega),ih r (k+1) (by omega) (by omega) (by omega)]
   simp only [fwd,Bool.cond_decide]
   split <;> rfl
theorem aRk (j:Int→Option Int):∀ (m r:Nat) (k:Int),0≤k→k+r=(t.length:Int)→r<m →
  aW (gM t big j) m k=j (fwd (fun i=>dL big (at' t i)=0) r k):=by
 intro m
 induction m with
 | zero=>intro r k _ _ h;omega
 | succ m ih=>
  intro r k hk hr hm
  simp only [aW,gM,bW,Bool.cond_decide]
  cases r with
  | zero=>
   have:¬ (k<(t.length:Int)):=by omega
   simp [this,fwd]
  | succ r=>
   have h1:k<(t.length:Int):=by omega
   simp only [h1,decide_true,if_true]
   rw [aO (kA t k big hk h1),bK (by omega) (by omega),ih r (k+1) (by omega) (by omega) (by omega)]
   simp only [fwd,Bool.cond_decide]
   split <;> rfl
theorem aGx (j:Int→Option Int):∀ (m r:Nat) (k:Int),0≤k→k+r=(t.length:Int)→r<m →
  aW (lF t big j) m k=j (fwd (fun i=>dL big (at' t i)=0) r k):=by
 intro m
 induction m with
 | zero=>intro r k _ _ h;omega
 | succ m ih=>
  intro r k hk hr hm
  simp only [aW,lF,bW,Bool.cond_decide]
  cases r with
  | zero=>
   have:¬ (k<(t.length:Int)):=by omega
   simp [this,fwd]
  | succ r=>
   have h1:k<(t.length:Int):=by omega
   simp only [h1,decide_true,if_true]
   rw [aO (kA t k big hk h1),bK (by omega) (by omega),ih r (k+1) (by omega) (by omega) (by omega)]
   simp only [fwd,Bool.cond_decide]
   split <;> rfl
theorem aM0 (j:Int→Option (Int×Bool×Bool)):∀ (m r:Nat) (k:Int),0≤k→k+r=(t.length:Int)→r<m →
  aW (lG t j) m k=j (fwd (fun i=>aDu (at' t i)=0) r k):=by
 intro m
 induction m with
 | zero=>intro r k _ _ h;omega
 | succ m ih=>
  intro r k hk hr hm
  simp only [aW,lG,bW,Bool.cond_decide,aP]
  cases r with
  | zero=>
   have:¬ (k<(t.length:Int)):=by omega
   simp [this,fwd]
  | succ r=>
   have h1:k<(t.length:Int):=by omega
   simp only [h1,decide_true,if_true,hk,and_self,imp_self,imp_true_iff]
   rw [aO (aI9 _),bK (by omega) (by omega),ih r (k+1) (by omega) (by omega) (by omega)]
   simp only [fwd,Bool.cond_decide]
   split <;> rfl
theorem aM3 (j:Int→Option Int):∀ (m k:Nat),(k:Int)≤(t.length:Int)→k<m →
  aW (iK t big j) m (k:Int)=j (bwd (fun i=>dL big (at' t i)=0) k:Nat):=by
 intro m
 induction m with
 | zero=>intro k _ h;omega
 | succ m ih=>
  intro k hk hm
  simp only [aW,iK,bW,Bool.cond_decide]
  cases k with
  | zero=>simp [bwd]
  | succ k=>
   have h1:(0:Int)<((k+1:Nat):Int):=by omega
   have e:((k+1:Nat):Int) - 1=(k:Int):=by omega
   simp only [h1,decide_true,if_true]
   rw [bK (by omega) (by omega),e,aO (kA t k big (by omega) (by omega)),ih k (by omega) (by omega)]
   simp only [bwd,Bool.cond_decide]
   split <;> rfl
theorem aM2 (c:Int) (j:Int→Option Int):∀ (m k:Nat),(k:Int)≤(t.length:Int)→k<m →
  aW (iJ t big c j) m (k:Int)=j (bwd (fun i=>dL big (at' t i)=c) k:Nat):=by
 intro m
 induction m with
 | zero=>intro k _ h;omega
 | succ m ih=>
  intro k hk hm
  simp only [aW,iJ,bW,Bool.cond_decide]
  cases k with
  | zero=>simp [bwd]
  | succ k=>
   have h1:(0:Int)<((k+1:Nat):Int):=by omega
   have e:((k+1:Nat):Int) - 1=(k:Int):=by omega
   simp only [h1,decide_true,if_true]
   rw [bK (by omega) (by omega),e,aO (kA t k big (by omega) (by omega)),ih k (by omega) (by omega)]
   simp only [bwd,Bool.cond_decide]
   split <;> rfl
omit hl in
def wOn (k:Int):Int:=
 let n:Int:=t.length
 let x:=if k<n∧dL big (at' t k)≠0 then fwd (fun i=>dL big (at' t i)=dL big (at' t k)) (n - k).toNat k else k
 fwd (fun i=>dL big (at' t i)=0) (n - x).toNat x
omit hl in
def tL (k:Nat):Int:=
 let x:=bwd (fun i=>dL big (at' t i)=0) k
 if x=0 then 0 else (bwd (fun i=>dL big (at' t i)=dL big (at' t ((x:Int) - 1))) x:Nat)
omit hl in
def aC7 (k:Int):Int:=
 let n:Int:=t.length
 if n=0 then 0 else if n≤k+1 then n - 1 else
  let x:=fwd (fun i=>dL big (at' t i)=0) (n - (k+1)).toNat (k+1)
  if n≤x then n - 1 else fwd (fun i=>dL big (at' t i)=dL big (at' t x)) (n - x).toNat x - 1
omit hl in
theorem aIl (k:Int) (h0:0≤k) (h1:k≤(t.length:Int)):k≤wOn t big k∧wOn t big k≤(t.length:Int):=by
 unfold wOn
 simp only
 split
 ·
  have a:=gW (fun i=>dL big (at' t i)=dL big (at' t k)) ((t.length:Int) - k).toNat k
  have b:=gW (fun i=>dL big (at' t i)=0) ((t.length:Int) - fwd (fun i=>dL big (at' t i)=dL big (at' t k)) ((t.length:Int) - k).toNat k).toNat (fwd (fun i=>dL big (at' t i)=dL big (at' t k)) ((t.length:Int) - k).toNat k)
  omega
 ·
  have b:=gW (fun i=>dL big (at' t i)=0) ((t.length:Int) - k).toNat k
  omega
omit hl in
theorem sK (k:Nat) (h1:(k:Int)≤(t.length:Int)):0≤tL t big k∧tL t big k≤k:=by
 unfold tL
 simp only
 have a:=aHa (fun i=>dL big (at' t i)=0) k
 split
 ·
  omega
 ·
  have b:=aHa (fun i=>dL big (at' t i)=dL big (at' t ((bwd (fun i=>dL big (at' t i)=0) k:Nat) - 1:Int))) (bwd (fun i=>dL big (at' t i)=0) k)
  omega
theorem aFc (k:Int) (h0:0≤k) (h1:k≤(t.length:Int)):0≤aC7 t big k∧aC7 t big k≤(t.length:Int):=by
 unfold aC7
 simp only
 split
 ·
  omega
 ·
  split
  ·
   omega
  ·
   have a:=gW (fun i=>dL big (at' t i)=0) ((t.length:Int) - (k+1)).toNat (k+1)
   split
   ·
    omega
   ·
    have b:=gW (fun i=>dL big (at' t i)=dL big (at' t (fwd (fun i=>dL big (at' t i)=0) ((t.length:Int) - (k+1)).toNat (k+1)))) ((t.length:Int) - fwd (fun i=>dL big (at' t i)=0) ((t.length:Int) - (k+1)).toNat (k+1)).toNat (fwd (fun i=>dL big (at' t i)=0) ((t.length:Int) - (k+1)).toNat (k+1))
    omega
theorem aWa (k:Int) (h0:0≤k) (h1:k≤(t.length:Int)):rH t k big=some (wOn t big k):=by
 unfold rH dE wOn
 have e:max (0:Int) (min k (t.length:Int))=k:=by omega
 simp only [aF,aS,bW,Bool.cond_decide,e]
 by_cases h2:k<(t.length:Int)
 ·
  simp only [h2,decide_true,if_true,true_and]
  rw [kA t k big h0 h2]
  simp only
  by_cases h3:dL big (at' t k)=0
  ·
   simp only [h3,decide_true,Bool.not_true,cond_false,ne_eq,not_true_eq_false,if_false]
   rw [aGx t hl big _ bG ((t.length:Int) - k).toNat k h0 (by omega) (by rw [bI];omega)]
  ·
   simp only [h3,decide_false,Bool.not_false,cond_true,ne_eq,not_false_eq_true,if_true]
   have hr:mV t k big=some (fwd (fun i=>dL big (at' t i)=dL big (at' t k)) ((t.length:Int) - k).toNat k):=by
    unfold mV
    rw [aO (kA t k big h0 h2)]
    simp only [aS]
    rw [aD4 t hl big _ _ bG ((t.length:Int) - k).toNat k h0 (by omega) (by rw [bI];omega)]
   rw [hr]
   simp only
   have b:=gW (fun i=>dL big (at' t i)=dL big (at' t k)) ((t.length:Int) - k).toNat k
   generalize fwd (fun i=>dL big (at' t i)=dL big (at' t k)) ((t.length:Int) - k).toNat k=x at *
   rw [aGx t hl big _ bG ((t.length:Int) - x).toNat x (by omega) (by omega) (by rw [bI];omega)]
 ·
  simp only [h2,decide_false,if_false,Bool.false_eq_true,false_and,cond_false]
  rw [aGx t hl big _ bG ((t.length:Int) - k).toNat k h0 (by omega) (by rw [bI];omega)]
theorem aM1 (k:Nat) (h1:(k:Int)≤(t.length:Int)):jM t (k:Int) big=some (tL t big k):=by
 unfold jM dE tL
 have e:max (0:Int) (min (k:Int) (t.length:Int))=k:=by omega
 simp only [aF,aS,Bool.cond_decide,e]
 rw [aM3 t hl big _ bG k h1 (by rw [bI];omega)]
 have a:=aHa (fun i=>dL big (at' t i)=0) k
 generalize bwd (fun i=>dL big (at' t i)=0) k=x at *
 by_cases h2:x=0
 ·
  simp [h2]
 ·
  have h2':¬ ((x:Int)=0):=by omega
  simp only [h2,h2',if_false]
  rw [bK (by omega) (by omega),kA t ((x:Int) - 1) big (by omega) (by omega)]
  simp only
  rw [aM2 t hl big _ _ bG x (by omega) (by rw [bI];omega)]
theorem aUr (k:Int) (h0:0≤k) (h1:k≤(t.length:Int)):oQ t k big=some (aC7 t big k):=by
 unfold oQ dE aC7
 have e:max (0:Int) (min k (t.length:Int))=k:=by omega
 simp only [aF,aS,Bool.cond_decide,e]
 by_cases hz:(t.length:Int)=0
 ·
  simp [hz]
 ·
  simp only [hz,if_false]
  rw [bK (x:=k+1) (by omega) (by omega)]
  by_cases h2:(t.length:Int)≤k+1
  ·
   simp only [h2,if_true]
   obtain ⟨n,hn⟩:∃ n,bG=n+1:=⟨bG - 1,by have:=bI;omega⟩
   rw [hn]
   have h3:¬ (k+1<(t.length:Int)):=by omega
   simp only [aW,gM,bW,h3,decide_false,Bool.false_eq_true,if_false,cond_false,h2,if_true]
   rw [bK (by omega) (by omega)]
  ·
   simp only [h2,if_false]
   rw [aRk t hl big _ bG ((t.length:Int) - (k+1)).toNat (k+1) (by omega) (by omega) (by rw [bI];omega)]
   have b:=gW (fun i=>dL big (at' t i)=0) ((t.length:Int) - (k+1)).toNat (k+1)
   generalize fwd (fun i=>dL big (at' t i)=0) ((t.length:Int) - (k+1)).toNat (k+1)=x at *
   by_cases h3:(t.length:Int)≤x
   ·
    simp only [h3,if_true]
    rw [bK (by omega) (by omega)]
   ·
    simp only [h3,if_false]
    have hr:mV t x big=some (fwd (fun i=>dL big (at' t i)=dL big (at' t x)) ((t.length:Int) - x).toNat x):=by
     unfold mV
     rw [aO (kA t x big (by omega) (by omega))]
     simp only [aS]
     rw [aD4 t hl big _ _ bG ((t.length:Int) - x).toNat x (by omega) (by omega) (by rw [bI];omega)]
    rw [hr]
    simp only
    have b2:=gW (fun i=>dL big (at' t i)=dL big (at' t x)) ((t.length:Int) - x).toNat x
    rw [bK (by omega) (by omega)]
end
theorem aIp (r:Int):qG r=some (aDu r):=by
 unfold qG eH mK aDu bW
 simp only [aF,Bool.cond_decide]
 by_cases h0:r=9
 ·
  simp [h0]
 by_cases h1:r=10
 ·
  simp [h1]
 by_cases h2:r=32
 ·
  simp [h2]
 simp only [h0,h1,h2,if_false,decide_false,or_self,cond_false,Bool.false_eq_true]
 by_cases a1:97≤r∧r≤122
 ·
  have:¬ (159<r):=by omega
  simp [a1,this]
 by_cases a2:65≤r∧r≤90
 ·
  have:¬ (159<r):=by omega
  have a1':¬ (97≤r):=by omega
  simp [a2,a1',this]
 by_cases a3:48≤r∧r≤57
 ·
  have:¬ (159<r):=by omega
  have a1':¬ (97≤r):=by omega
  have a2':¬ (65≤r):=by omega
  simp [a3,a1',a2',this]
 by_cases a4:r=95
 ·
  subst a4;decide
 have e1:(if 97≤r then decide (r≤122) else false)=false:=by split <;> simp <;> omega
 have e2:(if 65≤r then decide (r≤90) else false)=false:=by split <;> simp <;> omega
 have e3:(if 48≤r then decide (r≤57) else false)=false:=by split <;> simp <;> omega
 simp only [e1,e2,e3,a1,a2,a3,a4,cond_false,decide_false,false_or,if_false,and_true,decide_eq_true_eq,Bool.false_eq_true]
 by_cases a5:159<r
 ·
  by_cases a6:r≤1114111
  ·
   by_cases a7:r<55296
   ·
    have b1:0≤r:=by omega
    have b2:32≤r:=by omega
    have b3:¬ (r<127):=by omega
    simp [a5,a6,a7,b1,b2,b3]
   ·
    by_cases a8:57343<r
    ·
     have b1:0≤r:=by omega
     have b2:32≤r:=by omega
     have b3:¬ (r<127):=by omega
     simp [a5,a6,a7,a8,b1,b2,b3]
    ·
     have b1:0≤r:=by omega
     simp [a5,a6,a7,a8,b1]
  ·
   simp [a5,a6]
 ·
  simp [a5]
theorem jY (r:Int) (big:Bool):dJ r big=some (dL big r):=by
 unfold dJ dL
 rw [aO (aIp r)]
 cases big
 ·
  simp
 ·
  by_cases h:aDu r=2 <;> simp [h]
section
variable (t:List Int) (hl:(t.length:Int)≤1048576) (big:Bool)
include hl
theorem aQ1 (c:Int) (hc:c≠0) (j:Int→Option Int):∀ (m r:Nat) (k:Int),0≤k→k+r=(t.length:Int)→r<m →
  aW (gA t big c j) m k=j (fwd (fun i=>dL big (at' t i)=c) r k):=by
 intro m
 induction m with
 | zero=>intro r k _ _ h;omega
 | succ m ih=>
  intro r k hk hr hm
  simp only [aW,gA,bW,Bool.cond_decide,aP,hc,decide_false,Bool.not_false]
  cases r with
  | zero=>
   have:¬ (k<(t.length:Int)):=by omega
   simp [this,fwd]
  | succ r=>
   have h1:k<(t.length:Int):=by omega
   simp only [h1,decide_true,if_true,hk,and_self,imp_true_iff,cond_true]
   rw [aO (jY _ big),bK (by omega) (by omega),ih r (k+1) (by omega) (by omega) (by omega)]
   simp only [fwd,Bool.cond_decide]
   split <;> rfl
omit hl in
theorem aQ0 (j:Int→Option Int) (k:Int):aW (gA t big 0 j) bG k=j k:=by
 obtain ⟨n,hn⟩:∃ n,bG=n+1:=⟨bG - 1,by have:=bI;omega⟩
 rw [hn]
 simp [aW,gA,bW,aP]
theorem aIo (j:Int→Option Int):∀ (m r:Nat) (k:Int),0≤k→k+r=(t.length:Int)→r<m →
  aW (kS t big j) m k=j (fwd (fun i=>dL big (at' t i)=0) r k):=by
 intro m
 induction m with
 | zero=>intro r k _ _ h;omega
 | succ m ih=>
  intro r k hk hr hm
  simp only [aW,kS,bW,Bool.cond_decide,aP]
  cases r with
  | zero=>
   have:¬ (k<(t.length:Int)):=by omega
   simp [this,fwd]
  | succ r=>
   have h1:k<(t.length:Int):=by omega
   simp only [h1,decide_true,if_true,hk,and_self,imp_true_iff]
   rw [aO (jY _ big),bK (by omega) (by omega),ih r (k+1) (by omega) (by omega) (by omega)]
   simp only [fwd,Bool.cond_decide]
   split <;> rfl
theorem aOe (j:Int→Option Int):∀ (m r:Nat) (k:Int),0≤k→k+r=(t.length:Int)→r<m →
  aW (fG t big j) m k=j (fwd (fun i=>dL big (at' t i)=0) r k):=by
 intro m
 induction m with
 | zero=>intro r k _ _ h;omega
 | succ m ih=>
  intro r k hk hr hm
  simp only [aW,fG,bW,Bool.cond_decide,aP]
  cases r with
  | zero=>
   have:¬ (k<(t.length:Int)):=by omega
   simp [this,fwd]
  | succ r=>
   have h1:k<(t.length:Int):=by omega
   simp only [h1,decide_true,if_true,hk,and_self,imp_true_iff]
   rw [aO (jY _ big),bK (by omega) (by omega),ih r (k+1) (by omega) (by omega) (by omega)]
   simp only [fwd,Bool.cond_decide]
   split <;> rfl
theorem aOd (c:Int) (j:Int→Option Int):∀ (m r:Nat) (k:Int),0≤k→k+1+r=(t.length:Int)→r<m →
  aW (jF t big c j) m k=j (fwd (fun i=>dL big (at' t i)=c) r (k+1) - 1):=by
 intro m
 induction m with
 | zero=>intro r k _ _ h;omega
 | succ m ih=>
  intro r k hk hr hm
  simp only [aW,jF,bW,Bool.cond_decide,aP]
  rw [bK (by omega) (by omega)]
  cases r with
  | zero=>
   have:¬ (k+1<(t.length:Int)):=by omega
   simp [this,fwd]
  | succ r=>
   have h1:k+1<(t.length:Int):=by omega
   have h2:0≤k+1:=by omega
   simp only [h1,h2,decide_true,if_true,and_self,imp_true_iff]
   rw [aO (jY _ big),ih r (k+1) (by omega) (by omega) (by omega)]
   simp only [fwd,Bool.cond_decide]
   split
   ·
    rfl
   ·
    congr 1;omega
theorem aLu (j:Int→Option (Int×Bool×Bool)):∀ (m r:Nat) (k:Int),0≤k→k+r=(t.length:Int)→r<m →
  aW (kT t j) m k=j (fwd (fun i=>aDu (at' t i)=0) r k):=by
 intro m
 induction m with
 | zero=>intro r k _ _ h;omega
 | succ m ih=>
  intro r k hk hr hm
  simp only [aW,kT,bW,Bool.cond_decide,aP]
  cases r with
  | zero=>
   have:¬ (k<(t.length:Int)):=by omega
   simp [this,fwd]
  | succ r=>
   have h1:k<(t.length:Int):=by omega
   simp only [h1,decide_true,if_true,hk,and_self,imp_true_iff]
   rw [aO (aIp _),bK (by omega) (by omega),ih r (k+1) (by omega) (by omega) (by omega)]
   simp only [fwd,Bool.cond_decide]
   split <;> rfl
theorem aLx (j:Int→Option Int):∀ (m k:Nat),(k:Int)≤(t.length:Int)→k<m →
  aW (iD t big j) m (k:Int)=j (bwd (fun i=>dL big (at' t i)=0) k:Nat):=by
 intro m
 induction m with
 | zero=>intro k _ h;omega
 | succ m ih=>
  intro k hk hm
  simp only [aW,iD,bW,Bool.cond_decide,aP]
  cases k with
  | zero=>simp [bwd]
  | succ k=>
   have h1:(0:Int)<((k+1:Nat):Int):=by omega
   have e:((k+1:Nat):Int) - 1=(k:Int):=by omega
   have g:(0:Int)≤k∧(k:Int)<(t.length:Int):=by omega
   simp only [h1,decide_true,if_true]
   rw [bK (by omega) (by omega),e,if_pos (fun _=>g),aO (jY _ big),ih k (by omega) (by omega)]
   simp only [bwd,Bool.cond_decide]
   split <;> rfl
theorem aLw (c:Int) (j:Int→Option Int):∀ (m k:Nat),(k:Int)≤(t.length:Int)→k<m →
  aW (iC t big c j) m (k:Int)=j (bwd (fun i=>dL big (at' t i)=c) k:Nat):=by
 intro m
 induction m with
 | zero=>intro k _ h;omega
 | succ m ih=>
  intro k hk hm
  simp only [aW,iC,bW,Bool.cond_decide,aP]
  cases k with
  | zero=>simp [bwd]
  | succ k=>
   have h1:(0:Int)<((k+1:Nat):Int):=by omega
   have e:((k+1:Nat):Int) - 1=(k:Int):=by omega
   have g:(0:Int)≤k∧(k:Int)<(t.length:Int):=by omega
   simp only [h1,decide_true,if_true]
   rw [bK (by omega) (by omega),e,if_pos (fun _=>g),aO (jY _ big),ih k (by omega) (by omega)]
   simp only [bwd,Bool.cond_decide]
   split <;> rfl
theorem aVv (k:Int) (h0:0≤k) (h1:k≤(t.length:Int)):qQ t k big=some (wOn t big k):=by
 unfold qQ
 rw [cL _ _ (by omega)]
 have e:max (0:Int) (min k (t.length:Int))=k:=by omega
 simp only [aF,aS,Bool.cond_decide,e,aP]
 unfold wOn
 by_cases h2:k=(t.length:Int)
 ·
  have h3:¬ (k<(t.length:Int)):=by omega
  have e2:((t.length:Int) - k).toNat=0:=by omega
  simp only [h2,if_true]
  have h4:¬ ((t.length:Int)<(t.length:Int)):=by omega
  simp [h4,fwd]
 ·
  have h3:k<(t.length:Int):=by omega
  simp only [h2,if_false,h3,true_and]
  rw [if_pos ⟨h0,trivial⟩,jY]
  simp only
  by_cases h4:dL big (at' t k)=0
  ·
   rw [h4,aQ0 t big,aIo t hl big _ bG ((t.length:Int) - k).toNat k h0 (by omega) (by rw [bI];omega)]
   simp
  ·
   simp only [ne_eq,h4,not_false_eq_true,if_true]
   rw [aQ1 t hl big _ h4 _ bG ((t.length:Int) - k).toNat k h0 (by omega) (by rw [bI];omega)]
   have b:=gW (fun i=>dL big (at' t i)=dL big (at' t k)) ((t.length:Int) - k).toNat k
   generalize fwd (fun i=>dL big (at' t i)=dL big (at' t k)) ((t.length:Int) - k).toNat k=x at *
   rw [aIo t hl big _ bG ((t.length:Int) - x).toNat x (by omega) (by omega) (by rw [bI];omega)]
theorem aLv (k:Nat) (h1:(k:Int)≤(t.length:Int)):jG t (k:Int) big=some (tL t big k):=by
 unfold jG
 rw [cL _ _ (by omega)]
 have e:max (0:Int) (min (k:Int) (t.length:Int))=k:=by omega
 simp only [aF,aS,Bool.cond_decide,e,aP]
 unfold tL
 rw [aLx t hl big _ bG k h1 (by rw [bI];omega)]
 have a:=aHa (fun i=>dL big (at' t i)=0) k
 generalize bwd (fun i=>dL big (at' t i)=0) k=x at *
 by_cases h2:x=0
 ·
  simp [h2]
 ·
  have h2':¬ ((x:Int)=0):=by omega
  simp only [h2,h2',if_false]
  rw [bK (by omega) (by omega),if_pos ⟨by omega,by omega⟩,jY]
  simp only
  rw [aLw t hl big _ _ bG x (by omega) (by rw [bI];omega)]
theorem aUg (k:Int) (h0:0≤k) (h1:k≤(t.length:Int)):nZ t k big=some (aC7 t big k):=by
 unfold nZ
 rw [cL _ _ (by omega)]
 have e:max (0:Int) (min k (t.length:Int))=k:=by omega
 simp only [aF,aS,Bool.cond_decide,e,aP]
 unfold aC7
 rw [bK (x:=k+1) (by omega) (by omega),bK (x:=(t.length:Int) - 1) (by omega) (by omega),cL _ _ (by omega)]
 by_cases h2:(t.length:Int)≤k+1
 ·
  have hx:∀ j,aW (fG t big j) bG (k+1)=j (k+1):=by
   intro j
   obtain ⟨n,hn⟩:∃ n,bG=n+1:=⟨bG - 1,by have:=bI;omega⟩
   rw [hn]
   have h3:¬ (k+1<(t.length:Int)):=by omega
   simp [aW,fG,bW,aP,h3]
  rw [hx]
  simp only [h2,if_true]
  by_cases hz:(t.length:Int)=0
  ·
   simp only [hz,if_true];rfl
  ·
   simp only [hz,h2,if_false,if_true]
   congr 1;omega
 ·
  have hz:¬ ((t.length:Int)=0):=by omega
  simp only [hz,h2,if_false]
  rw [aOe t hl big _ bG ((t.length:Int) - (k+1)).toNat (k+1) (by omega) (by omega) (by rw [bI];omega)]
  have b:=gW (fun i=>dL big (at' t i)=0) ((t.length:Int) - (k+1)).toNat (k+1)
  generalize fwd (fun i=>dL big (at' t i)=0) ((t.length:Int) - (k+1)).toNat (k+1)=x at *
  by_cases h3:(t.length:Int)≤x
  ·
   simp only [h3,if_true]
   congr 1;omega
  ·
   simp only [h3,if_false]
   rw [if_pos ⟨by omega,by omega⟩,jY]
   simp only
   have e2:((t.length:Int) - x).toNat=((t.length:Int) - (x+1)).toNat+1:=by omega
   rw [aOd t hl big _ _ bG ((t.length:Int) - (x+1)).toNat x (by omega) (by omega) (by rw [bI];omega),e2]
   simp [fwd]
end
theorem aSf (t:List Int) (hl:(t.length:Int)≤1048576) (k r:Int) (h0:0≤k) (h1:k≤(t.length:Int)) :
  jT t k r=some (if r=119∨r=87 then wOn t (decide (r<97)) k else if r=98∨r=66 then tL t (decide (r<97)) k.toNat else aC7 t (decide (r<97)) k):=by
 unfold jT
 have hk:((k.toNat:Nat):Int)=k:=by omega
 have hb:=aLv t hl (decide (r<97)) k.toNat (by omega)
 rw [hk] at hb
 simp only [aS,Bool.cond_decide,aVv t hl _ k h0 h1,hb,aUg t hl _ k h0 h1,aF]
 by_cases c1:r=119
 ·
  simp [c1]
 by_cases c2:r=87
 ·
  simp [c2]
 by_cases c3:r=98
 ·
  simp [c3]
 by_cases c4:r=66
 ·
  simp [c4]
 simp [c1,c2,c3,c4]
def again (g:Int→Int):Nat→Int→Int
 | 0,k=>k
 | n+1,k=>again g n (g k)
theorem aV0 (t:List Int) (hl:(t.length:Int)≤1048576) (big:Bool) (x2:List Int×Bool) (hx:x2.1=t) (q:Int) (j:Int×Bool→Option (Int×List Int×Bool)):∀ (m r:Nat) (k i:Int),0≤k→k≤(t.length:Int)→0≤i→i≤2000→q≤2000→r=(q - i).toNat→r<m →
  aW (dO q x2 j) m (k,i,big)=j (again (wOn t big) r k,big):=by
 intro m
 induction m with
 | zero=>intro r k i _ _ _ _ _ _ h;omega
 | succ m ih=>
  intro r k i h0 h1 hi hi' hq hr hm
  simp only [aW,dO,sI,Bool.cond_decide,hx]
  cases r with
  | zero=>
   rw [if_neg (by omega)];rfl
  | succ r=>
   have hb:=aIl t big k h0 h1
   rw [if_pos (by omega),aWa t hl big k h0 h1]
   simp only [aF]
   rw [bK (by omega) (by omega)]
   exact ih r _ (i+1) (by omega) hb.2 (by omega) (by omega) hq (by omega) (by omega)
theorem aSm (t:List Int) (hl:(t.length:Int)≤1048576) (big:Bool) (x2:List Int×Bool) (hx:x2.1=t) (q:Int) (j:Int×Bool→Option (Int×List Int×Bool)):∀ (m r:Nat) (k i:Int),0≤k→k≤(t.length:Int)→0≤i→i≤2000→q≤2000→r=(q - i).toNat→r<m →
  aW (dN q x2 j) m (k,i,big)=j (again (fun k=>tL t big k.toNat) r k,big):=by
 intro m
 induction m with
 | zero=>intro r k i _ _ _ _ _ _ h;omega
 | succ m ih=>
  intro r k i h0 h1 hi hi' hq hr hm
  simp only [aW,dN,sH,Bool.cond_decide,hx]
  cases r with
  | zero=>
   rw [if_neg (by omega)];rfl
  | succ r=>
   have hk:((k.toNat:Nat):Int)=k:=by omega
   have hb:=sK t big k.toNat (by omega)
   have he:=aM1 t hl big k.toNat (by omega)
   rw [hk] at he
   rw [if_pos (by omega),he]
   simp only [aF]
   rw [bK (by omega) (by omega)]
   exact ih r _ (i+1) (by omega) (by omega) (by omega) (by omega) hq (by omega) (by omega)
theorem aUi (t:List Int) (hl:(t.length:Int)≤1048576) (big:Bool) (x2:List Int×Bool) (hx:x2.1=t) (q:Int) (j:Int×Bool→Option (Int×List Int×Bool)):∀ (m r:Nat) (k i:Int),0≤k→k≤(t.length:Int)→0≤i→i≤2000→q≤2000→r=(q - i).toNat→r<m →
  aW (dM q x2 j) m (k,i,big)=j (again (aC7 t big) r k,big):=by
 intro m
 induction m with
 | zero=>intro r k i _ _ _ _ _ _ h;omega
 | succ m ih=>
  intro r k i h0 h1 hi hi' hq hr hm
  simp only [aW,dM,sG,Bool.cond_decide,hx]
  cases r with
  | zero=>
   rw [if_neg (by omega)];rfl
  | succ r=>
   have hb:=aFc t hl big k h0 h1
   rw [if_pos (by omega),aUr t hl big k h0 h1]
   simp only [aF]
   rw [bK (by omega) (by omega)]
   exact ih r _ (i+1) hb.1 hb.2 (by omega) (by omega) hq (by omega) (by omega)
def gQ (t:List Int) (a r c:Int):Int×Bool×Bool:=
 let n:Int:=t.length
 let k:=max 0 (min a n)
 let q:=max 1 (min c 999)
 let big:=decide (65≤r∧r≤90)
 if r=104 then (max (k - q) 0,false,true)
 else if r=108∨r=32 then (min (k+q) n,false,true)
 else if r=119∨r=87 then (again (wOn t big) q.toNat k,false,true)
 else if r=98∨r=66 then (again (fun k=>tL t big k.toNat) q.toNat k,false,true)
 else if r=101∨r=69 then (again (aC7 t big) q.toNat k,decide (0<n),true)
 else if r=48 then (0,false,true)
 else if r=94 then (fwd (fun i=>aDu (at' t i)=0) t.length 0,false,true)
 else if r=36 then (max (n - 1) 0,decide (0<n),true)
 else if r=124 then (min (q - 1) n,false,true)
 else (0,false,false)
theorem aB1 (t:List Int) (hl:(t.length:Int)≤1048576) (a r c:Int):kJ t a r c=some (gQ t a r c):=by
 unfold kJ dE jV dK gQ
 simp only [aF,aS,Bool.cond_decide]
 have hq0:1≤max (1:Int) (min c 999):=by omega
 have hq1:max (1:Int) (min c 999)≤999:=by omega
 have hk0:0≤max (0:Int) (min a (t.length:Int)):=by omega
 have hk1:max (0:Int) (min a (t.length:Int))≤(t.length:Int):=by omega
 generalize max (1:Int) (min c 999)=q at *
 generalize max (0:Int) (min a (t.length:Int))=k at *
 have hbig:(if 65≤r then decide (r≤90) else false)=decide (65≤r∧r≤90):=by
  by_cases h:65≤r <;> simp [h]
 rw [hbig]
 generalize decide (65≤r∧r≤90)=big
 have e1:eO k q (t,big)=some (again (wOn t big) q.toNat k,t,big):=by
  unfold eO
  simp only [aS]
  rw [aV0 t hl big (t,big) rfl q _ bG q.toNat k 0 hk0 hk1 (by omega) (by omega) (by omega) (by omega) (by rw [bI];omega)]
 have e2:eN k q (t,big)=some (again (fun k=>tL t big k.toNat) q.toNat k,t,big):=by
  unfold eN
  simp only [aS]
  rw [aSm t hl big (t,big) rfl q _ bG q.toNat k 0 hk0 hk1 (by omega) (by omega) (by omega) (by omega) (by rw [bI];omega)]
 have e3:eM k q (t,big)=some (again (aC7 t big) q.toNat k,t,big):=by
  unfold eM
  simp only [aS]
  rw [aUi t hl big (t,big) rfl q _ bG q.toNat k 0 hk0 hk1 (by omega) (by omega) (by omega) (by omega) (by rw [bI];omega)]
 simp only [e1,e2,e3]
 rw [bK (x:=k - q) (by omega) (by omega),bK (x:=k+q) (by omega) (by omega),bK (x:=(t.length:Int) - 1) (by omega) (by omega),bK (x:=q - 1) (by omega) (by omega),
  aM0 t hl _ bG t.length 0 (by omega) (by omega) (by rw [bI];omega)]
 by_cases c1:r=104
 ·
  simp [c1]
 by_cases c2:r=108
 ·
  simp [c2]
 by_cases c3:r=32
 ·
  simp [c3]
 by_cases c4:r=119
 ·
  simp [c4]
 by_cases c5:r=87
 ·
  simp [c5]
 by_cases c6:r=98
 ·
  simp [c6]
 by_cases c7:r=66
 ·
  simp [c7]
 by_cases c8:r=101
 ·
  simp [c8]
 by_cases c9:r=69
 ·
  simp [c9]
 by_cases c10:r=48
 ·
  simp [c10]
 by_cases c11:r=94
 ·
  simp [c11]
 by_cases c12:r=36
 ·
  simp [c12]
 by_cases c13:r=124
 ·
  simp [c13]
 simp [c1,c2,c3,c4,c5,c6,c7,c8,c9,c10,c11,c12,c13]
theorem sRep (t:List Int) (hl:(t.length:Int)≤1048576) (r q:Int) (g:Int→Int) (hg:∀ k,0≤k→k≤(t.length:Int)→jT t k r=some (g k)∧0≤g k∧g k≤(t.length:Int)) (j:Int→Option (Int×Bool×Bool)):∀ (m n:Nat) (k i:Int),0≤k→k≤(t.length:Int)→0≤i→i≤2000→q≤2000→n=(q - i).toNat→n<m →
  aW (dV t r q j) m (k,i)=j (again g n k):=by
 intro m
 induction m with
 | zero=>intro n k i _ _ _ _ _ _ h;omega
 | succ m ih=>
  intro n k i h0 h1 hi hi' hq hr hm
  simp only [aW,dV,Bool.cond_decide]
  cases n with
  | zero=>rw [if_neg (by omega)];rfl
  | succ n=>
   obtain ⟨g1,g2,g3⟩:=hg k h0 h1
   rw [if_pos (by omega),aO g1]
   rw [bK (by omega) (by omega)]
   exact ih n _ (i+1) g2 g3 (by omega) (by omega) hq (by omega) (by omega)
theorem aBr (t:List Int) (hl:(t.length:Int)≤1048576) (a r c:Int):kE t a r c=some (gQ t a r c):=by
 unfold kE gQ
 rw [cL _ _ (by omega),aLe]
 simp only [aF,aS,Bool.cond_decide]
 have hq0:1≤max (1:Int) (min c 999):=by omega
 have hq1:max (1:Int) (min c 999)≤999:=by omega
 have hk0:0≤max (0:Int) (min a (t.length:Int)):=by omega
 have hk1:max (0:Int) (min a (t.length:Int))≤(t.length:Int):=by omega
 generalize max (1:Int) (min c 999)=q at *
 generalize max (0:Int) (min a (t.length:Int))=k at *
 rw [bK (x:=k - q) (by omega) (by omega),bK (x:=k+q) (by omega) (by omega),bK (x:=(t.length:Int) - 1) (by omega) (by omega),bK (x:=q - 1) (by omega) (by omega),
  cL _ _ (by omega),cL _ _ (by omega),cL _ _ (by omega),cL _ _ (by omega),
  aLu t hl _ bG t.length 0 (by omega) (by omega) (by rw [bI];omega)]
 have m1:max (0:Int) (min (k - q) (t.length:Int))=max (k - q) 0:=by omega
 have m2:max (0:Int) (min (k+q) (t.length:Int))=min (k+q) (t.length:Int):=by omega
 have m3:max (0:Int) (min ((t.length:Int) - 1) (t.length:Int))=max ((t.length:Int) - 1) 0:=by omega
 have m4:max (0:Int) (min (q - 1) (t.length:Int))=min (q - 1) (t.length:Int):=by omega
 rw [m1,m2,m3,m4]
 have hw:∀ g:Int→Int,(∀ k,0≤k→k≤(t.length:Int)→jT t k r=some (g k)∧0≤g k∧g k≤(t.length:Int))→∀ j,aW (dV t r q j) bG (k,0)=j (again g q.toNat k):=
  fun g hg j=>sRep t hl r q g hg j bG q.toNat k 0 hk0 hk1 (by omega) (by omega) (by omega) (by omega) (by rw [bI];omega)
 have word:∀ k,0≤k→k≤(t.length:Int)→jT t k r=some (if r=119∨r=87 then wOn t (decide (r<97)) k else if r=98∨r=66 then tL t (decide (r<97)) k.toNat else aC7 t (decide (r<97)) k):=fun k h0 h1=>aSf t hl k r h0 h1
 have w1:(r=119∨r=87)→∀ j,aW (dV t r q j) bG (k,0)=j (again (wOn t (decide (65≤r∧r≤90))) q.toNat k):=by
  intro h
  refine hw _ fun k h0 h1=>?_
  have hb:=aIl t (decide (65≤r∧r≤90)) k h0 h1
  have hd:decide (r<97)=decide (65≤r∧r≤90):=by rcases h with rfl | rfl <;> rfl
  rw [word k h0 h1,if_pos h,hd]
  exact ⟨rfl,by omega,hb.2⟩
 have w2:(r=98∨r=66)→∀ j,aW (dV t r q j) bG (k,0)=j (again (fun k=>tL t (decide (65≤r∧r≤90)) k.toNat) q.toNat k):=by
  intro h
  refine hw _ fun k h0 h1=>?_
  have hb:=sK t (decide (65≤r∧r≤90)) k.toNat (by omega)
  have hd:decide (r<97)=decide (65≤r∧r≤90):=by rcases h with rfl | rfl <;> rfl
  rw [word k h0 h1,if_neg (by rcases h with rfl | rfl <;> decide),if_pos h,hd]
  exact ⟨rfl,hb.1,by omega⟩
 have w3:(r=101∨r=69)→∀ j,aW (dV t r q j) bG (k,0)=j (again (aC7 t (decide (65≤r∧r≤90))) q.toNat k):=by
  intro h
  refine hw _ fun k h0 h1=>?_
  have hb:=aFc t hl (decide (65≤r∧r≤90)) k h0 h1
  have hd:decide (r<97)=decide (65≤r∧r≤90):=by rcases h with rfl | rfl <;> rfl
  rw [word k h0 h1,if_neg (by rcases h with rfl | rfl <;> decide),if_neg (by rcases h with rfl | rfl <;> decide),hd]
  exact ⟨rfl,hb.1,hb.2⟩
 by_cases c1:r=104
 ·
  simp [c1]
 by_cases c2:r=108
 ·
  simp [c2]
 by_cases c3:r=32
 ·
  simp [c3]
 by_cases c4:r=119
 ·
  rw [w1 (.inl c4)];subst c4;simp
 by_cases c5:r=87
 ·
  rw [w1 (.inr c5)];subst c5;simp
 by_cases c6:r=98
 ·
  rw [w2 (.inl c6)];subst c6;simp
 by_cases c7:r=66
 ·
  rw [w2 (.inr c7)];subst c7;simp
 by_cases c8:r=101
 ·
  rw [w3 (.inl c8)];subst c8;simp
 by_cases c9:r=69
 ·
  rw [w3 (.inr c9)];subst c9;simp
 by_cases c10:r=48
 ·
  simp [c10]
 by_cases c11:r=94
 ·
  simp [c11]
 by_cases c12:r=36
 ·
  simp [c12]
 by_cases c13:r=124
 ·
  simp [c13]
 simp [c1,c2,c3,c4,c5,c6,c7,c8,c9,c10,c11,c12,c13]
section
variable (l:List Int) (hl:(l.length:Int)≤1048576) (r:Int)
include hl
theorem aWo (js ji:Unit→Option Int) (hj:js ()=ji ()) (hj':∃ v,ji ()=some v):∀ (m:Nat) (k:Int),0≤k→k≤2000000→(l.length:Int) - k<m→0<m →
  ∃ v,aW (cK l r 1 0 js) m k=some v∧aW (lK l r ji) m k=some v:=by
 intro m
 induction m with
 | zero=>intro k _ _ h h';omega
 | succ m ih=>
  intro k hk hk' hm _
  simp only [aW,cK,lK,aP,Int.add_zero]
  rw [bK (x:=k) (by omega) (by omega),bK (x:=k+1) (by omega) (by omega)]
  by_cases h1:k<(l.length:Int)
  ·
   simp only [h1,hk,decide_true,cond_true,if_true,and_self,implies_true]
   by_cases h2:at' l k=r
   ·
    exact ⟨k,by simp [h2],by simp [h2]⟩
   ·
    obtain ⟨v,q1,q2⟩:=ih (k+1) (by omega) (by omega) (by omega) (by omega)
    exact ⟨v,by simpa [h2] using q1,by simpa [h2] using q2⟩
  ·
   obtain ⟨v,hv⟩:=hj'
   exact ⟨v,by simp [h1,hj,hv],by simp [h1,hv]⟩
theorem aUv (js ji:Unit→Option Int) (hj:js ()=ji ()) (hj':∃ v,ji ()=some v):∀ (m:Nat) (k:Int),-1≤k→k<(l.length:Int)→k+1<m →
  ∃ v,aW (cK l r (-1) 0 js) m k=some v∧aW (lJ l r ji) m k=some v:=by
 intro m
 induction m with
 | zero=>intro k _ _ h;omega
 | succ m ih=>
  intro k hk hk' hm
  simp only [aW,cK,lJ,aP,Int.add_zero]
  rw [bK (x:=k) (by omega) (by omega),bK (x:=k + -1) (by omega) (by omega),bK (x:=k - 1) (by omega) (by omega)]
  by_cases h1:0≤k
  ·
   simp only [h1,hk',decide_true,cond_true,if_true,and_self,implies_true]
   by_cases h2:at' l k=r
   ·
    exact ⟨k,by simp [h2],by simp [h2]⟩
   ·
    obtain ⟨v,q1,q2⟩:=ih (k - 1) (by omega) (by omega) (by omega)
    exact ⟨v,by simp only [h2,decide_false,cond_false];exact q1,by simpa [h2] using q2⟩
  ·
   obtain ⟨v,hv⟩:=hj'
   exact ⟨v,by simp [h1,hj,hv],by simp [h1,hv]⟩
theorem aRm (js ji:Unit→Option Int) (hj:js ()=ji ()) (hj':∃ v,ji ()=some v):∀ (m:Nat) (k:Int),0≤k→k≤2000000→(l.length:Int) - k+1<m→1<m →
  ∃ v,aW (cK l r 1 1 js) m k=some v∧aW (lI l r ji) m k=some v:=by
 intro m
 induction m with
 | zero=>intro k _ _ h h';omega
 | succ m ih=>
  intro k hk hk' hm _
  simp only [aW,cK,lI,aP]
  rw [bK (x:=k+1) (by omega) (by omega)]
  have hk1:0≤k+1:=by omega
  obtain ⟨v,hv⟩:=hj'
  by_cases h1:k+1<(l.length:Int)
  ·
   have h0:k<(l.length:Int):=by omega
   simp only [h0,h1,hk,hk1,decide_true,cond_true,if_true,and_self,implies_true]
   by_cases h2:at' l (k+1)=r
   ·
    exact ⟨k,by simp [h2],by simp [h2]⟩
   ·
    obtain ⟨v,q1,q2⟩:=ih (k+1) (by omega) (by omega) (by omega) (by omega)
    exact ⟨v,by simpa [h2] using q1,by simpa [h2] using q2⟩
  ·
   by_cases h0:k<(l.length:Int)
   ·
    simp only [h0,h1,hk,hk1,decide_true,decide_false,cond_true,cond_false,Bool.false_eq_true,false_implies,if_true]
    refine ⟨v,?_,hv⟩
    cases m with
    | zero=>omega
    | succ m=>
     simp [aW,cK,h1,hj,hv]
   ·
    exact ⟨v,by simp [h0,hj,hv],by simp [h1,hv]⟩
theorem aM8 (js ji:Unit→Option Int) (hj:js ()=ji ()) (hj':∃ v,ji ()=some v):∀ (m:Nat) (k:Int),-1≤k→k<(l.length:Int)→k+2<m →
  ∃ v,aW (cK l r (-1) (-1) js) m k=some v∧aW (lH l r ji) m k=some v:=by
 intro m
 induction m with
 | zero=>intro k _ _ h;omega
 | succ m ih=>
  intro k hk hk' hm
  have e:k + -1=k - 1:=by omega
  simp only [aW,cK,lH,aP,e]
  rw [bK (x:=k - 1) (by omega) (by omega)]
  obtain ⟨v,hv⟩:=hj'
  by_cases h1:1≤k
  ·
   have h0:0≤k:=by omega
   have h2:0≤k - 1:=by omega
   have h3:k - 1<(l.length:Int):=by omega
   simp only [h0,h1,h2,h3,hk',decide_true,cond_true,if_true,and_self,implies_true]
   by_cases h2:at' l (k - 1)=r
   ·
    exact ⟨k,by simp [h2],by simp [h2]⟩
   ·
    obtain ⟨v,q1,q2⟩:=ih (k - 1) (by omega) (by omega) (by omega)
    exact ⟨v,by simpa [h2] using q1,by simpa [h2] using q2⟩
  ·
   by_cases h0:0≤k
   ·
    have h2:¬ 0≤k - 1:=by omega
    simp only [h0,h1,h2,hk',decide_true,decide_false,cond_true,cond_false,Bool.false_eq_true,false_implies,if_true]
    refine ⟨v,?_,hv⟩
    cases m with
    | zero=>omega
    | succ m=>simp [aW,cK,h1,h2,hj,hv]
   ·
    exact ⟨v,by simp [h0,hj,hv],by simp [h1,hv]⟩
theorem aNb (a how:Int):∃ v,qV l a r how=some v∧rK l a r how=some v:=by
 unfold qV rK dE
 rw [cL _ _ (by omega)]
 simp only [aF]
 have h0:(0:Int)≤max 0 (min a l.length):=by omega
 have h1:max 0 (min a l.length)≤(l.length:Int):=by omega
 generalize max 0 (min a l.length)=y at *
 have E1:W (y+1)=y+1:=bK (by omega) (by omega)
 have E2:W (y + -1)=y - 1:=bK (by omega) (by omega)
 have E3:W (y - 1)=y - 1:=bK (by omega) (by omega)
 by_cases p0:how=0
 ·
  subst p0
  obtain ⟨v,q1,q2⟩:=aWo l hl r (fun _=>some (-1)) (fun _=>some (-1)) rfl ⟨_,rfl⟩ bG (y+1) (by omega) (by omega) (by rw [bI];omega) (by rw [bI];omega)
  exact ⟨v,by simp [aS,E1,q1],by simp [aS,E1,q2]⟩
 by_cases p1:how=1
 ·
  subst p1
  obtain ⟨v,q1,q2⟩:=aUv l hl r (fun _=>some (-1)) (fun _=>some (-1)) rfl ⟨_,rfl⟩ bG (y - 1) (by omega) (by omega) (by rw [bI];omega)
  exact ⟨v,by simp [aS,E2,q1],by simp [aS,E3,q2]⟩
 by_cases p2:how=2
 ·
  subst p2
  obtain ⟨v,q1,q2⟩:=aRm l hl r (fun _=>some (-1)) (fun _=>some (-1)) rfl ⟨_,rfl⟩ bG (y+1) (by omega) (by omega) (by rw [bI];omega) (by rw [bI];omega)
  exact ⟨v,by simp [aS,E1,q1],by simp [aS,E1,q2]⟩
 by_cases p3:how=3
 ·
  subst p3
  obtain ⟨v,q1,q2⟩:=aM8 l hl r (fun _=>some (-1)) (fun _=>some (-1)) rfl ⟨_,rfl⟩ bG (y - 1) (by omega) (by omega) (by rw [bI];omega)
  exact ⟨v,by simp [aS,E2,q1],by simp [aS,E3,q2]⟩
 ·
  refine ⟨-1,?_,by simp [aS,p0,p1,p2,p3]⟩
  by_cases n:how<0
  ·
   simp [n]
  ·
   have:3<how:=by omega
   simp [n,this]
end
theorem aUu (l:List Int) (hl:(l.length:Int)≤1048576) (r how t:Int) (js ji:Int→Option (Int×Bool)) (hj:∀ x,js x=ji x) (hj':∀ x,∃ v,ji x=some v):∀ (m:Nat) (a n:Int),0≤n→n≤2000→2000 - n<m →
  ∃ v,aW (oE l r how t js) m (a,n)=some v∧aW (oU l r how t ji) m (a,n)=some v:=by
 intro m
 induction m with
 | zero=>intro a n _ _ h;omega
 | succ m ih=>
  intro a n hn hn' hm
  obtain ⟨y,e1,e2⟩:=aNb l hl r a how
  simp only [aW,oE,oU,aLe,e1,e2,aF]
  by_cases h1:n<max 1 (min t 999)
  ·
   simp only [h1,decide_true,cond_true]
   rw [bK (x:=n+1) (by omega) (by omega)]
   by_cases h2:y<0
   ·
    exact ⟨(-1,false),by simp [h2],by simp [h2]⟩
   ·
    obtain ⟨v,q1,q2⟩:=ih y (n+1) (by omega) (by omega) (by omega)
    exact ⟨v,by simpa [h2] using q1,by simpa [h2] using q2⟩
  ·
   obtain ⟨v,hv⟩:=hj' a
   exact ⟨v,by simp only [h1,decide_false,cond_false];rw [hj,hv],by simp only [h1,decide_false,cond_false];exact hv⟩
theorem aJd (l:List Int) (hl:(l.length:Int)≤1048576) (a r how t:Int):∃ v,pJ l a r how t=some v∧nA l a r how t=some v:=by
 unfold pJ nA dE
 rw [cL _ _ (by omega)]
 exact aUu l hl r how t _ _ (fun _=>rfl) (fun _=>⟨_,rfl⟩) bG _ 0 (by omega) (by omega) (by rw [bI];omega)
theorem aFj (xs:List (List UInt8)) (hx:xs.length≤maxLen) (hs:∀ s ∈ xs,s.length≤maxLen):∀ (m:Nat) (left k:Int),0≤left→left≤1048576→0≤k→k≤(xs.length:Int)→(xs.length:Int) - k<m→0<m →
  ∃ v,aW (jJ xs fun x18=>some x18) m (left,k)=some v∧(v = -1∨(0≤v∧v≤left∧∀ s ∈ xs.drop k.toNat,(s.length:Int)≤left)):=by
 have hM':maxLen≤9223372036854775807:=by decide
 intro m
 induction m with
 | zero=>intro left k _ _ _ _ _ h;omega
 | succ m ih=>
  intro left k h0 h1 hk hk' hm _
  simp only [aW,jJ,aP,Bool.cond_decide]
  by_cases h2:k<(xs.length:Int)
  ·
   rw [if_pos h2,if_pos ⟨hk,h2⟩]
   have hb:=hs (at' xs k) (List.mem_of_getElem? (bD ⟨hk,h2⟩))
   rw [bK (x:=left - ((at' xs k).length:Int)) (by omega) (by omega),bK (x:=k+1) (by omega) (by omega)]
   by_cases h3:left - ((at' xs k).length:Int)<0
   ·
    rw [if_pos h3];exact ⟨-1,rfl,.inl rfl⟩
   ·
    rw [if_neg h3]
    obtain ⟨v,e,hv⟩:=ih (left - ((at' xs k).length:Int)) (k+1) (by omega) (by omega) (by omega) (by omega) (by omega) (by omega)
    refine ⟨v,e,?_⟩
    rcases hv with hv | ⟨g1,g2,g3⟩
    ·
     exact .inl hv
    ·
     refine .inr ⟨g1,by omega,?_⟩
     rw [dU hk h2]
     intro s hs'
     rcases List.mem_cons.1 hs' with rfl | hs'
     ·
      omega
     ·
      have:=g3 s hs';omega
  ·
   rw [if_neg h2]
   exact ⟨left,rfl,.inr ⟨h0,Int.le_refl _,by rw [List.drop_eq_nil_of_le (by omega)];simp⟩⟩
theorem aJo (xs:List (List UInt8)) (hx:xs.length≤maxLen) (hs:∀ s ∈ xs,s.length≤maxLen) (left:Int) (h0:0≤left) (h1:left≤1048576) :
  ∃ v,oI xs left=some v∧(v = -1∨(0≤v∧v≤left∧(xs.length:Int)≤left∧∀ s ∈ xs,(s.length:Int)≤left)):=by
 have hM':maxLen≤9223372036854775807:=by decide
 unfold oI
 simp only [Bool.cond_decide,aS]
 rw [bK (x:=left - (xs.length:Int)) (by omega) (by omega)]
 by_cases h:left - (xs.length:Int)<0
 ·
  rw [if_pos h];exact ⟨-1,rfl,.inl rfl⟩
 ·
  rw [if_neg h]
  obtain ⟨v,e,hv⟩:=aFj xs hx hs bG (left - (xs.length:Int)) 0 (by omega) (by omega) (by omega) (by omega) (by rw [bI];omega) (by rw [bI];omega)
  refine ⟨v,e,?_⟩
  rcases hv with hv | ⟨g1,g2,g3⟩
  ·
   exact .inl hv
  ·
   refine .inr ⟨g1,by omega,by omega,fun s hs'=>?_⟩
   have:=g3 s (by simpa using hs')
   omega
theorem aFh (xs:List (List UInt8)) (hl:(xs.length:Int)≤100000000) (j:List (List UInt8)→Option (List (List UInt8))):∀ (m:Nat) (ys:List (List UInt8)) (k:Int),0≤k→k≤(xs.length:Int)→ys.length=xs.length→(∀ i:Nat,(i:Int)<k→ys[i]?=xs[i]?)→(xs.length:Int) - k<m→0<m →
  aW (jI xs j) m (ys,k)=j xs:=by
 intro m
 induction m with
 | zero=>intro ys k _ _ _ _ h h';omega
 | succ m ih=>
  intro ys k hk hk' hy hyx hm _
  simp only [aW,jI,aP,Bool.cond_decide]
  by_cases h1:k<(xs.length:Int)
  ·
   have h2:k<(ys.length:Int):=by omega
   simp only [h1,h2,hk,if_true,and_self]
   rw [bK (by omega) (by omega)]
   refine ih _ _ (by omega) (by omega) (by simpa using hy) (fun i hi=>?_) (by omega) (by omega)
   rw [List.getElem?_set]
   by_cases he:k.toNat=i
   ·
    subst he
    rw [if_pos rfl,if_pos (by omega),bD ⟨hk,h1⟩]
   ·
    rw [if_neg he]
    exact hyx i (by omega)
  ·
   simp only [h1,if_false]
   congr 1
   apply List.ext_getElem?
   intro i
   by_cases hi:(i:Int)<k
   ·
    exact hyx i hi
   ·
    rw [List.getElem?_eq_none (by omega),List.getElem?_eq_none (by omega)]
theorem aJl (xs:List (List UInt8)) (hl:(xs.length:Int)≤100000000):oG xs=some xs:=by
 unfold oG aP
 rw [if_pos (by omega)]
 exact aFh xs hl _ bG _ 0 (by omega) (by omega) (by simp) (fun i hi=>by omega) (by rw [bI];omega) (by rw [bI];omega)
theorem aG4 (xs:List (List UInt8)) (hl:(xs.length:Int)≤100000000) (j:Unit→Option Bool):∀ (m:Nat) (k:Int),0≤k→k≤(xs.length:Int)→(xs.length:Int) - k<m→0<m→aW (jL xs xs j) m k=j ():=by
 intro m
 induction m with
 | zero=>intro k _ _ h h';omega
 | succ m ih=>
  intro k hk hk' hm _
  simp only [aW,jL,aP,Bool.cond_decide]
  by_cases h1:k<(xs.length:Int)
  ·
   simp only [h1,hk,if_true,and_self,decide_true,Bool.not_true,cond_false]
   rw [bK (by omega) (by omega)]
   exact ih _ (by omega) (by omega) (by omega) (by omega)
  ·
   simp only [h1,if_false]
theorem aG3 (xs:List (List UInt8)) (hl:(xs.length:Int)≤100000000):oJ xs xs=some true:=by
 unfold oJ
 simp only [decide_true,Bool.not_true,cond_false]
 exact aG4 xs hl _ bG 0 (by omega) (by omega) (by rw [bI];omega) (by rw [bI];omega)
def hOk (h:Int×List (List UInt8)):Bool:=decide (1≤h.1∧h.1≤1000000000∧(h.2.length:Int)≤60) && h.2.all fun s=>decide (1≤(s.length:Int)∧(s.length:Int)≤1000)
theorem aJt (h:Int×List (List UInt8)) (hl:(h.2.length:Int)≤1048576) (b:Bool):∀ (m:Nat) (k:Int),0≤k→k≤(h.2.length:Int)→(h.2.length:Int) - k<m→0<m →
  aW (oD h fun _=>some b) m k=some (b && (h.2.drop k.toNat).all fun s=>decide (1≤(s.length:Int)∧(s.length:Int)≤1000)):=by
 intro m
 induction m with
 | zero=>intro k _ _ _ h';omega
 | succ m ih=>
  intro k hk hk' hm _
  simp only [aW,oD,aP,Bool.cond_decide]
  by_cases h1:k<(h.2.length:Int)
  ·
   rw [if_pos h1,if_pos ⟨hk,h1⟩,bK (by omega) (by omega),dU hk h1,ih _ (by omega) (by omega) (by omega) (by omega),List.all_cons]
   by_cases c1:((at' h.2 k).length:Int)<1
   ·
    have:¬ (1≤((at' h.2 k).length:Int)∧((at' h.2 k).length:Int)≤1000):=by omega
    rw [decide_eq_false this]
    simp [c1]
   ·
    by_cases c2:1000<((at' h.2 k).length:Int)
    ·
     have:¬ (1≤((at' h.2 k).length:Int)∧((at' h.2 k).length:Int)≤1000):=by omega
     rw [decide_eq_false this]
     simp [c1,c2]
    ·
     have:(1≤((at' h.2 k).length:Int)∧((at' h.2 k).length:Int)≤1000):=by omega
     rw [decide_eq_true this]
     simp [c1,c2]
  ·
   rw [if_neg h1,List.drop_eq_nil_of_le (by omega)]
   simp
theorem yD (h:Int×List (List UInt8)) (hl:(h.2.length:Int)≤1048576):mL h=some (hOk h):=by
 unfold mL
 simp only [aS]
 rw [aJt h hl _ bG 0 (by omega) (by omega) (by rw [bI];omega) (by rw [bI];omega)]
 unfold hOk
 simp only [Int.toNat_zero,List.drop_zero]
 congr 2
 by_cases c1:1≤h.1 <;> by_cases c2:h.1≤1000000000 <;> by_cases c3:(h.2.length:Int)≤60 <;> simp [c1,c2,c3]
theorem aKr (h:Int×List (List UInt8)) (hl:(h.2.length:Int)≤1048576):∀ (m:Nat) (k:Int),0≤k→k≤(h.2.length:Int)→(h.2.length:Int) - k<m→0<m →
  aW (oT h fun _=>some true) m k=some ((h.2.drop k.toNat).all fun s=>decide (1≤(s.length:Int)∧(s.length:Int)≤1000)):=by
 intro m
 induction m with
 | zero=>intro k _ _ _ h';omega
 | succ m ih=>
  intro k hk hk' hm _
  simp only [aW,oT,aP,Bool.cond_decide,dK,aF]
  by_cases h1:k<(h.2.length:Int)
  ·
   rw [if_pos h1,if_pos ⟨hk,h1⟩,bK (by omega) (by omega),dU hk h1,ih _ (by omega) (by omega) (by omega) (by omega),List.all_cons]
   by_cases c1:1≤((at' h.2 k).length:Int) <;> by_cases c2:((at' h.2 k).length:Int)≤1000 <;> simp only [c1,c2,and_self,and_true,and_false,false_and,true_and,decide_true,decide_false,if_true,if_false,Bool.not_true,Bool.not_false,cond_true,cond_false,Bool.true_and,Bool.false_and]
  ·
   rw [if_neg h1,List.drop_eq_nil_of_le (by omega)]
   simp
theorem uS (h:Int×List (List UInt8)) (hl:(h.2.length:Int)≤1048576):pU h=some (hOk h):=by
 unfold pU dK
 simp only [aS,aF,Bool.cond_decide]
 rw [aKr h hl bG 0 (by omega) (by omega) (by rw [bI];omega) (by rw [bI];omega)]
 unfold hOk
 simp only [Int.toNat_zero,List.drop_zero]
 by_cases c1:1≤h.1 <;> by_cases c2:h.1≤1000000000 <;> by_cases c3:(h.2.length:Int)≤60
 all_goals first
  | (have c4:¬ (60<(h.2.length:Int)):=by omega);simp [c1,c2,c3,c4]
  | (have c4:60<(h.2.length:Int):=by omega);simp [c1,c2,c3,c4]
theorem aAh {h:Int×List (List UInt8)} (hh:hOk h=true):1≤h.1∧h.1≤1000000000∧(h.2.length:Int)≤60∧∀ s ∈ h.2,1≤(s.length:Int)∧(s.length:Int)≤1000:=by
 unfold hOk at hh
 simp only [Bool.and_eq_true,decide_eq_true_eq,List.all_eq_true] at hh
 exact ⟨hh.1.1,hh.1.2.1,hh.1.2.2,hh.2⟩
def eV (h:Int×List (List UInt8)):Int:=if hOk h=true∧0<h.2.length then h.1+h.2.length - 1 else 0
theorem aM4 (h:Int×List (List UInt8)) (hl:(h.2.length:Int)≤1048576):qU h=some (eV h)∧kK h=some (eV h):=by
 unfold qU kK
 rw [aO (yD h hl),aO (uS h hl)]
 unfold eV
 cases hh:hOk h with
 | false=>simp
 | true=>
  obtain ⟨h1,h2,h3,_⟩:=aAh hh
  simp only [Bool.cond_decide,Bool.not_true,cond_false]
  rw [bK (x:=h.1+(h.2.length:Int)) (by omega) (by omega),bK (by omega) (by omega)]
  by_cases h0:(h.2.length:Int)=0
  ·
   have:¬ (0<h.2.length):=by omega
   simp [h0,this]
  ·
   have:0<h.2.length:=by omega
   simp only [h0,this,if_false,and_self,if_true]
def zB (h:Int×List (List UInt8)) (n:Int):List UInt8×Bool:=if hOk h=true∧h.1≤n∧n<h.1+h.2.length then (at' h.2 (n - h.1),true) else ([],false)
theorem aGy (h:Int×List (List UInt8)) (hl:(h.2.length:Int)≤1048576) (n:Int) (hn:-9223372036854775808≤n∧n≤9223372036854775807):mM h n=some (zB h n)∧iL h n=some (zB h n):=by
 unfold mM iL
 rw [aO (yD h hl),aO (uS h hl)]
 unfold zB
 cases hh:hOk h with
 | false=>simp [bW,aF]
 | true=>
  obtain ⟨h1,h2,h3,_⟩:=aAh hh
  simp only [Bool.cond_decide,Bool.not_true,cond_false,bW,if_true,dK,aF,aP,true_and]
  rw [bK (x:=h.1+(h.2.length:Int)) (by omega) (by omega),bK (x:=h.1+(h.2.length:Int) - 1) (by omega) (by omega)]
  by_cases c1:h.1≤n
  ·
   rw [bK (x:=n - h.1) (by omega) (by omega)]
   by_cases c2:n<h.1+h.2.length
   ·
    have d1:¬ (n<h.1):=by omega
    have d2:¬ ((h.2.length:Int)≤n - h.1):=by omega
    have d3:n≤h.1+(h.2.length:Int) - 1:=by omega
    have d4:0≤n - h.1∧n - h.1<(h.2.length:Int):=by omega
    simp [c1,c2,d1,d2,d3,d4]
   ·
    have d1:¬ (n<h.1):=by omega
    have d2:((h.2.length:Int)≤n - h.1):=by omega
    have d3:¬ (n≤h.1+(h.2.length:Int) - 1):=by omega
    simp [c1,c2,d1,d2,d3]
  ·
   have d1:n<h.1:=by omega
   simp [c1,d1]
theorem aO7 (h:Int×List (List UInt8)) (hl:(h.2.length:Int)≤1048576):kK h=some (eV h):=by
 unfold kK
 rw [aO (uS h hl)]
 unfold eV
 cases hh:hOk h with
 | false=>simp
 | true=>
  obtain ⟨h1,h2,h3,_⟩:=aAh hh
  simp only [Bool.cond_decide,Bool.not_true,cond_false]
  rw [bK (x:=h.1+(h.2.length:Int)) (by omega) (by omega),bK (by omega) (by omega)]
  by_cases h0:(h.2.length:Int)=0
  ·
   have:¬ (0<h.2.length):=by omega
   simp [h0,this]
  ·
   have:0<h.2.length:=by omega
   simp only [h0,this,if_false,and_self,if_true]
theorem aJa (h:Int×List (List UInt8)) (hl:(h.2.length:Int)≤1048576) (n:Int) (hn:-9223372036854775808≤n∧n≤9223372036854775807):iL h n=some (zB h n):=by
 unfold iL
 rw [aO (uS h hl)]
 unfold zB
 cases hh:hOk h with
 | false=>simp [bW,aF]
 | true=>
  obtain ⟨h1,h2,h3,_⟩:=aAh hh
  simp only [Bool.cond_decide,Bool.not_true,cond_false,bW,if_true,dK,aF,aP,true_and]
  rw [bK (x:=h.1+(h.2.length:Int)) (by omega) (by omega),bK (x:=h.1+(h.2.length:Int) - 1) (by omega) (by omega)]
  by_cases c1:h.1≤n
  ·
   rw [bK (x:=n - h.1) (by omega) (by omega)]
   by_cases c2:n<h.1+h.2.length
   ·
    have d3:n≤h.1+(h.2.length:Int) - 1:=by omega
    have d4:0≤n - h.1∧n - h.1<(h.2.length:Int):=by omega
    simp [c1,c2,d3,d4]
   ·
    have d3:¬ (n≤h.1+(h.2.length:Int) - 1):=by omega
    simp [c1,c2,d3]
  ·
   simp [c1]
def aCx (r:Int):List Int:=
 if ¬ (0≤r∧r≤1114111∧(r<55296∨57343<r)) then [] else
 if r<128 then [r] else if r<2048 then [192+r / 64,128+r % 64]
 else if r<65536 then [224+r / 4096,128+r / 64 % 64,128+r % 64]
 else [240+r / 262144,128+r / 4096 % 64,128+r / 64 % 64,128+r % 64]
def enc (r:Int):List UInt8:=(aCx r).map u8
theorem td {a b:Int} (h:0≤a):Int.tdiv a b=a / b:=Int.tdiv_eq_ediv_of_nonneg h
theorem tm {a b:Int} (h:0≤a):Int.tmod a b=a % b:=Int.tmod_eq_emod_of_nonneg h
theorem aR0 {x:Int} (h:0≤x) (h2:x<256):((u8 x).toNat:Int)=x:=by
  simp [u8];omega
theorem aT2 (x:UInt8):u8 (x.toNat:Int)=x:=by
 have:x.toNat<256:=x.toNat_lt
 apply UInt8.toNat_inj.1
 have:=aR0 (x:=(x.toNat:Int)) (by omega) (by omega)
 omega
theorem aSv:∀ (l:List Int) (bs:List UInt8),(∀ x ∈ l,0≤x∧x<256)→(l.map u8=bs ↔ l=bs.map (fun b=>(b.toNat:Int)))
 | [],[],_=>by simp
 | [],b :: bs,_=>by simp
 | x :: l,[],_=>by simp
 | x :: l,b :: bs,h=>by
  have hx:=h x (by simp)
  have ih:=aSv l bs (fun y hy=>h y (by simp [hy]))
  simp only [List.map_cons,List.cons.injEq,ih]
  constructor
  ·
   rintro ⟨h1,h2⟩
   refine ⟨?_,h2⟩
   rw [← h1,aR0 hx.1 hx.2]
  ·
   rintro ⟨h1,h2⟩
   refine ⟨?_,h2⟩
   rw [h1,aT2]
theorem aPa (r:Int):∀ x ∈ aCx r,0≤x∧x<256:=by
 intro x
 unfold aCx
 split
 ·
  simp
 ·
  split
  ·
   simp;omega
  ·
   split
   ·
    simp;omega
   ·
    split
    ·
     simp;omega
    ·
     simp;omega
theorem aE5 (r:Int) (bs:List UInt8):enc r=bs ↔ aCx r=bs.map (fun b=>(b.toNat:Int)):=aSv _ _ (aPa r)
def r2 (x y:Int):Int:=(x - 192)*64+y - 128
def r3 (x y z:Int):Int:=((x - 224)*64+y - 128)*64+z - 128
def r4 (x y z v:Int):Int:=(((x - 240)*64+y - 128)*64+z - 128)*64+v - 128
theorem aP6 {x:Int} (h:0≤x) (h2:x<256):aCx x=[x] ↔ x<128:=by
 unfold aCx
 split
 ·
  simp;omega
 ·
  split
  ·
   simp;omega
  ·
   split
   ·
    simp;omega
   ·
    omega
def E2 (x y:Int):Prop:=194≤x∧x≤223∧128≤y∧y≤191
instance (x y:Int):Decidable (E2 x y):=by unfold E2;infer_instance
def E3 (x y z:Int):Prop:=(224≤x∧x≤239∧128≤y∧y≤191∧128≤z∧z≤191)∧2048≤r3 x y z∧(r3 x y z<55296∨57343<r3 x y z)
instance (x y z:Int):Decidable (E3 x y z):=by unfold E3;infer_instance
def E4 (x y z v:Int):Prop:=(240≤x∧x≤247∧128≤y∧y≤191∧128≤z∧z≤191∧128≤v∧v≤191)∧65536≤r4 x y z v∧r4 x y z v≤1114111
instance (x y z v:Int):Decidable (E4 x y z v):=by unfold E4;infer_instance
theorem aP5 {x y:Int} (h:0≤x∧x<256∧0≤y∧y<256):aCx (r2 x y)=[x,y] ↔ E2 x y:=by
 unfold E2
 generalize hr:r2 x y=r
 unfold r2 at hr
 unfold aCx
 split
 ·
  simp;omega
 ·
  split
  ·
   simp;omega
  ·
   split
   ·
    simp only [List.cons.injEq,and_true];omega
   ·
    split <;> (simp;try omega)
theorem aTb {x y z:Int} (h:0≤x∧x<256∧0≤y∧y<256∧0≤z∧z<256):aCx (r3 x y z)=[x,y,z] ↔ E3 x y z:=by
 unfold E3
 generalize hr:r3 x y z=r
 unfold r3 at hr
 unfold aCx
 split
 ·
  simp;omega
 ·
  split
  ·
   simp;omega
  ·
   split
   ·
    simp;omega
   ·
    split
    ·
     simp only [List.cons.injEq,and_true];omega
    ·
     simp;omega
theorem aVm {x y z v:Int} (h:0≤x∧x<256∧0≤y∧y<256∧0≤z∧z<256∧0≤v∧v<256):aCx (r4 x y z v)=[x,y,z,v] ↔ E4 x y z v:=by
 unfold E4
 generalize hr:r4 x y z v=r
 unfold r4 at hr
 unfold aCx
 split
 ·
  simp;omega
 ·
  split
  ·
   simp;omega
  ·
   split
   ·
    simp;omega
   ·
    split
    ·
     simp;omega
    ·
     simp only [List.cons.injEq,and_true];omega
def bi (s:List UInt8) (i:Int):Int:=((at' s i).toNat:Int)
def rd (s:List UInt8):Int×Int:=
 if s.length<1 then (0,0) else
 if bi s 0<128 then (bi s 0,1) else
 if s.length<2 then (0,0) else
 if E2 (bi s 0) (bi s 1) then (r2 (bi s 0) (bi s 1),2) else
 if s.length<3 then (0,0) else
 if E3 (bi s 0) (bi s 1) (bi s 2) then (r3 (bi s 0) (bi s 1) (bi s 2),3) else
 if s.length<4 then (0,0) else
 if E4 (bi s 0) (bi s 1) (bi s 2) (bi s 3) then (r4 (bi s 0) (bi s 1) (bi s 2) (bi s 3),4) else (0,0)
theorem yP {α:Type} [Inhabited α] {b:List α} {a:Int} (h0:0≤a) (i:Int) (hi:0≤i):at' b (a+i)=at' (b.drop a.toNat) i:=by
 unfold at'
 have:(a+i).toNat=a.toNat+i.toNat:=by omega
 rw [this]
 simp [List.getD_eq_getElem?_getD,List.getElem?_drop]
theorem aNq {α:Type} [Inhabited α] {b:List α} {a:Int} (h0:0≤a):at' b a=at' (b.drop a.toNat) 0:=by
 have:=yP (b:=b) h0 0 (by omega)
 simpa using this
theorem uK {α:Type} {b:List α} {a n:Int} (h0:0≤a) (hn:0≤n):bU b a (a+n)=(b.drop a.toNat).take n.toNat:=by
 unfold bU
 congr 1
 omega
theorem fH (x:UInt8):0≤(x.toNat:Int)∧(x.toNat:Int)<256:=by
 have:x.toNat<256:=x.toNat_lt
 omega
theorem rd_1 (x:UInt8):rd [x]=if (x.toNat:Int)<128 then ((x.toNat:Int),1) else (0,0):=by
  simp [rd,bi,at']
theorem rd_2 (x y:UInt8):rd [x,y]=if (x.toNat:Int)<128 then ((x.toNat:Int),1) else if E2 x.toNat y.toNat then (r2 x.toNat y.toNat,2) else (0,0):=by
  simp [rd,bi,at']
theorem rd_3 (x y z:UInt8):rd [x,y,z]=if (x.toNat:Int)<128 then ((x.toNat:Int),1) else if E2 x.toNat y.toNat then (r2 x.toNat y.toNat,2) else if E3 x.toNat y.toNat z.toNat then (r3 x.toNat y.toNat z.toNat,3) else (0,0):=by
  simp [rd,bi,at']
theorem rd_4 (x y z v:UInt8) (t:List UInt8):rd (x :: y :: z :: v :: t)=if (x.toNat:Int)<128 then ((x.toNat:Int),1) else if E2 x.toNat y.toNat then (r2 x.toNat y.toNat,2) else if E3 x.toNat y.toNat z.toNat then (r3 x.toNat y.toNat z.toNat,3) else if E4 x.toNat y.toNat z.toNat v.toNat then (r4 x.toNat y.toNat z.toNat v.toNat,4) else (0,0):=by
 have l1:¬ (t.length+1+1+1+1<1):=by omega
 have l2:¬ (t.length+1+1+1+1<2):=by omega
 have l3:¬ (t.length+1+1+1+1<3):=by omega
 have l4:¬ (t.length+1+1+1+1<4):=by omega
 simp [rd,bi,at',l1,l2,l3,l4]
theorem aSg (r:Int):mK r=some (decide (0≤r∧r≤1114111∧(r<55296∨57343<r))):=by
 unfold mK
 congr 1
 by_cases h1:0≤r <;> by_cases h2:r≤1114111 <;> by_cases h3:r<55296 <;> simp [h1,h2,h3]
theorem aL0 (r:Int):oB r=some (enc r):=by
 unfold oB enc aCx
 rw [aO (aSg r)]
 by_cases h:0≤r∧r≤1114111∧(r<55296∨57343<r)
 ·
  have h0:=h.1
  have h00:0≤r / 64:=by omega
  have h01:0≤r / 4096:=by omega
  simp only [h,decide_true,Bool.not_true,cond_false,not_true,if_false,Bool.cond_decide,td h0,tm h0]
  rw [bK (x:=r / 64) (by omega) (by omega),bK (x:=r / 4096) (by omega) (by omega),bK (x:=r / 262144) (by omega) (by omega),tm h00,tm h01]
  rw [bK (x:=192+r / 64) (by omega) (by omega),bK (x:=128+r % 64) (by omega) (by omega),bK (x:=224+r / 4096) (by omega) (by omega),bK (x:=128+r / 64 % 64) (by omega) (by omega),bK (x:=240+r / 262144) (by omega) (by omega),bK (x:=128+r / 4096 % 64) (by omega) (by omega)]
  split
  ·
   rfl
  ·
   split
   ·
    rfl
   ·
    split <;> rfl
 ·
  simp only [h,decide_false,Bool.not_false,cond_true,not_false_eq_true,if_true,List.map_nil]
section
variable {b:List UInt8} {a:Int} (h0:0≤a) (hl:(b.length:Int)≤100000000)
include h0 hl
theorem rZ (n:Int) (hn:1≤n) (hn4:n≤4) (han:a+n≤(b.length:Int)) (j:Int→Option (Int×Int)) (m:Nat):∀ (r i:Int),1≤i→i≤n→(-100000000≤r∧r≤100000000) →
  aW (eW b a n j) (m+1) (r,i)=if i<n then aW (eW b a n j) m (r*64+((at' b (a+i)).toNat:Int) - 128,i+1) else j r:=by
 intro r i hi hin hr
 simp only [aW,eW,aP,Bool.cond_decide]
 by_cases h:i<n
 ·
  have hb:=fH (at' b (a+i))
  rw [if_pos h,if_pos h]
  rw [bK (x:=a+i) (by omega) (by omega),if_pos (by omega),bK (x:=r*64) (by omega) (by omega),bK (x:=r*64+_) (by omega) (by omega),bK (x:=r*64+_ - 128) (by omega) (by omega),bK (x:=i+1) (by omega) (by omega)]
 ·
  rw [if_neg h,if_neg h]
def vl (b:List UInt8) (a n:Int):Int:=
 if n=1 then (at' b a).toNat
 else if n=2 then r2 (at' b a).toNat (at' b (a+1)).toNat
 else if n=3 then r3 (at' b a).toNat (at' b (a+1)).toNat (at' b (a+2)).toNat
 else r4 (at' b a).toNat (at' b (a+1)).toNat (at' b (a+2)).toNat (at' b (a+3)).toNat
theorem aVy (n:Int) (hn:1≤n) (hn4:n≤4) (han:a+n≤(b.length:Int)) (j:Int→Option (Int×Int)) :
  (if 1<n then aW (eW b a n j) bG ((((at' b a).toNat:Int) - (at' ([0,0,192,224,240]:List Int) n)),1) else aW (eW b a n j) bG (((at' b a).toNat:Int),1))=j (vl b a n):=by
 obtain ⟨m,hm⟩:∃ m,bG=m+1+1+1+1:=⟨bG - 4,by rw [bI]⟩
 rw [hm]
 have b0:=fH (at' b a)
 have b1:=fH (at' b (a+1))
 have b2:=fH (at' b (a+2))
 have b3:=fH (at' b (a+3))
 have b4:=fH (at' b (a+(1+1)))
 have b5:=fH (at' b (a+(1+1+1)))
 have hc:n=1∨n=2∨n=3∨n=4:=by omega
 rcases hc with rfl | rfl | rfl | rfl
 ·
  rw [if_neg (by omega),rZ h0 hl _ hn hn4 han _ _ _ _ (by omega) (by omega) (by omega),if_neg (by omega)]
  rfl
 ·
  rw [if_pos (by omega)]
  have e:at' ([0,0,192,224,240]:List Int) 2=192:=rfl
  rw [e,rZ h0 hl _ hn hn4 han _ _ _ _ (by omega) (by omega) (by omega),if_pos (by omega),rZ h0 hl _ hn hn4 han _ _ _ _ (by omega) (by omega) (by omega),if_neg (by omega)]
  rfl
 ·
  rw [if_pos (by omega)]
  have e:at' ([0,0,192,224,240]:List Int) 3=224:=rfl
  rw [e,rZ h0 hl _ hn hn4 han _ _ _ _ (by omega) (by omega) (by omega),if_pos (by omega),rZ h0 hl _ hn hn4 han _ _ _ _ (by omega) (by omega) (by omega),if_pos (by omega),rZ h0 hl _ hn hn4 han _ _ _ _ (by omega) (by omega) (by omega),if_neg (by omega)]
  rfl
 ·
  rw [if_pos (by omega)]
  have e:at' ([0,0,192,224,240]:List Int) 4=240:=rfl
  rw [e,rZ h0 hl _ hn hn4 han _ _ _ _ (by omega) (by omega) (by omega),if_pos (by omega),rZ h0 hl _ hn hn4 han _ _ _ _ (by omega) (by omega) (by omega),if_pos (by omega),rZ h0 hl _ hn hn4 han _ _ _ _ (by omega) (by omega) (by omega),if_pos (by omega),rZ h0 hl _ hn hn4 han _ _ _ _ (by omega) (by omega) (by omega),if_neg (by omega)]
  rfl
theorem aVx (j:Unit→Option (Int×Int)) (k:Int→Option (Int×Int)) (n:Int) (hn:1≤n) (hn5:n≤5) (ha:a<(b.length:Int)) :
  gB b a j k n=if n≤4∧n≤(b.length:Int) - a then (if enc (vl b a n)=bU b a (a+n) then some (vl b a n,n) else k (n+1)) else j ():=by
 unfold gB
 simp only [aS,aP,Bool.cond_decide,aL0,aF]
 rw [bK (x:=(b.length:Int) - a) (by omega) (by omega),bK (x:=a+n) (by omega) (by omega),bK (x:=n+1) (by omega) (by omega)]
 by_cases hc:n≤4∧n≤(b.length:Int) - a
 ·
  have hs:((bU b a (a+n)).length:Int)=n:=by
   rw [nB (by omega)];omega
  have b0:=fH (at' b a)
  have ht:0≤at' ([0,0,192,224,240]:List Int) n∧at' ([0,0,192,224,240]:List Int) n≤240:=by
   have:n=1∨n=2∨n=3∨n=4:=by omega
   rcases this with rfl | rfl | rfl | rfl <;> decide
  rw [if_pos hc,if_pos hc.1,decide_eq_true hc.2,cond_true,if_pos ⟨h0,ha⟩,if_pos (show 0≤n∧n<(([0,0,192,224,240]:List Int).length:Int) by simp;omega),bK (x:=((at' b a).toNat:Int) - _) (by omega) (by omega)]
  rw [aVy h0 hl n hn hc.1 (by omega)]
  rw [if_pos (fun _=>by omega)]
  by_cases h:enc (vl b a n)=bU b a (a+n)
  ·
   rw [h];simp [hs]
  ·
   simp [h]
 ·
  rw [if_neg hc]
  by_cases h1:n≤4
  ·
   have:¬ n≤(b.length:Int) - a:=fun h=>hc ⟨h1,h⟩
   simp [h1,this]
  ·
   simp [h1]
theorem aOf (ha:a<(b.length:Int)):qS b a=some (rd (b.drop a.toNat)):=by
 unfold qS
 have e0:decide (a<0)=false:=by simp;omega
 have e1:decide ((b.length:Int)≤a)=false:=by simp;omega
 rw [e0,e1]
 simp only [cond_false,aS]
 obtain ⟨m,hm⟩:∃ m,bG=m+1+1+1+1+1:=⟨bG - 5,by rw [bI]⟩
 rw [hm]
 have st:∀ (m:Nat) (n:Int),1≤n→n≤5→aW (gB b a fun _=>some (0,0)) (m+1) n=if n≤4∧n≤(b.length:Int) - a then (if enc (vl b a n)=bU b a (a+n) then some (vl b a n,n) else aW (gB b a fun _=>some (0,0)) m (n+1)) else some (0,0):=by
  intro m n h1 h2
  simp only [aW]
  exact aVx h0 hl _ _ n h1 h2 ha
 rw [st _ 1 (by omega) (by omega),st _ (1+1) (by omega) (by omega),st _ (1+1+1) (by omega) (by omega),st _ (1+1+1+1) (by omega) (by omega),st _ (1+1+1+1+1) (by omega) (by omega)]
 rw [uK h0 (by omega),uK h0 (by omega),uK h0 (by omega),uK h0 (by omega)]
 unfold vl
 rw [aNq h0,yP h0 1 (by omega),yP h0 2 (by omega),yP h0 3 (by omega)]
 have hL:(b.length:Int) - a=((b.drop a.toNat).length:Int):=by simp;omega
 rw [hL]
 have hne:0<(b.drop a.toNat).length:=by simp;omega
 generalize b.drop a.toNat=s at *
 clear st hL hm
 have ai:∀ (c:Prop) [Decidable c] (x y:Int×Int),(if c then some x else some y)=some (if c then x else y):=fun c _ x y=>by split <;> rfl
 simp only [aE5]
 rcases s with _ | ⟨x,_ | ⟨y,_ | ⟨z,_ | ⟨v,t⟩⟩⟩⟩
 ·
  simp at hne
 ·
  have b0:=fH x
  have e1:=aP6 b0.1 b0.2
  simp [at',rd_1,e1,ai]
 ·
  have b0:=fH x
  have b1:=fH y
  have e1:=aP6 b0.1 b0.2
  have e2:=aP5 (x:=x.toNat) (y:=y.toNat) (by omega)
  simp [at',rd_2,e1,e2,ai]
 ·
  have b0:=fH x
  have b1:=fH y
  have b2:=fH z
  have e1:=aP6 b0.1 b0.2
  have e2:=aP5 (x:=x.toNat) (y:=y.toNat) (by omega)
  have e3:=aTb (x:=x.toNat) (y:=y.toNat) (z:=z.toNat) (by omega)
  simp [at',rd_3,e1,e2,e3,ai]
 ·
  have b0:=fH x
  have b1:=fH y
  have b2:=fH z
  have b3:=fH v
  have e1:=aP6 b0.1 b0.2
  have e2:=aP5 (x:=x.toNat) (y:=y.toNat) (by omega)
  have e3:=aTb (x:=x.toNat) (y:=y.toNat) (z:=z.toNat) (by omega)
  have e4:=aVm (x:=x.toNat) (y:=y.toNat) (z:=z.toNat) (v:=v.toNat) (by omega)
  have l1:(1:Int)≤((t.length:Int)+1+1+1+1):=by omega
  have l2:(2:Int)≤((t.length:Int)+1+1+1+1):=by omega
  have l3:(3:Int)≤((t.length:Int)+1+1+1+1):=by omega
  have l4:(4:Int)≤((t.length:Int)+1+1+1+1):=by omega
  simp [at',rd_4,e1,e2,e3,e4,l1,l2,l3,l4,ai]
end
theorem aSh (r:Int):mY r=some (decide (0≤r∧r≤1114111∧(r<55296∨57343<r))):=by
 unfold mY
 simp only [aCu,aF,bW]
 by_cases h1:0≤r∧r≤1114111
 ·
  rw [decide_eq_true h1]
  simp only [cond_true,if_true]
  by_cases h2:r<55296
  ·
   have:¬ (55296≤r∧r≤57343):=by omega
   simp [h1,h2,this]
  ·
   by_cases h3:57343<r
   ·
    have:¬ (55296≤r∧r≤57343):=by omega
    simp [h1,h2,h3,this]
   ·
    have:(55296≤r∧r≤57343):=by omega
    simp [h1,h2,h3,this]
 ·
  have:¬ (0≤r∧r≤1114111∧(r<55296∨57343<r)):=fun h=>h1 ⟨h.1,h.2.1⟩
  rw [decide_eq_false h1,decide_eq_false this]
  simp
theorem aL1 (r:Int):lO r=some (enc r):=by
 unfold lO enc aCx
 rw [aO (aSh r)]
 by_cases h:0≤r∧r≤1114111∧(r<55296∨57343<r)
 ·
  have h0:=h.1
  have h00:0≤r / 64:=by omega
  have h01:0≤r / 4096:=by omega
  simp only [h,decide_true,Bool.not_true,cond_false,not_true,if_false,Bool.cond_decide,td h0,tm h0]
  rw [bK (x:=r / 64) (by omega) (by omega),bK (x:=r / 4096) (by omega) (by omega),bK (x:=r / 262144) (by omega) (by omega),tm h00,tm h01]
  rw [bK (x:=192+r / 64) (by omega) (by omega),bK (x:=128+r % 64) (by omega) (by omega),bK (x:=224+r / 4096) (by omega) (by omega),bK (x:=128+r / 64 % 64) (by omega) (by omega),bK (x:=240+r / 262144) (by omega) (by omega),bK (x:=128+r / 4096 % 64) (by omega) (by omega)]
  split
  ·
   rfl
  ·
   split
   ·
    rfl
   ·
    split <;> rfl
 ·
  simp only [h,decide_false,Bool.not_false,cond_true,not_false_eq_true,if_true,List.map_nil]
section
variable {b:List UInt8} {a:Int} (h0:0≤a) (hl:(b.length:Int)≤100000000)
include h0 hl
theorem tQ (n:Int) (hn:2≤n) (hn4:n≤4) (han:a+n≤(b.length:Int)) (j:Int→Option (Int×Int)) (m:Nat):∀ (r i:Int),0≤i→i≤n - 1→(-100000000≤r∧r≤100000000) →
  aW (eY b a n j) (m+1) (r,i)=if i<n - 1 then aW (eY b a n j) m (r*64+((at' b (a+1+i)).toNat:Int) - 128,i+1) else j r:=by
 intro r i hi hin hr
 have e1:W (a+1)=a+1:=bK (by omega) (by omega)
 have e2:W (a+n)=a+n:=bK (by omega) (by omega)
 have hsl:((bU b (a+1) (a+n)).length:Int)=n - 1:=by rw [nB (by omega)];omega
 simp only [aW,eY,aP,Bool.cond_decide,e1,e2,hsl]
 by_cases h:i<n - 1
 ·
  have ea:at' (bU b (a+1) (a+n)) i=at' b (a+1+i):=by
   unfold at' bU
   have q:(a+1+i).toNat=(a+1).toNat+i.toNat:=by omega
   rw [q]
   simp only [List.getD_eq_getElem?_getD,List.getElem?_take,List.getElem?_drop]
   rw [if_pos (by omega)]
  have hb:=fH (at' b (a+1+i))
  rw [if_pos h,if_pos h,if_pos ⟨hi,h⟩,ea]
  rw [bK (x:=r*64) (by omega) (by omega),bK (x:=r*64+_) (by omega) (by omega),bK (x:=r*64+_ - 128) (by omega) (by omega),bK (x:=i+1) (by omega) (by omega)]
 ·
  rw [if_neg h,if_neg h]
theorem aVz (n v0:Int) (hn:2≤n) (hn4:n≤4) (han:a+n≤(b.length:Int)) (hv:v0=(at' b a).toNat - (if n=2 then 192 else if n=3 then 224 else 240)) (j:Int→Option (Int×Int)) :
  aW (eY b a n j) bG (v0,0)=j (vl b a n):=by
 obtain ⟨m,hm⟩:∃ m,bG=m+1+1+1+1:=⟨bG - 4,by rw [bI]⟩
 rw [hm]
 subst hv
 have b0:=fH (at' b a)
 have b1:=fH (at' b (a+1))
 have b2:=fH (at' b (a+2))
 have b3:=fH (at' b (a+3))
 have b4:=fH (at' b (a+1+0))
 have b5:=fH (at' b (a+1+1))
 have b6:=fH (at' b (a+1+2))
 have q0:a+1+0=a+1:=by omega
 have q1:a+1+1=a+2:=by omega
 have q2:a+1+2=a+3:=by omega
 have z1:(0:Int)+1=1:=rfl
 have z2:(1:Int)+1=2:=rfl
 have z3:(2:Int)+1=3:=rfl
 have hc:n=2∨n=3∨n=4:=by omega
 rcases hc with rfl | rfl | rfl
 ·
  rw [if_pos rfl,tQ h0 hl _ hn hn4 han _ _ _ _ (by omega) (by omega) (by omega),if_pos (by omega),z1,tQ h0 hl _ hn hn4 han _ _ _ _ (by omega) (by omega) (by omega),if_neg (by omega),q0]
  rfl
 ·
  rw [if_neg (by omega),if_pos rfl,tQ h0 hl _ hn hn4 han _ _ _ _ (by omega) (by omega) (by omega),if_pos (by omega),z1,tQ h0 hl _ hn hn4 han _ _ _ _ (by omega) (by omega) (by omega),if_pos (by omega),z2,tQ h0 hl _ hn hn4 han _ _ _ _ (by omega) (by omega) (by omega),if_neg (by omega),q0,q1]
  rfl
 ·
  rw [if_neg (by omega),if_neg (by omega),tQ h0 hl _ hn hn4 han _ _ _ _ (by omega) (by omega) (by omega),if_pos (by omega),z1,tQ h0 hl _ hn hn4 han _ _ _ _ (by omega) (by omega) (by omega),if_pos (by omega),z2,tQ h0 hl _ hn hn4 han _ _ _ _ (by omega) (by omega) (by omega),if_pos (by omega),z3,tQ h0 hl _ hn hn4 han _ _ _ _ (by omega) (by omega) (by omega),if_neg (by omega),q0,q1,q2]
  rfl
theorem aSk (n v0:Int) (hn:2≤n) (hn4:n≤4) (ha:a<(b.length:Int)) (hv:v0=(at' b a).toNat - (if n=2 then 192 else if n=3 then 224 else 240)) :
  (bif (decide ((W ((b.length:Int) - n))<a)) then
   some ((0:Int),(0:Int))
   else
   (aP (0≤(W (a+1))∧(W (a+1))≤(W (a+n))∧(W (a+n))≤(b.length:Int)) <|
   (aS (fun (x38:Int)=>
   (aF (lO x38) fun (y42:List UInt8)=>
   (aP (0≤a∧a≤(W (a+n))∧(W (a+n))≤(b.length:Int)) <|
   (bif (!(decide (y42=(bU b a (W (a+n)))))) then
   some (0,0)
   else
   some (x38,n))))) fun j39=>
   (aW (eY b a n j39) bG (v0,0)))))=some (if a+n≤(b.length:Int)∧enc (vl b a n)=bU b a (a+n) then (vl b a n,n) else (0,0)):=by
 rw [bK (x:=(b.length:Int) - n) (by omega) (by omega),bK (x:=a+1) (by omega) (by omega),bK (x:=a+n) (by omega) (by omega)]
 by_cases c:(b.length:Int) - n<a
 ·
  rw [decide_eq_true c,if_neg (by omega)];rfl
 ·
  rw [decide_eq_false c,cond_false]
  simp only [aP,aS,aL1,aF]
  rw [if_pos (by omega),aVz h0 hl n v0 hn hn4 (by omega) hv,if_pos (by omega)]
  by_cases h:enc (vl b a n)=bU b a (a+n)
  ·
   rw [if_pos ⟨by omega,h⟩];simp [h]
  ·
   rw [if_neg (fun q=>h q.2)];simp [h]
theorem aOg (ha:a<(b.length:Int)):rJ b a=some (rd (b.drop a.toNat)):=by
 unfold rJ
 have e0:decide (a<0)=false:=by simp;omega
 have e1:decide ((b.length:Int)≤a)=false:=by simp;omega
 have b0:=fH (at' b a)
 rw [e0,e1]
 simp only [cond_false,aCu]
 have g:0≤a∧a<(b.length:Int):=⟨h0,ha⟩
 rw [show ∀ k:Option (Int×Int),aP (0≤a∧a<(b.length:Int)) k=k from fun k=>if_pos g]
 have j1:∀ (f:Int×Int→Option (Int×Int)) (B:(Int×Int→Option (Int×Int))→Option (Int×Int)),aS f B=B f:=fun _ _=>rfl
 rw [j1]
 rw [bK (x:=((at' b a).toNat:Int) - 192) (by omega) (by omega),bK (x:=((at' b a).toNat:Int) - 224) (by omega) (by omega),bK (x:=((at' b a).toNat:Int) - 240) (by omega) (by omega)]
 have bS:∀ (x:Bool) (k:Bool→Option (Int×Int)),aF (some x) k=k x:=fun _ _=>rfl
 simp only [bS]
 have m2:=fun v=>aSk h0 hl 2 v (by omega) (by omega) ha
 have m3:=fun v=>aSk h0 hl 3 v (by omega) (by omega) ha
 have m4:=fun v=>aSk h0 hl 4 v (by omega) (by omega) ha
 have hL:(b.length:Int)=a+((b.drop a.toNat).length:Int):=by simp;omega
 have s2:=uK (b:=b) (n:=2) h0 (by omega)
 have s3:=uK (b:=b) (n:=3) h0 (by omega)
 have s4:=uK (b:=b) (n:=4) h0 (by omega)
 have t0:=aNq (b:=b) h0
 have t1:=yP (b:=b) h0 1 (by omega)
 have t2:=yP (b:=b) h0 2 (by omega)
 have t3:=yP (b:=b) h0 3 (by omega)
 have v2:vl b a 2=r2 (at' b a).toNat (at' b (a+1)).toNat:=rfl
 have v3:vl b a 3=r3 (at' b a).toNat (at' b (a+1)).toNat (at' b (a+2)).toNat:=rfl
 have v4:vl b a 4=r4 (at' b a).toNat (at' b (a+1)).toNat (at' b (a+2)).toNat (at' b (a+3)).toNat:=rfl
 have hne:0<(b.drop a.toNat).length:=by simp;omega
 by_cases c0:((at' b a).toNat:Int)<128
 ·
  rw [decide_eq_true c0,cond_true]
  rw [t0] at c0 ⊢
  unfold rd bi
  rw [if_neg (show ¬ (List.drop a.toNat b).length<1 by omega),if_pos c0]
 ·
  rw [decide_eq_false c0,cond_false]
  by_cases c2:192≤((at' b a).toNat:Int)∧((at' b a).toNat:Int)≤223
  ·
   rw [decide_eq_true c2,cond_true,m2 _ (by simp),s2,v2,t1]
   rw [t0] at c0 c2 ⊢
   rw [hL]
   generalize b.drop a.toNat=s at *
   congr 1
   unfold rd bi
   rw [if_neg (show ¬ s.length<1 by omega),if_neg c0]
   by_cases l2:s.length<2
   ·
    rw [if_pos l2,if_neg (show ¬ (a+2≤a+(s.length:Int)∧_) from fun h=>by omega)]
   ·
    rw [if_neg l2]
    obtain ⟨x,y,t,rfl⟩:∃ x y t,s=x :: y :: t:=by
     rcases s with _ | ⟨x,_ | ⟨y,t⟩⟩
     ·
      simp at l2
     ·
      simp at l2
     ·
      exact ⟨x,y,t,rfl⟩
    have e:=aP5 (x:=x.toNat) (y:=y.toNat) (by have:=fH x;have:=fH y;omega)
    have a0:at' (x :: y :: t) 0=x:=rfl
    have a1:at' (x :: y :: t) 1=y:=rfl
    have tk:(x :: y :: t).take (Int.toNat 2)=[x,y]:=rfl
    rw [a0] at c0 c2
    rw [tk,a0,a1]
    have ee:(a+2≤a+((x :: y :: t).length:Int)∧enc (r2 x.toNat y.toNat)=[x,y]) ↔ E2 x.toNat y.toNat:=by
     rw [aE5]
     simp only [List.map_cons,List.map_nil,e]
     exact ⟨fun h=>h.2,fun h=>⟨by simp;omega,h⟩⟩
    by_cases q:E2 x.toNat y.toNat
    ·
     rw [if_pos (ee.2 q),if_pos q]
    ·
     rw [if_neg (fun h=>q (ee.1 h)),if_neg q]
     have n3:∀ u v,¬ E3 (x.toNat:Int) u v:=fun u v h=>by unfold E3 at h;omega
     have n4:∀ u v w,¬ E4 (x.toNat:Int) u v w:=fun u v w h=>by unfold E4 at h;omega
     simp only [n3,n4,if_false,ite_self]
  ·
   rw [decide_eq_false c2,cond_false]
   by_cases c3:224≤((at' b a).toNat:Int)∧((at' b a).toNat:Int)≤239
   ·
    rw [decide_eq_true c3,cond_true,m3 _ (by simp),s3,v3,t1,t2]
    rw [t0] at c0 c2 c3 ⊢
    rw [hL]
    generalize b.drop a.toNat=s at *
    congr 1
    unfold rd bi
    have n2:∀ u,¬ E2 ((at' s 0).toNat:Int) u:=fun u h=>by unfold E2 at h;omega
    have n4:∀ u v w,¬ E4 ((at' s 0).toNat:Int) u v w:=fun u v w h=>by unfold E4 at h;omega
    rw [if_neg (show ¬ s.length<1 by omega),if_neg c0]
    simp only [n2,n4,if_false,ite_self]
    by_cases l2:s.length<3
    ·
     rw [if_pos l2,ite_self,if_neg (show ¬ (a+3≤a+(s.length:Int)∧_) from fun h=>by omega)]
    ·
     rw [if_neg l2,if_neg (show ¬ s.length<2 by omega)]
     obtain ⟨x,y,z,t,rfl⟩:∃ x y z t,s=x :: y :: z :: t:=by
      rcases s with _ | ⟨x,_ | ⟨y,_ | ⟨z,t⟩⟩⟩
      ·
       simp at l2
      ·
       simp at l2
      ·
       simp at l2
      ·
       exact ⟨x,y,z,t,rfl⟩
     have e:=aTb (x:=x.toNat) (y:=y.toNat) (z:=z.toNat) (by have:=fH x;have:=fH y;have:=fH z;omega)
     have a0:at' (x :: y :: z :: t) 0=x:=rfl
     have a1:at' (x :: y :: z :: t) 1=y:=rfl
     have a2:at' (x :: y :: z :: t) 2=z:=rfl
     have tk:(x :: y :: z :: t).take (Int.toNat 3)=[x,y,z]:=rfl
     rw [tk,a0,a1,a2]
     have ee:(a+3≤a+((x :: y :: z :: t).length:Int)∧enc (r3 x.toNat y.toNat z.toNat)=[x,y,z]) ↔ E3 x.toNat y.toNat z.toNat:=by
      rw [aE5]
      simp only [List.map_cons,List.map_nil,e]
      exact ⟨fun h=>h.2,fun h=>⟨by simp;omega,h⟩⟩
     by_cases q:E3 x.toNat y.toNat z.toNat
     ·
      rw [if_pos (ee.2 q),if_pos q]
     ·
      rw [if_neg (fun h=>q (ee.1 h)),if_neg q]
   ·
    rw [decide_eq_false c3,cond_false]
    by_cases c4:240≤((at' b a).toNat:Int)∧((at' b a).toNat:Int)≤247
    ·
     rw [decide_eq_true c4,cond_true,m4 _ (by simp),s4,v4,t1,t2,t3]
     rw [t0] at c0 c2 c3 c4 ⊢
     rw [hL]
     generalize b.drop a.toNat=s at *
     congr 1
     unfold rd bi
     have n2:∀ u,¬ E2 ((at' s 0).toNat:Int) u:=fun u h=>by unfold E2 at h;omega
     have n3:∀ u v,¬ E3 ((at' s 0).toNat:Int) u v:=fun u v h=>by unfold E3 at h;omega
     rw [if_neg (show ¬ s.length<1 by omega),if_neg c0]
     simp only [n2,n3,if_false,ite_self]
     by_cases l2:s.length<4
     ·
      rw [if_pos l2,ite_self,ite_self,if_neg (show ¬ (a+4≤a+(s.length:Int)∧_) from fun h=>by omega)]
     ·
      rw [if_neg l2,if_neg (show ¬ s.length<2 by omega),if_neg (show ¬ s.length<3 by omega)]
      obtain ⟨x,y,z,v,t,rfl⟩:∃ x y z v t,s=x :: y :: z :: v :: t:=by
       rcases s with _ | ⟨x,_ | ⟨y,_ | ⟨z,_ | ⟨v,t⟩⟩⟩⟩
       ·
        simp at l2
       ·
        simp at l2
       ·
        simp at l2
       ·
        simp at l2
       ·
        exact ⟨x,y,z,v,t,rfl⟩
      have e:=aVm (x:=x.toNat) (y:=y.toNat) (z:=z.toNat) (v:=v.toNat) (by have:=fH x;have:=fH y;have:=fH z;have:=fH v;omega)
      have a0:at' (x :: y :: z :: v :: t) 0=x:=rfl
      have a1:at' (x :: y :: z :: v :: t) 1=y:=rfl
      have a2:at' (x :: y :: z :: v :: t) 2=z:=rfl
      have a3:at' (x :: y :: z :: v :: t) 3=v:=rfl
      have tk:(x :: y :: z :: v :: t).take (Int.toNat 4)=[x,y,z,v]:=rfl
      rw [tk,a0,a1,a2,a3]
      have ee:(a+4≤a+((x :: y :: z :: v :: t).length:Int)∧enc (r4 x.toNat y.toNat z.toNat v.toNat)=[x,y,z,v]) ↔ E4 x.toNat y.toNat z.toNat v.toNat:=by
       rw [aE5]
       simp only [List.map_cons,List.map_nil,e]
       exact ⟨fun h=>h.2,fun h=>⟨by simp;omega,h⟩⟩
      by_cases q:E4 x.toNat y.toNat z.toNat v.toNat
      ·
       rw [if_pos (ee.2 q),if_pos q]
      ·
       rw [if_neg (fun h=>q (ee.1 h)),if_neg q]
    ·
     rw [decide_eq_false c4,cond_false]
     rw [t0] at c0 c2 c3 c4
     unfold rd bi
     generalize b.drop a.toNat=s at *
     have n2:∀ u,¬ E2 ((at' s 0).toNat:Int) u:=fun u h=>by unfold E2 at h;omega
     have n3:∀ u v,¬ E3 ((at' s 0).toNat:Int) u v:=fun u v h=>by unfold E3 at h;omega
     have n4:∀ u v w,¬ E4 ((at' s 0).toNat:Int) u v w:=fun u v w h=>by unfold E4 at h;omega
     simp only [n2,n3,n4,c0,if_false,ite_self]
end
theorem aF0 (s:List UInt8):0≤(rd s).2∧(rd s).2≤4∧(rd s).2≤(s.length:Int):=by
 unfold rd
 repeat' split
 all_goals simp only
 all_goals omega
def uN:Nat→List UInt8→Option (List Int)
 | 0,_=>some []
 | m+1,s=>if s.length=0 then some [] else if (rd s).2=0 then none else (uN m (s.drop (rd s).2.toNat)).map ((rd s).1 :: ·)
def rO (s:List UInt8):List Int×Bool:=if 65536<(s.length:Int) then ([],false) else match uN s.length s with
 | some l=>(l,true)
 | none=>([],false)
theorem aIq:∀ (m:Nat) (s:List UInt8) (l:List Int),uN m s=some l→l.length≤s.length
 | 0,s,l,h=>by simp only [uN,Option.some.injEq] at h;subst h;simp
 | m+1,s,l,h=>by
  simp only [uN] at h
  split at h
  ·
   simp only [Option.some.injEq] at h;subst h;simp
  ·
   split at h
   ·
    cases h
   ·
    rename_i h0 h1
    obtain ⟨q,hq,rfl⟩:=Option.map_eq_some_iff.1 h
    have:=aIq m _ q hq
    have b:=aF0 s
    simp only [List.length_drop,List.length_cons] at this ⊢
    omega
theorem aFp (s:List UInt8):((rO s).1.length:Int)≤65536:=by
 unfold rO
 split
 ·
  simp
 ·
  split
  ·
   rename_i l hl
   have:=aIq _ _ _ hl
   simp only;omega
  ·
   simp
theorem aLy (s:List UInt8) (hs:(s.length:Int)≤65536) (j:List Int→Option (List Int×Bool)):∀ (f m:Nat) (o:List Int) (k:Int),0≤k→k≤(s.length:Int)→(s.length:Int) - k≤f→(s.length:Int) - k<m→(o.length:Int)≤k →
  aW (jH s j) m (o,k)=match uN f (s.drop k.toNat) with
   | some l=>j (o ++ l)
   | none=>some ([],false):=by
 intro f
 induction f with
 | zero=>
  intro m o k hk hk' hf hm ho
  cases m with
  | zero=>omega
  | succ m=>
   have h1:¬ k<(s.length:Int):=by omega
   simp only [aW,jH,h1,decide_false,cond_false,uN,List.append_nil]
 | succ f ih=>
  intro m o k hk hk' hf hm ho
  cases m with
  | zero=>omega
  | succ m=>
   simp only [aW,jH,aP,uN,Bool.cond_decide]
   by_cases h1:k<(s.length:Int)
   ·
    have hne:¬ (s.drop k.toNat).length=0:=by simp;omega
    rw [if_pos h1,aO (aOf hk (by omega) h1),if_neg hne]
    have hb:=aF0 (s.drop k.toNat)
    simp only [List.length_drop] at hb
    by_cases h2:(rd (s.drop k.toNat)).2=0
    ·
     rw [if_pos h2,if_pos h2]
    ·
     rw [if_neg h2,if_neg h2,if_pos (by simp;omega),bK (by omega) (by omega),ih m _ _ (by omega) (by omega) (by omega) (by omega) (by simp;omega)]
     have e:s.drop (k+(rd (s.drop k.toNat)).2).toNat=(s.drop k.toNat).drop (rd (s.drop k.toNat)).2.toNat:=by
      rw [List.drop_drop];congr 1;omega
     rw [e]
     cases uN f ((s.drop k.toNat).drop (rd (s.drop k.toNat)).2.toNat) with
     | none=>rfl
     | some l=>simp
   ·
    have hne:(s.drop k.toNat).length=0:=by simp;omega
    rw [if_neg h1,if_pos hne];simp
theorem aLz (s:List UInt8) (hs:(s.length:Int)≤65536) (j:List Int→Option (List Int×Bool)):∀ (f m:Nat) (o:List Int) (k:Int),0≤k→k≤(s.length:Int)→(s.length:Int) - k≤f→(s.length:Int) - k<m→(o.length:Int)≤k →
  aW (jN s j) m (o,k)=match uN f (s.drop k.toNat) with
   | some l=>j (o ++ l)
   | none=>some ([],false):=by
 intro f
 induction f with
 | zero=>
  intro m o k hk hk' hf hm ho
  cases m with
  | zero=>omega
  | succ m=>
   have h1:¬ k<(s.length:Int):=by omega
   simp only [aW,jN,h1,decide_false,cond_false,uN,List.append_nil]
 | succ f ih=>
  intro m o k hk hk' hf hm ho
  cases m with
  | zero=>omega
  | succ m=>
   simp only [aW,jN,aP,uN,Bool.cond_decide]
   by_cases h1:k<(s.length:Int)
   ·
    have hne:¬ (s.drop k.toNat).length=0:=by simp;omega
    rw [if_pos h1,aO (aOg hk (by omega) h1),if_neg hne]
    have hb:=aF0 (s.drop k.toNat)
    simp only [List.length_drop] at hb
    by_cases h2:(rd (s.drop k.toNat)).2=0
    ·
     rw [if_pos h2,if_pos h2]
    ·
     rw [if_neg h2,if_neg h2,if_pos (by simp;omega),bK (by omega) (by omega),ih m _ _ (by omega) (by omega) (by omega) (by omega) (by simp;omega)]
     have e:s.drop (k+(rd (s.drop k.toNat)).2).toNat=(s.drop k.toNat).drop (rd (s.drop k.toNat)).2.toNat:=by
      rw [List.drop_drop];congr 1;omega
     rw [e]
     cases uN f ((s.drop k.toNat).drop (rd (s.drop k.toNat)).2.toNat) with
     | none=>rfl
     | some l=>simp
   ·
    have hne:(s.drop k.toNat).length=0:=by simp;omega
    rw [if_neg h1,if_pos hne];simp
theorem aQ2 (s:List UInt8):sW s=some (rO s):=by
 unfold sW rO
 simp only [aS,Bool.cond_decide]
 by_cases h:65536<(s.length:Int)
 ·
  rw [if_pos h,if_pos h]
 ·
  rw [if_neg h,if_neg h,aLy s (by omega) _ s.length bG [] 0 (by omega) (by omega) (by omega) (by rw [bI];omega) (by simp)]
  simp only [Int.toNat_zero,List.drop_zero,List.nil_append]
  cases uN s.length s <;> rfl
theorem aQ3 (s:List UInt8):tH s=some (rO s):=by
 unfold tH rO
 simp only [aS,Bool.cond_decide]
 by_cases h:65536<(s.length:Int)
 ·
  rw [if_pos h,if_pos h]
 ·
  rw [if_neg h,if_neg h,aLz s (by omega) _ s.length bG [] 0 (by omega) (by omega) (by omega) (by rw [bI];omega) (by simp)]
  simp only [Int.toNat_zero,List.drop_zero,List.nil_append]
  cases uN s.length s <;> rfl
def rR (s:List UInt8):(List Int×Int)×Bool:=if (rO s).2 && bO ((rO s).1,((rO s).1.length:Int)) then (((rO s).1,((rO s).1.length:Int)),true) else (([],0),false)
theorem aMw (s:List UInt8):uX s=some (rR s):=by
 unfold uX nN rR
 have hl:=aFp s
 rw [aO (aQ2 s)]
 generalize rO s=r at *
 obtain ⟨l,b⟩:=r
 simp only at hl ⊢
 rw [kM (l,(l.length:Int)) (by simp only;omega),cE]
 cases b
 ·
  simp [aF]
 ·
  cases hk:bO (l,(l.length:Int)) <;> simp [aF,hk]
theorem aMx (s:List UInt8):vK s=some (rR s):=by
 unfold vK rR
 have hl:=aFp s
 rw [aO (aQ3 s)]
 generalize rO s=r at *
 obtain ⟨l,b⟩:=r
 simp only at hl ⊢
 rw [qK (l,(l.length:Int)) (by simp only;omega),cE]
 cases b
 ·
  simp
 ·
  cases hk:bO (l,(l.length:Int)) <;> simp [hk]
theorem aKl (s:List UInt8):(rR s).1.1.length≤400:=by
 unfold rR
 split
 ·
  rename_i h
  simp only [Bool.and_eq_true] at h
  have h2:=h.2
  unfold bO cS at h2
  simp only [Bool.and_eq_true,decide_eq_true_eq] at h2
  exact h2.1.2
 ·
  simp
def uL (h:Int×List (List UInt8)) (st:Int):EdT→EdT×Bool
 | (vi,G,D,A9,op,A7,A8,fr,fh,A6,A4,A0,J,Z,O,A5,A_)=>
  if cG (vi,G,D,A9,op,A7,A8,fr,fh,A6,A4,A0,J,Z,O,A5,A_) && decide (st=1∨st = -1) then
   if J≠0∧st=1∧J=eV h then ((vi,G,(Z.1,nT G Z),0,0,0,0,fr,fh,0,A4,[],0,([],0),O,A5,A_),true)
   else if (zB h ((if J=0 then eV h+1 else J)+st)).2 && (rR (zB h ((if J=0 then eV h+1 else J)+st)).1).2 then
    ((vi,G,((rR (zB h ((if J=0 then eV h+1 else J)+st)).1).1.1,if G=2 then 0 else (rR (zB h ((if J=0 then eV h+1 else J)+st)).1).1.2),0,0,0,0,fr,fh,0,A4,[],(if J=0 then eV h+1 else J)+st,(if J=0 then D else Z),O,A5,A_),true)
   else (zEd,false)
  else (zEd,false)
theorem aEk (h:Int×List (List UInt8)):0≤eV h∧eV h≤2000000000:=by
 unfold eV
 split
 ·
  rename_i q
  obtain ⟨q1,q2,q3,_⟩:=aAh q.1
  omega
 ·
  omega
theorem aJf {vi:Bool} {G:Int} {D:List Int×Int} {A9 op A7 A8 fr fh A6:Int} {A4:List (List Int)} {A0:List (List Int×Int)} {J:Int} {Z:List Int×Int} {O:List Int} {A5:Int} {A_:List Int×Int} (h:cG (vi,G,D,A9,op,A7,A8,fr,fh,A6,A4,A0,J,Z,O,A5,A_)=true):(0≤J∧J≤1000000060)∧bO Z=true:=by
 unfold cG at h
 simp only [Bool.and_eq_true,decide_eq_true_eq] at h
 exact ⟨h.1.1.1.1.1.2,h.1.1.1.1.1.1.1.1.1.1.1.1.1.1.2⟩
section
variable (vi:Bool) (G:Int) (D:List Int×Int) (A9 op A7 A8 fr fh A6:Int) (A4:List (List Int)) (A0:List (List Int×Int)) (J:Int) (Z:List Int×Int) (O:List Int) (A5:Int) (A_:List Int×Int)
  (hs:dA 1048576 (vi,G,D,A9,op,A7,A8,fr,fh,A6,A4,A0,J,Z,O,A5,A_)) (h:Int×List (List UInt8)) (hl:(h.2.length:Int)≤1048576) (st:Int)
include hs hl
theorem aTe:rV (vi,G,D,A9,op,A7,A8,fr,fh,A6,A4,A0,J,Z,O,A5,A_) h st=some (uL h st (vi,G,D,A9,op,A7,A8,fr,fh,A6,A4,A0,J,Z,O,A5,A_)):=by
 unfold rV
 simp only [uL]
 have hparts:cG (vi,G,D,A9,op,A7,A8,fr,fh,A6,A4,A0,J,Z,O,A5,A_)=true→(0≤J∧J≤1000000060)∧bO Z=true:=fun h=>aJf h
 rw [aO (aKx vi G D A9 op A7 A8 fr fh A6 A4 A0 J Z O A5 A_ (cM (by omega) hs))]
 have hc:=aG7 vi G D A9 op A7 A8 fr fh A6 A4 A0 J Z O A5 A_
 obtain ⟨h1,⟨h2,h3⟩,⟨h4,h5⟩,h6,h7,h8⟩:=hs
 have hc:=hc h1 h2 h3 h4 h5 h6 h7 h8
 generalize cG (vi,G,D,A9,op,A7,A8,fr,fh,A6,A4,A0,J,Z,O,A5,A_)=K at *
 cases K
 ·
  simp [zEd]
 ·
  obtain ⟨⟨n0,n1⟩,hown⟩:=hparts rfl
  obtain ⟨o0,o1,o2⟩:=bB hown
  obtain ⟨b0,b1⟩:=aEk h
  by_cases hst:st=1∨st = -1
  ·
   have hb:(bif (!(decide (st=1))) then (!(decide (st=(-1)))) else false)=false:=by
    rcases hst with rfl | rfl <;> simp
   have hn:-2≤st∧st≤2:=by omega
   obtain ⟨g1,g2⟩:=aM4 h hl
   have hc':cA (vi,G,(D.1,D.2),A9,op,A7,A8,fr,fh,A6,A4,A0,J,(Z.1,Z.2),O,A5,(A_.1,A_.2))=_:=hc
   have hcl:=aPb vi G (Z.1,Z.2) 0 0 0 0 fr fh 0 A4 [] 0 ([],0) O A5 (A_.1,A_.2) (by simp only;omega)
   have cl1:=gR (Z.1,Z.2) (by simp only;omega)
   have cl2:=gR (D.1,D.2) (by simp only;omega)
   have hW0:W (eV h+1)=eV h+1:=bK (by omega) (by omega)
   rw [hb,decide_eq_true hst]
   simp only [Bool.not_true,cond_false,hW0,g1,aS,hc',aF,eD,cl1,cl2,hcl,Bool.and_self,if_true]
   by_cases hnv:J=0
   ·
    subst hnv
    have hW:W (eV h+1+st)=eV h+1+st:=bK (by omega) (by omega)
    obtain ⟨k1,k2⟩:=aGy h hl (eV h+1+st) (by omega)
    have k1':mM (h.1,h.2) (eV h+1+st)=_:=k1
    simp only [decide_true,Bool.not_true,cond_false,cond_true,hW,k1',aMw,ne_eq,not_true_eq_false,false_and,if_false,if_true]
    cases (zB h (eV h+1+st)).2
    ·
     simp [zEd]
    ·
     cases (rR (zB h (eV h+1+st)).1).2
     ·
      simp [zEd]
     ·
      by_cases hm:G=2 <;> simp [hm]
   ·
    have hW:W (J+st)=J+st:=bK (by omega) (by omega)
    obtain ⟨k1,k2⟩:=aGy h hl (J+st) (by omega)
    have k1':mM (h.1,h.2) (J+st)=_:=k1
    simp only [hnv,decide_false,Bool.not_false,cond_false,cond_true,hW,k1',aMw,ne_eq,not_false_eq_true,true_and,if_false]
    by_cases he:st=1∧J=eV h
    ·
     obtain ⟨rfl,rfl⟩:=he
     simp [Int.add_assoc]
    ·
     have hq:(bif decide (st=1) then decide (J+st=eV h+1) else false)=false:=by
      by_cases e1:st=1
      ·
       have:¬ (J+st=eV h+1):=by omega
       rw [decide_eq_false this];simp
      ·
       simp [e1]
     rw [hq,if_neg he]
     simp only [cond_false]
     cases (zB h (J+st)).2
     ·
      simp [zEd]
     ·
      cases (rR (zB h (J+st)).1).2
      ·
       simp [zEd]
      ·
       by_cases hm:G=2 <;> simp [hm]
  ·
   have hb:(bif (!(decide (st=1))) then (!(decide (st=(-1)))) else false)=true:=by
    have a:¬ st=1:=fun h=>hst (.inl h)
    have b:¬ st = -1:=fun h=>hst (.inr h)
    simp [a,b]
   rw [hb,decide_eq_false hst]
   simp [zEd]
theorem aTf:rX (vi,G,D,A9,op,A7,A8,fr,fh,A6,A4,A0,J,Z,O,A5,A_) h st=some (uL h st (vi,G,D,A9,op,A7,A8,fr,fh,A6,A4,A0,J,Z,O,A5,A_)):=by
 unfold rX
 simp only [uL]
 have hparts:cG (vi,G,D,A9,op,A7,A8,fr,fh,A6,A4,A0,J,Z,O,A5,A_)=true→(0≤J∧J≤1000000060)∧bO Z=true:=fun h=>aJf h
 rw [aO (aTg vi G D A9 op A7 A8 fr fh A6 A4 A0 J Z O A5 A_ (cM (by omega) hs))]
 have hc:=aNo vi G D A9 op A7 A8 fr fh A6 A4 A0 J Z O A5 A_
 obtain ⟨h1,⟨h2,h3⟩,⟨h4,h5⟩,h6,h7,h8⟩:=hs
 have hc:=hc h1 h2 h3 h4 h5 h6 h7 h8
 generalize cG (vi,G,D,A9,op,A7,A8,fr,fh,A6,A4,A0,J,Z,O,A5,A_)=K at *
 cases K
 ·
  simp [zEd]
 ·
  obtain ⟨⟨n0,n1⟩,hown⟩:=hparts rfl
  obtain ⟨o0,o1,o2⟩:=bB hown
  obtain ⟨b0,b1⟩:=aEk h
  by_cases hst:st=1∨st = -1
  ·
   have hb:(bif (!(decide (st=1))) then (!(decide (st=(-1)))) else false)=false:=by
    rcases hst with rfl | rfl <;> simp
   have hn:-2≤st∧st≤2:=by omega
   have g2:=aO7 h hl
   have hcl:=aAf (Z.1,Z.2) G (by simp only;omega)
   have cl1:=iU (Z.1,Z.2) (by simp only;omega)
   have cl2:=iU (D.1,D.2) (by simp only;omega)
   have hW0:W (eV h+1)=eV h+1:=bK (by omega) (by omega)
   rw [hb,decide_eq_true hst]
   simp only [Bool.not_true,cond_false,hW0,dQ,hc,aF,g2,aS,cl1,cl2,hcl,Bool.and_self,if_true]
   by_cases hnv:J=0
   ·
    subst hnv
    have hW:W (eV h+1+st)=eV h+1+st:=bK (by omega) (by omega)
    have k2:=aJa h hl (eV h+1+st) (by omega)
    have k2':iL (h.1,h.2) (eV h+1+st)=_:=k2
    have hx:(bif decide (st=1) then (!decide ((0:Int)=0)) else false)=false:=by cases decide (st=1) <;> simp
    simp only [hx,decide_true,cond_false,cond_true,hW,k2',aMx,ne_eq,not_true_eq_false,false_and,if_false,if_true]
    cases (zB h (eV h+1+st)).2
    ·
     simp [zEd]
    ·
     cases (rR (zB h (eV h+1+st)).1).2
     ·
      simp [zEd]
     ·
      by_cases hm:G=2 <;> simp [hm]
   ·
    have hW:W (J+st)=J+st:=bK (by omega) (by omega)
    have hW1:W (J+1)=J+1:=bK (by omega) (by omega)
    have k2:=aJa h hl (J+st) (by omega)
    have k2':iL (h.1,h.2) (J+st)=_:=k2
    simp only [hnv,decide_false,Bool.not_false,cond_false,cond_true,hW,hW1,k2',aMx,ne_eq,not_false_eq_true,true_and,if_false]
    by_cases he:st=1∧J=eV h
    ·
     obtain ⟨rfl,rfl⟩:=he
     simp
    ·
     have hq:(bif bif decide (st=1) then true else false then decide (J+1=eV h+1) else false)=false:=by
      by_cases e1:st=1
      ·
       have:¬ (J+1=eV h+1):=by omega
       rw [decide_eq_false this];simp
      ·
       simp [e1]
     rw [hq,if_neg he]
     simp only [cond_false]
     cases (zB h (J+st)).2
     ·
      simp [zEd]
     ·
      cases (rR (zB h (J+st)).1).2
      ·
       simp [zEd]
      ·
       by_cases hm:G=2 <;> simp [hm]
  ·
   have hb:(bif (!(decide (st=1))) then (!(decide (st=(-1)))) else false)=true:=by
    have a:¬ st=1:=fun h=>hst (.inl h)
    have b:¬ st = -1:=fun h=>hst (.inr h)
    simp [a,b]
   rw [hb,decide_eq_false hst]
   simp [zEd]
end
def zM (l:List Int×Int) (t:List Int):List Int×Int:=(bU l.1 0 l.2 ++ t ++ bU l.1 l.2 (l.1.length:Int),l.2+(t.length:Int))
def nS (l:List Int×Int) (t:List Int):(List Int×Int)×Bool:=if bO (zM l t) then (zM l t,true) else (([],0),false)
theorem yA {α:Type} (l:List α) (a b:Int):(bU l a b).length≤l.length:=by
 unfold bU
 simp only [List.length_take,List.length_drop]
 omega
theorem yB {α:Type} (l:List α) (a b:Int) (h:0≤a∧a≤b∧b≤(l.length:Int)):((bU l a b).length:Int)=b - a:=by
 unfold bU
 simp only [List.length_take,List.length_drop]
 omega
theorem aF1 {l:List Int×Int} (h:bO l=true) (t:List Int):(zM l t).1.length=l.1.length+t.length:=by
 obtain ⟨p0,p1,p2⟩:=bB h
 have a:=yB l.1 0 l.2 (by omega)
 have b:=yB l.1 l.2 (l.1.length:Int) (by omega)
 simp only [zM,List.length_append]
 omega
theorem aA6 {l:List Int×Int} {t:List Int} (h:(nS l t).2=true):bO (nS l t).1=true:=by
 unfold nS at h ⊢
 split at h
 ·
  rename_i hq;rw [if_pos hq];exact hq
 ·
  cases h
theorem aI4 (l:List Int×Int) (t:List Int) (h:bO l=true) (ht:t.length≤1000):mZ l t=some (nS l t):=by
 obtain ⟨p0,p1,p2⟩:=bB h
 have hx:=aF1 h t
 have e1:=qK (zM l t) (by omega)
 have s1:=yA l.1 0 l.2
 have s2:=yA l.1 l.2 (l.1.length:Int)
 unfold mZ nS
 rw [aO (qK l (by omega)),h,bK (by omega) (by omega)]
 by_cases hc:400<(t.length:Int)
 ·
  have:bO (zM l t)=false:=by
   cases hq:bO (zM l t)
   ·
    rfl
   ·
    have:=(bB hq).2.2;omega
  rw [this,decide_eq_true hc];rfl
 ·
  rw [decide_eq_false hc]
  simp only [Bool.not_true,cond_false,aS,aP]
  rw [if_pos (by omega),aO (mC _ (by omega)),if_pos (by omega),if_pos (by omega),if_pos (by rw [List.length_append];omega)]
  have e1':eQ (bU l.1 0 l.2 ++ t ++ bU l.1 l.2 (l.1.length:Int),l.2+(t.length:Int))=some (bO (zM l t)):=e1
  rw [aO e1']
  cases bO (zM l t) <;> rfl
theorem aI3 (l:List Int×Int) (t:List Int) (h:bO l=true) (ht:t.length≤1000):qF l t=some (nS l t):=by
 obtain ⟨p0,p1,p2⟩:=bB h
 have hx:=aF1 h t
 have e1:=kM (zM l t) (by omega)
 have s1:=yA l.1 0 l.2
 have s2:=yA l.1 l.2 (l.1.length:Int)
 unfold qF nS
 rw [aO (kM l (by omega)),h,bK (by omega) (by omega)]
 simp only [Bool.not_true,cond_false,aS,aP]
 rw [if_pos (by omega),if_pos (by omega),aO (aDq _ _ _ (by omega))]
 have e2:nN (bU l.1 0 l.2 ++ t ++ bU l.1 l.2 (l.1.length:Int),l.2+(t.length:Int)) true=some (if bO (zM l t) then (zM l t,true) else (([],0),false)):=by
  have e1':dX (bU l.1 0 l.2 ++ t ++ bU l.1 l.2 (l.1.length:Int),l.2+(t.length:Int))=some (bO (zM l t)):=e1
  unfold nN
  rw [e1',cE]
  cases bO (zM l t) <;> rfl
 rw [aO e2]
theorem aL3 (r:Int) (k:Int) (h:0≤k):List.replicate k.toNat r ++ [r]=List.replicate (k+1).toNat r:=by
  rw [show (k+1).toNat=k.toNat+1 by omega,List.replicate_succ']
theorem aN3 (r n:Int) (hn:n≤1000) (j:List Int→Option (List Int)):∀ (m:Nat) (k:Int),0≤k→k≤n→k≤401→n - k<m →
  aW (kH [r] n j) m (List.replicate k.toNat r,k)=j (List.replicate (min n 401).toNat r):=by
 intro m
 induction m with
 | zero=>intro k _ _ _ h;omega
 | succ m ih=>
  intro k h0 h1 h2 hm
  simp only [aW,kH,aP,Bool.cond_decide]
  rw [bK (x:=k+1) (by omega) (by omega),aL3 r k h0]
  have hl:((List.replicate k.toNat r).length:Int)=k:=by rw [List.length_replicate];omega
  by_cases hc:k<n∧k≤400
  ·
   rw [hl,show (if k<n then decide (k≤400) else false)=true by simp [hc],cond_true,if_pos (by simp;omega)]
   exact ih _ (by omega) (by omega) (by omega) (by omega)
  ·
   rw [hl,show (if k<n then decide (k≤400) else false)=false by by_cases h3:k<n <;> simp [h3];omega,cond_false,show min n 401=k by omega]
theorem aPm (r n:Int) (h0:0≤n) (hn:n≤1000):nP [r] n=some (List.replicate (min n 401).toNat r):=by
 unfold nP
 simp only [aS]
 exact aN3 r n hn _ bG 0 (by omega) h0 (by omega) (by rw [bI];omega)
theorem aRg (r n:Int) (hn:n≤1000) (j:List Int→Option (List Int)):∀ (m:Nat) (k:Int),0≤k→k≤n→n - k<m →
  aW (mG r n j) m (List.replicate k.toNat r,k)=j (List.replicate n.toNat r):=by
 intro m
 induction m with
 | zero=>intro k _ _ h;omega
 | succ m ih=>
  intro k h0 h1 hm
  simp only [aW,mG,aP,Bool.cond_decide]
  rw [bK (x:=k+1) (by omega) (by omega),aL3 r k h0]
  by_cases hc:k<n
  ·
   rw [if_pos hc,if_pos (by simp;omega)]
   exact ih _ (by omega) (by omega) (by omega)
  ·
   rw [if_neg hc,show n=k by omega]
theorem aSw (r n:Int) (h0:0≤n) (hn:n≤1000):qA r n=some (List.replicate n.toNat r):=by
 unfold qA
 simp only [aS]
 exact aRg r n hn _ bG 0 (by omega) h0 (by rw [bI];omega)
theorem aA7 {l:List Int×Int} (h:bO l=true) {t:List Int} (ht:400<t.length):nS l t=(([],0),false):=by
 unfold nS
 have hx:=aF1 h t
 rw [if_neg]
 intro hq
 have:=(bB hq).2.2
 omega
theorem aSp {l:List Int×Int} (h:bO l=true) (r n:Int):nS l (List.replicate (min n 401).toNat r)=nS l (List.replicate n.toNat r):=by
 by_cases hc:n≤401
 ·
  rw [show min n 401=n by omega]
 ·
  rw [aA7 h (by rw [List.length_replicate];omega),aA7 h (by rw [List.length_replicate];omega)]
theorem aI {α β:Type} {m:Option α} {k:α→Option β} {y:α} {z:Option β} (h:m=some y) (hk:k y=z):aF m k=z:=(aO h).trans hk
def jD (e:EdT):EdT×Int:=(jA 0 e,1)
def aDt (a b:Int) (e:EdT):EdT×Int:=if a=b then jD e else (sN (tX e.2.2.1 a b) 0 e,0)
def zA (a b how:Int) (e:EdT):EdT×Int:=
  if a=b then jD e else (aIu (lU e.2.2.2.2.2.2.2.2.2.2.1 (bU e.2.2.1.1 a b) (if e.2.2.2.2.2.2.2.2.2.1=2 then how else 0)) (sN (tX e.2.2.1 a b) 2 e),0)
def aB0 (t:List Int) (nl:Int) (e:EdT):EdT×Int:=if (nS e.2.2.1 t).2=true then (sN (nS e.2.2.1 t).1 nl e,0) else jD e
def yW (h:Int×List (List UInt8)) (st:Int) (e:EdT):EdT×Int:=if (uL h st e).2=true then ((uL h st e).1,0) else jD e
def goE (a:Int) (e:EdT):EdT×Int:=(sN (goL e.2.2.1 a) 0 e,0)
end Go.Eng
